import Derived.Test.YtkjccabdpeldhaaGreatM7
import Derived.Test.YtkjccabdpeldhaaGreatM5
import Derived.Test.YtkjccabdpeldhaaGreatM3
import Derived.Test.YtkjccabdpeldhaaGreatM6
import Derived.Test.YtkjccabdpeldhaaGreatM4
set_option linter.unusedVariables false
set_option linter.unusedSimpArgs false
set_option linter.unusedSectionVars false
namespace Go.Proofs.YtkjccabdpeldhaaGreat
open Go Go.Eng
set_option maxRecDepth 100000
set_option maxHeartbeats 0
set_option maxHeartbeats 0
set_option maxRecDepth 100000
def kP (a0:aD) (s16:Int):Option (Ct Int Bool):=cn (decide (s16<(a0.Calls.length:Int))) (jn (fun p17:Bool=>
  cn p17 (some (.rt false)) (some (.nx (wr (s16+1))))) fun k18=>ix a0.Calls default s16 fun e19=>bd (fN e19.Amount 1 10000) fun y20=>
  cn (!y20) (k18 true) (ix a0.Calls default s16 fun e21=>bd (qV a0.Net e21.Edges) fun y22=>k18 (!y22))) (some (.bk s16))
def kO (a0:aD) (s6:Int):Option (Ct Int Bool):=cn (decide (s6<a0.Net.N)) (jn (fun p7:Bool=>
  cn p7 (some (.rt false)) (some (.nx (wr (s6+1))))) fun k8=>ix a0.Urgent default s6 fun e9=>bd (fN e9 0 1000) fun y10=>
  cn (!y10) (k8 true) (ix a0.Centres default s6 fun e11=>bd (fN e11 0 10000) fun y12=>k8 (!y12))) (some (.bk s6))
def iO (a0:aD):Option Bool:=jn (fun p1:Bool=>cn p1 (some false) (bd (lp (kO a0) FU 0) fun c13=>smK c13 (fun s14=>
  bd (lp (kP a0) FU 0) fun c23=>smK c23 (fun s24=>some true) (fun r25=>some r25)) (fun r15=>some r15))) fun k2=>bd (kD a0.Net) fun y3=>
  cn (!y3) (k2 true) (bd (fN a0.Net.N 1 8) fun y4=>cn (!y4) (k2 true) (cn (decide ((a0.Net.Edges.length:Int)>20)) (k2 true) (cn ((a0.Urgent.length:Int) !=
  a0.Net.N) (k2 true) (cn ((a0.Centres.length:Int) != a0.Net.N) (k2 true) (bd (fN a0.Faults 0 2) fun y5=>cn (!y5) (k2 true) (k2 (decide ((a0.Calls.length:Int) >
  8))))))))
def nV:List AV→AV→Prop:=fun args r=>∃ a0,args=[bD a0]∧W (iO a0) fun y=>r=(eB y)
theorem aCD {T:Tbl} (hT:TOk Tryz.prog T) (hpf:cI T PF) (h41:T 41=aH lR) (h42:T 42=aH pK) (h43:T 43=aH tF):FOk Tryz.prog 9 (aH nV):=by
 refine bB hT hpf Tryz.func9 rfl Tryz.ntmps9 Tryz.results9 (by decide) ?_
 rintro args r ⟨a0,rfl,h⟩
 refine ⟨nle rfl,?_,?_⟩
 ·exact (lsC (aR _) lsN)
 rw [iO.eq_1] at h
 refine aB dCo rfl fun K hK=>?_;conv=>whnf
 refine hK _ _ _ ?_
 refine aL ?_
 refine aB9 rfl h [1] [1] [] (fun kl kh ids b s=>⟨ofL ([(52,eB s)]++kl),ofH ([]++kh),b+64⟩) ?_;(conv=>whnf);refine And.intro (fun s h=>dY ?_) (fun k h=>?_)
 ·refine aT fun K1 K2 hK1 hK2=>?_;conv=>whnf
  refine cLk h (fun _ h=>?_) (fun _ h=>?_)
  ·refine hK1 ?_
   refine aB dCo rfl fun K hK=>?_;conv=>whnf
   refine hK _ _ _ ?_
   refine aJ ?_
   refine aM ?_
   replace h:=aI h
   refine aE dCo fun K hK=>?_;conv=>whnf
   refine hK _ ?_
   cases h
   exact Wk.refl _
  refine hK2 ?_
  refine aK ?_
  refine tHn ?_
  refine aL ?_
  refine aB dCo rfl fun K hK=>?_;conv=>whnf
  refine hK _ _ _ ?_
  refine aN ?_
  replace h:=bE h
  refine dS (body:=kO _) rfl h [1] [1] [] (fun kl kh ids b s=>⟨ofL ([(3,eI s)]++kl),ofH ([]++kh),b+64⟩) ?_;(conv=>whnf);refine And.intro ?_ (fun s m h=>dY ?_)
  ·refine aO ?_;conv=>whnf
   exact And.intro rfl (And.intro (aLc wkI (aLc (WkR.ptr (fun _=>rfl)) aLn)) (aLc ⟨some _,rfl,bRc rfl (cKc wkI (cKc (wkr (lsL fun _=>(aC _))) (cKc (wkr (lsL fun _=>(lsI _ _))) (cKc (wkr (lsL fun _=>(lsI _ _))) (cKc wkI (cKc (wkr (lsL fun _=>(aA _))) cKn))))))⟩ aLn))
  replace h:=bE h;rw [kO.eq_1] at h
  refine aL ?_
  refine aB dCo rfl fun K hK=>?_;conv=>whnf
  refine nlA rfl ?_;conv=>whnf
  refine bKo rfl ?_;conv=>whnf
  refine gKo rfl ?_;conv=>whnf
  refine hK _ _ _ ?_
  refine aT fun K1 K2 hK1 hK2=>?_;conv=>whnf
  refine cLk h (fun _ h=>?_) (fun _ h=>?_)
  ·refine hK1 ?_
   refine aK ?_
   refine tHn ?_
   refine aL ?_
   refine aN ?_
   refine aB dCo rfl fun K hK=>?_;conv=>whnf
   replace h:=eW h
   refine nlA rfl ?_;conv=>whnf
   refine bKo rfl ?_;conv=>whnf
   refine gKo rfl ?_;conv=>whnf
   refine cA h fun _ h=>?_;conv=>whnf
   refine gKo rfl ?_;conv=>whnf
   replace h:=bE h
   refine fU h42 h (WkL.refl _) (fun _ h=>?_);conv=>whnf
   refine cLk h (fun _ h=>?_) (fun _ h=>?_)<;>(conv=>whnf)
   ·refine hK _ _ _ ?_
    refine aT fun K1 K2 hK1 hK2=>?_;conv=>whnf
    refine hK1 ?_
    replace h:=kR h
    refine aB dCo rfl fun K hK=>?_;conv=>whnf
    refine hK _ _ _ ?_
    refine aJ ?_
    refine aP ?_
    refine aM ?_
    refine aM ?_
    refine aP ?_
    refine aM ?_
    replace h:=iG h
    replace h:=iF h
    replace h:=aI h
    refine aE dCo fun K hK=>?_;conv=>whnf
    refine hK _ ?_
    cases h
    exact Wk.refl _
   refine nlA rfl ?_;conv=>whnf
   refine bKo rfl ?_;conv=>whnf
   refine gKo rfl ?_;conv=>whnf
   refine cA h fun _ h=>?_;conv=>whnf
   refine gKo rfl ?_;conv=>whnf
   replace h:=bE h
   refine fU h42 h (WkL.refl _) (fun _ h=>?_);conv=>whnf
   refine hK _ _ _ ?_
   refine aT fun K1 K2 hK1 hK2=>?_;conv=>whnf
   refine cLk h (fun _ h=>?_) (fun _ h=>?_)
   ·refine hK1 ?_
    refine aB dCo rfl fun K hK=>?_;conv=>whnf
    refine hK _ _ _ ?_
    refine aJ ?_
    refine aP ?_
    refine aM ?_
    refine aM ?_
    refine aP ?_
    refine aM ?_
    replace h:=iG h
    replace h:=iF h
    replace h:=aI h
    refine aE dCo fun K hK=>?_;conv=>whnf
    refine hK _ ?_
    cases h
    exact Wk.refl _
   refine hK2 ?_
   refine aK ?_
   refine iBn ?_
   refine tHn ?_
   refine cK dCo rfl fun K hK=>?_;conv=>whnf
   refine hK _ _ _ ?_
   refine tHn ?_
   replace h:=bY h
   refine ⟨_,h,?_⟩
   refine aO ?_;conv=>whnf
   exact And.intro rfl (And.intro (aLc wkI (aLc (WkR.ptr (fun _=>rfl)) aLn)) (aLc ⟨some _,rfl,bRc rfl (cKc wkI (cKc (wkr (lsL fun _=>(aC _))) (cKc (wkr (lsL fun _=>(lsI _ _))) (cKc (wkr (lsL fun _=>(lsI _ _))) (cKc wkI (cKc (wkr (lsL fun _=>(aA _))) cKn))))))⟩ aLn))
  refine hK2 ?_
  refine bN ?_
  refine aW ?_
  refine aW ?_
  refine aV ?_
  replace h:=eA h
  replace h:=dZ h
  refine tHn ?_
  refine aL ?_
  refine aB dCo rfl fun K hK=>?_;conv=>whnf
  refine hK _ _ _ ?_
  refine aN ?_
  replace h:=bE h
  refine dS (body:=kP _) rfl h [1] [1] [] (fun kl kh ids b s=>⟨ofL ([(4,eI s)]++kl),ofH ([]++kh),b+64⟩) ?_;(conv=>whnf);refine And.intro ?_ (fun s m h=>dY ?_)
  ·refine aO ?_;conv=>whnf
   exact And.intro rfl (And.intro (aLc wkI (aLc (WkR.ptr (fun _=>rfl)) aLn)) (aLc ⟨some _,rfl,bRc rfl (cKc wkI (cKc (wkr (lsL fun _=>(aC _))) (cKc (wkr (lsL fun _=>(lsI _ _))) (cKc (wkr (lsL fun _=>(lsI _ _))) (cKc wkI (cKc (wkr (lsL fun _=>(aA _))) cKn))))))⟩ aLn))
  replace h:=bE h;rw [kP.eq_1] at h
  refine aL ?_
  refine aB dCo rfl fun K hK=>?_;conv=>whnf
  refine nlA rfl ?_;conv=>whnf
  refine bKo rfl ?_;conv=>whnf
  refine gKo rfl ?_;conv=>whnf
  refine hK _ _ _ ?_
  refine aT fun K1 K2 hK1 hK2=>?_;conv=>whnf
  refine cLk h (fun _ h=>?_) (fun _ h=>?_)
  ·refine hK1 ?_
   refine aK ?_
   refine tHn ?_
   refine aL ?_
   refine aN ?_
   refine iZ dCo cJ rfl (by kernel_rfl) fun K hK=>?_;conv=>whnf
   replace h:=eW h
   refine nlA rfl ?_;conv=>whnf
   refine bKo rfl ?_;conv=>whnf
   refine gKo rfl ?_;conv=>whnf
   refine cA h fun _ h=>?_;conv=>whnf
   refine gKo rfl ?_;conv=>whnf
   replace h:=bE h
   refine fU h42 h (WkL.refl _) (fun _ h=>?_);conv=>whnf
   refine cLk h (fun _ h=>?_) (fun _ h=>?_)<;>(conv=>whnf)
   ·refine hK _ _ _ ?_
    refine aT fun K1 K2 hK1 hK2=>?_;conv=>whnf
    refine hK1 ?_
    replace h:=kR h
    refine aB dCo rfl fun K hK=>?_;conv=>whnf
    refine hK _ _ _ ?_
    refine aJ ?_
    refine aP ?_
    refine aM ?_
    refine aM ?_
    refine aP ?_
    refine aM ?_
    replace h:=iG h
    replace h:=iF h
    replace h:=aI h
    refine aE dCo fun K hK=>?_;conv=>whnf
    refine hK _ ?_
    cases h
    exact Wk.refl _
   refine nlA rfl ?_;conv=>whnf
   refine bKo rfl ?_;conv=>whnf
   refine nlA rfl ?_;conv=>whnf
   refine nlA rfl ?_;conv=>whnf
   refine bKo rfl ?_;conv=>whnf
   refine gKo rfl ?_;conv=>whnf
   refine cA h fun _ h=>?_;conv=>whnf
   refine gKo rfl ?_;conv=>whnf
   replace h:=bE h
   refine aCF h43 h (WkL.refl _) (fun _ h=>?_);conv=>whnf
   refine hK _ _ _ ?_
   refine aT fun K1 K2 hK1 hK2=>?_;conv=>whnf
   refine cLk h (fun _ h=>?_) (fun _ h=>?_)
   ·refine hK1 ?_
    refine aB dCo rfl fun K hK=>?_;conv=>whnf
    refine hK _ _ _ ?_
    refine aJ ?_
    refine aP ?_
    refine aM ?_
    refine aM ?_
    refine aP ?_
    refine aM ?_
    replace h:=iG h
    replace h:=iF h
    replace h:=aI h
    refine aE dCo fun K hK=>?_;conv=>whnf
    refine hK _ ?_
    cases h
    exact Wk.refl _
   refine hK2 ?_
   refine aK ?_
   refine iBn ?_
   refine tHn ?_
   refine cK dCo rfl fun K hK=>?_;conv=>whnf
   refine hK _ _ _ ?_
   refine tHn ?_
   replace h:=bY h
   refine ⟨_,h,?_⟩
   refine aO ?_;conv=>whnf
   exact And.intro rfl (And.intro (aLc wkI (aLc (WkR.ptr (fun _=>rfl)) aLn)) (aLc ⟨some _,rfl,bRc rfl (cKc wkI (cKc (wkr (lsL fun _=>(aC _))) (cKc (wkr (lsL fun _=>(lsI _ _))) (cKc (wkr (lsL fun _=>(lsI _ _))) (cKc wkI (cKc (wkr (lsL fun _=>(aA _))) cKn))))))⟩ aLn))
  refine hK2 ?_
  refine bN ?_
  refine aW ?_
  refine aW ?_
  refine aV ?_
  replace h:=eA h
  replace h:=dZ h
  refine tHn ?_
  refine aB dCo rfl fun K hK=>?_;conv=>whnf
  refine hK _ _ _ ?_
  refine aJ ?_
  replace h:=aI h
  refine aE dCo fun K hK=>?_;conv=>whnf
  refine hK _ ?_
  cases h
  exact Wk.refl _
 refine cK dCo rfl fun K hK=>?_;conv=>whnf
 refine nlA rfl ?_;conv=>whnf
 refine bKo rfl ?_;conv=>whnf
 refine nlA rfl ?_;conv=>whnf
 replace h:=bE h
 refine sL h41 h (WkL.refl _) (fun _ h=>?_);conv=>whnf
 refine cLk h (fun _ h=>?_) (fun _ h=>?_)<;>(conv=>whnf)
 ·refine hK _ _ _ ?_
  refine tHn ?_
  refine ⟨_,h,?_⟩
  refine aO ?_;conv=>whnf
  exact And.intro rfl (And.intro (aLc (wkr (lsB _)) (aLc (WkR.ptr (fun _=>rfl)) aLn)) (aLc ⟨some _,rfl,bRc rfl (cKc wkI (cKc (wkr (lsL fun _=>(aC _))) (cKc (wkr (lsL fun _=>(lsI _ _))) (cKc (wkr (lsL fun _=>(lsI _ _))) (cKc wkI (cKc (wkr (lsL fun _=>(aA _))) cKn))))))⟩ aLn))
 refine nlA rfl ?_;conv=>whnf
 refine bKo rfl ?_;conv=>whnf
 refine gKo rfl ?_;conv=>whnf
 replace h:=bE h
 refine fU h42 h (WkL.refl _) (fun _ h=>?_);conv=>whnf
 refine cLk h (fun _ h=>?_) (fun _ h=>?_)<;>(conv=>whnf)
 ·refine hK _ _ _ ?_
  refine tHn ?_
  refine ⟨_,h,?_⟩
  refine aO ?_;conv=>whnf
  exact And.intro rfl (And.intro (aLc (wkr (lsB _)) (aLc (WkR.ptr (fun _=>rfl)) aLn)) (aLc ⟨some _,rfl,bRc rfl (cKc wkI (cKc (wkr (lsL fun _=>(aC _))) (cKc (wkr (lsL fun _=>(lsI _ _))) (cKc (wkr (lsL fun _=>(lsI _ _))) (cKc wkI (cKc (wkr (lsL fun _=>(aA _))) cKn))))))⟩ aLn))
 refine nlA rfl ?_;conv=>whnf
 refine bKo rfl ?_;conv=>whnf
 refine gKo rfl ?_;conv=>whnf
 refine cLk h (fun _ h=>?_) (fun _ h=>?_)<;>(conv=>whnf)
 ·refine hK _ _ _ ?_
  refine tHn ?_
  refine ⟨_,h,?_⟩
  refine aO ?_;conv=>whnf
  exact And.intro rfl (And.intro (aLc (wkr (lsB _)) (aLc (WkR.ptr (fun _=>rfl)) aLn)) (aLc ⟨some _,rfl,bRc rfl (cKc wkI (cKc (wkr (lsL fun _=>(aC _))) (cKc (wkr (lsL fun _=>(lsI _ _))) (cKc (wkr (lsL fun _=>(lsI _ _))) (cKc wkI (cKc (wkr (lsL fun _=>(aA _))) cKn))))))⟩ aLn))
 refine nlA rfl ?_;conv=>whnf
 refine bKo rfl ?_;conv=>whnf
 refine gKo rfl ?_;conv=>whnf
 refine nlA rfl ?_;conv=>whnf
 refine bKo rfl ?_;conv=>whnf
 refine gKo rfl ?_;conv=>whnf
 refine cLk h (fun _ h=>?_) (fun _ h=>?_)<;>(conv=>whnf)
 ·refine hK _ _ _ ?_
  refine tHn ?_
  refine ⟨_,h,?_⟩
  refine aO ?_;conv=>whnf
  exact And.intro rfl (And.intro (aLc (wkr (lsB _)) (aLc (WkR.ptr (fun _=>rfl)) aLn)) (aLc ⟨some _,rfl,bRc rfl (cKc wkI (cKc (wkr (lsL fun _=>(aC _))) (cKc (wkr (lsL fun _=>(lsI _ _))) (cKc (wkr (lsL fun _=>(lsI _ _))) (cKc wkI (cKc (wkr (lsL fun _=>(aA _))) cKn))))))⟩ aLn))
 refine nlA rfl ?_;conv=>whnf
 refine bKo rfl ?_;conv=>whnf
 refine gKo rfl ?_;conv=>whnf
 refine nlA rfl ?_;conv=>whnf
 refine bKo rfl ?_;conv=>whnf
 refine gKo rfl ?_;conv=>whnf
 refine cLk h (fun _ h=>?_) (fun _ h=>?_)<;>(conv=>whnf)
 ·refine hK _ _ _ ?_
  refine tHn ?_
  refine ⟨_,h,?_⟩
  refine aO ?_;conv=>whnf
  exact And.intro rfl (And.intro (aLc (wkr (lsB _)) (aLc (WkR.ptr (fun _=>rfl)) aLn)) (aLc ⟨some _,rfl,bRc rfl (cKc wkI (cKc (wkr (lsL fun _=>(aC _))) (cKc (wkr (lsL fun _=>(lsI _ _))) (cKc (wkr (lsL fun _=>(lsI _ _))) (cKc wkI (cKc (wkr (lsL fun _=>(aA _))) cKn))))))⟩ aLn))
 refine nlA rfl ?_;conv=>whnf
 refine bKo rfl ?_;conv=>whnf
 refine gKo rfl ?_;conv=>whnf
 replace h:=bE h
 refine fU h42 h (WkL.refl _) (fun _ h=>?_);conv=>whnf
 refine cLk h (fun _ h=>?_) (fun _ h=>?_)<;>(conv=>whnf)
 ·refine hK _ _ _ ?_
  refine tHn ?_
  refine ⟨_,h,?_⟩
  refine aO ?_;conv=>whnf
  exact And.intro rfl (And.intro (aLc (wkr (lsB _)) (aLc (WkR.ptr (fun _=>rfl)) aLn)) (aLc ⟨some _,rfl,bRc rfl (cKc wkI (cKc (wkr (lsL fun _=>(aC _))) (cKc (wkr (lsL fun _=>(lsI _ _))) (cKc (wkr (lsL fun _=>(lsI _ _))) (cKc wkI (cKc (wkr (lsL fun _=>(aA _))) cKn))))))⟩ aLn))
 refine nlA rfl ?_;conv=>whnf
 refine bKo rfl ?_;conv=>whnf
 refine gKo rfl ?_;conv=>whnf
 refine hK _ _ _ ?_
 refine tHn ?_
 refine ⟨_,h,?_⟩
 refine aO ?_;conv=>whnf
 exact And.intro rfl (And.intro (aLc (wkr (lsB _)) (aLc (WkR.ptr (fun _=>rfl)) aLn)) (aLc ⟨some _,rfl,bRc rfl (cKc wkI (cKc (wkr (lsL fun _=>(aC _))) (cKc (wkr (lsL fun _=>(lsI _ _))) (cKc (wkr (lsL fun _=>(lsI _ _))) (cKc wkI (cKc (wkr (lsL fun _=>(aA _))) cKn))))))⟩ aLn))
theorem sJ {T:Tbl} (hT:T 9=aH nV) {args:List AV} {hp:bF} {id:Nat} {k:AV→Prop} {a0:aD} {Φ:Bool→Prop} (h:W (iO a0) Φ) (hw:WkL args [bD a0]) (hk:∀ y,Φ y→k (eB y)):bZ T 9 args hp id k:=by
 obtain ⟨y,e,hy⟩:=dL h
 exact aS hT ⟨a0,rfl,kS e rfl⟩ (by exact (lsB _)) hw (hk y hy)
def pE (a0:aD) (a1:Int):Option Bool:=jn (fun p1:Bool=>some p1) fun k2=>bd (iO a0) fun y3=>
  cn y3 (gd (0≤(a0.Calls.length:Int)) (bd (fN a1 0 (wr ((aAw .i64 1 (a0.Calls.length:Int))-1))) fun y4=>k2 y4)) (k2 false)
def rC:List AV→AV→Prop:=fun args r=>∃ a0 a1,args=[bD a0,eI a1]∧W (pE a0 a1) fun y=>r=(eB y)
theorem aFH {T:Tbl} (hT:TOk Tryz.prog T) (hpf:cI T PF) (h9:T 9=aH nV) (h42:T 42=aH pK):FOk Tryz.prog 46 (aH rC):=by
 refine bB hT hpf Tryz.func46 rfl Tryz.ntmps46 Tryz.results46 (by decide) ?_
 rintro args r ⟨a0,a1,rfl,h⟩
 refine ⟨nle rfl,?_,?_⟩
 ·exact (lsC (aR _) (lsC (lsI _ _) lsN))
 rw [pE.eq_1] at h
 refine aB dCo rfl fun K hK=>?_;conv=>whnf
 refine hK _ _ _ ?_
 refine aB dCo rfl fun K hK=>?_;conv=>whnf
 replace h:=eW h
 refine nlA rfl ?_;conv=>whnf
 refine bKo rfl ?_;conv=>whnf
 refine nlA rfl ?_;conv=>whnf
 replace h:=bE h
 refine sJ h9 h (WkL.refl _) (fun _ h=>?_);conv=>whnf
 refine cLk h (fun _ h=>?_) (fun _ h=>?_)<;>(conv=>whnf)
 ·refine nlA rfl ?_;conv=>whnf
  refine bKo rfl ?_;conv=>whnf
  refine gKo rfl ?_;conv=>whnf
  refine kQ h fun _ h=>?_;conv=>whnf
  replace h:=bE h
  refine fU h42 h (WkL.refl _) (fun _ h=>?_);conv=>whnf
  refine hK _ _ _ ?_
  refine aJ ?_
  replace h:=aI h
  refine aE dCo fun K hK=>?_;conv=>whnf
  refine hK _ ?_
  cases h
  exact Wk.refl _
 refine hK _ _ _ ?_
 refine aJ ?_
 replace h:=aI h
 refine aE dCo fun K hK=>?_;conv=>whnf
 refine hK _ ?_
 cases h
 exact Wk.refl _
theorem xM {T:Tbl} (hT:T 46=aH rC) {args:List AV} {hp:bF} {id:Nat} {k:AV→Prop} {a0:aD} {a1:Int} {Φ:Bool→Prop} (h:W (pE a0 a1) Φ) (hw:WkL args [bD a0,eI a1]) (hk:∀ y,Φ y→k (eB y)):bZ T 46 args hp id k:=by
 obtain ⟨y,e,hy⟩:=dL h
 exact aS hT ⟨a0,a1,rfl,kS e rfl⟩ (by exact (lsB _)) hw (hk y hy)
  def oB (a0:aD) (s9:(List Int)×Int×Int×bG):Option (Ct ((List Int)×Int×Int×bG) (bG×(List Int)×Bool)):=cn (decide (s9.2.2.1<a0.Net.N)) (ix a0.Centres default s9.2.2.1 fun e10=>
  lt ([(⟨s9.2.2.1,a0.Net.N,e10⟩:dE)]:List dE) fun l11=>ap s9.2.2.2.Edges l11 fun l12=>ix a0.Urgent default s9.2.2.1 fun e13=>lt ([e13]:List Int) fun l14=>
  ap s9.1 l14 fun l15=>ix a0.Urgent default s9.2.2.1 fun e16=>
  some (.nx (l15,(wr (s9.2.1+e16)),(wr (s9.2.2.1+1)),(⟨s9.2.2.2.N,l12⟩:bG)))) (some (.bk (s9.1,s9.2.1,s9.2.2.1,s9.2.2.2)))
  def lL (a0:aD) (a1:Int) (s1:Int×bG×bG):Option (Ct (Int×bG×bG) (bG×(List Int)×Bool)):=cn (decide (s1.1<(a0.Net.Edges.length:Int))) (ix a0.Net.Edges default s1.1 fun e2=>
  bd (nA a0 a1 s1.1) fun y3=>
  cn (decide ((wr (e2.Capacity-y3))<0)) (some (.rt ((⟨0,[]⟩:bG),[],false))) (lt ([(⟨e2.From,e2.To,(wr (e2.Capacity-y3))⟩:dE)]:List dE) fun l4=>
  ap s1.2.2.Edges l4 fun l5=>some (.nx ((wr (s1.1+1)),s1.2.1,(⟨s1.2.2.N,l5⟩:bG))))) (some (.bk (s1.1,s1.2.1,s1.2.2)))
  def kG (a0:aD) (a1:Int):Option (bG×(List Int)×Bool):=bd (lp (lL a0 a1) FU (0,(⟨0,[]⟩:bG),(⟨(wr (a0.Net.N+1)),[]⟩:bG))) fun c6=>
  smK c6 (fun s7=>bd (lp (oB a0) FU ([],0,0,s7.2.2)) fun c17=>smK c17 (fun s18=>lt ([(wr (0-s18.2.1))]:List Int) fun l20=>ap s18.1 l20 fun l21=>
  some (s18.2.2.2,l21,true)) (fun r19=>some r19)) (fun r8=>some r8)
def pF:List AV→AV→Prop:=fun args r=>∃ a0 a1,args=[bD a0,eI a1]∧W (kG a0 a1) fun y=>r=(.tup [fF y.1,(eL 1 eI default) y.2.1,eB y.2.2])
theorem aDp {T:Tbl} (hT:TOk Tryz.prog T) (hpf:cI T PF) (h47:T 47=aH qY):FOk Tryz.prog 48 (aH pF):=by
 refine bB hT hpf Tryz.func48 rfl Tryz.ntmps48 Tryz.results48 (by decide) ?_
 rintro args r ⟨a0,a1,rfl,h⟩
 refine ⟨nle rfl,?_,?_⟩
 ·exact (lsC (aR _) (lsC (lsI _ _) lsN))
 rw [kG.eq_1] at h
 refine aB dCo rfl fun K hK=>?_;conv=>whnf
 refine hK _ _ _ ?_
 refine aB dCo rfl fun K hK=>?_;conv=>whnf
 refine nlA rfl ?_;conv=>whnf
 refine bKo rfl ?_;conv=>whnf
 refine gKo rfl ?_;conv=>whnf
 refine bKo rfl ?_;conv=>whnf
 refine And.intro rfl (And.intro (nle rfl) (And.intro rfl ?_));conv=>whnf
 refine hK _ _ _ ?_
 refine aL ?_
 refine aB dCo rfl fun K hK=>?_;conv=>whnf
 refine hK _ _ _ ?_
 refine aN ?_
 replace h:=bE h
 refine dS (body:=lL _ _) rfl h [1,2,4,7] [2] [4,7] (fun kl kh ids b s=>⟨ofL ([(8,eI s.1)]++kl),ofH ([(aEe ids 0,.cells [eI s.2.1.N,.lst (.tok (b+0)) 3 s.2.1.Edges.length (fun j=>bM (s.2.1.Edges.getD j default))]),(aEe ids 1,.cells [eI s.2.2.N,.lst (.tok (b+64)) 3 s.2.2.Edges.length (fun j=>bM (s.2.2.Edges.getD j default))]),(b+0,.cells []),(b+64,.cells [])]++kh),b+192⟩) ?_;(conv=>whnf);refine And.intro ?_ (fun s m h=>dY ?_)
 ·refine aO ?_;conv=>whnf
  exact And.intro rfl (And.intro (aLc wkI (aLc wkI (aLc (WkR.ptr (fun _=>rfl)) (aLc (WkR.ptr (fun _=>rfl)) (aLc (WkR.ptr (fun _=>rfl)) aLn))))) (aLc ⟨some _,rfl,bRc rfl (cKc wkI (cKc (WkR.nil (fun _=>rfl)) cKn))⟩ (aLc ⟨some _,rfl,bRc rfl (cKc wkI (cKc (WkR.nil (fun _=>rfl)) cKn))⟩ (aLc ⟨none,rfl,yM⟩ (aLc ⟨none,rfl,yM⟩ (aLc ⟨some _,rfl,bRc rfl (cKc wkI (cKc (wkr (lsL fun _=>(aC _))) (cKc (wkr (lsL fun _=>(lsI _ _))) (cKc (wkr (lsL fun _=>(lsI _ _))) (cKc wkI (cKc (wkr (lsL fun _=>(aA _))) cKn))))))⟩ aLn))))))
 replace h:=bE h;rw [lL.eq_1] at h
 refine aL ?_
 refine aB dCo rfl fun K hK=>?_;conv=>whnf
 refine nlA rfl ?_;conv=>whnf
 refine bKo rfl ?_;conv=>whnf
 refine gKo rfl ?_;conv=>whnf
 refine hK _ _ _ ?_
 refine aT fun K1 K2 hK1 hK2=>?_;conv=>whnf
 refine cLk h (fun _ h=>?_) (fun _ h=>?_)
 ·refine hK1 ?_
  refine aK ?_
  refine tHn ?_
  refine aL ?_
  refine aN ?_
  refine aB dCo rfl fun K hK=>?_;conv=>whnf
  refine nlA rfl ?_;conv=>whnf
  refine bKo rfl ?_;conv=>whnf
  refine gKo rfl ?_;conv=>whnf
  refine cA h fun _ h=>?_;conv=>whnf
  refine nlA rfl ?_;conv=>whnf
  refine bKo rfl ?_;conv=>whnf
  refine And.intro rfl (And.intro (nle rfl) (And.intro rfl ?_));conv=>whnf
  refine hK _ _ _ ?_
  refine iZ dCo cJ rfl (by kernel_rfl) fun K hK=>?_;conv=>whnf
  refine nlA rfl ?_;conv=>whnf
  refine bKo rfl ?_;conv=>whnf
  refine gKo rfl ?_;conv=>whnf
  refine nlA rfl ?_;conv=>whnf
  refine bKo rfl ?_;conv=>whnf
  refine nlA rfl ?_;conv=>whnf
  replace h:=bE h
  refine uB h47 h (WkL.refl _) (fun _ h=>?_);conv=>whnf
  refine bKo rfl ?_;conv=>whnf
  refine And.intro rfl (And.intro (nle rfl) (And.intro rfl ?_));conv=>whnf
  refine hK _ _ _ ?_
  refine aL ?_
  refine aB dCo rfl fun K hK=>?_;conv=>whnf
  refine nlA rfl ?_;conv=>whnf
  refine bKo rfl ?_;conv=>whnf
  refine gKo rfl ?_;conv=>whnf
  refine hK _ _ _ ?_
  refine aT fun K1 K2 hK1 hK2=>?_;conv=>whnf
  refine cLk h (fun _ h=>?_) (fun _ h=>?_)
  ·refine hK1 ?_
   refine aB dCo rfl fun K hK=>?_;conv=>whnf
   refine bKo rfl ?_;conv=>whnf
   refine And.intro rfl (And.intro (nle rfl) (And.intro rfl ?_));conv=>whnf
   refine hK _ _ _ ?_
   refine aJ ?_
   refine aM ?_
   refine aP ?_
   refine aM ?_
   refine aM ?_
   refine aP ?_
   refine aM ?_
   replace h:=iG h
   replace h:=iF h
   replace h:=aI h
   refine aE dCo fun K hK=>?_;conv=>whnf
   refine nlA rfl ?_;conv=>whnf
   refine bKo rfl ?_;conv=>whnf
   refine nlA rfl ?_;conv=>whnf
   refine hK _ ?_
   cases h
   exact pV (aF (fL (aF (Wk.refl _) (aF jI bO))) (aF jI (aF (Wk.refl _) bO)))
  refine hK2 ?_
  refine aK ?_
  refine tHn ?_
  refine cK dCo rfl fun K hK=>?_;conv=>whnf
  refine nlA rfl ?_;conv=>whnf
  refine bKo rfl ?_;conv=>whnf
  refine gKo rfl ?_;conv=>whnf
  refine nlA rfl ?_;conv=>whnf
  refine bKo rfl ?_;conv=>whnf
  refine nlA rfl ?_;conv=>whnf
  refine hZ (enc:=bM) (d:=default) dCo h rfl rfl rfl ⟨nle rfl,nle rfl,rfl⟩ rfl ⟨⟨rfl,nle rfl⟩,trivial⟩ (fun h=>?_);conv=>whnf
  refine sV (enc:=bM) (d:=default) dCo h (.inl rfl) rfl rfl rfl ⟨rfl,nle rfl,nle rfl,nle rfl,rfl⟩ (fun _=>rfl) (.inr (.inr ⟨_,_,rfl,rfl,rfl⟩)) (fun h=>?_);conv=>whnf
  refine bKo rfl ?_;conv=>whnf
  refine And.intro rfl (And.intro (nle rfl) (And.intro rfl ?_));conv=>whnf
  refine hK _ _ _ ?_
  refine iBn ?_
  refine tHn ?_
  refine cK dCo rfl fun K hK=>?_;conv=>whnf
  refine hK _ _ _ ?_
  refine tHn ?_
  replace h:=bY h
  refine ⟨_,h,?_⟩
  refine aO ?_;conv=>whnf
  exact And.intro rfl (And.intro (aLc wkI (aLc wkI (aLc (WkR.ptr (fun _=>rfl)) (aLc (WkR.ptr (fun _=>rfl)) (aLc (WkR.ptr (fun _=>rfl)) aLn))))) (aLc ⟨some _,rfl,bRc rfl (cKc wkI (cKc (WkR.tok (fun _=>rfl) rfl (fun _ _=>Wk.refl _) (fun _=>(aC _))) cKn))⟩ (aLc ⟨some _,rfl,bRc rfl (cKc wkI (cKc (WkR.tok (fun _=>rfl) rfl (fun _ _=>Wk.refl _) (fun _=>(aC _))) cKn))⟩ (aLc ⟨some _,rfl,bRc rfl cKn⟩ (aLc ⟨some _,rfl,bRc rfl cKn⟩ (aLc ⟨some _,rfl,bRc rfl (cKc wkI (cKc (wkr (lsL fun _=>(aC _))) (cKc (wkr (lsL fun _=>(lsI _ _))) (cKc (wkr (lsL fun _=>(lsI _ _))) (cKc wkI (cKc (wkr (lsL fun _=>(aA _))) cKn))))))⟩ aLn))))))
 refine hK2 ?_
 refine bN ?_
 refine aW ?_
 refine aW ?_
 refine aV ?_
 replace h:=eA h
 replace h:=dZ h
 refine tHn ?_
 refine aB dCo rfl fun K hK=>?_;conv=>whnf
 refine hK _ _ _ ?_
 refine aB dCo rfl fun K hK=>?_;conv=>whnf
 refine hK _ _ _ ?_
 refine aL ?_
 refine aB dCo rfl fun K hK=>?_;conv=>whnf
 refine hK _ _ _ ?_
 refine aN ?_
 replace h:=bE h
 refine aFY (body:=oB _) rfl h [2,4,7] (fun σ=>aAH σ [2,4]++aFb σ [(4,1)]) [7] (fun kl kh ids b s=>⟨ofL ([(10,.lst (.tok (b+64)) 1 s.1.length (fun j=>eI (s.1.getD j default))),(11,eI s.2.1),(12,eI s.2.2.1)]++kl),ofH ([(aEe ids 0,.cells [eI s.2.2.2.N,.lst (.tok (b+0)) 3 s.2.2.2.Edges.length (fun j=>bM (s.2.2.2.Edges.getD j default))]),(b+0,.cells []),(b+64,.cells [])]++kh),b+192⟩) ?_;(conv=>whnf);refine And.intro ?_ (fun s m h=>dY ?_)
 ·refine aO ?_;conv=>whnf
  exact And.intro rfl (And.intro (aLc (WkR.nil (fun _=>rfl)) (aLc wkI (aLc wkI (aLc (WkR.ptr (fun _=>rfl)) (aLc (WkR.ptr (fun _=>rfl)) (aLc (WkR.ptr (fun _=>rfl)) aLn)))))) (aLc ⟨some _,rfl,bRc rfl (cKc wkI (cKc (WkR.tok (fun _=>rfl) rfl (fun _ _=>Wk.refl _) (fun _=>(aC _))) cKn))⟩ (aLc ⟨some _,rfl,bRc rfl cKn⟩ (aLc ⟨none,rfl,yM⟩ (aLc ⟨some _,rfl,bRc rfl (cKc wkI (cKc (wkr (lsL fun _=>(aC _))) (cKc (wkr (lsL fun _=>(lsI _ _))) (cKc (wkr (lsL fun _=>(lsI _ _))) (cKc wkI (cKc (wkr (lsL fun _=>(aA _))) cKn))))))⟩ (aLc ⟨some _,rfl,bRc rfl (cKc wkI (cKc (WkR.tok (fun _=>rfl) rfl (fun _ _=>Wk.refl _) (fun _=>(aC _))) cKn))⟩ (aLc ⟨some _,rfl,bRc rfl cKn⟩ aLn)))))))
 replace h:=bE h;rw [oB.eq_1] at h
 refine aL ?_
 refine aB dCo rfl fun K hK=>?_;conv=>whnf
 refine nlA rfl ?_;conv=>whnf
 refine bKo rfl ?_;conv=>whnf
 refine gKo rfl ?_;conv=>whnf
 refine hK _ _ _ ?_
 refine aT fun K1 K2 hK1 hK2=>?_;conv=>whnf
 refine cLk h (fun _ h=>?_) (fun _ h=>?_)
 ·refine hK1 ?_
  refine aK ?_
  refine tHn ?_
  refine aL ?_
  refine aN ?_
  refine iZ dCo cJ rfl (by kernel_rfl) fun K hK=>?_;conv=>whnf
  refine nlA rfl ?_;conv=>whnf
  refine bKo rfl ?_;conv=>whnf
  refine gKo rfl ?_;conv=>whnf
  refine nlA rfl ?_;conv=>whnf
  refine bKo rfl ?_;conv=>whnf
  refine gKo rfl ?_;conv=>whnf
  refine nlA rfl ?_;conv=>whnf
  refine bKo rfl ?_;conv=>whnf
  refine gKo rfl ?_;conv=>whnf
  refine cA h fun _ h=>?_;conv=>whnf
  refine gKo rfl ?_;conv=>whnf
  refine hZ (enc:=bM) (d:=default) dCo h rfl rfl rfl ⟨nle rfl,nle rfl,rfl⟩ rfl ⟨⟨rfl,nle rfl⟩,trivial⟩ (fun h=>?_);conv=>whnf
  refine sV (enc:=bM) (d:=default) dCo h (.inl rfl) rfl rfl rfl ⟨rfl,nle rfl,nle rfl,nle rfl,rfl⟩ (fun _=>rfl) (.inr (.inr ⟨_,_,rfl,rfl,rfl⟩)) (fun h=>?_);conv=>whnf
  refine bKo rfl ?_;conv=>whnf
  refine And.intro rfl (And.intro (nle rfl) (And.intro rfl ?_));conv=>whnf
  refine hK _ _ _ ?_
  refine aB dCo rfl fun K hK=>?_;conv=>whnf
  refine nlA rfl ?_;conv=>whnf
  refine bKo rfl ?_;conv=>whnf
  refine gKo rfl ?_;conv=>whnf
  refine cA h fun _ h=>?_;conv=>whnf
  refine gKo rfl ?_;conv=>whnf
  refine hZ (enc:=eI) (d:=default) dCo h rfl rfl rfl ⟨nle rfl,nle rfl,rfl⟩ rfl ⟨⟨rfl,rfl,rfl⟩,trivial⟩ (fun h=>?_);conv=>whnf
  refine sV (enc:=eI) (d:=default) dCo h (.inl rfl) rfl rfl rfl ⟨rfl,nle rfl,nle rfl,nle rfl,rfl⟩ (fun _=>rfl) (.inr (.inr ⟨_,_,rfl,rfl,rfl⟩)) (fun h=>?_);conv=>whnf
  refine hK _ _ _ ?_
  refine cK dCo rfl fun K hK=>?_;conv=>whnf
  refine nlA rfl ?_;conv=>whnf
  refine bKo rfl ?_;conv=>whnf
  refine gKo rfl ?_;conv=>whnf
  refine cA h fun _ h=>?_;conv=>whnf
  refine gKo rfl ?_;conv=>whnf
  refine hK _ _ _ ?_
  refine iBn ?_
  refine tHn ?_
  refine cK dCo rfl fun K hK=>?_;conv=>whnf
  refine hK _ _ _ ?_
  refine tHn ?_
  replace h:=bY h
  refine ⟨_,h,?_⟩
  refine aO ?_;conv=>whnf
  exact And.intro rfl (And.intro (aLc (WkR.tok (fun _=>rfl) rfl (fun _ _=>Wk.refl _) (fun _=>(lsI _ _))) (aLc wkI (aLc wkI (aLc (WkR.ptr (fun _=>rfl)) (aLc (WkR.ptr (fun _=>rfl)) (aLc (WkR.ptr (fun _=>rfl)) aLn)))))) (aLc ⟨some _,rfl,bRc rfl (cKc wkI (cKc (WkR.tok (fun _=>rfl) rfl (fun _ _=>Wk.refl _) (fun _=>(aC _))) cKn))⟩ (aLc ⟨some _,rfl,bRc rfl cKn⟩ (aLc ⟨some _,rfl,bRc rfl cKn⟩ (aLc ⟨some _,rfl,bRc rfl (cKc wkI (cKc (wkr (lsL fun _=>(aC _))) (cKc (wkr (lsL fun _=>(lsI _ _))) (cKc (wkr (lsL fun _=>(lsI _ _))) (cKc wkI (cKc (wkr (lsL fun _=>(aA _))) cKn))))))⟩ (aLc ⟨some _,rfl,bRc rfl (cKc wkI (cKc (WkR.tok (fun _=>rfl) rfl (fun _ _=>Wk.refl _) (fun _=>(aC _))) cKn))⟩ (aLc ⟨some _,rfl,bRc rfl cKn⟩ aLn)))))))
 refine hK2 ?_
 refine bN ?_
 refine aW ?_
 refine aW ?_
 refine aV ?_
 replace h:=eA h
 replace h:=dZ h
 refine tHn ?_
 refine aH8 (.step 1 (.step 2 (.step 3 (.step 4 (.two 0 5 (.step 5 (.step 6 (.step 7 (.step 8 (.nil))))) (.step 0 (.step 6 (.step 7 (.step 8 (.nil)))))))))) dCo cJ rfl (by kernel_rfl) fun K hK=>?_;conv=>whnf
 refine hZ (enc:=eI) (d:=default) dCo h rfl rfl rfl ⟨nle rfl,nle rfl,rfl⟩ rfl ⟨⟨rfl,rfl,rfl⟩,trivial⟩ (fun h=>?_);conv=>whnf
 refine And.intro ?_ ?_<;>(conv=>whnf)
 ·refine nlA rfl ?_;conv=>whnf
  refine bKo rfl ?_;conv=>whnf
  refine nlA rfl ?_;conv=>whnf
  refine sV (enc:=eI) (d:=default) dCo h (.inl rfl) rfl rfl rfl ⟨rfl,nle rfl,nle rfl,nle rfl,rfl⟩ (fun _=>rfl) (.inr (.inr ⟨_,_,rfl,rfl,rfl⟩)) (fun h=>?_);conv=>whnf
  refine bKo rfl ?_;conv=>whnf
  refine And.intro rfl (And.intro (nle rfl) (And.intro rfl ?_));conv=>whnf
  refine hK _ _ _ ?_
  refine aJ ?_
  replace h:=aI h
  refine aE dCo fun K hK=>?_;conv=>whnf
  refine nlA rfl ?_;conv=>whnf
  refine bKo rfl ?_;conv=>whnf
  refine nlA rfl ?_;conv=>whnf
  refine hK _ ?_
  cases h
  exact pV (aF (fL (aF (Wk.refl _) (aF eD bO))) (aF eD (aF (Wk.refl _) bO)))
 refine sV (enc:=eI) (d:=default) dCo h (.inl rfl) rfl rfl rfl ⟨rfl,nle rfl,nle rfl,nle rfl,rfl⟩ (fun _=>rfl) (.inr (.inr ⟨_,_,rfl,rfl,rfl⟩)) (fun h=>?_);conv=>whnf
 refine nlA rfl ?_;conv=>whnf
 refine bKo rfl ?_;conv=>whnf
 refine nlA rfl ?_;conv=>whnf
 refine bKo rfl ?_;conv=>whnf
 refine And.intro rfl (And.intro (nle rfl) (And.intro rfl ?_));conv=>whnf
 refine hK _ _ _ ?_
 refine aJ ?_
 replace h:=aI h
 refine aE dCo fun K hK=>?_;conv=>whnf
 refine nlA rfl ?_;conv=>whnf
 refine bKo rfl ?_;conv=>whnf
 refine nlA rfl ?_;conv=>whnf
 refine hK _ ?_
 cases h
 exact pV (aF (fL (aF (Wk.refl _) (aF eD bO))) (aF eD (aF (Wk.refl _) bO)))
theorem tD {T:Tbl} (hT:T 48=aH pF) {args:List AV} {hp:bF} {id:Nat} {k:AV→Prop} {a0:aD} {a1:Int} {Φ:bG×(List Int)×Bool→Prop} (h:W (kG a0 a1) Φ) (hw:WkL args [bD a0,eI a1]) (hk:∀ y,Φ y→k (.tup [fF y.1,(eL 1 eI default) y.2.1,eB y.2.2])):bZ T 48 args hp id k:=by
 obtain ⟨y,e,hy⟩:=dL h
 exact aS hT ⟨a0,a1,rfl,kS e rfl⟩ (by exact lH (lsC (fA _) (lsC (lsL fun _=>(lsI _ _)) (lsC (lsB _) lsN)))) hw (hk y hy)
def nE (a0:aD) (a1:Int):Option (bG×(List Int)×Int):=bd (pE a0 a1) fun y1=>
  cn (!y1) (some ((⟨0,[]⟩:bG),[],330)) (bd (kG a0 a1) fun y2=>cn (!y2.2.2) (some ((⟨0,[]⟩:bG),[],330)) (some (y2.1,y2.2.1,0)))
def pN:List AV→AV→Prop:=fun args r=>∃ a0 a1,args=[bD a0,eI a1]∧W (nE a0 a1) fun y=>r=(.tup [fF y.1,(eL 1 eI default) y.2.1,eI y.2.2])
theorem aDN {T:Tbl} (hT:TOk Tryz.prog T) (hpf:cI T PF) (h46:T 46=aH rC) (h48:T 48=aH pF):FOk Tryz.prog 18 (aH pN):=by
 refine bB hT hpf Tryz.func18 rfl Tryz.ntmps18 Tryz.results18 (by decide) ?_
 rintro args r ⟨a0,a1,rfl,h⟩
 refine ⟨nle rfl,?_,?_⟩
 ·exact (lsC (aR _) (lsC (lsI _ _) lsN))
 rw [nE.eq_1] at h
 refine aB dCo rfl fun K hK=>?_;conv=>whnf
 refine hK _ _ _ ?_
 refine aL ?_
 refine aB dCo rfl fun K hK=>?_;conv=>whnf
 refine nlA rfl ?_;conv=>whnf
 refine bKo rfl ?_;conv=>whnf
 refine nlA rfl ?_;conv=>whnf
 replace h:=bE h
 refine xM h46 h (WkL.refl _) (fun _ h=>?_);conv=>whnf
 refine hK _ _ _ ?_
 refine aT fun K1 K2 hK1 hK2=>?_;conv=>whnf
 refine cLk h (fun _ h=>?_) (fun _ h=>?_)
 ·refine hK1 ?_
  refine aB dCo rfl fun K hK=>?_;conv=>whnf
  refine bKo rfl ?_;conv=>whnf
  refine And.intro rfl (And.intro (nle rfl) (And.intro rfl ?_));conv=>whnf
  refine hK _ _ _ ?_
  refine aJ ?_
  refine aM ?_
  replace h:=aI h
  refine aE dCo fun K hK=>?_;conv=>whnf
  refine nlA rfl ?_;conv=>whnf
  refine bKo rfl ?_;conv=>whnf
  refine nlA rfl ?_;conv=>whnf
  refine hK _ ?_
  cases h
  exact pV (aF (fL (aF (Wk.refl _) (aF jI bO))) (aF jI (aF (Wk.refl _) bO)))
 refine hK2 ?_
 refine aK ?_
 refine tHn ?_
 refine aB dCo rfl fun K hK=>?_;conv=>whnf
 refine nlA rfl ?_;conv=>whnf
 refine bKo rfl ?_;conv=>whnf
 refine nlA rfl ?_;conv=>whnf
 replace h:=bE h
 refine tD h48 h (WkL.refl _) (fun _ h=>?_);conv=>whnf
 refine bKo rfl ?_;conv=>whnf
 refine And.intro rfl (And.intro (nle rfl) (And.intro rfl ?_));conv=>whnf
 refine hK _ _ _ ?_
 refine aL ?_
 refine aB dCo rfl fun K hK=>?_;conv=>whnf
 refine hK _ _ _ ?_
 refine aT fun K1 K2 hK1 hK2=>?_;conv=>whnf
 refine cLk h (fun _ h=>?_) (fun _ h=>?_)
 ·refine hK1 ?_
  refine aB dCo rfl fun K hK=>?_;conv=>whnf
  refine bKo rfl ?_;conv=>whnf
  refine And.intro rfl (And.intro (nle rfl) (And.intro rfl ?_));conv=>whnf
  refine hK _ _ _ ?_
  refine aJ ?_
  refine aM ?_
  replace h:=aI h
  refine aE dCo fun K hK=>?_;conv=>whnf
  refine nlA rfl ?_;conv=>whnf
  refine bKo rfl ?_;conv=>whnf
  refine nlA rfl ?_;conv=>whnf
  refine hK _ ?_
  cases h
  exact pV (aF (fL (aF (Wk.refl _) (aF jI bO))) (aF jI (aF (Wk.refl _) bO)))
 refine hK2 ?_
 refine aK ?_
 refine tHn ?_
 refine aB dCo rfl fun K hK=>?_;conv=>whnf
 refine nlA rfl ?_;conv=>whnf
 refine bKo rfl ?_;conv=>whnf
 refine nlA rfl ?_;conv=>whnf
 refine bKo rfl ?_;conv=>whnf
 refine And.intro rfl (And.intro (nle rfl) (And.intro rfl ?_));conv=>whnf
 refine hK _ _ _ ?_
 refine aJ ?_
 replace h:=aI h
 refine aE dCo fun K hK=>?_;conv=>whnf
 refine nlA rfl ?_;conv=>whnf
 refine bKo rfl ?_;conv=>whnf
 refine nlA rfl ?_;conv=>whnf
 refine hK _ ?_
 cases h
 exact Wk.refl _
theorem wR {T:Tbl} (hT:T 18=aH pN) {args:List AV} {hp:bF} {id:Nat} {k:AV→Prop} {a0:aD} {a1:Int} {Φ:bG×(List Int)×Int→Prop} (h:W (nE a0 a1) Φ) (hw:WkL args [bD a0,eI a1]) (hk:∀ y,Φ y→k (.tup [fF y.1,(eL 1 eI default) y.2.1,eI y.2.2])):bZ T 18 args hp id k:=by
 obtain ⟨y,e,hy⟩:=dL h
 exact aS hT ⟨a0,a1,rfl,kS e rfl⟩ (by exact lH (lsC (fA _) (lsC (lsL fun _=>(lsI _ _)) (lsC (lsI _ _) lsN)))) hw (hk y hy)
  def jJ (a0:bG) (a1:List Int) (a3:Int) (s34:Int×Int):Option (Ct (Int×Int) Int):=cn (decide ((wr (s34.2+1))<a0.N)) (bd (jM a3 s34.2) fun y35=>
  jn (fun p36:Int=>some (.nx (p36,(wr (s34.2+1))))) fun k37=>cn y35 (ix a1 default s34.2 fun e38=>k37 (wr (s34.1-e38))) (k37 s34.1)) (some (.bk (s34.1,s34.2)))
  def gV (a0:bG) (s15:Int×Int×(List Bool)) (s16:Int×Int):Option (Ct (Int×Int) Int):=cn (decide (s16.2<(a0.Edges.length:Int))) (jn (fun p17:Bool=>
  jn (fun p21:Int=>some (.nx (p21,(wr (s16.2+1))))) fun k22=>cn p17 (k22 s16.2) (k22 s16.1)) fun k18=>
  gd ((0:Int)≤s16.2∧s16.2<(s15.2.2.length:Int)) (cn (!(s15.2.2.getD (s16.2).toNat default)) (cn (decide (s16.1<0)) (k18 true) (ix a0.Edges default s16.2 fun e19=>
  ix a0.Edges default (aRF s16.1 0) fun e20=>k18 (decide (e19.Capacity>e20.Capacity)))) (k18 false))) (some (.bk (s16.1,s16.2)))
def jK (a0:bG) (s15:Int×Int×(List Bool)):Option (Ct (Int×Int×(List Bool)) Int):=cn (decide (s15.1 >
  0)) (bd (lp (gV a0 s15) FU ((-1),0)) fun c23=>smK c23 (fun s24=>jn (fun p26:(List Bool)×Int=>some (.nx ((wr (s15.1-1)),p26.2,p26.1))) fun k27=>
  cn (decide (s24.1≥0)) (gd ((0:Int)≤s24.1∧s24.1<(s15.2.2.length:Int)) (st s15.2.2 (s24.1) true fun l28=>ix a0.Edges default s24.1 fun e29=>
  let v30:=(wr (s15.2.1-e29.Capacity));k27 (l28,v30))) (k27 (s15.2.2,s15.2.1))) (fun r25=>some (.rt r25))) (some (.bk (s15.1,s15.2.1,s15.2.2)))
  def jB (a0:bG) (a3:Int) (s2:Int×Int×(List Bool)):Option (Ct (Int×Int×(List Bool)) Int):=cn (decide (s2.2.1<(a0.Edges.length:Int))) (ix a0.Edges default s2.2.1 fun e3=>
  jn (fun p4:Bool=>jn (fun p8:(List Bool)×Int=>some (.nx (p8.2,(wr (s2.2.1+1)),p8.1))) fun k9=>cn p4 (let v10:=(wr (s2.1+e3.Capacity));
  k9 (s2.2.2,v10)) (gd ((0:Int)≤s2.2.1∧s2.2.1<(s2.2.2.length:Int)) (st s2.2.2 (s2.2.1) true fun l11=>k9 (l11,s2.1)))) fun k5=>bd (jM a3 e3.From) fun y6=>
  cn y6 (bd (jM a3 e3.To) fun y7=>k5 (!y7)) (k5 false)) (some (.bk (s2.1,s2.2.1,s2.2.2)))
  def iP (a0:bG) (a1:List Int) (a2:Int) (a3:Int):Option Int:=gd ((0:Int)≤(a0.Edges.length:Int)∧(a0.Edges.length:Int)≤(1048576:Int)) (lt (List.replicate ((a0.Edges.length:Int)).toNat (false:Bool)) fun l1=>
  bd (lp (jB a0 a3) FU (0,0,l1)) fun c12=>smK c12 (fun s13=>bd (lp (jK a0) FU (a2,s13.1,s13.2.2)) fun c31=>smK c31 (fun s32=>
  bd (lp (jJ a0 a1 a3) FU (s32.2.1,0)) fun c39=>smK c39 (fun s40=>some s40.1) (fun r41=>some r41)) (fun r33=>some r33)) (fun r14=>some r14))
def oR:List AV→AV→Prop:=fun args r=>∃ a0 a1 a2 a3,args=[fF a0,(eL 1 eI default) a1,eI a2,eI a3]∧W (iP a0 a1 a2 a3) fun y=>r=(eI y)
theorem aBL {T:Tbl} (hT:TOk Tryz.prog T) (hpf:cI T PF) (h45:T 45=aH mR):FOk Tryz.prog 55 (aH oR):=by
 refine bB hT hpf Tryz.func55 rfl Tryz.ntmps55 Tryz.results55 (by decide) ?_
 rintro args r ⟨a0,a1,a2,a3,rfl,h⟩
 refine ⟨nle rfl,?_,?_⟩
 ·exact (lsC (fA _) (lsC (lsL fun _=>(lsI _ _)) (lsC (lsI _ _) (lsC (lsI _ _) lsN))))
 rw [iP.eq_1] at h
 refine aB dCo rfl fun K hK=>?_;conv=>whnf
 refine hK _ _ _ ?_
 refine aB dCo rfl fun K hK=>?_;conv=>whnf
 refine nlA rfl ?_;conv=>whnf
 refine bKo rfl ?_;conv=>whnf
 refine gKo rfl ?_;conv=>whnf
 refine aMd (enc:=eB) dCo (false:Bool) h rfl rfl ⟨nle rfl,nle rfl,rfl⟩ rfl (fun h=>?_);conv=>whnf
 refine hK _ _ _ ?_
 refine aB dCo rfl fun K hK=>?_;conv=>whnf
 refine hK _ _ _ ?_
 refine aL ?_
 refine aB dCo rfl fun K hK=>?_;conv=>whnf
 refine hK _ _ _ ?_
 refine aN ?_
 replace h:=bE h
 refine xO (body:=jB _ _) rfl h [1,2,3,4] [4] [] [] (fun kl kh kr ids b s=>⟨ofL ([(10,eI s.1),(11,eI s.2.1),(9,.so (b+0) 0 s.2.2.length 1)]++kl),ofH (([]++kh)++([(b+0,.cells (flE (ceE eB) s.2.2))]++kr)),b+128⟩) ?_;(conv=>whnf);refine And.intro ?_ (fun s m h=>dY ?_)
 ·refine gQ ?_;conv=>whnf
  exact And.intro rfl (And.intro (aLc wkI (aLc wkI (aLc (WkR.so (fun _=>rfl)) (aLc (wkr (lsL fun _=>(lsI _ _))) (aLc wkI (aLc wkI (aLc (WkR.ptr (fun _=>rfl)) aLn))))))) (aLc ⟨some _,rfl,bRc rfl (cKc wkI (cKc (wkr (lsL fun _=>(aC _))) cKn))⟩ (aLc ⟨some _,rfl,jP rfl (fun _=>(lsC (lsB _) lsN))⟩ aLn)))
 replace h:=bE h;rw [jB.eq_1] at h
 refine aL ?_
 refine aB dCo rfl fun K hK=>?_;conv=>whnf
 refine nlA rfl ?_;conv=>whnf
 refine bKo rfl ?_;conv=>whnf
 refine gKo rfl ?_;conv=>whnf
 refine hK _ _ _ ?_
 refine aT fun K1 K2 hK1 hK2=>?_;conv=>whnf
 refine cLk h (fun _ h=>?_) (fun _ h=>?_)
 ·refine hK1 ?_
  refine aK ?_
  refine tHn ?_
  refine aL ?_
  refine aN ?_
  refine aB dCo rfl fun K hK=>?_;conv=>whnf
  refine nlA rfl ?_;conv=>whnf
  refine bKo rfl ?_;conv=>whnf
  refine gKo rfl ?_;conv=>whnf
  refine cA h fun _ h=>?_;conv=>whnf
  refine nlA rfl ?_;conv=>whnf
  refine bKo rfl ?_;conv=>whnf
  refine And.intro rfl (And.intro (nle rfl) (And.intro rfl ?_));conv=>whnf
  refine hK _ _ _ ?_
  refine aB dCo rfl fun K hK=>?_;conv=>whnf
  replace h:=eW h
  refine nlA rfl ?_;conv=>whnf
  refine bKo rfl ?_;conv=>whnf
  refine gKo rfl ?_;conv=>whnf
  replace h:=bE h
  refine mF h45 h (WkL.refl _) (fun _ h=>?_);conv=>whnf
  refine cLk h (fun _ h=>?_) (fun _ h=>?_)<;>(conv=>whnf)
  ·refine nlA rfl ?_;conv=>whnf
   refine bKo rfl ?_;conv=>whnf
   refine gKo rfl ?_;conv=>whnf
   replace h:=bE h
   refine mF h45 h (WkL.refl _) (fun _ h=>?_);conv=>whnf
   refine hK _ _ _ ?_
   replace h:=eW h
   refine aT fun K1 K2 hK1 hK2=>?_;conv=>whnf
   refine cLk h (fun _ h=>?_) (fun _ h=>?_)
   ·refine hK1 ?_
    refine cK dCo rfl fun K hK=>?_;conv=>whnf
    refine nlA rfl ?_;conv=>whnf
    refine bKo rfl ?_;conv=>whnf
    refine gKo rfl ?_;conv=>whnf
    refine hK _ _ _ ?_
    refine iBn ?_
    refine tHn ?_
    refine cK dCo rfl fun K hK=>?_;conv=>whnf
    refine hK _ _ _ ?_
    refine tHn ?_
    replace h:=bY h
    refine ⟨_,h,?_⟩
    refine gQ ?_;conv=>whnf
    exact And.intro rfl (And.intro (aLc wkI (aLc wkI (aLc (WkR.so (fun _=>rfl)) (aLc (wkr (lsL fun _=>(lsI _ _))) (aLc wkI (aLc wkI (aLc (WkR.ptr (fun _=>rfl)) aLn))))))) (aLc ⟨some _,rfl,bRc rfl (cKc wkI (cKc (wkr (lsL fun _=>(aC _))) cKn))⟩ (aLc ⟨some _,rfl,jP rfl (fun _=>(lsC (lsB _) lsN))⟩ aLn)))
   refine hK2 ?_
   refine cK dCo rfl fun K hK=>?_;conv=>whnf
   refine lD h (rfl) fun hx154 h=>?_;conv=>whnf
   refine bKo rfl ?_;conv=>whnf
   refine yL (enc:=eB) (d:=default) (q:=0) h (fun _=>rfl) (rfl) hx154 rfl (nle rfl) rfl rfl (fun h=>?_);conv=>whnf
   refine hK _ _ _ ?_
   refine iBn ?_
   refine tHn ?_
   refine cK dCo rfl fun K hK=>?_;conv=>whnf
   refine hK _ _ _ ?_
   refine tHn ?_
   replace h:=bY h
   refine ⟨_,h,?_⟩
   refine gQ ?_;conv=>whnf
   exact And.intro rfl (And.intro (aLc wkI (aLc wkI (aLc (WkR.soN (fun _=>rfl) (oQ rfl).symm) (aLc (wkr (lsL fun _=>(lsI _ _))) (aLc wkI (aLc wkI (aLc (WkR.ptr (fun _=>rfl)) aLn))))))) (aLc ⟨some _,rfl,bRc rfl (cKc wkI (cKc (wkr (lsL fun _=>(aC _))) cKn))⟩ (aLc ⟨some _,rfl,jP rfl (fun _=>(lsC (lsB _) lsN))⟩ aLn)))
  refine hK _ _ _ ?_
  replace h:=eW h
  refine aT fun K1 K2 hK1 hK2=>?_;conv=>whnf
  refine hK2 ?_
  replace h:=uF h
  refine cK dCo rfl fun K hK=>?_;conv=>whnf
  refine lD h (rfl) fun hx156 h=>?_;conv=>whnf
  refine bKo rfl ?_;conv=>whnf
  refine yL (enc:=eB) (d:=default) (q:=0) h (fun _=>rfl) (rfl) hx156 rfl (nle rfl) rfl rfl (fun h=>?_);conv=>whnf
  refine hK _ _ _ ?_
  refine iBn ?_
  refine tHn ?_
  refine cK dCo rfl fun K hK=>?_;conv=>whnf
  refine hK _ _ _ ?_
  refine tHn ?_
  replace h:=bY h
  refine ⟨_,h,?_⟩
  refine gQ ?_;conv=>whnf
  exact And.intro rfl (And.intro (aLc wkI (aLc wkI (aLc (WkR.soN (fun _=>rfl) (oQ rfl).symm) (aLc (wkr (lsL fun _=>(lsI _ _))) (aLc wkI (aLc wkI (aLc (WkR.ptr (fun _=>rfl)) aLn))))))) (aLc ⟨some _,rfl,bRc rfl (cKc wkI (cKc (wkr (lsL fun _=>(aC _))) cKn))⟩ (aLc ⟨some _,rfl,jP rfl (fun _=>(lsC (lsB _) lsN))⟩ aLn)))
 refine hK2 ?_
 refine bN ?_
 refine aW ?_
 refine aW ?_
 refine aV ?_
 replace h:=eA h
 replace h:=dZ h
 refine tHn ?_
 refine aL ?_
 refine aN ?_
 replace h:=bE h
 refine xO (body:=jK _) rfl h [1,3,4] [4] [] [] (fun kl kh kr ids b s=>⟨ofL ([(2,eI s.1),(10,eI s.2.1),(9,.so (b+0) 0 s.2.2.length 1)]++kl),ofH (([]++kh)++([(b+0,.cells (flE (ceE eB) s.2.2))]++kr)),b+128⟩) ?_;(conv=>whnf);refine And.intro ?_ (fun s m h=>dY ?_)
 ·refine gQ ?_;conv=>whnf
  exact And.intro rfl (And.intro (aLc wkI (aLc wkI (aLc (WkR.so (fun _=>rfl)) (aLc (wkr (lsL fun _=>(lsI _ _))) (aLc wkI (aLc (WkR.ptr (fun _=>rfl)) aLn)))))) (aLc ⟨some _,rfl,bRc rfl (cKc wkI (cKc (wkr (lsL fun _=>(aC _))) cKn))⟩ (aLc ⟨some _,rfl,jP rfl (fun _=>(lsC (lsB _) lsN))⟩ aLn)))
 replace h:=bE h;rw [jK.eq_1] at h
 refine aL ?_
 refine aB dCo rfl fun K hK=>?_;conv=>whnf
 refine hK _ _ _ ?_
 refine aT fun K1 K2 hK1 hK2=>?_;conv=>whnf
 refine cLk h (fun _ h=>?_) (fun _ h=>?_)
 ·refine hK1 ?_
  refine aK ?_
  refine tHn ?_
  refine aL ?_
  refine aN ?_
  refine aB dCo rfl fun K hK=>?_;conv=>whnf
  refine hK _ _ _ ?_
  refine aL ?_
  refine aB dCo rfl fun K hK=>?_;conv=>whnf
  refine hK _ _ _ ?_
  refine aN ?_
  replace h:=bE h
  refine xO (body:=gV _ _) rfl h [1,2,3,4,9,10] [4] [9] [] (fun kl kh kr ids b s=>⟨ofL ([(13,eI s.1),(14,eI s.2)]++kl),ofH (([]++kh)++([]++kr)),b+64⟩) ?_;(conv=>whnf);refine And.intro ?_ (fun s m h=>dY ?_)
  ·refine gQ ?_;conv=>whnf
   exact And.intro rfl (And.intro (aLc wkI (aLc wkI (aLc (wkr (lsL fun _=>(lsI _ _))) (aLc wkI (aLc wkI (aLc (WkR.ptr (fun _=>rfl)) (aLc (WkR.so (fun _=>rfl)) (aLc wkI aLn)))))))) (aLc ⟨some _,rfl,bRc rfl (cKc wkI (cKc (wkr (lsL fun _=>(aC _))) cKn))⟩ (aLc ⟨some _,rfl,jP rfl (fun _=>(lsC (lsB _) lsN))⟩ aLn)))
  replace h:=bE h;rw [gV.eq_1] at h
  refine aL ?_
  refine aB dCo rfl fun K hK=>?_;conv=>whnf
  refine nlA rfl ?_;conv=>whnf
  refine bKo rfl ?_;conv=>whnf
  refine gKo rfl ?_;conv=>whnf
  refine hK _ _ _ ?_
  refine aT fun K1 K2 hK1 hK2=>?_;conv=>whnf
  refine cLk h (fun _ h=>?_) (fun _ h=>?_)
  ·refine hK1 ?_
   refine aK ?_
   refine tHn ?_
   refine aL ?_
   refine aN ?_
   refine iZ dCo cJ rfl (by kernel_rfl) fun K hK=>?_;conv=>whnf
   replace h:=eW h
   refine lD h (rfl) fun hx340 h=>?_;conv=>whnf
   refine nlA rfl ?_;conv=>whnf
   refine bKo rfl ?_;conv=>whnf
   refine wM (enc:=eB) (d:=default) (q:=0) (fun _=>rfl) (rfl) hx340 (nle rfl) rfl ?_;conv=>whnf
   refine cLk h (fun _ h=>?_) (fun _ h=>?_)<;>(conv=>whnf)
   ·refine cLk h (fun _ h=>?_) (fun _ h=>?_)<;>(conv=>whnf)
    ·refine hK _ _ _ ?_
     replace h:=eW h
     refine aT fun K1 K2 hK1 hK2=>?_;conv=>whnf
     refine hK1 ?_
     replace h:=kR h
     refine cK dCo rfl fun K hK=>?_;conv=>whnf
     refine hK _ _ _ ?_
     refine iBn ?_
     refine tHn ?_
     refine cK dCo rfl fun K hK=>?_;conv=>whnf
     refine hK _ _ _ ?_
     refine tHn ?_
     replace h:=bY h
     refine ⟨_,h,?_⟩
     refine gQ ?_;conv=>whnf
     exact And.intro rfl (And.intro (aLc wkI (aLc wkI (aLc (wkr (lsL fun _=>(lsI _ _))) (aLc wkI (aLc wkI (aLc (WkR.ptr (fun _=>rfl)) (aLc (WkR.so (fun _=>rfl)) (aLc wkI aLn)))))))) (aLc ⟨some _,rfl,bRc rfl (cKc wkI (cKc (wkr (lsL fun _=>(aC _))) cKn))⟩ (aLc ⟨some _,rfl,jP rfl (fun _=>(lsC (lsB _) lsN))⟩ aLn)))
    refine nlA rfl ?_;conv=>whnf
    refine bKo rfl ?_;conv=>whnf
    refine gKo rfl ?_;conv=>whnf
    refine cA h fun _ h=>?_;conv=>whnf
    refine gKo rfl ?_;conv=>whnf
    refine nlA rfl ?_;conv=>whnf
    refine bKo rfl ?_;conv=>whnf
    refine gKo rfl ?_;conv=>whnf
    refine cA h fun _ h=>?_;conv=>whnf
    refine gKo rfl ?_;conv=>whnf
    refine hK _ _ _ ?_
    replace h:=eW h
    refine aT fun K1 K2 hK1 hK2=>?_;conv=>whnf
    refine cLk h (fun _ h=>?_) (fun _ h=>?_)
    ·refine hK1 ?_
     refine cK dCo rfl fun K hK=>?_;conv=>whnf
     refine hK _ _ _ ?_
     refine iBn ?_
     refine tHn ?_
     refine cK dCo rfl fun K hK=>?_;conv=>whnf
     refine hK _ _ _ ?_
     refine tHn ?_
     replace h:=bY h
     refine ⟨_,h,?_⟩
     refine gQ ?_;conv=>whnf
     exact And.intro rfl (And.intro (aLc wkI (aLc wkI (aLc (wkr (lsL fun _=>(lsI _ _))) (aLc wkI (aLc wkI (aLc (WkR.ptr (fun _=>rfl)) (aLc (WkR.so (fun _=>rfl)) (aLc wkI aLn)))))))) (aLc ⟨some _,rfl,bRc rfl (cKc wkI (cKc (wkr (lsL fun _=>(aC _))) cKn))⟩ (aLc ⟨some _,rfl,jP rfl (fun _=>(lsC (lsB _) lsN))⟩ aLn)))
    refine hK2 ?_
    refine aK ?_
    refine iBn ?_
    refine tHn ?_
    refine cK dCo rfl fun K hK=>?_;conv=>whnf
    refine hK _ _ _ ?_
    refine tHn ?_
    replace h:=bY h
    refine ⟨_,h,?_⟩
    refine gQ ?_;conv=>whnf
    exact And.intro rfl (And.intro (aLc wkI (aLc wkI (aLc (wkr (lsL fun _=>(lsI _ _))) (aLc wkI (aLc wkI (aLc (WkR.ptr (fun _=>rfl)) (aLc (WkR.so (fun _=>rfl)) (aLc wkI aLn)))))))) (aLc ⟨some _,rfl,bRc rfl (cKc wkI (cKc (wkr (lsL fun _=>(aC _))) cKn))⟩ (aLc ⟨some _,rfl,jP rfl (fun _=>(lsC (lsB _) lsN))⟩ aLn)))
   refine hK _ _ _ ?_
   replace h:=eW h
   refine aT fun K1 K2 hK1 hK2=>?_;conv=>whnf
   refine hK2 ?_
   replace h:=uF h
   refine aK ?_
   refine iBn ?_
   refine tHn ?_
   refine cK dCo rfl fun K hK=>?_;conv=>whnf
   refine hK _ _ _ ?_
   refine tHn ?_
   replace h:=bY h
   refine ⟨_,h,?_⟩
   refine gQ ?_;conv=>whnf
   exact And.intro rfl (And.intro (aLc wkI (aLc wkI (aLc (wkr (lsL fun _=>(lsI _ _))) (aLc wkI (aLc wkI (aLc (WkR.ptr (fun _=>rfl)) (aLc (WkR.so (fun _=>rfl)) (aLc wkI aLn)))))))) (aLc ⟨some _,rfl,bRc rfl (cKc wkI (cKc (wkr (lsL fun _=>(aC _))) cKn))⟩ (aLc ⟨some _,rfl,jP rfl (fun _=>(lsC (lsB _) lsN))⟩ aLn)))
  refine hK2 ?_
  refine bN ?_
  refine aW ?_
  refine aW ?_
  refine aV ?_
  replace h:=eA h
  replace h:=dZ h
  refine tHn ?_
  refine aB dCo rfl fun K hK=>?_;conv=>whnf
  refine hK _ _ _ ?_
  replace h:=eW h
  refine aT fun K1 K2 hK1 hK2=>?_;conv=>whnf
  refine cLk h (fun _ h=>?_) (fun _ h=>?_)
  ·refine hK1 ?_
   refine aB dCo rfl fun K hK=>?_;conv=>whnf
   refine lD h (rfl) fun hx342 h=>?_;conv=>whnf
   refine bKo rfl ?_;conv=>whnf
   refine yL (enc:=eB) (d:=default) (q:=0) h (fun _=>rfl) (rfl) hx342 rfl (nle rfl) rfl rfl (fun h=>?_);conv=>whnf
   refine hK _ _ _ ?_
   refine cK dCo rfl fun K hK=>?_;conv=>whnf
   refine nlA rfl ?_;conv=>whnf
   refine bKo rfl ?_;conv=>whnf
   refine gKo rfl ?_;conv=>whnf
   refine cA h fun _ h=>?_;conv=>whnf
   refine gKo rfl ?_;conv=>whnf
   refine hK _ _ _ ?_
   refine iBn ?_
   refine tHn ?_
   refine cK dCo rfl fun K hK=>?_;conv=>whnf
   refine hK _ _ _ ?_
   refine tHn ?_
   replace h:=bY h
   refine ⟨_,h,?_⟩
   refine gQ ?_;conv=>whnf
   exact And.intro rfl (And.intro (aLc wkI (aLc wkI (aLc (WkR.soN (fun _=>rfl) (oQ rfl).symm) (aLc (wkr (lsL fun _=>(lsI _ _))) (aLc wkI (aLc (WkR.ptr (fun _=>rfl)) aLn)))))) (aLc ⟨some _,rfl,bRc rfl (cKc wkI (cKc (wkr (lsL fun _=>(aC _))) cKn))⟩ (aLc ⟨some _,rfl,jP rfl (fun _=>(lsC (lsB _) lsN))⟩ aLn)))
  refine hK2 ?_
  refine aK ?_
  refine iBn ?_
  refine tHn ?_
  refine cK dCo rfl fun K hK=>?_;conv=>whnf
  refine hK _ _ _ ?_
  refine tHn ?_
  replace h:=bY h
  refine ⟨_,h,?_⟩
  refine gQ ?_;conv=>whnf
  exact And.intro rfl (And.intro (aLc wkI (aLc wkI (aLc (WkR.so (fun _=>rfl)) (aLc (wkr (lsL fun _=>(lsI _ _))) (aLc wkI (aLc (WkR.ptr (fun _=>rfl)) aLn)))))) (aLc ⟨some _,rfl,bRc rfl (cKc wkI (cKc (wkr (lsL fun _=>(aC _))) cKn))⟩ (aLc ⟨some _,rfl,jP rfl (fun _=>(lsC (lsB _) lsN))⟩ aLn)))
 refine hK2 ?_
 refine bN ?_
 refine aW ?_
 refine aW ?_
 refine aV ?_
 replace h:=eA h
 replace h:=dZ h
 refine tHn ?_
 refine aL ?_
 refine aB dCo rfl fun K hK=>?_;conv=>whnf
 refine hK _ _ _ ?_
 refine aN ?_
 replace h:=bE h
 refine dS (body:=jJ _ _ _) rfl h [1,3,4] [4] [] (fun kl kh ids b s=>⟨ofL ([(10,eI s.1),(15,eI s.2)]++kl),ofH ([]++kh),b+64⟩) ?_;(conv=>whnf);refine And.intro ?_ (fun s m h=>dY ?_)
 ·refine aO ?_;conv=>whnf
  exact And.intro rfl (And.intro (aLc wkI (aLc wkI (aLc (wkr (lsL fun _=>(lsI _ _))) (aLc wkI (aLc (WkR.ptr (fun _=>rfl)) aLn))))) (aLc ⟨some _,rfl,bRc rfl (cKc wkI (cKc (wkr (lsL fun _=>(aC _))) cKn))⟩ aLn))
 replace h:=bE h;rw [jJ.eq_1] at h
 refine aL ?_
 refine aB dCo rfl fun K hK=>?_;conv=>whnf
 refine nlA rfl ?_;conv=>whnf
 refine bKo rfl ?_;conv=>whnf
 refine gKo rfl ?_;conv=>whnf
 refine hK _ _ _ ?_
 refine aT fun K1 K2 hK1 hK2=>?_;conv=>whnf
 refine cLk h (fun _ h=>?_) (fun _ h=>?_)
 ·refine hK1 ?_
  refine aK ?_
  refine tHn ?_
  refine aL ?_
  refine aN ?_
  refine aB dCo rfl fun K hK=>?_;conv=>whnf
  replace h:=bE h
  refine mF h45 h (WkL.refl _) (fun _ h=>?_);conv=>whnf
  refine hK _ _ _ ?_
  replace h:=eW h
  refine aT fun K1 K2 hK1 hK2=>?_;conv=>whnf
  refine cLk h (fun _ h=>?_) (fun _ h=>?_)
  ·refine hK1 ?_
   refine cK dCo rfl fun K hK=>?_;conv=>whnf
   refine cA h fun _ h=>?_;conv=>whnf
   refine gKo rfl ?_;conv=>whnf
   refine hK _ _ _ ?_
   refine iBn ?_
   refine tHn ?_
   refine cK dCo rfl fun K hK=>?_;conv=>whnf
   refine hK _ _ _ ?_
   refine tHn ?_
   replace h:=bY h
   refine ⟨_,h,?_⟩
   refine aO ?_;conv=>whnf
   exact And.intro rfl (And.intro (aLc wkI (aLc wkI (aLc (wkr (lsL fun _=>(lsI _ _))) (aLc wkI (aLc (WkR.ptr (fun _=>rfl)) aLn))))) (aLc ⟨some _,rfl,bRc rfl (cKc wkI (cKc (wkr (lsL fun _=>(aC _))) cKn))⟩ aLn))
  refine hK2 ?_
  refine aK ?_
  refine iBn ?_
  refine tHn ?_
  refine cK dCo rfl fun K hK=>?_;conv=>whnf
  refine hK _ _ _ ?_
  refine tHn ?_
  replace h:=bY h
  refine ⟨_,h,?_⟩
  refine aO ?_;conv=>whnf
  exact And.intro rfl (And.intro (aLc wkI (aLc wkI (aLc (wkr (lsL fun _=>(lsI _ _))) (aLc wkI (aLc (WkR.ptr (fun _=>rfl)) aLn))))) (aLc ⟨some _,rfl,bRc rfl (cKc wkI (cKc (wkr (lsL fun _=>(aC _))) cKn))⟩ aLn))
 refine hK2 ?_
 refine bN ?_
 refine aW ?_
 refine aW ?_
 refine aV ?_
 replace h:=eA h
 replace h:=dZ h
 refine tHn ?_
 refine aB dCo rfl fun K hK=>?_;conv=>whnf
 refine hK _ _ _ ?_
 refine aJ ?_
 replace h:=aI h
 refine aE dCo fun K hK=>?_;conv=>whnf
 refine hK _ ?_
 cases h
 exact Wk.refl _
theorem uW {T:Tbl} (hT:T 55=aH oR) {args:List AV} {hp:bF} {id:Nat} {k:AV→Prop} {a0:bG} {a1:List Int} {a2:Int} {a3:Int} {Φ:Int→Prop} (h:W (iP a0 a1 a2 a3) Φ) (hw:WkL args [fF a0,(eL 1 eI default) a1,eI a2,eI a3]) (hk:∀ y,Φ y→k (eI y)):bZ T 55 args hp id k:=by
 obtain ⟨y,e,hy⟩:=dL h
 exact aS hT ⟨a0,a1,a2,a3,rfl,kS e rfl⟩ (by exact (lsI _ _)) hw (hk y hy)
  def oV (a0:aD) (y1:bG×(List Int)×Int) (s3:Int×Int):Option (Ct (Int×Int) (Int×Int)):=gd (0≤a0.Net.N) (cn (decide (s3.2<(aAw .i64 1 a0.Net.N))) (bd (iP y1.1 y1.2.1 a0.Faults s3.2) fun y4=>
  some (.nx ((aA9 s3.1 y4),(wr (s3.2+1))))) (some (.bk (s3.1,s3.2))))
def lP (a0:aD) (a1:Int):Option (Int×Int):=bd (nE a0 a1) fun y1=>cn (y1.2.2 !=
  0) (some (0,y1.2.2)) (bd (iP y1.1 y1.2.1 a0.Faults 1) fun y2=>bd (lp (oV a0 y1) FU (y2,2)) fun c5=>smK c5 (fun s6=>some (s6.1,0)) (fun r7=>
  some r7))
def nW:List AV→AV→Prop:=fun args r=>∃ a0 a1,args=[bD a0,eI a1]∧W (lP a0 a1) fun y=>r=(.tup [eI y.1,eI y.2])
theorem aCB {T:Tbl} (hT:TOk Tryz.prog T) (hpf:cI T PF) (h18:T 18=aH pN) (h55:T 55=aH oR):FOk Tryz.prog 20 (aH nW):=by
 refine bB hT hpf Tryz.func20 rfl Tryz.ntmps20 Tryz.results20 (by decide) ?_
 rintro args r ⟨a0,a1,rfl,h⟩
 refine ⟨nle rfl,?_,?_⟩
 ·exact (lsC (aR _) (lsC (lsI _ _) lsN))
 rw [lP.eq_1] at h
 refine aB dCo rfl fun K hK=>?_;conv=>whnf
 refine hK _ _ _ ?_
 refine aB dCo rfl fun K hK=>?_;conv=>whnf
 refine nlA rfl ?_;conv=>whnf
 refine bKo rfl ?_;conv=>whnf
 refine nlA rfl ?_;conv=>whnf
 replace h:=bE h
 refine wR h18 h (WkL.refl _) (fun _ h=>?_);conv=>whnf
 refine bKo rfl ?_;conv=>whnf
 refine And.intro rfl (And.intro (nle rfl) (And.intro rfl ?_));conv=>whnf
 refine hK _ _ _ ?_
 refine aL ?_
 refine aB dCo rfl fun K hK=>?_;conv=>whnf
 refine hK _ _ _ ?_
 refine aT fun K1 K2 hK1 hK2=>?_;conv=>whnf
 refine cLk h (fun _ h=>?_) (fun _ h=>?_)
 ·refine hK1 ?_
  refine aB dCo rfl fun K hK=>?_;conv=>whnf
  refine hK _ _ _ ?_
  refine aJ ?_
  refine aM ?_
  replace h:=aI h
  refine aE dCo fun K hK=>?_;conv=>whnf
  refine hK _ ?_
  cases h
  exact Wk.refl _
 refine hK2 ?_
 refine aK ?_
 refine tHn ?_
 refine aB dCo rfl fun K hK=>?_;conv=>whnf
 refine nlA rfl ?_;conv=>whnf
 refine bKo rfl ?_;conv=>whnf
 refine nlA rfl ?_;conv=>whnf
 refine nlA rfl ?_;conv=>whnf
 refine bKo rfl ?_;conv=>whnf
 refine gKo rfl ?_;conv=>whnf
 replace h:=bE h
 refine uW h55 h (WkL.refl _) (fun _ h=>?_);conv=>whnf
 refine hK _ _ _ ?_
 refine aL ?_
 refine aB dCo rfl fun K hK=>?_;conv=>whnf
 refine hK _ _ _ ?_
 refine aN ?_
 replace h:=bE h
 refine dS (body:=oV _ _) rfl h [2,6,7] [2,6] [] (fun kl kh ids b s=>⟨ofL ([(9,eI s.1),(10,eI s.2)]++kl),ofH ([]++kh),b+64⟩) ?_;(conv=>whnf);refine And.intro ?_ (fun s m h=>dY ?_)
 ·refine aO ?_;conv=>whnf
  exact And.intro rfl (And.intro (aLc wkI (aLc wkI (aLc (WkR.ptr (fun _=>rfl)) (aLc (WkR.ptr (fun _=>rfl)) (aLc (wkr (lsL fun _=>(lsI _ _))) aLn))))) (aLc ⟨some _,rfl,bRc rfl (cKc wkI (cKc (wkr (lsL fun _=>(aC _))) (cKc (wkr (lsL fun _=>(lsI _ _))) (cKc (wkr (lsL fun _=>(lsI _ _))) (cKc wkI (cKc (wkr (lsL fun _=>(aA _))) cKn))))))⟩ (aLc ⟨some _,rfl,bRc rfl (cKc wkI (cKc (wkr (lsL fun _=>(aC _))) cKn))⟩ aLn)))
 replace h:=bE h;rw [oV.eq_1] at h
 refine aL ?_
 refine aB dCo rfl fun K hK=>?_;conv=>whnf
 refine nlA rfl ?_;conv=>whnf
 refine bKo rfl ?_;conv=>whnf
 refine gKo rfl ?_;conv=>whnf
 refine kQ h fun _ h=>?_;conv=>whnf
 refine hK _ _ _ ?_
 refine aT fun K1 K2 hK1 hK2=>?_;conv=>whnf
 refine cLk h (fun _ h=>?_) (fun _ h=>?_)
 ·refine hK1 ?_
  refine aK ?_
  refine tHn ?_
  refine aL ?_
  refine aN ?_
  refine cK dCo rfl fun K hK=>?_;conv=>whnf
  refine nlA rfl ?_;conv=>whnf
  refine bKo rfl ?_;conv=>whnf
  refine nlA rfl ?_;conv=>whnf
  refine nlA rfl ?_;conv=>whnf
  refine bKo rfl ?_;conv=>whnf
  refine gKo rfl ?_;conv=>whnf
  replace h:=bE h
  refine uW h55 h (WkL.refl _) (fun _ h=>?_);conv=>whnf
  refine hK _ _ _ ?_
  refine iBn ?_
  refine tHn ?_
  refine cK dCo rfl fun K hK=>?_;conv=>whnf
  refine hK _ _ _ ?_
  refine tHn ?_
  replace h:=bY h
  refine ⟨_,h,?_⟩
  refine aO ?_;conv=>whnf
  exact And.intro rfl (And.intro (aLc wkI (aLc wkI (aLc (WkR.ptr (fun _=>rfl)) (aLc (WkR.ptr (fun _=>rfl)) (aLc (wkr (lsL fun _=>(lsI _ _))) aLn))))) (aLc ⟨some _,rfl,bRc rfl (cKc wkI (cKc (wkr (lsL fun _=>(aC _))) (cKc (wkr (lsL fun _=>(lsI _ _))) (cKc (wkr (lsL fun _=>(lsI _ _))) (cKc wkI (cKc (wkr (lsL fun _=>(aA _))) cKn))))))⟩ (aLc ⟨some _,rfl,bRc rfl (cKc wkI (cKc (wkr (lsL fun _=>(aC _))) cKn))⟩ aLn)))
 refine hK2 ?_
 refine bN ?_
 refine aW ?_
 refine aW ?_
 refine aV ?_
 replace h:=eA h
 replace h:=dZ h
 refine tHn ?_
 refine aB dCo rfl fun K hK=>?_;conv=>whnf
 refine hK _ _ _ ?_
 refine aJ ?_
 replace h:=aI h
 refine aE dCo fun K hK=>?_;conv=>whnf
 refine hK _ ?_
 cases h
 exact Wk.refl _
theorem vW {T:Tbl} (hT:T 20=aH nW) {args:List AV} {hp:bF} {id:Nat} {k:AV→Prop} {a0:aD} {a1:Int} {Φ:Int×Int→Prop} (h:W (lP a0 a1) Φ) (hw:WkL args [bD a0,eI a1]) (hk:∀ y,Φ y→k (.tup [eI y.1,eI y.2])):bZ T 20 args hp id k:=by
 obtain ⟨y,e,hy⟩:=dL h
 exact aS hT ⟨a0,a1,rfl,kS e rfl⟩ (by exact lH (lsC (lsI _ _) (lsC (lsI _ _) lsN))) hw (hk y hy)
def kH (a0:aD) (a1:Int):Option Bool:=bd (lP a0 a1) fun y1=>jn (fun p2:Bool=>some p2) fun k3=>cn (y1.2 ==
  0) (k3 (decide (y1.1≥0))) (k3 false)
def nM:List AV→AV→Prop:=fun args r=>∃ a0 a1,args=[bD a0,eI a1]∧W (kH a0 a1) fun y=>r=(eB y)
theorem aEi {T:Tbl} (hT:TOk Tryz.prog T) (hpf:cI T PF) (h20:T 20=aH nW):FOk Tryz.prog 24 (aH nM):=by
 refine bB hT hpf Tryz.func24 rfl Tryz.ntmps24 Tryz.results24 (by decide) ?_
 rintro args r ⟨a0,a1,rfl,h⟩
 refine ⟨nle rfl,?_,?_⟩
 ·exact (lsC (aR _) (lsC (lsI _ _) lsN))
 rw [kH.eq_1] at h
 refine aB dCo rfl fun K hK=>?_;conv=>whnf
 refine hK _ _ _ ?_
 refine aB dCo rfl fun K hK=>?_;conv=>whnf
 refine nlA rfl ?_;conv=>whnf
 refine bKo rfl ?_;conv=>whnf
 refine nlA rfl ?_;conv=>whnf
 replace h:=bE h
 refine vW h20 h (WkL.refl _) (fun _ h=>?_);conv=>whnf
 refine hK _ _ _ ?_
 refine aB dCo rfl fun K hK=>?_;conv=>whnf
 replace h:=eW h
 refine cLk h (fun _ h=>?_) (fun _ h=>?_)<;>(conv=>whnf)
 ·refine hK _ _ _ ?_
  refine aJ ?_
  replace h:=aI h
  refine aE dCo fun K hK=>?_;conv=>whnf
  refine hK _ ?_
  cases h
  exact Wk.refl _
 refine hK _ _ _ ?_
 refine aJ ?_
 replace h:=aI h
 refine aE dCo fun K hK=>?_;conv=>whnf
 refine hK _ ?_
 cases h
 exact Wk.refl _
theorem qG {T:Tbl} (hT:T 24=aH nM) {args:List AV} {hp:bF} {id:Nat} {k:AV→Prop} {a0:aD} {a1:Int} {Φ:Bool→Prop} (h:W (kH a0 a1) Φ) (hw:WkL args [bD a0,eI a1]) (hk:∀ y,Φ y→k (eB y)):bZ T 24 args hp id k:=by
 obtain ⟨y,e,hy⟩:=dL h
 exact aS hT ⟨a0,a1,rfl,kS e rfl⟩ (by exact (lsB _)) hw (hk y hy)
  def iY (a0:aD) (s2:Int×Int):Option (Ct (Int×Int) (Int×Bool)):=cn (decide (s2.2<(a0.Calls.length:Int))) (gd (0≤s2.2) (bd (kH a0 (wr (s2.1+(aAw .i64 1 s2.2)))) fun y3=>
  jn (fun p4:Int=>some (.nx (p4,(wr (s2.2+1))))) fun k5=>cn y3 (gd (0≤s2.2) (let v6:=(wr (s2.1+(aAw .i64 1 s2.2)));k5 v6)) (k5 s2.1))) (some (.bk (s2.1,s2.2)))
def iJ (a0:aD):Option (Int×Bool):=bd (kH a0 0) fun y1=>cn (!y1) (some (0,false)) (bd (lp (iY a0) FU (0,0)) fun c7=>
  smK c7 (fun s8=>some (s8.1,true)) (fun r9=>some r9))
def lX:List AV→AV→Prop:=fun args r=>∃ a0,args=[bD a0]∧W (iJ a0) fun y=>r=(.tup [eI y.1,eB y.2])
theorem aAC {T:Tbl} (hT:TOk Tryz.prog T) (hpf:cI T PF) (h24:T 24=aH nM):FOk Tryz.prog 11 (aH lX):=by
 refine bB hT hpf Tryz.func11 rfl Tryz.ntmps11 Tryz.results11 (by decide) ?_
 rintro args r ⟨a0,rfl,h⟩
 refine ⟨nle rfl,?_,?_⟩
 ·exact (lsC (aR _) lsN)
 rw [iJ.eq_1] at h
 refine aB dCo rfl fun K hK=>?_;conv=>whnf
 refine hK _ _ _ ?_
 refine aL ?_
 refine aB dCo rfl fun K hK=>?_;conv=>whnf
 refine nlA rfl ?_;conv=>whnf
 refine bKo rfl ?_;conv=>whnf
 refine nlA rfl ?_;conv=>whnf
 replace h:=bE h
 refine qG h24 h (WkL.refl _) (fun _ h=>?_);conv=>whnf
 refine hK _ _ _ ?_
 refine aT fun K1 K2 hK1 hK2=>?_;conv=>whnf
 refine cLk h (fun _ h=>?_) (fun _ h=>?_)
 ·refine hK1 ?_
  refine aB dCo rfl fun K hK=>?_;conv=>whnf
  refine hK _ _ _ ?_
  refine aJ ?_
  refine aM ?_
  replace h:=aI h
  refine aE dCo fun K hK=>?_;conv=>whnf
  refine hK _ ?_
  cases h
  exact Wk.refl _
 refine hK2 ?_
 refine aK ?_
 refine tHn ?_
 refine aB dCo rfl fun K hK=>?_;conv=>whnf
 refine hK _ _ _ ?_
 refine aL ?_
 refine aB dCo rfl fun K hK=>?_;conv=>whnf
 refine hK _ _ _ ?_
 refine aN ?_
 replace h:=bE h
 refine dS (body:=iY _) rfl h [1] [1] [] (fun kl kh ids b s=>⟨ofL ([(4,eI s.1),(5,eI s.2)]++kl),ofH ([]++kh),b+64⟩) ?_;(conv=>whnf);refine And.intro ?_ (fun s m h=>dY ?_)
 ·refine aO ?_;conv=>whnf
  exact And.intro rfl (And.intro (aLc wkI (aLc wkI (aLc (WkR.ptr (fun _=>rfl)) aLn))) (aLc ⟨some _,rfl,bRc rfl (cKc wkI (cKc (wkr (lsL fun _=>(aC _))) (cKc (wkr (lsL fun _=>(lsI _ _))) (cKc (wkr (lsL fun _=>(lsI _ _))) (cKc wkI (cKc (wkr (lsL fun _=>(aA _))) cKn))))))⟩ aLn))
 replace h:=bE h;rw [iY.eq_1] at h
 refine aL ?_
 refine aB dCo rfl fun K hK=>?_;conv=>whnf
 refine nlA rfl ?_;conv=>whnf
 refine bKo rfl ?_;conv=>whnf
 refine gKo rfl ?_;conv=>whnf
 refine hK _ _ _ ?_
 refine aT fun K1 K2 hK1 hK2=>?_;conv=>whnf
 refine cLk h (fun _ h=>?_) (fun _ h=>?_)
 ·refine hK1 ?_
  refine aK ?_
  refine tHn ?_
  refine aL ?_
  refine aN ?_
  refine iZ dCo cJ rfl (by kernel_rfl) fun K hK=>?_;conv=>whnf
  refine nlA rfl ?_;conv=>whnf
  refine bKo rfl ?_;conv=>whnf
  refine nlA rfl ?_;conv=>whnf
  refine kQ h fun _ h=>?_;conv=>whnf
  replace h:=bE h
  refine qG h24 h (WkL.refl _) (fun _ h=>?_);conv=>whnf
  refine hK _ _ _ ?_
  replace h:=eW h
  refine aT fun K1 K2 hK1 hK2=>?_;conv=>whnf
  refine cLk h (fun _ h=>?_) (fun _ h=>?_)
  ·refine hK1 ?_
   refine cK dCo rfl fun K hK=>?_;conv=>whnf
   refine kQ h fun _ h=>?_;conv=>whnf
   refine hK _ _ _ ?_
   refine iBn ?_
   refine tHn ?_
   refine cK dCo rfl fun K hK=>?_;conv=>whnf
   refine hK _ _ _ ?_
   refine tHn ?_
   replace h:=bY h
   refine ⟨_,h,?_⟩
   refine aO ?_;conv=>whnf
   exact And.intro rfl (And.intro (aLc wkI (aLc wkI (aLc (WkR.ptr (fun _=>rfl)) aLn))) (aLc ⟨some _,rfl,bRc rfl (cKc wkI (cKc (wkr (lsL fun _=>(aC _))) (cKc (wkr (lsL fun _=>(lsI _ _))) (cKc (wkr (lsL fun _=>(lsI _ _))) (cKc wkI (cKc (wkr (lsL fun _=>(aA _))) cKn))))))⟩ aLn))
  refine hK2 ?_
  refine aK ?_
  refine iBn ?_
  refine tHn ?_
  refine cK dCo rfl fun K hK=>?_;conv=>whnf
  refine hK _ _ _ ?_
  refine tHn ?_
  replace h:=bY h
  refine ⟨_,h,?_⟩
  refine aO ?_;conv=>whnf
  exact And.intro rfl (And.intro (aLc wkI (aLc wkI (aLc (WkR.ptr (fun _=>rfl)) aLn))) (aLc ⟨some _,rfl,bRc rfl (cKc wkI (cKc (wkr (lsL fun _=>(aC _))) (cKc (wkr (lsL fun _=>(lsI _ _))) (cKc (wkr (lsL fun _=>(lsI _ _))) (cKc wkI (cKc (wkr (lsL fun _=>(aA _))) cKn))))))⟩ aLn))
 refine hK2 ?_
 refine bN ?_
 refine aW ?_
 refine aW ?_
 refine aV ?_
 replace h:=eA h
 replace h:=dZ h
 refine tHn ?_
 refine aB dCo rfl fun K hK=>?_;conv=>whnf
 refine hK _ _ _ ?_
 refine aJ ?_
 replace h:=aI h
 refine aE dCo fun K hK=>?_;conv=>whnf
 refine hK _ ?_
 cases h
 exact Wk.refl _
theorem yE {T:Tbl} (hT:T 11=aH lX) {args:List AV} {hp:bF} {id:Nat} {k:AV→Prop} {a0:aD} {Φ:Int×Bool→Prop} (h:W (iJ a0) Φ) (hw:WkL args [bD a0]) (hk:∀ y,Φ y→k (.tup [eI y.1,eB y.2])):bZ T 11 args hp id k:=by
 obtain ⟨y,e,hy⟩:=dL h
 exact aS hT ⟨a0,rfl,kS e rfl⟩ (by exact lH (lsC (lsI _ _) (lsC (lsB _) lsN))) hw (hk y hy)
def cD (a0:aD) (a1:Int) (a2:bS):Option Bool:=bd (pE a0 a1) fun y1=>cn (!y1) (some false) (jn (fun p2:Int=>cn (a2.Edge !=
  (-1)) (jn (fun p9:Bool=>some p9) fun k10=>bd (fN a2.Edge 0 (wr ((a0.Net.Edges.length:Int)-1))) fun y11=>cn y11 (cn (a2.Failed==0) (cn (a2.Set ==
  0) (bd (nA a0 p2 a2.Edge) fun y12=>ix a0.Net.Edges default a2.Edge fun e13=>let v14:=(decide (y12>e13.Capacity));
  k10 v14) (k10 false)) (k10 false)) (k10 false)) (bd (kG a0 p2) fun y15=>cn (!y15.2.2) (some false) (bd (gR y15.1 a2.Failed) fun y16=>
  jn (fun p17:Bool=>some p17) fun k18=>cn (y16.2==0) (bd (mV a2.Failed) fun y19=>
  cn (decide (y19≤a0.Faults)) (bd (gL y16.1 y15.2.1 (⟨false,[],a2.Set⟩:lG)) fun y20=>k18 y20) (k18 false)) (k18 false)))) fun k3=>cn (a2.Call ==
  (-1)) (cn (a1 != 0) (some false) (k3 a1)) (jn (fun p4:Bool=>cn p4 (some false) (gd (0≤a2.Call) (let v8:=(wr (a1+(aAw .i64 1 a2.Call)));k3 v8))) fun k5=>
  bd (fN a2.Call 0 (wr ((a0.Calls.length:Int)-1))) fun y6=>cn (!y6) (k5 true) (bd (jM a1 a2.Call) fun y7=>k5 y7)))
def gK:List AV→AV→Prop:=fun args r=>∃ a0 a1 a2,args=[bD a0,eI a1,fE a2]∧W (cD a0 a1 a2) fun y=>r=(eB y)
theorem xH {T:Tbl} (hT:TOk Tryz.prog T) (hpf:cI T PF) (h42:T 42=aH pK) (h45:T 45=aH mR) (h46:T 46=aH rC) (h47:T 47=aH qY) (h48:T 48=aH pF) (h49:T 49=aH nJ) (h50:T 50=aH sB) (h51:T 51=aH kU):FOk Tryz.prog 14 (aH gK):=by
 refine bB hT hpf Tryz.func14 rfl Tryz.ntmps14 Tryz.results14 (by decide) ?_
 rintro args r ⟨a0,a1,a2,rfl,h⟩
 refine ⟨nle rfl,?_,?_⟩
 ·exact (lsC (aR _) (lsC (lsI _ _) (lsC (aQ _) lsN)))
 rw [cD.eq_1] at h
 refine aB dCo rfl fun K hK=>?_;conv=>whnf
 refine hK _ _ _ ?_
 refine aL ?_
 refine aB dCo rfl fun K hK=>?_;conv=>whnf
 refine nlA rfl ?_;conv=>whnf
 refine bKo rfl ?_;conv=>whnf
 refine nlA rfl ?_;conv=>whnf
 replace h:=bE h
 refine xM h46 h (WkL.refl _) (fun _ h=>?_);conv=>whnf
 refine hK _ _ _ ?_
 refine aT fun K1 K2 hK1 hK2=>?_;conv=>whnf
 refine cLk h (fun _ h=>?_) (fun _ h=>?_)
 ·refine hK1 ?_
  refine aB dCo rfl fun K hK=>?_;conv=>whnf
  refine hK _ _ _ ?_
  refine aJ ?_
  refine aM ?_
  replace h:=aI h
  refine aE dCo fun K hK=>?_;conv=>whnf
  refine hK _ ?_
  cases h
  exact Wk.refl _
 refine hK2 ?_
 refine aK ?_
 refine tHn ?_
 refine aB dCo rfl fun K hK=>?_;conv=>whnf
 refine hK _ _ _ ?_
 refine aL ?_
 refine aB dCo rfl fun K hK=>?_;conv=>whnf
 refine nlA rfl ?_;conv=>whnf
 refine bKo rfl ?_;conv=>whnf
 refine gKo rfl ?_;conv=>whnf
 refine hK _ _ _ ?_
 replace h:=eW h
 refine aT fun K1 K2 hK1 hK2=>?_;conv=>whnf
 refine cLk h (fun _ h=>?_) (fun _ h=>?_)
 ·refine hK1 ?_
  refine aB dCo rfl fun K hK=>?_;conv=>whnf
  refine hK _ _ _ ?_
  refine aT fun K1 K2 hK1 hK2=>?_;conv=>whnf
  refine cLk h (fun _ h=>?_) (fun _ h=>?_)
  ·refine hK1 ?_
   refine aB dCo rfl fun K hK=>?_;conv=>whnf
   refine hK _ _ _ ?_
   refine aJ ?_
   refine aM ?_
   replace h:=aI h
   refine aE dCo fun K hK=>?_;conv=>whnf
   refine hK _ ?_
   cases h
   exact Wk.refl _
  refine hK2 ?_
  refine aK ?_
  refine tHn ?_
  refine aL ?_
  refine aB dCo rfl fun K hK=>?_;conv=>whnf
  refine nlA rfl ?_;conv=>whnf
  refine bKo rfl ?_;conv=>whnf
  refine gKo rfl ?_;conv=>whnf
  refine hK _ _ _ ?_
  refine aT fun K1 K2 hK1 hK2=>?_;conv=>whnf
  refine cLk h (fun _ h=>?_) (fun _ h=>?_)
  ·refine hK1 ?_
   refine iZ dCo cJ rfl (by kernel_rfl) fun K hK=>?_;conv=>whnf
   replace h:=eW h
   refine nlA rfl ?_;conv=>whnf
   refine bKo rfl ?_;conv=>whnf
   refine gKo rfl ?_;conv=>whnf
   refine nlA rfl ?_;conv=>whnf
   refine bKo rfl ?_;conv=>whnf
   refine gKo rfl ?_;conv=>whnf
   replace h:=bE h
   refine fU h42 h (WkL.refl _) (fun _ h=>?_);conv=>whnf
   refine cLk h (fun _ h=>?_) (fun _ h=>?_)<;>(conv=>whnf)
   ·refine nlA rfl ?_;conv=>whnf
    refine bKo rfl ?_;conv=>whnf
    refine gKo rfl ?_;conv=>whnf
    refine cLk h (fun _ h=>?_) (fun _ h=>?_)<;>(conv=>whnf)
    ·refine nlA rfl ?_;conv=>whnf
     refine bKo rfl ?_;conv=>whnf
     refine gKo rfl ?_;conv=>whnf
     refine cLk h (fun _ h=>?_) (fun _ h=>?_)<;>(conv=>whnf)
     ·refine nlA rfl ?_;conv=>whnf
      refine bKo rfl ?_;conv=>whnf
      refine nlA rfl ?_;conv=>whnf
      refine nlA rfl ?_;conv=>whnf
      refine bKo rfl ?_;conv=>whnf
      refine gKo rfl ?_;conv=>whnf
      replace h:=bE h
      refine uB h47 h (WkL.refl _) (fun _ h=>?_);conv=>whnf
      refine nlA rfl ?_;conv=>whnf
      refine bKo rfl ?_;conv=>whnf
      refine gKo rfl ?_;conv=>whnf
      refine nlA rfl ?_;conv=>whnf
      refine bKo rfl ?_;conv=>whnf
      refine gKo rfl ?_;conv=>whnf
      refine cA h fun _ h=>?_;conv=>whnf
      refine gKo rfl ?_;conv=>whnf
      refine hK _ _ _ ?_
      refine aJ ?_
      refine aM ?_
      replace h:=aI h
      refine aE dCo fun K hK=>?_;conv=>whnf
      refine hK _ ?_
      cases h
      exact Wk.refl _
     refine hK _ _ _ ?_
     refine aJ ?_
     refine aM ?_
     replace h:=aI h
     refine aE dCo fun K hK=>?_;conv=>whnf
     refine hK _ ?_
     cases h
     exact Wk.refl _
    refine hK _ _ _ ?_
    refine aJ ?_
    refine aM ?_
    replace h:=aI h
    refine aE dCo fun K hK=>?_;conv=>whnf
    refine hK _ ?_
    cases h
    exact Wk.refl _
   refine hK _ _ _ ?_
   refine aJ ?_
   refine aM ?_
   replace h:=aI h
   refine aE dCo fun K hK=>?_;conv=>whnf
   refine hK _ ?_
   cases h
   exact Wk.refl _
  refine hK2 ?_
  refine aK ?_
  refine tHn ?_
  refine aB dCo rfl fun K hK=>?_;conv=>whnf
  refine nlA rfl ?_;conv=>whnf
  refine bKo rfl ?_;conv=>whnf
  refine nlA rfl ?_;conv=>whnf
  replace h:=bE h
  refine tD h48 h (WkL.refl _) (fun _ h=>?_);conv=>whnf
  refine bKo rfl ?_;conv=>whnf
  refine And.intro rfl (And.intro (nle rfl) (And.intro rfl ?_));conv=>whnf
  refine hK _ _ _ ?_
  refine aL ?_
  refine aB dCo rfl fun K hK=>?_;conv=>whnf
  refine hK _ _ _ ?_
  refine aT fun K1 K2 hK1 hK2=>?_;conv=>whnf
  refine cLk h (fun _ h=>?_) (fun _ h=>?_)
  ·refine hK1 ?_
   refine aB dCo rfl fun K hK=>?_;conv=>whnf
   refine hK _ _ _ ?_
   refine aJ ?_
   refine aM ?_
   replace h:=aI h
   refine aE dCo fun K hK=>?_;conv=>whnf
   refine hK _ ?_
   cases h
   exact Wk.refl _
  refine hK2 ?_
  refine aK ?_
  refine tHn ?_
  refine aB dCo rfl fun K hK=>?_;conv=>whnf
  refine nlA rfl ?_;conv=>whnf
  refine bKo rfl ?_;conv=>whnf
  refine nlA rfl ?_;conv=>whnf
  refine nlA rfl ?_;conv=>whnf
  refine bKo rfl ?_;conv=>whnf
  refine gKo rfl ?_;conv=>whnf
  replace h:=bE h
  refine tW h49 h (WkL.refl _) (fun _ h=>?_);conv=>whnf
  refine bKo rfl ?_;conv=>whnf
  refine And.intro rfl (And.intro (nle rfl) (And.intro rfl ?_));conv=>whnf
  refine hK _ _ _ ?_
  refine iZ dCo cJ rfl (by kernel_rfl) fun K hK=>?_;conv=>whnf
  replace h:=eW h
  refine cLk h (fun _ h=>?_) (fun _ h=>?_)<;>(conv=>whnf)
  ·refine nlA rfl ?_;conv=>whnf
   refine bKo rfl ?_;conv=>whnf
   refine gKo rfl ?_;conv=>whnf
   replace h:=bE h
   refine wI h50 h (WkL.refl _) (fun _ h=>?_);conv=>whnf
   refine nlA rfl ?_;conv=>whnf
   refine bKo rfl ?_;conv=>whnf
   refine gKo rfl ?_;conv=>whnf
   refine cLk h (fun _ h=>?_) (fun _ h=>?_)<;>(conv=>whnf)
   ·refine nlA rfl ?_;conv=>whnf
    refine bKo rfl ?_;conv=>whnf
    refine nlA rfl ?_;conv=>whnf
    refine nlA rfl ?_;conv=>whnf
    refine bKo rfl ?_;conv=>whnf
    refine gKo rfl ?_;conv=>whnf
    replace h:=bE h
    refine sN h51 h (aF (Wk.refl _) (aF (Wk.refl _) (aF (fL (aF (Wk.refl _) (aF jI (aF (Wk.refl _) bO)))) bO))) (fun _ h=>?_);conv=>whnf
    refine hK _ _ _ ?_
    refine aJ ?_
    replace h:=aI h
    refine aE dCo fun K hK=>?_;conv=>whnf
    refine hK _ ?_
    cases h
    exact Wk.refl _
   refine hK _ _ _ ?_
   refine aJ ?_
   replace h:=aI h
   refine aE dCo fun K hK=>?_;conv=>whnf
   refine hK _ ?_
   cases h
   exact Wk.refl _
  refine hK _ _ _ ?_
  refine aJ ?_
  replace h:=aI h
  refine aE dCo fun K hK=>?_;conv=>whnf
  refine hK _ ?_
  cases h
  exact Wk.refl _
 refine hK2 ?_
 refine aL ?_
 refine aB dCo rfl fun K hK=>?_;conv=>whnf
 replace h:=eW h
 refine nlA rfl ?_;conv=>whnf
 refine bKo rfl ?_;conv=>whnf
 refine gKo rfl ?_;conv=>whnf
 refine nlA rfl ?_;conv=>whnf
 refine bKo rfl ?_;conv=>whnf
 refine gKo rfl ?_;conv=>whnf
 replace h:=bE h
 refine fU h42 h (WkL.refl _) (fun _ h=>?_);conv=>whnf
 refine cLk h (fun _ h=>?_) (fun _ h=>?_)<;>(conv=>whnf)
 ·refine hK _ _ _ ?_
  refine aT fun K1 K2 hK1 hK2=>?_;conv=>whnf
  refine hK1 ?_
  replace h:=kR h
  refine aB dCo rfl fun K hK=>?_;conv=>whnf
  refine hK _ _ _ ?_
  refine aJ ?_
  refine aM ?_
  refine aM ?_
  replace h:=aI h
  refine aE dCo fun K hK=>?_;conv=>whnf
  refine hK _ ?_
  cases h
  exact Wk.refl _
 refine nlA rfl ?_;conv=>whnf
 refine bKo rfl ?_;conv=>whnf
 refine gKo rfl ?_;conv=>whnf
 replace h:=bE h
 refine mF h45 h (WkL.refl _) (fun _ h=>?_);conv=>whnf
 refine hK _ _ _ ?_
 refine aT fun K1 K2 hK1 hK2=>?_;conv=>whnf
 refine cLk h (fun _ h=>?_) (fun _ h=>?_)
 ·refine hK1 ?_
  refine aB dCo rfl fun K hK=>?_;conv=>whnf
  refine hK _ _ _ ?_
  refine aJ ?_
  refine aM ?_
  refine aM ?_
  replace h:=aI h
  refine aE dCo fun K hK=>?_;conv=>whnf
  refine hK _ ?_
  cases h
  exact Wk.refl _
 refine hK2 ?_
 refine aK ?_
 refine tHn ?_
 refine cK dCo rfl fun K hK=>?_;conv=>whnf
 refine nlA rfl ?_;conv=>whnf
 refine bKo rfl ?_;conv=>whnf
 refine gKo rfl ?_;conv=>whnf
 refine kQ h fun _ h=>?_;conv=>whnf
 refine hK _ _ _ ?_
 refine tHn ?_
 refine aL ?_
 refine aB dCo rfl fun K hK=>?_;conv=>whnf
 refine nlA rfl ?_;conv=>whnf
 refine bKo rfl ?_;conv=>whnf
 refine gKo rfl ?_;conv=>whnf
 refine hK _ _ _ ?_
 refine aT fun K1 K2 hK1 hK2=>?_;conv=>whnf
 refine cLk h (fun _ h=>?_) (fun _ h=>?_)
 ·refine hK1 ?_
  refine iZ dCo cJ rfl (by kernel_rfl) fun K hK=>?_;conv=>whnf
  replace h:=eW h
  refine nlA rfl ?_;conv=>whnf
  refine bKo rfl ?_;conv=>whnf
  refine gKo rfl ?_;conv=>whnf
  refine nlA rfl ?_;conv=>whnf
  refine bKo rfl ?_;conv=>whnf
  refine gKo rfl ?_;conv=>whnf
  replace h:=bE h
  refine fU h42 h (WkL.refl _) (fun _ h=>?_);conv=>whnf
  refine cLk h (fun _ h=>?_) (fun _ h=>?_)<;>(conv=>whnf)
  ·refine nlA rfl ?_;conv=>whnf
   refine bKo rfl ?_;conv=>whnf
   refine gKo rfl ?_;conv=>whnf
   refine cLk h (fun _ h=>?_) (fun _ h=>?_)<;>(conv=>whnf)
   ·refine nlA rfl ?_;conv=>whnf
    refine bKo rfl ?_;conv=>whnf
    refine gKo rfl ?_;conv=>whnf
    refine cLk h (fun _ h=>?_) (fun _ h=>?_)<;>(conv=>whnf)
    ·refine nlA rfl ?_;conv=>whnf
     refine bKo rfl ?_;conv=>whnf
     refine nlA rfl ?_;conv=>whnf
     refine nlA rfl ?_;conv=>whnf
     refine bKo rfl ?_;conv=>whnf
     refine gKo rfl ?_;conv=>whnf
     replace h:=bE h
     refine uB h47 h (WkL.refl _) (fun _ h=>?_);conv=>whnf
     refine nlA rfl ?_;conv=>whnf
     refine bKo rfl ?_;conv=>whnf
     refine gKo rfl ?_;conv=>whnf
     refine nlA rfl ?_;conv=>whnf
     refine bKo rfl ?_;conv=>whnf
     refine gKo rfl ?_;conv=>whnf
     refine cA h fun _ h=>?_;conv=>whnf
     refine gKo rfl ?_;conv=>whnf
     refine hK _ _ _ ?_
     refine aJ ?_
     refine aM ?_
     replace h:=aI h
     refine aE dCo fun K hK=>?_;conv=>whnf
     refine hK _ ?_
     cases h
     exact Wk.refl _
    refine hK _ _ _ ?_
    refine aJ ?_
    refine aM ?_
    replace h:=aI h
    refine aE dCo fun K hK=>?_;conv=>whnf
    refine hK _ ?_
    cases h
    exact Wk.refl _
   refine hK _ _ _ ?_
   refine aJ ?_
   refine aM ?_
   replace h:=aI h
   refine aE dCo fun K hK=>?_;conv=>whnf
   refine hK _ ?_
   cases h
   exact Wk.refl _
  refine hK _ _ _ ?_
  refine aJ ?_
  refine aM ?_
  replace h:=aI h
  refine aE dCo fun K hK=>?_;conv=>whnf
  refine hK _ ?_
  cases h
  exact Wk.refl _
 refine hK2 ?_
 refine aK ?_
 refine tHn ?_
 refine aB dCo rfl fun K hK=>?_;conv=>whnf
 refine nlA rfl ?_;conv=>whnf
 refine bKo rfl ?_;conv=>whnf
 refine nlA rfl ?_;conv=>whnf
 replace h:=bE h
 refine tD h48 h (WkL.refl _) (fun _ h=>?_);conv=>whnf
 refine bKo rfl ?_;conv=>whnf
 refine And.intro rfl (And.intro (nle rfl) (And.intro rfl ?_));conv=>whnf
 refine hK _ _ _ ?_
 refine aL ?_
 refine aB dCo rfl fun K hK=>?_;conv=>whnf
 refine hK _ _ _ ?_
 refine aT fun K1 K2 hK1 hK2=>?_;conv=>whnf
 refine cLk h (fun _ h=>?_) (fun _ h=>?_)
 ·refine hK1 ?_
  refine aB dCo rfl fun K hK=>?_;conv=>whnf
  refine hK _ _ _ ?_
  refine aJ ?_
  refine aM ?_
  replace h:=aI h
  refine aE dCo fun K hK=>?_;conv=>whnf
  refine hK _ ?_
  cases h
  exact Wk.refl _
 refine hK2 ?_
 refine aK ?_
 refine tHn ?_
 refine aB dCo rfl fun K hK=>?_;conv=>whnf
 refine nlA rfl ?_;conv=>whnf
 refine bKo rfl ?_;conv=>whnf
 refine nlA rfl ?_;conv=>whnf
 refine nlA rfl ?_;conv=>whnf
 refine bKo rfl ?_;conv=>whnf
 refine gKo rfl ?_;conv=>whnf
 replace h:=bE h
 refine tW h49 h (WkL.refl _) (fun _ h=>?_);conv=>whnf
 refine bKo rfl ?_;conv=>whnf
 refine And.intro rfl (And.intro (nle rfl) (And.intro rfl ?_));conv=>whnf
 refine hK _ _ _ ?_
 refine iZ dCo cJ rfl (by kernel_rfl) fun K hK=>?_;conv=>whnf
 replace h:=eW h
 refine cLk h (fun _ h=>?_) (fun _ h=>?_)<;>(conv=>whnf)
 ·refine nlA rfl ?_;conv=>whnf
  refine bKo rfl ?_;conv=>whnf
  refine gKo rfl ?_;conv=>whnf
  replace h:=bE h
  refine wI h50 h (WkL.refl _) (fun _ h=>?_);conv=>whnf
  refine nlA rfl ?_;conv=>whnf
  refine bKo rfl ?_;conv=>whnf
  refine gKo rfl ?_;conv=>whnf
  refine cLk h (fun _ h=>?_) (fun _ h=>?_)<;>(conv=>whnf)
  ·refine nlA rfl ?_;conv=>whnf
   refine bKo rfl ?_;conv=>whnf
   refine nlA rfl ?_;conv=>whnf
   refine nlA rfl ?_;conv=>whnf
   refine bKo rfl ?_;conv=>whnf
   refine gKo rfl ?_;conv=>whnf
   replace h:=bE h
   refine sN h51 h (aF (Wk.refl _) (aF (Wk.refl _) (aF (fL (aF (Wk.refl _) (aF jI (aF (Wk.refl _) bO)))) bO))) (fun _ h=>?_);conv=>whnf
   refine hK _ _ _ ?_
   refine aJ ?_
   replace h:=aI h
   refine aE dCo fun K hK=>?_;conv=>whnf
   refine hK _ ?_
   cases h
   exact Wk.refl _
  refine hK _ _ _ ?_
  refine aJ ?_
  replace h:=aI h
  refine aE dCo fun K hK=>?_;conv=>whnf
  refine hK _ ?_
  cases h
  exact Wk.refl _
 refine hK _ _ _ ?_
 refine aJ ?_
 replace h:=aI h
 refine aE dCo fun K hK=>?_;conv=>whnf
 refine hK _ ?_
 cases h
 exact Wk.refl _
theorem gD {T:Tbl} (hT:T 14=aH gK) {args:List AV} {hp:bF} {id:Nat} {k:AV→Prop} {a0:aD} {a1:Int} {a2:bS} {Φ:Bool→Prop} (h:W (cD a0 a1 a2) Φ) (hw:WkL args [bD a0,eI a1,fE a2]) (hk:∀ y,Φ y→k (eB y)):bZ T 14 args hp id k:=by
 obtain ⟨y,e,hy⟩:=dL h
 exact aS hT ⟨a0,a1,a2,rfl,kS e rfl⟩ (by exact (lsB _)) hw (hk y hy)
def oL (a0:aD) (a1:bQ) (s2:Int×Int):Option (Ct (Int×Int) Bool):=cn (decide (s2.2<(a0.Calls.length:Int))) (jn (fun p3:Int=>
  some (.nx (p3,(wr (s2.2+1))))) fun k4=>bd (jM a1.Admitted s2.2) fun y5=>
  cn y5 (k4 s2.1) (cn (decide (s2.1≥(a1.Denied.length:Int))) (some (.rt false)) (jn (fun p6:Bool=>cn p6 (some (.rt false)) (k4 (wr (s2.1+1)))) fun k7=>
  ix a1.Denied default s2.1 fun e8=>cn (e8.Call != s2.2) (k7 true) (gd (0≤s2.2) (ix a1.Denied default s2.1 fun e9=>
  bd (cD a0 (zF .i64 a1.Admitted (wr ((aAw .i64 1 s2.2)-1))) e9) fun y10=>k7 (!y10)))))) (some (.bk (s2.1,s2.2)))
def lS (a0:aD) (a1:bQ):Option Bool:=bd (kH a0 a1.Admitted) fun y1=>
  cn (!y1) (some false) (bd (lp (oL a0 a1) FU (0,0)) fun c11=>smK c11 (fun s12=>let v14:=(s12.1==(a1.Denied.length:Int));some v14) (fun r13=>some r13))
def pX:List AV→AV→Prop:=fun args r=>∃ a0 a1,args=[bD a0,nI a1]∧W (lS a0 a1) fun y=>r=(eB y)
theorem aCw {T:Tbl} (hT:TOk Tryz.prog T) (hpf:cI T PF) (h14:T 14=aH gK) (h24:T 24=aH nM) (h45:T 45=aH mR):FOk Tryz.prog 12 (aH pX):=by
 refine bB hT hpf Tryz.func12 rfl Tryz.ntmps12 Tryz.results12 (by decide) ?_
 rintro args r ⟨a0,a1,rfl,h⟩
 refine ⟨nle rfl,?_,?_⟩
 ·exact (lsC (aR _) (lsC (qB _) lsN))
 rw [lS.eq_1] at h
 refine aB dCo rfl fun K hK=>?_;conv=>whnf
 refine hK _ _ _ ?_
 refine aL ?_
 refine aB dCo rfl fun K hK=>?_;conv=>whnf
 refine nlA rfl ?_;conv=>whnf
 refine bKo rfl ?_;conv=>whnf
 refine nlA rfl ?_;conv=>whnf
 refine nlA rfl ?_;conv=>whnf
 refine bKo rfl ?_;conv=>whnf
 refine gKo rfl ?_;conv=>whnf
 replace h:=bE h
 refine qG h24 h (WkL.refl _) (fun _ h=>?_);conv=>whnf
 refine hK _ _ _ ?_
 refine aT fun K1 K2 hK1 hK2=>?_;conv=>whnf
 refine cLk h (fun _ h=>?_) (fun _ h=>?_)
 ·refine hK1 ?_
  refine aB dCo rfl fun K hK=>?_;conv=>whnf
  refine hK _ _ _ ?_
  refine aJ ?_
  refine aM ?_
  replace h:=aI h
  refine aE dCo fun K hK=>?_;conv=>whnf
  refine hK _ ?_
  cases h
  exact Wk.refl _
 refine hK2 ?_
 refine aK ?_
 refine tHn ?_
 refine aB dCo rfl fun K hK=>?_;conv=>whnf
 refine hK _ _ _ ?_
 refine aL ?_
 refine aB dCo rfl fun K hK=>?_;conv=>whnf
 refine hK _ _ _ ?_
 refine aN ?_
 replace h:=bE h
 refine dS (body:=oL _ _) rfl h [2,3] [2,3] [] (fun kl kh ids b s=>⟨ofL ([(5,eI s.1),(6,eI s.2)]++kl),ofH ([]++kh),b+64⟩) ?_;(conv=>whnf);refine And.intro ?_ (fun s m h=>dY ?_)
 ·refine aO ?_;conv=>whnf
  exact And.intro rfl (And.intro (aLc wkI (aLc wkI (aLc (WkR.ptr (fun _=>rfl)) (aLc (WkR.ptr (fun _=>rfl)) aLn)))) (aLc ⟨some _,rfl,bRc rfl (cKc wkI (cKc (wkr (lsL fun _=>(aC _))) (cKc (wkr (lsL fun _=>(lsI _ _))) (cKc (wkr (lsL fun _=>(lsI _ _))) (cKc wkI (cKc (wkr (lsL fun _=>(aA _))) cKn))))))⟩ (aLc ⟨some _,rfl,bRc rfl (cKc wkI (cKc (wkr (lsL fun _=>(aQ _))) cKn))⟩ aLn)))
 replace h:=bE h;rw [oL.eq_1] at h
 refine aL ?_
 refine aB dCo rfl fun K hK=>?_;conv=>whnf
 refine nlA rfl ?_;conv=>whnf
 refine bKo rfl ?_;conv=>whnf
 refine gKo rfl ?_;conv=>whnf
 refine hK _ _ _ ?_
 refine aT fun K1 K2 hK1 hK2=>?_;conv=>whnf
 refine cLk h (fun _ h=>?_) (fun _ h=>?_)
 ·refine hK1 ?_
  refine aK ?_
  refine tHn ?_
  refine aL ?_
  replace h:=eW h
  refine aN ?_
  refine aL ?_
  refine aB dCo rfl fun K hK=>?_;conv=>whnf
  refine nlA rfl ?_;conv=>whnf
  refine bKo rfl ?_;conv=>whnf
  refine gKo rfl ?_;conv=>whnf
  replace h:=bE h
  refine mF h45 h (WkL.refl _) (fun _ h=>?_);conv=>whnf
  refine hK _ _ _ ?_
  refine aT fun K1 K2 hK1 hK2=>?_;conv=>whnf
  refine cLk h (fun _ h=>?_) (fun _ h=>?_)
  ·refine hK1 ?_
   refine bN ?_
   refine aW ?_
   refine aV ?_
   refine tHn ?_
   refine cK dCo rfl fun K hK=>?_;conv=>whnf
   refine hK _ _ _ ?_
   refine tHn ?_
   replace h:=bY h
   refine ⟨_,h,?_⟩
   refine aO ?_;conv=>whnf
   exact And.intro rfl (And.intro (aLc wkI (aLc wkI (aLc (WkR.ptr (fun _=>rfl)) (aLc (WkR.ptr (fun _=>rfl)) aLn)))) (aLc ⟨some _,rfl,bRc rfl (cKc wkI (cKc (wkr (lsL fun _=>(aC _))) (cKc (wkr (lsL fun _=>(lsI _ _))) (cKc (wkr (lsL fun _=>(lsI _ _))) (cKc wkI (cKc (wkr (lsL fun _=>(aA _))) cKn))))))⟩ (aLc ⟨some _,rfl,bRc rfl (cKc wkI (cKc (wkr (lsL fun _=>(aQ _))) cKn))⟩ aLn)))
  refine hK2 ?_
  refine aK ?_
  refine tHn ?_
  refine aL ?_
  refine aB dCo rfl fun K hK=>?_;conv=>whnf
  refine nlA rfl ?_;conv=>whnf
  refine bKo rfl ?_;conv=>whnf
  refine gKo rfl ?_;conv=>whnf
  refine hK _ _ _ ?_
  refine aT fun K1 K2 hK1 hK2=>?_;conv=>whnf
  refine cLk h (fun _ h=>?_) (fun _ h=>?_)
  ·refine hK1 ?_
   refine aB dCo rfl fun K hK=>?_;conv=>whnf
   refine hK _ _ _ ?_
   refine aJ ?_
   refine aM ?_
   refine aP ?_
   refine aM ?_
   refine aM ?_
   refine aP ?_
   refine aM ?_
   replace h:=iG h
   replace h:=iF h
   replace h:=aI h
   refine aE dCo fun K hK=>?_;conv=>whnf
   refine hK _ ?_
   cases h
   exact Wk.refl _
  refine hK2 ?_
  refine aK ?_
  refine tHn ?_
  refine aL ?_
  refine iZ dCo cJ rfl (by kernel_rfl) fun K hK=>?_;conv=>whnf
  replace h:=eW h
  refine nlA rfl ?_;conv=>whnf
  refine bKo rfl ?_;conv=>whnf
  refine gKo rfl ?_;conv=>whnf
  refine cA h fun _ h=>?_;conv=>whnf
  refine gKo rfl ?_;conv=>whnf
  refine cLk h (fun _ h=>?_) (fun _ h=>?_)<;>(conv=>whnf)
  ·refine hK _ _ _ ?_
   refine aT fun K1 K2 hK1 hK2=>?_;conv=>whnf
   refine hK1 ?_
   replace h:=kR h
   refine aB dCo rfl fun K hK=>?_;conv=>whnf
   refine hK _ _ _ ?_
   refine aJ ?_
   refine aM ?_
   refine aP ?_
   refine aM ?_
   refine aM ?_
   refine aP ?_
   refine aM ?_
   replace h:=iG h
   replace h:=iF h
   replace h:=aI h
   refine aE dCo fun K hK=>?_;conv=>whnf
   refine hK _ ?_
   cases h
   exact Wk.refl _
  refine nlA rfl ?_;conv=>whnf
  refine bKo rfl ?_;conv=>whnf
  refine nlA rfl ?_;conv=>whnf
  refine nlA rfl ?_;conv=>whnf
  refine bKo rfl ?_;conv=>whnf
  refine gKo rfl ?_;conv=>whnf
  refine kQ h fun _ h=>?_;conv=>whnf
  refine nlA rfl ?_;conv=>whnf
  refine bKo rfl ?_;conv=>whnf
  refine gKo rfl ?_;conv=>whnf
  refine cA h fun _ h=>?_;conv=>whnf
  refine nlA rfl ?_;conv=>whnf
  replace h:=bE h
  refine gD h14 h (WkL.refl _) (fun _ h=>?_);conv=>whnf
  refine hK _ _ _ ?_
  refine aT fun K1 K2 hK1 hK2=>?_;conv=>whnf
  refine cLk h (fun _ h=>?_) (fun _ h=>?_)
  ·refine hK1 ?_
   refine aB dCo rfl fun K hK=>?_;conv=>whnf
   refine hK _ _ _ ?_
   refine aJ ?_
   refine aM ?_
   refine aP ?_
   refine aM ?_
   refine aM ?_
   refine aP ?_
   refine aM ?_
   replace h:=iG h
   replace h:=iF h
   replace h:=aI h
   refine aE dCo fun K hK=>?_;conv=>whnf
   refine hK _ ?_
   cases h
   exact Wk.refl _
  refine hK2 ?_
  refine aK ?_
  refine tHn ?_
  refine cK dCo rfl fun K hK=>?_;conv=>whnf
  refine hK _ _ _ ?_
  refine iBn ?_
  refine tHn ?_
  refine cK dCo rfl fun K hK=>?_;conv=>whnf
  refine hK _ _ _ ?_
  refine tHn ?_
  replace h:=bY h
  refine ⟨_,h,?_⟩
  refine aO ?_;conv=>whnf
  exact And.intro rfl (And.intro (aLc wkI (aLc wkI (aLc (WkR.ptr (fun _=>rfl)) (aLc (WkR.ptr (fun _=>rfl)) aLn)))) (aLc ⟨some _,rfl,bRc rfl (cKc wkI (cKc (wkr (lsL fun _=>(aC _))) (cKc (wkr (lsL fun _=>(lsI _ _))) (cKc (wkr (lsL fun _=>(lsI _ _))) (cKc wkI (cKc (wkr (lsL fun _=>(aA _))) cKn))))))⟩ (aLc ⟨some _,rfl,bRc rfl (cKc wkI (cKc (wkr (lsL fun _=>(aQ _))) cKn))⟩ aLn)))
 refine hK2 ?_
 refine bN ?_
 refine aW ?_
 refine aW ?_
 refine aV ?_
 replace h:=eA h
 replace h:=dZ h
 refine tHn ?_
 refine aB dCo rfl fun K hK=>?_;conv=>whnf
 refine nlA rfl ?_;conv=>whnf
 refine bKo rfl ?_;conv=>whnf
 refine gKo rfl ?_;conv=>whnf
 refine hK _ _ _ ?_
 refine aJ ?_
 replace h:=aI h
 refine aE dCo fun K hK=>?_;conv=>whnf
 refine hK _ ?_
 cases h
 exact Wk.refl _
theorem vX {T:Tbl} (hT:T 12=aH pX) {args:List AV} {hp:bF} {id:Nat} {k:AV→Prop} {a0:aD} {a1:bQ} {Φ:Bool→Prop} (h:W (lS a0 a1) Φ) (hw:WkL args [bD a0,nI a1]) (hk:∀ y,Φ y→k (eB y)):bZ T 12 args hp id k:=by
 obtain ⟨y,e,hy⟩:=dL h
 exact aS hT ⟨a0,a1,rfl,kS e rfl⟩ (by exact (lsB _)) hw (hk y hy)
def qK (a2:Int) (y16:Int) (s28:aD):Option (Ct aD aD):=bd (dX a2 2) fun y29=>
  cn (decide ((s28.Calls.length:Int)<(wr (8+y29)))) (gd ((0:Int)≤y16∧y16<(s28.Calls.length:Int)) (lt ([(s28.Calls.getD (y16).toNat default)]:List bI) fun l30=>
  ap s28.Calls l30 fun l31=>some (.nx (⟨s28.Net,s28.Urgent,s28.Centres,s28.Faults,l31⟩:aD)))) (some (.bk s28))
def pR (a0:aD) (a1:Int) (a2:Int) (a3:Int):Option aD:=bd (nG a0) fun y1=>bd (dX a1 8) fun y2=>jn (fun p3:aD=>
  some (⟨(⟨p3.Net.N,p3.Net.Edges⟩:bG),p3.Urgent,p3.Centres,p3.Faults,p3.Calls⟩:aD)) fun k4=>cn (y2 ==
  0) (bd (pI (⟨y1.Net.N,y1.Net.Edges⟩:bG) (wr (Int.tdiv a1 8)) a2 a3) fun y5=>
  k4 (⟨y5,y1.Urgent,y1.Centres,y1.Faults,y1.Calls⟩:aD)) (jn (fun p6:aD=>k4 p6) fun k7=>cn (y2 ==
  1) (bd (gC y1.Urgent (wr (Int.tdiv a1 8)) a2 a3) fun y8=>
  k7 (⟨(⟨y1.Net.N,y1.Net.Edges⟩:bG),y8,y1.Centres,y1.Faults,y1.Calls⟩:aD)) (jn (fun p9:aD=>k7 p9) fun k10=>cn (y2 ==
  2) (bd (gC y1.Centres (wr (Int.tdiv a1 8)) a2 a3) fun y11=>
  k10 (⟨(⟨y1.Net.N,y1.Net.Edges⟩:bG),y1.Urgent,y11,y1.Faults,y1.Calls⟩:aD)) (jn (fun p12:aD=>k10 p12) fun k13=>cn (y2 ==
  3) (k13 (⟨(⟨y1.Net.N,y1.Net.Edges⟩:bG),y1.Urgent,y1.Centres,a2,y1.Calls⟩:aD)) (cn ((y1.Calls.length:Int)==0) (lt ([a2]:List Int) fun l14=>
  lt ([(⟨l14,1⟩:bI)]:List bI) fun l15=>
  some (⟨(⟨y1.Net.N,y1.Net.Edges⟩:bG),y1.Urgent,y1.Centres,y1.Faults,l15⟩:aD)) (bd (dX a3 (y1.Calls.length:Int)) fun y16=>
  bd (dX a1 8) fun y17=>jn (fun p18:aD=>k13 p18) fun k19=>cn (y17 ==
  4) (gd ((0:Int)≤y16∧y16<(y1.Calls.length:Int)) (st y1.Calls (y16) (⟨(y1.Calls.getD (y16).toNat default).Edges,a2⟩:bI) fun l20=>
  k19 (⟨(⟨y1.Net.N,y1.Net.Edges⟩:bG),y1.Urgent,y1.Centres,y1.Faults,l20⟩:aD))) (jn (fun p21:aD=>k19 p21) fun k22=>cn (y17 ==
  5) (gd ((0:Int)≤y16∧y16<(y1.Calls.length:Int)) (bd (gC ((y1.Calls.getD (y16).toNat default).Edges) (wr (Int.tdiv a1 8)) a2 (wr (Int.tdiv a3 8))) fun y23=>
  gd ((0:Int)≤y16∧y16<(y1.Calls.length:Int)) (st y1.Calls (y16) (⟨y23,(y1.Calls.getD (y16).toNat default).Amount⟩:bI) fun l24=>
  k22 (⟨(⟨y1.Net.N,y1.Net.Edges⟩:bG),y1.Urgent,y1.Centres,y1.Faults,l24⟩:aD)))) (jn (fun p25:aD=>k22 p25) fun k26=>cn (y17 ==
  6) (gd ((0:Int)≤y16∧y16<(y1.Calls.length:Int)) (st y1.Calls (y16) (⟨[],(y1.Calls.getD (y16).toNat default).Amount⟩:bI) fun l27=>
  k26 (⟨(⟨y1.Net.N,y1.Net.Edges⟩:bG),y1.Urgent,y1.Centres,y1.Faults,l27⟩:aD))) (bd (lp (qK a2 y16) FU (⟨(⟨y1.Net.N,y1.Net.Edges⟩:bG),y1.Urgent,y1.Centres,y1.Faults,y1.Calls⟩:aD)) fun c32=>
  smK c32 (fun s33=>k26 s33) (fun r34=>some r34)))))))))
def sC:List AV→AV→Prop:=fun args r=>∃ a0 a1 a2 a3,args=[bD a0,eI a1,eI a2,eI a3]∧W (pR a0 a1 a2 a3) fun y=>r=(bD y)
theorem aDf {T:Tbl} (hT:TOk Tryz.prog T) (hpf:cI T PF) (h29:T 29=aH mT) (h30:T 30=aKT rH mG rY) (h31:T 31=aH rP) (h32:T 32=aH mC):FOk Tryz.prog 6 (aH sC):=by
 refine bB hT hpf Tryz.func6 rfl Tryz.ntmps6 Tryz.results6 (by decide) ?_
 rintro args r ⟨a0,a1,a2,a3,rfl,h⟩
 refine ⟨nle rfl,?_,?_⟩
 ·exact (lsC (aR _) (lsC (lsI _ _) (lsC (lsI _ _) (lsC (lsI _ _) lsN))))
 rw [pR.eq_1] at h
 refine aB dCo rfl fun K hK=>?_;conv=>whnf
 refine hK _ _ _ ?_
 refine aB dCo rfl fun K hK=>?_;conv=>whnf
 refine nlA rfl ?_;conv=>whnf
 refine bKo rfl ?_;conv=>whnf
 refine nlA rfl ?_;conv=>whnf
 refine aAi h30 h (fun y e=>(⟨_,rfl,e⟩:rY _ _)) (WkL.refl _) (fun _ h=>?_);conv=>whnf
 refine bKo rfl ?_;conv=>whnf
 refine And.intro rfl (And.intro (nle rfl) (And.intro rfl ?_));conv=>whnf
 refine hK _ _ _ ?_
 refine aL ?_
 refine aB dCo rfl fun K hK=>?_;conv=>whnf
 replace h:=bE h
 refine dR h29 h (WkL.refl _) (fun _ h=>?_);conv=>whnf
 refine hK _ _ _ ?_
 refine aN ?_
 refine aB dCo rfl fun K hK=>?_;conv=>whnf
 refine hK _ _ _ ?_
 replace h:=eW h
 refine aT fun K1 K2 hK1 hK2=>?_;conv=>whnf
 refine cLk h (fun _ h=>?_) (fun _ h=>?_)
 ·refine hK1 ?_
  refine cG 9 1 (enc:=bM) (e:=67) default (eV dCo rfl rfl (fun _=>rfl) (fun _=>rfl)) ?_;(conv=>whnf);refine ⟨_,_,_,(Nat.ne_of_beq_eq_false rfl),rfl,rfl,rfl,rfl,?_⟩;conv=>whnf
  refine cK dCo rfl fun K hK=>?_;conv=>whnf
  refine nlA rfl ?_;conv=>whnf
  refine bKo rfl ?_;conv=>whnf
  refine nlA rfl ?_;conv=>whnf
  refine And.intro (by decide) ?_;conv=>whnf
  replace h:=bE h
  refine aB1 h31 h (WkL.refl _) (fun _ h=>?_);conv=>whnf
  refine bKo rfl ?_;conv=>whnf
  refine And.intro rfl (And.intro (nle rfl) (And.intro rfl ?_));conv=>whnf
  refine hK _ _ _ ?_
  refine iBn ?_
  refine tHn ?_
  refine cG 9 2 (enc:=eI) (e:=3) default (fI dCo rfl rfl rfl (fun _=>⟨rfl,rfl⟩)) ?_;(conv=>whnf);refine ⟨_,_,_,(Nat.ne_of_beq_eq_false rfl),rfl,rfl,rfl,rfl,?_⟩;conv=>whnf
  refine cG 9 3 (enc:=eI) (e:=3) default (fI dCo rfl rfl rfl (fun _=>⟨rfl,rfl⟩)) ?_;(conv=>whnf);refine ⟨_,_,_,(Nat.ne_of_beq_eq_false rfl),rfl,rfl,rfl,rfl,?_⟩;conv=>whnf
  refine cG 9 5 (enc:=bA) (e:=69) default (eV dCo rfl rfl (fun _=>rfl) (fun _=>rfl)) ?_;(conv=>whnf);refine ⟨_,_,_,(Nat.ne_of_beq_eq_false rfl),rfl,rfl,rfl,rfl,?_⟩;conv=>whnf
  refine aB dCo rfl fun K hK=>?_;conv=>whnf
  refine nlA rfl ?_;conv=>whnf
  refine bKo rfl ?_;conv=>whnf
  refine nlA rfl ?_;conv=>whnf
  refine bKo rfl ?_;conv=>whnf
  refine And.intro rfl (And.intro (nle rfl) (And.intro rfl ?_));conv=>whnf
  refine hK _ _ _ ?_
  refine aJ ?_
  replace h:=aI h
  refine aE dCo fun K hK=>?_;conv=>whnf
  refine nlA rfl ?_;conv=>whnf
  refine bKo rfl ?_;conv=>whnf
  refine nlA rfl ?_;conv=>whnf
  refine hK _ ?_
  cases h
  exact Wk.refl _
 refine hK2 ?_
 refine aB dCo rfl fun K hK=>?_;conv=>whnf
 refine hK _ _ _ ?_
 replace h:=eW h
 refine aT fun K1 K2 hK1 hK2=>?_;conv=>whnf
 refine cLk h (fun _ h=>?_) (fun _ h=>?_)
 ·refine hK1 ?_
  refine cG 9 2 (enc:=eI) (e:=3) default (fI dCo rfl rfl rfl (fun _=>⟨rfl,rfl⟩)) ?_;(conv=>whnf);refine ⟨_,_,_,(Nat.ne_of_beq_eq_false rfl),rfl,rfl,rfl,rfl,?_⟩;conv=>whnf
  refine cK dCo rfl fun K hK=>?_;conv=>whnf
  refine nlA rfl ?_;conv=>whnf
  refine bKo rfl ?_;conv=>whnf
  refine gKo rfl ?_;conv=>whnf
  refine And.intro (by decide) ?_;conv=>whnf
  replace h:=bE h
  refine pC h32 h (WkL.refl _) (fun _ h=>?_);conv=>whnf
  refine bKo rfl ?_;conv=>whnf
  refine And.intro rfl (And.intro (nle rfl) (And.intro rfl ?_));conv=>whnf
  refine hK _ _ _ ?_
  refine iBn ?_
  refine tHn ?_
  refine cG 9 1 (enc:=bM) (e:=67) default (eV dCo rfl rfl (fun _=>rfl) (fun _=>rfl)) ?_;(conv=>whnf);refine ⟨_,_,_,(Nat.ne_of_beq_eq_false rfl),rfl,rfl,rfl,rfl,?_⟩;conv=>whnf
  refine cG 9 3 (enc:=eI) (e:=3) default (fI dCo rfl rfl rfl (fun _=>⟨rfl,rfl⟩)) ?_;(conv=>whnf);refine ⟨_,_,_,(Nat.ne_of_beq_eq_false rfl),rfl,rfl,rfl,rfl,?_⟩;conv=>whnf
  refine cG 9 5 (enc:=bA) (e:=69) default (eV dCo rfl rfl (fun _=>rfl) (fun _=>rfl)) ?_;(conv=>whnf);refine ⟨_,_,_,(Nat.ne_of_beq_eq_false rfl),rfl,rfl,rfl,rfl,?_⟩;conv=>whnf
  refine aB dCo rfl fun K hK=>?_;conv=>whnf
  refine nlA rfl ?_;conv=>whnf
  refine bKo rfl ?_;conv=>whnf
  refine nlA rfl ?_;conv=>whnf
  refine bKo rfl ?_;conv=>whnf
  refine And.intro rfl (And.intro (nle rfl) (And.intro rfl ?_));conv=>whnf
  refine hK _ _ _ ?_
  refine aJ ?_
  replace h:=aI h
  refine aE dCo fun K hK=>?_;conv=>whnf
  refine nlA rfl ?_;conv=>whnf
  refine bKo rfl ?_;conv=>whnf
  refine nlA rfl ?_;conv=>whnf
  refine hK _ ?_
  cases h
  exact Wk.refl _
 refine hK2 ?_
 refine aB dCo rfl fun K hK=>?_;conv=>whnf
 refine hK _ _ _ ?_
 replace h:=eW h
 refine aT fun K1 K2 hK1 hK2=>?_;conv=>whnf
 refine cLk h (fun _ h=>?_) (fun _ h=>?_)
 ·refine hK1 ?_
  refine cG 9 3 (enc:=eI) (e:=3) default (fI dCo rfl rfl rfl (fun _=>⟨rfl,rfl⟩)) ?_;(conv=>whnf);refine ⟨_,_,_,(Nat.ne_of_beq_eq_false rfl),rfl,rfl,rfl,rfl,?_⟩;conv=>whnf
  refine cK dCo rfl fun K hK=>?_;conv=>whnf
  refine nlA rfl ?_;conv=>whnf
  refine bKo rfl ?_;conv=>whnf
  refine gKo rfl ?_;conv=>whnf
  refine And.intro (by decide) ?_;conv=>whnf
  replace h:=bE h
  refine pC h32 h (WkL.refl _) (fun _ h=>?_);conv=>whnf
  refine bKo rfl ?_;conv=>whnf
  refine And.intro rfl (And.intro (nle rfl) (And.intro rfl ?_));conv=>whnf
  refine hK _ _ _ ?_
  refine iBn ?_
  refine tHn ?_
  refine cG 9 1 (enc:=bM) (e:=67) default (eV dCo rfl rfl (fun _=>rfl) (fun _=>rfl)) ?_;(conv=>whnf);refine ⟨_,_,_,(Nat.ne_of_beq_eq_false rfl),rfl,rfl,rfl,rfl,?_⟩;conv=>whnf
  refine cG 9 2 (enc:=eI) (e:=3) default (fI dCo rfl rfl rfl (fun _=>⟨rfl,rfl⟩)) ?_;(conv=>whnf);refine ⟨_,_,_,(Nat.ne_of_beq_eq_false rfl),rfl,rfl,rfl,rfl,?_⟩;conv=>whnf
  refine cG 9 5 (enc:=bA) (e:=69) default (eV dCo rfl rfl (fun _=>rfl) (fun _=>rfl)) ?_;(conv=>whnf);refine ⟨_,_,_,(Nat.ne_of_beq_eq_false rfl),rfl,rfl,rfl,rfl,?_⟩;conv=>whnf
  refine aB dCo rfl fun K hK=>?_;conv=>whnf
  refine nlA rfl ?_;conv=>whnf
  refine bKo rfl ?_;conv=>whnf
  refine nlA rfl ?_;conv=>whnf
  refine bKo rfl ?_;conv=>whnf
  refine And.intro rfl (And.intro (nle rfl) (And.intro rfl ?_));conv=>whnf
  refine hK _ _ _ ?_
  refine aJ ?_
  replace h:=aI h
  refine aE dCo fun K hK=>?_;conv=>whnf
  refine nlA rfl ?_;conv=>whnf
  refine bKo rfl ?_;conv=>whnf
  refine nlA rfl ?_;conv=>whnf
  refine hK _ ?_
  cases h
  exact Wk.refl _
 refine hK2 ?_
 refine aB dCo rfl fun K hK=>?_;conv=>whnf
 refine hK _ _ _ ?_
 replace h:=eW h
 refine aT fun K1 K2 hK1 hK2=>?_;conv=>whnf
 refine cLk h (fun _ h=>?_) (fun _ h=>?_)
 ·refine hK1 ?_
  refine cK dCo rfl fun K hK=>?_;conv=>whnf
  refine bKo rfl ?_;conv=>whnf
  refine And.intro rfl (And.intro (nle rfl) (And.intro rfl ?_));conv=>whnf
  refine hK _ _ _ ?_
  refine iBn ?_
  refine tHn ?_
  refine cG 9 1 (enc:=bM) (e:=67) default (eV dCo rfl rfl (fun _=>rfl) (fun _=>rfl)) ?_;(conv=>whnf);refine ⟨_,_,_,(Nat.ne_of_beq_eq_false rfl),rfl,rfl,rfl,rfl,?_⟩;conv=>whnf
  refine cG 9 2 (enc:=eI) (e:=3) default (fI dCo rfl rfl rfl (fun _=>⟨rfl,rfl⟩)) ?_;(conv=>whnf);refine ⟨_,_,_,(Nat.ne_of_beq_eq_false rfl),rfl,rfl,rfl,rfl,?_⟩;conv=>whnf
  refine cG 9 3 (enc:=eI) (e:=3) default (fI dCo rfl rfl rfl (fun _=>⟨rfl,rfl⟩)) ?_;(conv=>whnf);refine ⟨_,_,_,(Nat.ne_of_beq_eq_false rfl),rfl,rfl,rfl,rfl,?_⟩;conv=>whnf
  refine cG 9 5 (enc:=bA) (e:=69) default (eV dCo rfl rfl (fun _=>rfl) (fun _=>rfl)) ?_;(conv=>whnf);refine ⟨_,_,_,(Nat.ne_of_beq_eq_false rfl),rfl,rfl,rfl,rfl,?_⟩;conv=>whnf
  refine aB dCo rfl fun K hK=>?_;conv=>whnf
  refine nlA rfl ?_;conv=>whnf
  refine bKo rfl ?_;conv=>whnf
  refine nlA rfl ?_;conv=>whnf
  refine bKo rfl ?_;conv=>whnf
  refine And.intro rfl (And.intro (nle rfl) (And.intro rfl ?_));conv=>whnf
  refine hK _ _ _ ?_
  refine aJ ?_
  replace h:=aI h
  refine aE dCo fun K hK=>?_;conv=>whnf
  refine nlA rfl ?_;conv=>whnf
  refine bKo rfl ?_;conv=>whnf
  refine nlA rfl ?_;conv=>whnf
  refine hK _ ?_
  cases h
  exact Wk.refl _
 refine hK2 ?_
 refine aL ?_
 refine aB dCo rfl fun K hK=>?_;conv=>whnf
 refine nlA rfl ?_;conv=>whnf
 refine bKo rfl ?_;conv=>whnf
 refine gKo rfl ?_;conv=>whnf
 refine hK _ _ _ ?_
 refine aT fun K1 K2 hK1 hK2=>?_;conv=>whnf
 refine cLk h (fun _ h=>?_) (fun _ h=>?_)
 ·refine hK1 ?_
  refine aB dCo rfl fun K hK=>?_;conv=>whnf
  refine hZ (enc:=eI) (d:=default) dCo h rfl rfl rfl ⟨nle rfl,nle rfl,rfl⟩ rfl ⟨⟨rfl,rfl,rfl⟩,trivial⟩ (fun h=>?_);conv=>whnf
  refine aHU (enc:=bA) (d:=default) dCo h rfl rfl rfl ⟨nle rfl,nle rfl,rfl⟩ rfl ⟨⟨_,⟨rfl,nle rfl⟩,(fL (aF eD (aF (Wk.refl _) bO)))⟩,trivial⟩ (fun h=>?_);conv=>whnf
  refine bKo rfl ?_;conv=>whnf
  refine And.intro rfl (And.intro (nle rfl) (And.intro rfl ?_));conv=>whnf
  refine hK _ _ _ ?_
  refine cG 9 1 (enc:=bM) (e:=67) default (eV dCo rfl rfl (fun _=>rfl) (fun _=>rfl)) ?_;(conv=>whnf);refine ⟨_,_,_,(Nat.ne_of_beq_eq_false rfl),rfl,rfl,rfl,rfl,?_⟩;conv=>whnf
  refine cG 9 2 (enc:=eI) (e:=3) default (fI dCo rfl rfl rfl (fun _=>⟨rfl,rfl⟩)) ?_;(conv=>whnf);refine ⟨_,_,_,(Nat.ne_of_beq_eq_false rfl),rfl,rfl,rfl,rfl,?_⟩;conv=>whnf
  refine cG 9 3 (enc:=eI) (e:=3) default (fI dCo rfl rfl rfl (fun _=>⟨rfl,rfl⟩)) ?_;(conv=>whnf);refine ⟨_,_,_,(Nat.ne_of_beq_eq_false rfl),rfl,rfl,rfl,rfl,?_⟩;conv=>whnf
  refine aB dCo rfl fun K hK=>?_;conv=>whnf
  refine nlA rfl ?_;conv=>whnf
  refine bKo rfl ?_;conv=>whnf
  refine nlA rfl ?_;conv=>whnf
  refine bKo rfl ?_;conv=>whnf
  refine And.intro rfl (And.intro (nle rfl) (And.intro rfl ?_));conv=>whnf
  refine hK _ _ _ ?_
  refine aJ ?_
  refine aM ?_
  refine aP ?_
  refine aM ?_
  replace h:=aI h
  refine aE dCo fun K hK=>?_;conv=>whnf
  refine nlA rfl ?_;conv=>whnf
  refine bKo rfl ?_;conv=>whnf
  refine nlA rfl ?_;conv=>whnf
  refine hK _ ?_
  cases h
  exact (fL (aF (Wk.refl _) (aF (Wk.refl _) (aF (Wk.refl _) (aF (Wk.refl _) (aF (Wk.refl _) (aF eD bO)))))))
 refine hK2 ?_
 refine aK ?_
 refine tHn ?_
 refine aB dCo rfl fun K hK=>?_;conv=>whnf
 refine nlA rfl ?_;conv=>whnf
 refine bKo rfl ?_;conv=>whnf
 refine gKo rfl ?_;conv=>whnf
 replace h:=bE h
 refine dR h29 h (WkL.refl _) (fun _ h=>?_);conv=>whnf
 refine hK _ _ _ ?_
 refine aB dCo rfl fun K hK=>?_;conv=>whnf
 replace h:=bE h
 refine dR h29 h (WkL.refl _) (fun _ h=>?_);conv=>whnf
 refine hK _ _ _ ?_
 refine aN ?_
 refine aB dCo rfl fun K hK=>?_;conv=>whnf
 refine hK _ _ _ ?_
 replace h:=eW h
 refine aT fun K1 K2 hK1 hK2=>?_;conv=>whnf
 refine cLk h (fun _ h=>?_) (fun _ h=>?_)
 ·refine hK1 ?_
  refine cK dCo rfl fun K hK=>?_;conv=>whnf
  refine nlA rfl ?_;conv=>whnf
  refine bKo rfl ?_;conv=>whnf
  refine gKo rfl ?_;conv=>whnf
  refine lD h (rfl) fun hx6378 h=>?_;conv=>whnf
  refine bKo rfl ?_;conv=>whnf
  refine yL (enc:=bA) (d:=default) (q:=1) h (fun _=>rfl) (rfl) hx6378 rfl (nle rfl) rfl rfl (fun h=>?_);conv=>whnf
  refine hK _ _ _ ?_
  refine iBn ?_
  refine iBn ?_
  refine tHn ?_
  refine cG 9 1 (enc:=bM) (e:=67) default (eV dCo rfl rfl (fun _=>rfl) (fun _=>rfl)) ?_;(conv=>whnf);refine ⟨_,_,_,(Nat.ne_of_beq_eq_false rfl),rfl,rfl,rfl,rfl,?_⟩;conv=>whnf
  refine cG 9 2 (enc:=eI) (e:=3) default (fI dCo rfl rfl rfl (fun _=>⟨rfl,rfl⟩)) ?_;(conv=>whnf);refine ⟨_,_,_,(Nat.ne_of_beq_eq_false rfl),rfl,rfl,rfl,rfl,?_⟩;conv=>whnf
  refine cG 9 3 (enc:=eI) (e:=3) default (fI dCo rfl rfl rfl (fun _=>⟨rfl,rfl⟩)) ?_;(conv=>whnf);refine ⟨_,_,_,(Nat.ne_of_beq_eq_false rfl),rfl,rfl,rfl,rfl,?_⟩;conv=>whnf
  refine cG 9 5 (enc:=bA) (e:=69) default (eV dCo rfl rfl (fun _=>rfl) (fun _=>rfl)) ?_;(conv=>whnf);refine ⟨_,_,_,(Nat.ne_of_beq_eq_false rfl),rfl,rfl,(oQ rfl).symm,rfl,?_⟩;conv=>whnf
  refine aB dCo rfl fun K hK=>?_;conv=>whnf
  refine nlA rfl ?_;conv=>whnf
  refine bKo rfl ?_;conv=>whnf
  refine nlA rfl ?_;conv=>whnf
  refine bKo rfl ?_;conv=>whnf
  refine And.intro rfl (And.intro (nle rfl) (And.intro rfl ?_));conv=>whnf
  refine hK _ _ _ ?_
  refine aJ ?_
  replace h:=aI h
  refine aE dCo fun K hK=>?_;conv=>whnf
  refine nlA rfl ?_;conv=>whnf
  refine bKo rfl ?_;conv=>whnf
  refine nlA rfl ?_;conv=>whnf
  refine hK _ ?_
  cases h
  exact Wk.refl _
 refine hK2 ?_
 refine aB dCo rfl fun K hK=>?_;conv=>whnf
 refine hK _ _ _ ?_
 replace h:=eW h
 refine aT fun K1 K2 hK1 hK2=>?_;conv=>whnf
 refine cLk h (fun _ h=>?_) (fun _ h=>?_)
 ·refine hK1 ?_
  refine zU dCo cJ rfl (by kernel_rfl) fun K hK=>?_;conv=>whnf
  refine nlA rfl ?_;conv=>whnf
  refine bKo rfl ?_;conv=>whnf
  refine gKo rfl ?_;conv=>whnf
  refine nlA rfl ?_;conv=>whnf
  refine bKo rfl ?_;conv=>whnf
  refine gKo rfl ?_;conv=>whnf
  refine lD h (rfl) fun hx6391 h=>?_;conv=>whnf
  refine nlA rfl ?_;conv=>whnf
  refine bKo rfl ?_;conv=>whnf
  refine wM (enc:=bA) (d:=default) (q:=0) (fun _=>rfl) (rfl) hx6391 (nle rfl) rfl ?_;conv=>whnf
  refine And.intro (by decide) ?_;conv=>whnf
  refine And.intro (by decide) ?_;conv=>whnf
  replace h:=bE h
  refine pC h32 h (WkL.refl _) (fun _ h=>?_);conv=>whnf
  refine lD h (rfl) fun hx6392 h=>?_;conv=>whnf
  refine bKo rfl ?_;conv=>whnf
  refine yL (enc:=bA) (d:=default) (q:=0) h (fun _=>rfl) (rfl) hx6392 rfl (nle rfl) rfl rfl (fun h=>?_);conv=>whnf
  refine hK _ _ _ ?_
  refine iBn ?_
  refine iBn ?_
  refine tHn ?_
  refine cG 9 1 (enc:=bM) (e:=67) default (eV dCo rfl rfl (fun _=>rfl) (fun _=>rfl)) ?_;(conv=>whnf);refine ⟨_,_,_,(Nat.ne_of_beq_eq_false rfl),rfl,rfl,rfl,rfl,?_⟩;conv=>whnf
  refine cG 9 2 (enc:=eI) (e:=3) default (fI dCo rfl rfl rfl (fun _=>⟨rfl,rfl⟩)) ?_;(conv=>whnf);refine ⟨_,_,_,(Nat.ne_of_beq_eq_false rfl),rfl,rfl,rfl,rfl,?_⟩;conv=>whnf
  refine cG 9 3 (enc:=eI) (e:=3) default (fI dCo rfl rfl rfl (fun _=>⟨rfl,rfl⟩)) ?_;(conv=>whnf);refine ⟨_,_,_,(Nat.ne_of_beq_eq_false rfl),rfl,rfl,rfl,rfl,?_⟩;conv=>whnf
  refine cG 9 5 (enc:=bA) (e:=69) default (eV dCo rfl rfl (fun _=>rfl) (fun _=>rfl)) ?_;(conv=>whnf);refine ⟨_,_,_,(Nat.ne_of_beq_eq_false rfl),rfl,rfl,(oQ rfl).symm,rfl,?_⟩;conv=>whnf
  refine aB dCo rfl fun K hK=>?_;conv=>whnf
  refine nlA rfl ?_;conv=>whnf
  refine bKo rfl ?_;conv=>whnf
  refine nlA rfl ?_;conv=>whnf
  refine bKo rfl ?_;conv=>whnf
  refine And.intro rfl (And.intro (nle rfl) (And.intro rfl ?_));conv=>whnf
  refine hK _ _ _ ?_
  refine aJ ?_
  replace h:=aI h
  refine aE dCo fun K hK=>?_;conv=>whnf
  refine nlA rfl ?_;conv=>whnf
  refine bKo rfl ?_;conv=>whnf
  refine nlA rfl ?_;conv=>whnf
  refine hK _ ?_
  cases h
  exact Wk.refl _
 refine hK2 ?_
 refine aB dCo rfl fun K hK=>?_;conv=>whnf
 refine hK _ _ _ ?_
 replace h:=eW h
 refine aT fun K1 K2 hK1 hK2=>?_;conv=>whnf
 refine cLk h (fun _ h=>?_) (fun _ h=>?_)
 ·refine hK1 ?_
  refine cK dCo rfl fun K hK=>?_;conv=>whnf
  refine nlA rfl ?_;conv=>whnf
  refine bKo rfl ?_;conv=>whnf
  refine gKo rfl ?_;conv=>whnf
  refine lD h (rfl) fun hx6398 h=>?_;conv=>whnf
  refine bKo rfl ?_;conv=>whnf
  refine aMq (enc:=bA) (d:=default) (q:=0) h (fun _=>rfl) (rfl) hx6398 rfl (nle rfl) rfl (fun h=>?_);conv=>whnf
  refine hK _ _ _ ?_
  refine iBn ?_
  refine iBn ?_
  refine tHn ?_
  refine cG 9 1 (enc:=bM) (e:=67) default (eV dCo rfl rfl (fun _=>rfl) (fun _=>rfl)) ?_;(conv=>whnf);refine ⟨_,_,_,(Nat.ne_of_beq_eq_false rfl),rfl,rfl,rfl,rfl,?_⟩;conv=>whnf
  refine cG 9 2 (enc:=eI) (e:=3) default (fI dCo rfl rfl rfl (fun _=>⟨rfl,rfl⟩)) ?_;(conv=>whnf);refine ⟨_,_,_,(Nat.ne_of_beq_eq_false rfl),rfl,rfl,rfl,rfl,?_⟩;conv=>whnf
  refine cG 9 3 (enc:=eI) (e:=3) default (fI dCo rfl rfl rfl (fun _=>⟨rfl,rfl⟩)) ?_;(conv=>whnf);refine ⟨_,_,_,(Nat.ne_of_beq_eq_false rfl),rfl,rfl,rfl,rfl,?_⟩;conv=>whnf
  refine aHA 9 5 (enc:=bA) (e:=69) default (eV dCo rfl rfl (fun _=>rfl) (fun _=>rfl)) ?_;(conv=>whnf);refine ⟨_,_,_,_,(Nat.ne_of_beq_eq_false rfl),rfl,rfl,(oQ rfl).symm,rfl,aFE (enc:=bA) (d:=default) (sz:=2) (q:=0) (x:=(⟨[],_⟩:bI)) (xs':=[eL 1 eI default []]) (fun _=>rfl) rfl hx6398 (nle rfl) rfl rfl (aF jI (WkL.refl _)) rfl,?_⟩;conv=>whnf
  refine aB dCo rfl fun K hK=>?_;conv=>whnf
  refine nlA rfl ?_;conv=>whnf
  refine bKo rfl ?_;conv=>whnf
  refine nlA rfl ?_;conv=>whnf
  refine bKo rfl ?_;conv=>whnf
  refine And.intro rfl (And.intro (nle rfl) (And.intro rfl ?_));conv=>whnf
  refine hK _ _ _ ?_
  refine aJ ?_
  replace h:=aI h
  refine aE dCo fun K hK=>?_;conv=>whnf
  refine nlA rfl ?_;conv=>whnf
  refine bKo rfl ?_;conv=>whnf
  refine nlA rfl ?_;conv=>whnf
  refine hK _ ?_
  cases h
  exact Wk.refl _
 refine hK2 ?_
 refine aN ?_
 replace h:=bE h
 refine xO (body:=qK _ _) rfl h [2,8,9,10] [8] [] [9] (fun kl kh kr ids b s=>⟨ofL ([]++kl),ofH (([(aEe ids 0,.cells [eI s.Net.N,.so (b+0) 0 s.Net.Edges.length 3,.so (b+64) 0 s.Urgent.length 1,.so (b+128) 0 s.Centres.length 1,eI s.Faults,.so (b+192) 0 s.Calls.length 2])]++kh)++([(b+0,.cells (flE (ceE bM) s.Net.Edges)),(b+64,.cells (flE (ceE eI) s.Urgent)),(b+128,.cells (flE (ceE eI) s.Centres)),(b+192,.cells (flE (ceE bA) s.Calls))]++kr)),b+320⟩) ?_;(conv=>whnf);refine And.intro ?_ (fun s m h=>dY ?_)
 ·refine gQ ?_;conv=>whnf
  exact And.intro rfl (And.intro (aLc wkI (aLc (WkR.ptr (fun _=>rfl)) (aLc (WkR.ptr (fun _=>rfl)) (aLc wkI aLn)))) (aLc ⟨some _,rfl,bRc rfl (cKc wkI (cKc (WkR.so (fun _=>rfl)) (cKc (WkR.so (fun _=>rfl)) (cKc (WkR.so (fun _=>rfl)) (cKc wkI (cKc (WkR.so (fun _=>rfl)) cKn))))))⟩ (aLc ⟨some _,rfl,bRc rfl (cKc wkI (cKc (wkr aG) (cKc (wkr aG) (cKc (wkr aG) (cKc wkI (cKc (wkr aG) cKn))))))⟩ (aLc ⟨some _,rfl,jP rfl (fun _=>(lsC (lsI _ _) (lsC (lsI _ _) (lsC (lsI _ _) lsN))))⟩ (aLc ⟨some _,rfl,jP rfl (fun _=>(lsC (lsI _ _) lsN))⟩ (aLc ⟨some _,rfl,jP rfl (fun _=>(lsC (lsI _ _) lsN))⟩ (aLc ⟨some _,rfl,jP rfl (fun _=>(lsC (lsL fun _=>(lsI _ _)) (lsC (lsI _ _) lsN)))⟩ aLn)))))))
 replace h:=bE h;rw [qK.eq_1] at h
 refine aL ?_
 refine iZ dCo cJ rfl (by kernel_rfl) fun K hK=>?_;conv=>whnf
 refine nlA rfl ?_;conv=>whnf
 refine bKo rfl ?_;conv=>whnf
 refine gKo rfl ?_;conv=>whnf
 replace h:=bE h
 refine dR h29 h (WkL.refl _) (fun _ h=>?_);conv=>whnf
 refine hK _ _ _ ?_
 refine aT fun K1 K2 hK1 hK2=>?_;conv=>whnf
 refine cLk h (fun _ h=>?_) (fun _ h=>?_)
 ·refine hK1 ?_
  refine aK ?_
  refine tHn ?_
  refine aN ?_
  refine zU dCo cJ rfl (by kernel_rfl) fun K hK=>?_;conv=>whnf
  refine nlA rfl ?_;conv=>whnf
  refine bKo rfl ?_;conv=>whnf
  refine gKo rfl ?_;conv=>whnf
  refine nlA rfl ?_;conv=>whnf
  refine bKo rfl ?_;conv=>whnf
  refine gKo rfl ?_;conv=>whnf
  refine lD h (rfl) fun hx6404 h=>?_;conv=>whnf
  refine nlA rfl ?_;conv=>whnf
  refine bKo rfl ?_;conv=>whnf
  refine aHH (enc:=bA) (d:=default) (fun _=>rfl) (rfl) hx6404 ?_;conv=>whnf
  refine hZ (enc:=bA) (d:=default) dCo h rfl rfl rfl ⟨nle rfl,nle rfl,rfl⟩ rfl ⟨⟨rfl,nle rfl⟩,trivial⟩ (fun h=>?_);conv=>whnf
  refine aCi (enc:=bA) (d:=default) dCo h rfl rfl rfl ⟨rfl,nle rfl,nle rfl,nle rfl,rfl⟩ (fun _=>rfl) (fun _=>rfl) (fun _=>nofun) rfl (rfl) (fun h=>?_);conv=>whnf
  refine bKo rfl ?_;conv=>whnf
  refine And.intro rfl (And.intro (nle rfl) (And.intro rfl ?_));conv=>whnf
  refine hK _ _ _ ?_
  refine iBn ?_
  refine tHn ?_
  replace h:=bY h
  refine ⟨_,h,?_⟩
  refine gQ ?_;conv=>whnf
  exact And.intro rfl (And.intro (aLc wkI (aLc (WkR.ptr (fun _=>rfl)) (aLc (WkR.ptr (fun _=>rfl)) (aLc wkI aLn)))) (aLc ⟨some _,rfl,bRc rfl (cKc wkI (cKc (WkR.so (fun _=>rfl)) (cKc (WkR.so (fun _=>rfl)) (cKc (WkR.so (fun _=>rfl)) (cKc wkI (cKc (WkR.so (fun _=>rfl)) cKn))))))⟩ (aLc ⟨some _,rfl,bRc rfl (cKc wkI (cKc (wkr aG) (cKc (wkr aG) (cKc (wkr aG) (cKc wkI (cKc (wkr aG) cKn))))))⟩ (aLc ⟨some _,rfl,jP rfl (fun _=>(lsC (lsI _ _) (lsC (lsI _ _) (lsC (lsI _ _) lsN))))⟩ (aLc ⟨some _,rfl,jP rfl (fun _=>(lsC (lsI _ _) lsN))⟩ (aLc ⟨some _,rfl,jP rfl (fun _=>(lsC (lsI _ _) lsN))⟩ (aLc ⟨some _,rfl,jP rfl (fun _=>(lsC (lsL fun _=>(lsI _ _)) (lsC (lsI _ _) lsN)))⟩ aLn)))))))
 refine hK2 ?_
 refine bN ?_
 refine aW ?_
 refine aW ?_
 refine aV ?_
 replace h:=eA h
 replace h:=dZ h
 refine iBn ?_
 refine iBn ?_
 refine tHn ?_
 refine cG 9 1 (enc:=bM) (e:=67) default (eV dCo rfl rfl (fun _=>rfl) (fun _=>rfl)) ?_;(conv=>whnf);refine ⟨_,_,_,(Nat.ne_of_beq_eq_false rfl),rfl,rfl,rfl,rfl,?_⟩;conv=>whnf
 refine cG 9 2 (enc:=eI) (e:=3) default (fI dCo rfl rfl rfl (fun _=>⟨rfl,rfl⟩)) ?_;(conv=>whnf);refine ⟨_,_,_,(Nat.ne_of_beq_eq_false rfl),rfl,rfl,rfl,rfl,?_⟩;conv=>whnf
 refine cG 9 3 (enc:=eI) (e:=3) default (fI dCo rfl rfl rfl (fun _=>⟨rfl,rfl⟩)) ?_;(conv=>whnf);refine ⟨_,_,_,(Nat.ne_of_beq_eq_false rfl),rfl,rfl,rfl,rfl,?_⟩;conv=>whnf
 refine cG 9 5 (enc:=bA) (e:=69) default (eV dCo rfl rfl (fun _=>rfl) (fun _=>rfl)) ?_;(conv=>whnf);refine ⟨_,_,_,(Nat.ne_of_beq_eq_false rfl),rfl,rfl,rfl,rfl,?_⟩;conv=>whnf
 refine aB dCo rfl fun K hK=>?_;conv=>whnf
 refine nlA rfl ?_;conv=>whnf
 refine bKo rfl ?_;conv=>whnf
 refine nlA rfl ?_;conv=>whnf
 refine bKo rfl ?_;conv=>whnf
 refine And.intro rfl (And.intro (nle rfl) (And.intro rfl ?_));conv=>whnf
 refine hK _ _ _ ?_
 refine aJ ?_
 replace h:=aI h
 refine aE dCo fun K hK=>?_;conv=>whnf
 refine nlA rfl ?_;conv=>whnf
 refine bKo rfl ?_;conv=>whnf
 refine nlA rfl ?_;conv=>whnf
 refine hK _ ?_
 cases h
 exact Wk.refl _
theorem aCm {T:Tbl} (hT:T 6=aH sC) {args:List AV} {hp:bF} {id:Nat} {k:AV→Prop} {a0:aD} {a1:Int} {a2:Int} {a3:Int} {Φ:aD→Prop} (h:W (pR a0 a1 a2 a3) Φ) (hw:WkL args [bD a0,eI a1,eI a2,eI a3]) (hk:∀ y,Φ y→k (bD y)):bZ T 6 args hp id k:=by
 obtain ⟨y,e,hy⟩:=dL h
 exact aS hT ⟨a0,a1,a2,a3,rfl,kS e rfl⟩ (by exact (aR _)) hw (hk y hy)
def fB (p4:aD) (s8:(List bI)×Int):Option (Ct ((List bI)×Int) aD):=jn (fun p9:Bool=>cn p9 (ix p4.Calls default s8.2 fun e11=>
  slc e11.Edges 0 (aA9 (e11.Edges.length:Int) 7) fun l12=>lt ([(⟨l12,e11.Amount⟩:bI)]:List bI) fun l13=>ap s8.1 l13 fun l14=>
  some (.nx (l14,(wr (s8.2+1))))) (some (.bk (s8.1,s8.2)))) fun k10=>cn (decide (s8.2<(p4.Calls.length:Int))) (k10 (decide (s8.2<9))) (k10 false)
def rB (a0:aD):Option aD:=slc a0.Net.Edges 0 (aA9 (a0.Net.Edges.length:Int) 41) fun l1=>jn (fun p2:Bool=>jn (fun p4:aD=>
  slc p4.Urgent 0 (aA9 (p4.Urgent.length:Int) 13) fun l6=>slc p4.Centres 0 (aA9 (p4.Centres.length:Int) 13) fun l7=>bd (lp (fB p4) FU ([],0)) fun c15=>
  smK c15 (fun s16=>some (⟨p4.Net,l6,l7,p4.Faults,s16.1⟩:aD)) (fun r17=>some r17)) fun k5=>
  cn p2 (k5 (⟨(⟨4,l1⟩:bG),a0.Urgent,a0.Centres,a0.Faults,a0.Calls⟩:aD)) (k5 (⟨(⟨a0.Net.N,l1⟩:bG),a0.Urgent,a0.Centres,a0.Faults,a0.Calls⟩:aD))) fun k3=>
  cn (decide (a0.Net.N>4)) (k3 (decide (a0.Net.N≤8))) (k3 false)
def tP:List AV→AV→Prop:=fun args r=>∃ a0,args=[bD a0]∧W (rB a0) fun y=>r=(bD y)
theorem aFO {T:Tbl} (hT:TOk Tryz.prog T) (hpf:cI T PF):FOk Tryz.prog 7 (aH tP):=by
 refine bB hT hpf Tryz.func7 rfl Tryz.ntmps7 Tryz.results7 (by decide) ?_
 rintro args r ⟨a0,rfl,h⟩
 refine ⟨nle rfl,?_,?_⟩
 ·exact (lsC (aR _) lsN)
 rw [rB.eq_1] at h
 refine aB dCo rfl fun K hK=>?_;conv=>whnf
 refine hK _ _ _ ?_
 refine aB dCo rfl fun K hK=>?_;conv=>whnf
 refine nlA rfl ?_;conv=>whnf
 refine bKo rfl ?_;conv=>whnf
 refine gKo rfl ?_;conv=>whnf
 refine nlA rfl ?_;conv=>whnf
 refine bKo rfl ?_;conv=>whnf
 refine gKo rfl ?_;conv=>whnf
 refine xT h (.inl ⟨rfl,rfl⟩) (.inr ⟨_,rfl⟩) (fun h=>?_);conv=>whnf
 refine bKo rfl ?_;conv=>whnf
 refine And.intro rfl (And.intro (nle rfl) (And.intro rfl ?_));conv=>whnf
 refine hK _ _ _ ?_
 refine aL ?_
 refine aB dCo rfl fun K hK=>?_;conv=>whnf
 replace h:=eW h
 refine nlA rfl ?_;conv=>whnf
 refine bKo rfl ?_;conv=>whnf
 refine gKo rfl ?_;conv=>whnf
 refine cLk h (fun _ h=>?_) (fun _ h=>?_)<;>(conv=>whnf)
 ·refine nlA rfl ?_;conv=>whnf
  refine bKo rfl ?_;conv=>whnf
  refine gKo rfl ?_;conv=>whnf
  refine hK _ _ _ ?_
  replace h:=eW h
  refine aT fun K1 K2 hK1 hK2=>?_;conv=>whnf
  refine cLk h (fun _ h=>?_) (fun _ h=>?_)
  ·refine hK1 ?_
   refine cK dCo rfl fun K hK=>?_;conv=>whnf
   refine bKo rfl ?_;conv=>whnf
   refine And.intro rfl (And.intro (nle rfl) (And.intro rfl ?_));conv=>whnf
   refine hK _ _ _ ?_
   refine tHn ?_
   refine aB dCo rfl fun K hK=>?_;conv=>whnf
   refine nlA rfl ?_;conv=>whnf
   refine bKo rfl ?_;conv=>whnf
   refine gKo rfl ?_;conv=>whnf
   refine nlA rfl ?_;conv=>whnf
   refine bKo rfl ?_;conv=>whnf
   refine gKo rfl ?_;conv=>whnf
   refine xT h (.inl ⟨rfl,rfl⟩) (.inr ⟨_,rfl⟩) (fun h=>?_);conv=>whnf
   refine bKo rfl ?_;conv=>whnf
   refine And.intro rfl (And.intro (nle rfl) (And.intro rfl ?_));conv=>whnf
   refine hK _ _ _ ?_
   refine aB dCo rfl fun K hK=>?_;conv=>whnf
   refine nlA rfl ?_;conv=>whnf
   refine bKo rfl ?_;conv=>whnf
   refine gKo rfl ?_;conv=>whnf
   refine nlA rfl ?_;conv=>whnf
   refine bKo rfl ?_;conv=>whnf
   refine gKo rfl ?_;conv=>whnf
   refine xT h (.inl ⟨rfl,rfl⟩) (.inr ⟨_,rfl⟩) (fun h=>?_);conv=>whnf
   refine bKo rfl ?_;conv=>whnf
   refine And.intro rfl (And.intro (nle rfl) (And.intro rfl ?_));conv=>whnf
   refine hK _ _ _ ?_
   refine aB dCo rfl fun K hK=>?_;conv=>whnf
   refine hK _ _ _ ?_
   refine aL ?_
   refine aB dCo rfl fun K hK=>?_;conv=>whnf
   refine hK _ _ _ ?_
   refine aN ?_
   replace h:=bE h
   refine dS (body:=fB _) rfl h [1,2] [1,2] [] (fun kl kh ids b s=>⟨ofL ([(3,.lst (.tok (b+0)) 2 s.1.length (fun j=>bA (s.1.getD j default))),(4,eI s.2)]++kl),ofH ([(b+0,.cells [])]++kh),b+128⟩) ?_;(conv=>whnf);refine And.intro ?_ (fun s m h=>dY ?_)
   ·refine aO ?_;conv=>whnf
    exact And.intro rfl (And.intro (aLc (WkR.nil (fun _=>rfl)) (aLc wkI (aLc (WkR.ptr (fun _=>rfl)) (aLc (WkR.ptr (fun _=>rfl)) aLn)))) (aLc ⟨none,rfl,yM⟩ (aLc ⟨some _,rfl,bRc rfl (cKc wkI (cKc (wkr (lsL fun _=>(aC _))) (cKc (wkr (lsL fun _=>(lsI _ _))) (cKc (wkr (lsL fun _=>(lsI _ _))) (cKc wkI (cKc (wkr (lsL fun _=>(aA _))) cKn))))))⟩ (aLc ⟨some _,rfl,bRc rfl (cKc wkI (cKc (wkr aG) (cKc (wkr aG) (cKc (wkr aG) (cKc wkI (cKc (wkr aG) cKn))))))⟩ aLn))))
   replace h:=bE h;rw [fB.eq_1] at h
   refine aL ?_
   refine aB dCo rfl fun K hK=>?_;conv=>whnf
   replace h:=eW h
   refine nlA rfl ?_;conv=>whnf
   refine bKo rfl ?_;conv=>whnf
   refine gKo rfl ?_;conv=>whnf
   refine cLk h (fun _ h=>?_) (fun _ h=>?_)<;>(conv=>whnf)
   ·refine hK _ _ _ ?_
    refine aT fun K1 K2 hK1 hK2=>?_;conv=>whnf
    refine cLk h (fun _ h=>?_) (fun _ h=>?_)
    ·refine hK1 ?_
     refine aK ?_
     refine tHn ?_
     refine aL ?_
     refine aN ?_
     refine aB dCo rfl fun K hK=>?_;conv=>whnf
     refine nlA rfl ?_;conv=>whnf
     refine bKo rfl ?_;conv=>whnf
     refine gKo rfl ?_;conv=>whnf
     refine cA h fun _ h=>?_;conv=>whnf
     refine nlA rfl ?_;conv=>whnf
     refine bKo rfl ?_;conv=>whnf
     refine And.intro rfl (And.intro (nle rfl) (And.intro rfl ?_));conv=>whnf
     refine hK _ _ _ ?_
     refine aB dCo rfl fun K hK=>?_;conv=>whnf
     refine nlA rfl ?_;conv=>whnf
     refine bKo rfl ?_;conv=>whnf
     refine gKo rfl ?_;conv=>whnf
     refine nlA rfl ?_;conv=>whnf
     refine bKo rfl ?_;conv=>whnf
     refine gKo rfl ?_;conv=>whnf
     refine xT h (.inl ⟨rfl,rfl⟩) (.inr ⟨_,rfl⟩) (fun h=>?_);conv=>whnf
     refine bKo rfl ?_;conv=>whnf
     refine And.intro rfl (And.intro (nle rfl) (And.intro rfl ?_));conv=>whnf
     refine hK _ _ _ ?_
     refine cK dCo rfl fun K hK=>?_;conv=>whnf
     refine nlA rfl ?_;conv=>whnf
     refine bKo rfl ?_;conv=>whnf
     refine nlA rfl ?_;conv=>whnf
     refine hZ (enc:=bA) (d:=default) dCo h rfl rfl rfl ⟨nle rfl,nle rfl,rfl⟩ rfl ⟨⟨rfl,nle rfl⟩,trivial⟩ (fun h=>?_);conv=>whnf
     refine sV (enc:=bA) (d:=default) dCo h (.inl rfl) rfl rfl rfl ⟨rfl,nle rfl,nle rfl,nle rfl,rfl⟩ (fun _=>rfl) (.inr (.inr ⟨_,_,rfl,rfl,rfl⟩)) (fun h=>?_);conv=>whnf
     refine hK _ _ _ ?_
     refine iBn ?_
     refine tHn ?_
     refine cK dCo rfl fun K hK=>?_;conv=>whnf
     refine hK _ _ _ ?_
     refine tHn ?_
     replace h:=bY h
     refine ⟨_,h,?_⟩
     refine aO ?_;conv=>whnf
     exact And.intro rfl (And.intro (aLc (WkR.tok (fun _=>rfl) rfl (fun _ _=>Wk.refl _) (fun _=>(aA _))) (aLc wkI (aLc (WkR.ptr (fun _=>rfl)) (aLc (WkR.ptr (fun _=>rfl)) aLn)))) (aLc ⟨some _,rfl,bRc rfl cKn⟩ (aLc ⟨some _,rfl,bRc rfl (cKc wkI (cKc (wkr (lsL fun _=>(aC _))) (cKc (wkr (lsL fun _=>(lsI _ _))) (cKc (wkr (lsL fun _=>(lsI _ _))) (cKc wkI (cKc (wkr (lsL fun _=>(aA _))) cKn))))))⟩ (aLc ⟨some _,rfl,bRc rfl (cKc wkI (cKc (wkr aG) (cKc (wkr aG) (cKc (wkr aG) (cKc wkI (cKc (wkr aG) cKn))))))⟩ aLn))))
    refine hK2 ?_
    refine bN ?_
    refine aW ?_
    refine aW ?_
    refine aV ?_
    replace h:=eA h
    replace h:=dZ h
    refine tHn ?_
    refine aB dCo rfl fun K hK=>?_;conv=>whnf
    refine bKo rfl ?_;conv=>whnf
    refine And.intro rfl (And.intro (nle rfl) (And.intro rfl ?_));conv=>whnf
    refine hK _ _ _ ?_
    refine aB dCo rfl fun K hK=>?_;conv=>whnf
    refine nlA rfl ?_;conv=>whnf
    refine bKo rfl ?_;conv=>whnf
    refine nlA rfl ?_;conv=>whnf
    refine bKo rfl ?_;conv=>whnf
    refine And.intro rfl (And.intro (nle rfl) (And.intro rfl ?_));conv=>whnf
    refine hK _ _ _ ?_
    refine aJ ?_
    replace h:=aI h
    refine aE dCo fun K hK=>?_;conv=>whnf
    refine nlA rfl ?_;conv=>whnf
    refine bKo rfl ?_;conv=>whnf
    refine nlA rfl ?_;conv=>whnf
    refine hK _ ?_
    cases h
    exact (fL (aF (Wk.refl _) (aF (Wk.refl _) (aF (Wk.refl _) (aF (Wk.refl _) (aF (Wk.refl _) (aF eD bO)))))))
   refine hK _ _ _ ?_
   refine aT fun K1 K2 hK1 hK2=>?_;conv=>whnf
   refine hK2 ?_
   replace h:=uF h
   refine bN ?_
   refine aW ?_
   refine aW ?_
   refine aV ?_
   replace h:=eA h
   replace h:=dZ h
   refine tHn ?_
   refine aB dCo rfl fun K hK=>?_;conv=>whnf
   refine bKo rfl ?_;conv=>whnf
   refine And.intro rfl (And.intro (nle rfl) (And.intro rfl ?_));conv=>whnf
   refine hK _ _ _ ?_
   refine aB dCo rfl fun K hK=>?_;conv=>whnf
   refine nlA rfl ?_;conv=>whnf
   refine bKo rfl ?_;conv=>whnf
   refine nlA rfl ?_;conv=>whnf
   refine bKo rfl ?_;conv=>whnf
   refine And.intro rfl (And.intro (nle rfl) (And.intro rfl ?_));conv=>whnf
   refine hK _ _ _ ?_
   refine aJ ?_
   replace h:=aI h
   refine aE dCo fun K hK=>?_;conv=>whnf
   refine nlA rfl ?_;conv=>whnf
   refine bKo rfl ?_;conv=>whnf
   refine nlA rfl ?_;conv=>whnf
   refine hK _ ?_
   cases h
   exact (fL (aF (Wk.refl _) (aF (Wk.refl _) (aF (Wk.refl _) (aF (Wk.refl _) (aF (Wk.refl _) (aF eD bO)))))))
  refine hK2 ?_
  refine aK ?_
  refine tHn ?_
  refine aB dCo rfl fun K hK=>?_;conv=>whnf
  refine nlA rfl ?_;conv=>whnf
  refine bKo rfl ?_;conv=>whnf
  refine gKo rfl ?_;conv=>whnf
  refine nlA rfl ?_;conv=>whnf
  refine bKo rfl ?_;conv=>whnf
  refine gKo rfl ?_;conv=>whnf
  refine xT h (.inl ⟨rfl,rfl⟩) (.inr ⟨_,rfl⟩) (fun h=>?_);conv=>whnf
  refine bKo rfl ?_;conv=>whnf
  refine And.intro rfl (And.intro (nle rfl) (And.intro rfl ?_));conv=>whnf
  refine hK _ _ _ ?_
  refine aB dCo rfl fun K hK=>?_;conv=>whnf
  refine nlA rfl ?_;conv=>whnf
  refine bKo rfl ?_;conv=>whnf
  refine gKo rfl ?_;conv=>whnf
  refine nlA rfl ?_;conv=>whnf
  refine bKo rfl ?_;conv=>whnf
  refine gKo rfl ?_;conv=>whnf
  refine xT h (.inl ⟨rfl,rfl⟩) (.inr ⟨_,rfl⟩) (fun h=>?_);conv=>whnf
  refine bKo rfl ?_;conv=>whnf
  refine And.intro rfl (And.intro (nle rfl) (And.intro rfl ?_));conv=>whnf
  refine hK _ _ _ ?_
  refine aB dCo rfl fun K hK=>?_;conv=>whnf
  refine hK _ _ _ ?_
  refine aL ?_
  refine aB dCo rfl fun K hK=>?_;conv=>whnf
  refine hK _ _ _ ?_
  refine aN ?_
  replace h:=bE h
  refine dS (body:=fB _) rfl h [1,2] [1,2] [] (fun kl kh ids b s=>⟨ofL ([(3,.lst (.tok (b+0)) 2 s.1.length (fun j=>bA (s.1.getD j default))),(4,eI s.2)]++kl),ofH ([(b+0,.cells [])]++kh),b+128⟩) ?_;(conv=>whnf);refine And.intro ?_ (fun s m h=>dY ?_)
  ·refine aO ?_;conv=>whnf
   exact And.intro rfl (And.intro (aLc (WkR.nil (fun _=>rfl)) (aLc wkI (aLc (WkR.ptr (fun _=>rfl)) (aLc (WkR.ptr (fun _=>rfl)) aLn)))) (aLc ⟨none,rfl,yM⟩ (aLc ⟨some _,rfl,bRc rfl (cKc wkI (cKc (wkr (lsL fun _=>(aC _))) (cKc (wkr (lsL fun _=>(lsI _ _))) (cKc (wkr (lsL fun _=>(lsI _ _))) (cKc wkI (cKc (wkr (lsL fun _=>(aA _))) cKn))))))⟩ (aLc ⟨some _,rfl,bRc rfl (cKc wkI (cKc (wkr aG) (cKc (wkr aG) (cKc (wkr aG) (cKc wkI (cKc (wkr aG) cKn))))))⟩ aLn))))
  replace h:=bE h;rw [fB.eq_1] at h
  refine aL ?_
  refine aB dCo rfl fun K hK=>?_;conv=>whnf
  replace h:=eW h
  refine nlA rfl ?_;conv=>whnf
  refine bKo rfl ?_;conv=>whnf
  refine gKo rfl ?_;conv=>whnf
  refine cLk h (fun _ h=>?_) (fun _ h=>?_)<;>(conv=>whnf)
  ·refine hK _ _ _ ?_
   refine aT fun K1 K2 hK1 hK2=>?_;conv=>whnf
   refine cLk h (fun _ h=>?_) (fun _ h=>?_)
   ·refine hK1 ?_
    refine aK ?_
    refine tHn ?_
    refine aL ?_
    refine aN ?_
    refine aB dCo rfl fun K hK=>?_;conv=>whnf
    refine nlA rfl ?_;conv=>whnf
    refine bKo rfl ?_;conv=>whnf
    refine gKo rfl ?_;conv=>whnf
    refine cA h fun _ h=>?_;conv=>whnf
    refine nlA rfl ?_;conv=>whnf
    refine bKo rfl ?_;conv=>whnf
    refine And.intro rfl (And.intro (nle rfl) (And.intro rfl ?_));conv=>whnf
    refine hK _ _ _ ?_
    refine aB dCo rfl fun K hK=>?_;conv=>whnf
    refine nlA rfl ?_;conv=>whnf
    refine bKo rfl ?_;conv=>whnf
    refine gKo rfl ?_;conv=>whnf
    refine nlA rfl ?_;conv=>whnf
    refine bKo rfl ?_;conv=>whnf
    refine gKo rfl ?_;conv=>whnf
    refine xT h (.inl ⟨rfl,rfl⟩) (.inr ⟨_,rfl⟩) (fun h=>?_);conv=>whnf
    refine bKo rfl ?_;conv=>whnf
    refine And.intro rfl (And.intro (nle rfl) (And.intro rfl ?_));conv=>whnf
    refine hK _ _ _ ?_
    refine cK dCo rfl fun K hK=>?_;conv=>whnf
    refine nlA rfl ?_;conv=>whnf
    refine bKo rfl ?_;conv=>whnf
    refine nlA rfl ?_;conv=>whnf
    refine hZ (enc:=bA) (d:=default) dCo h rfl rfl rfl ⟨nle rfl,nle rfl,rfl⟩ rfl ⟨⟨rfl,nle rfl⟩,trivial⟩ (fun h=>?_);conv=>whnf
    refine sV (enc:=bA) (d:=default) dCo h (.inl rfl) rfl rfl rfl ⟨rfl,nle rfl,nle rfl,nle rfl,rfl⟩ (fun _=>rfl) (.inr (.inr ⟨_,_,rfl,rfl,rfl⟩)) (fun h=>?_);conv=>whnf
    refine hK _ _ _ ?_
    refine iBn ?_
    refine tHn ?_
    refine cK dCo rfl fun K hK=>?_;conv=>whnf
    refine hK _ _ _ ?_
    refine tHn ?_
    replace h:=bY h
    refine ⟨_,h,?_⟩
    refine aO ?_;conv=>whnf
    exact And.intro rfl (And.intro (aLc (WkR.tok (fun _=>rfl) rfl (fun _ _=>Wk.refl _) (fun _=>(aA _))) (aLc wkI (aLc (WkR.ptr (fun _=>rfl)) (aLc (WkR.ptr (fun _=>rfl)) aLn)))) (aLc ⟨some _,rfl,bRc rfl cKn⟩ (aLc ⟨some _,rfl,bRc rfl (cKc wkI (cKc (wkr (lsL fun _=>(aC _))) (cKc (wkr (lsL fun _=>(lsI _ _))) (cKc (wkr (lsL fun _=>(lsI _ _))) (cKc wkI (cKc (wkr (lsL fun _=>(aA _))) cKn))))))⟩ (aLc ⟨some _,rfl,bRc rfl (cKc wkI (cKc (wkr aG) (cKc (wkr aG) (cKc (wkr aG) (cKc wkI (cKc (wkr aG) cKn))))))⟩ aLn))))
   refine hK2 ?_
   refine bN ?_
   refine aW ?_
   refine aW ?_
   refine aV ?_
   replace h:=eA h
   replace h:=dZ h
   refine tHn ?_
   refine aB dCo rfl fun K hK=>?_;conv=>whnf
   refine bKo rfl ?_;conv=>whnf
   refine And.intro rfl (And.intro (nle rfl) (And.intro rfl ?_));conv=>whnf
   refine hK _ _ _ ?_
   refine aB dCo rfl fun K hK=>?_;conv=>whnf
   refine nlA rfl ?_;conv=>whnf
   refine bKo rfl ?_;conv=>whnf
   refine nlA rfl ?_;conv=>whnf
   refine bKo rfl ?_;conv=>whnf
   refine And.intro rfl (And.intro (nle rfl) (And.intro rfl ?_));conv=>whnf
   refine hK _ _ _ ?_
   refine aJ ?_
   replace h:=aI h
   refine aE dCo fun K hK=>?_;conv=>whnf
   refine nlA rfl ?_;conv=>whnf
   refine bKo rfl ?_;conv=>whnf
   refine nlA rfl ?_;conv=>whnf
   refine hK _ ?_
   cases h
   exact (fL (aF (Wk.refl _) (aF (Wk.refl _) (aF (Wk.refl _) (aF (Wk.refl _) (aF (Wk.refl _) (aF eD bO)))))))
  refine hK _ _ _ ?_
  refine aT fun K1 K2 hK1 hK2=>?_;conv=>whnf
  refine hK2 ?_
  replace h:=uF h
  refine bN ?_
  refine aW ?_
  refine aW ?_
  refine aV ?_
  replace h:=eA h
  replace h:=dZ h
  refine tHn ?_
  refine aB dCo rfl fun K hK=>?_;conv=>whnf
  refine bKo rfl ?_;conv=>whnf
  refine And.intro rfl (And.intro (nle rfl) (And.intro rfl ?_));conv=>whnf
  refine hK _ _ _ ?_
  refine aB dCo rfl fun K hK=>?_;conv=>whnf
  refine nlA rfl ?_;conv=>whnf
  refine bKo rfl ?_;conv=>whnf
  refine nlA rfl ?_;conv=>whnf
  refine bKo rfl ?_;conv=>whnf
  refine And.intro rfl (And.intro (nle rfl) (And.intro rfl ?_));conv=>whnf
  refine hK _ _ _ ?_
  refine aJ ?_
  replace h:=aI h
  refine aE dCo fun K hK=>?_;conv=>whnf
  refine nlA rfl ?_;conv=>whnf
  refine bKo rfl ?_;conv=>whnf
  refine nlA rfl ?_;conv=>whnf
  refine hK _ ?_
  cases h
  exact (fL (aF (Wk.refl _) (aF (Wk.refl _) (aF (Wk.refl _) (aF (Wk.refl _) (aF (Wk.refl _) (aF eD bO)))))))
 refine hK _ _ _ ?_
 replace h:=eW h
 refine aT fun K1 K2 hK1 hK2=>?_;conv=>whnf
 refine hK2 ?_
 replace h:=uF h
 refine aK ?_
 refine tHn ?_
 refine aB dCo rfl fun K hK=>?_;conv=>whnf
 refine nlA rfl ?_;conv=>whnf
 refine bKo rfl ?_;conv=>whnf
 refine gKo rfl ?_;conv=>whnf
 refine nlA rfl ?_;conv=>whnf
 refine bKo rfl ?_;conv=>whnf
 refine gKo rfl ?_;conv=>whnf
 refine xT h (.inl ⟨rfl,rfl⟩) (.inr ⟨_,rfl⟩) (fun h=>?_);conv=>whnf
 refine bKo rfl ?_;conv=>whnf
 refine And.intro rfl (And.intro (nle rfl) (And.intro rfl ?_));conv=>whnf
 refine hK _ _ _ ?_
 refine aB dCo rfl fun K hK=>?_;conv=>whnf
 refine nlA rfl ?_;conv=>whnf
 refine bKo rfl ?_;conv=>whnf
 refine gKo rfl ?_;conv=>whnf
 refine nlA rfl ?_;conv=>whnf
 refine bKo rfl ?_;conv=>whnf
 refine gKo rfl ?_;conv=>whnf
 refine xT h (.inl ⟨rfl,rfl⟩) (.inr ⟨_,rfl⟩) (fun h=>?_);conv=>whnf
 refine bKo rfl ?_;conv=>whnf
 refine And.intro rfl (And.intro (nle rfl) (And.intro rfl ?_));conv=>whnf
 refine hK _ _ _ ?_
 refine aB dCo rfl fun K hK=>?_;conv=>whnf
 refine hK _ _ _ ?_
 refine aL ?_
 refine aB dCo rfl fun K hK=>?_;conv=>whnf
 refine hK _ _ _ ?_
 refine aN ?_
 replace h:=bE h
 refine dS (body:=fB _) rfl h [1,2] [1,2] [] (fun kl kh ids b s=>⟨ofL ([(3,.lst (.tok (b+0)) 2 s.1.length (fun j=>bA (s.1.getD j default))),(4,eI s.2)]++kl),ofH ([(b+0,.cells [])]++kh),b+128⟩) ?_;(conv=>whnf);refine And.intro ?_ (fun s m h=>dY ?_)
 ·refine aO ?_;conv=>whnf
  exact And.intro rfl (And.intro (aLc (WkR.nil (fun _=>rfl)) (aLc wkI (aLc (WkR.ptr (fun _=>rfl)) (aLc (WkR.ptr (fun _=>rfl)) aLn)))) (aLc ⟨none,rfl,yM⟩ (aLc ⟨some _,rfl,bRc rfl (cKc wkI (cKc (wkr (lsL fun _=>(aC _))) (cKc (wkr (lsL fun _=>(lsI _ _))) (cKc (wkr (lsL fun _=>(lsI _ _))) (cKc wkI (cKc (wkr (lsL fun _=>(aA _))) cKn))))))⟩ (aLc ⟨some _,rfl,bRc rfl (cKc wkI (cKc (wkr aG) (cKc (wkr aG) (cKc (wkr aG) (cKc wkI (cKc (wkr aG) cKn))))))⟩ aLn))))
 replace h:=bE h;rw [fB.eq_1] at h
 refine aL ?_
 refine aB dCo rfl fun K hK=>?_;conv=>whnf
 replace h:=eW h
 refine nlA rfl ?_;conv=>whnf
 refine bKo rfl ?_;conv=>whnf
 refine gKo rfl ?_;conv=>whnf
 refine cLk h (fun _ h=>?_) (fun _ h=>?_)<;>(conv=>whnf)
 ·refine hK _ _ _ ?_
  refine aT fun K1 K2 hK1 hK2=>?_;conv=>whnf
  refine cLk h (fun _ h=>?_) (fun _ h=>?_)
  ·refine hK1 ?_
   refine aK ?_
   refine tHn ?_
   refine aL ?_
   refine aN ?_
   refine aB dCo rfl fun K hK=>?_;conv=>whnf
   refine nlA rfl ?_;conv=>whnf
   refine bKo rfl ?_;conv=>whnf
   refine gKo rfl ?_;conv=>whnf
   refine cA h fun _ h=>?_;conv=>whnf
   refine nlA rfl ?_;conv=>whnf
   refine bKo rfl ?_;conv=>whnf
   refine And.intro rfl (And.intro (nle rfl) (And.intro rfl ?_));conv=>whnf
   refine hK _ _ _ ?_
   refine aB dCo rfl fun K hK=>?_;conv=>whnf
   refine nlA rfl ?_;conv=>whnf
   refine bKo rfl ?_;conv=>whnf
   refine gKo rfl ?_;conv=>whnf
   refine nlA rfl ?_;conv=>whnf
   refine bKo rfl ?_;conv=>whnf
   refine gKo rfl ?_;conv=>whnf
   refine xT h (.inl ⟨rfl,rfl⟩) (.inr ⟨_,rfl⟩) (fun h=>?_);conv=>whnf
   refine bKo rfl ?_;conv=>whnf
   refine And.intro rfl (And.intro (nle rfl) (And.intro rfl ?_));conv=>whnf
   refine hK _ _ _ ?_
   refine cK dCo rfl fun K hK=>?_;conv=>whnf
   refine nlA rfl ?_;conv=>whnf
   refine bKo rfl ?_;conv=>whnf
   refine nlA rfl ?_;conv=>whnf
   refine hZ (enc:=bA) (d:=default) dCo h rfl rfl rfl ⟨nle rfl,nle rfl,rfl⟩ rfl ⟨⟨rfl,nle rfl⟩,trivial⟩ (fun h=>?_);conv=>whnf
   refine sV (enc:=bA) (d:=default) dCo h (.inl rfl) rfl rfl rfl ⟨rfl,nle rfl,nle rfl,nle rfl,rfl⟩ (fun _=>rfl) (.inr (.inr ⟨_,_,rfl,rfl,rfl⟩)) (fun h=>?_);conv=>whnf
   refine hK _ _ _ ?_
   refine iBn ?_
   refine tHn ?_
   refine cK dCo rfl fun K hK=>?_;conv=>whnf
   refine hK _ _ _ ?_
   refine tHn ?_
   replace h:=bY h
   refine ⟨_,h,?_⟩
   refine aO ?_;conv=>whnf
   exact And.intro rfl (And.intro (aLc (WkR.tok (fun _=>rfl) rfl (fun _ _=>Wk.refl _) (fun _=>(aA _))) (aLc wkI (aLc (WkR.ptr (fun _=>rfl)) (aLc (WkR.ptr (fun _=>rfl)) aLn)))) (aLc ⟨some _,rfl,bRc rfl cKn⟩ (aLc ⟨some _,rfl,bRc rfl (cKc wkI (cKc (wkr (lsL fun _=>(aC _))) (cKc (wkr (lsL fun _=>(lsI _ _))) (cKc (wkr (lsL fun _=>(lsI _ _))) (cKc wkI (cKc (wkr (lsL fun _=>(aA _))) cKn))))))⟩ (aLc ⟨some _,rfl,bRc rfl (cKc wkI (cKc (wkr aG) (cKc (wkr aG) (cKc (wkr aG) (cKc wkI (cKc (wkr aG) cKn))))))⟩ aLn))))
  refine hK2 ?_
  refine bN ?_
  refine aW ?_
  refine aW ?_
  refine aV ?_
  replace h:=eA h
  replace h:=dZ h
  refine tHn ?_
  refine aB dCo rfl fun K hK=>?_;conv=>whnf
  refine bKo rfl ?_;conv=>whnf
  refine And.intro rfl (And.intro (nle rfl) (And.intro rfl ?_));conv=>whnf
  refine hK _ _ _ ?_
  refine aB dCo rfl fun K hK=>?_;conv=>whnf
  refine nlA rfl ?_;conv=>whnf
  refine bKo rfl ?_;conv=>whnf
  refine nlA rfl ?_;conv=>whnf
  refine bKo rfl ?_;conv=>whnf
  refine And.intro rfl (And.intro (nle rfl) (And.intro rfl ?_));conv=>whnf
  refine hK _ _ _ ?_
  refine aJ ?_
  replace h:=aI h
  refine aE dCo fun K hK=>?_;conv=>whnf
  refine nlA rfl ?_;conv=>whnf
  refine bKo rfl ?_;conv=>whnf
  refine nlA rfl ?_;conv=>whnf
  refine hK _ ?_
  cases h
  exact (fL (aF (Wk.refl _) (aF (Wk.refl _) (aF (Wk.refl _) (aF (Wk.refl _) (aF (Wk.refl _) (aF eD bO)))))))
 refine hK _ _ _ ?_
 refine aT fun K1 K2 hK1 hK2=>?_;conv=>whnf
 refine hK2 ?_
 replace h:=uF h
 refine bN ?_
 refine aW ?_
 refine aW ?_
 refine aV ?_
 replace h:=eA h
 replace h:=dZ h
 refine tHn ?_
 refine aB dCo rfl fun K hK=>?_;conv=>whnf
 refine bKo rfl ?_;conv=>whnf
 refine And.intro rfl (And.intro (nle rfl) (And.intro rfl ?_));conv=>whnf
 refine hK _ _ _ ?_
 refine aB dCo rfl fun K hK=>?_;conv=>whnf
 refine nlA rfl ?_;conv=>whnf
 refine bKo rfl ?_;conv=>whnf
 refine nlA rfl ?_;conv=>whnf
 refine bKo rfl ?_;conv=>whnf
 refine And.intro rfl (And.intro (nle rfl) (And.intro rfl ?_));conv=>whnf
 refine hK _ _ _ ?_
 refine aJ ?_
 replace h:=aI h
 refine aE dCo fun K hK=>?_;conv=>whnf
 refine nlA rfl ?_;conv=>whnf
 refine bKo rfl ?_;conv=>whnf
 refine nlA rfl ?_;conv=>whnf
 refine hK _ ?_
 cases h
 exact (fL (aF (Wk.refl _) (aF (Wk.refl _) (aF (Wk.refl _) (aF (Wk.refl _) (aF (Wk.refl _) (aF eD bO)))))))
theorem aCA {T:Tbl} (hT:T 7=aH tP) {args:List AV} {hp:bF} {id:Nat} {k:AV→Prop} {a0:aD} {Φ:aD→Prop} (h:W (rB a0) Φ) (hw:WkL args [bD a0]) (hk:∀ y,Φ y→k (bD y)):bZ T 7 args hp id k:=by
 obtain ⟨y,e,hy⟩:=dL h
 exact aS hT ⟨a0,rfl,kS e rfl⟩ (by exact (aR _)) hw (hk y hy)
theorem aLp:TOk Tryz.prog T0∧cI T0 PF:=⟨aPh _,aNw _⟩
def aRt:Tbl:=ext T0 61 (aH kJ)
theorem aOw:FOk Tryz.prog 61 (aH kJ):=aGl aLp.1 aLp.2
theorem aFu:TOk Tryz.prog aRt∧cI aRt PF:=⟨bJ aLp.1 aOw,aY aLp.2 fun _=>⟨_,rfl⟩⟩
def aRQ:Tbl:=ext aRt 62 (aH mD)
theorem aOM:FOk Tryz.prog 62 (aH mD):=aBw aFu.1 aFu.2 rfl
theorem aEa:TOk Tryz.prog aRQ∧cI aRQ PF:=⟨bJ aFu.1 aOM,aY aFu.2 fun _=>⟨_,rfl⟩⟩
def aRc:Tbl:=ext aRQ 75 (aH jQ)
theorem aQG:FOk Tryz.prog 75 (aH jQ):=aAm aEa.1 aEa.2
theorem aDq:TOk Tryz.prog aRc∧cI aRc PF:=⟨bJ aEa.1 aQG,aY aEa.2 fun _=>⟨_,rfl⟩⟩
def aRm:Tbl:=ext aRc 74 (aH cX)
theorem aPV:FOk Tryz.prog 74 (aH cX):=uV aDq.1 aDq.2 rfl rfl
theorem aFr:TOk Tryz.prog aRm∧cI aRm PF:=⟨bJ aDq.1 aPV,aY aDq.2 fun _=>⟨_,rfl⟩⟩
def aSf:Tbl:=ext aRm 63 (aH eX)
theorem aPy:FOk Tryz.prog 63 (aH eX):=tE aFr.1 aFr.2 rfl
theorem aEd:TOk Tryz.prog aSf∧cI aSf PF:=⟨bJ aFr.1 aPy,aY aFr.2 fun _=>⟨_,rfl⟩⟩
def aSE:Tbl:=ext aSf 33 (aH mS)
theorem aOv:FOk Tryz.prog 33 (aH mS):=aFd aEd.1 aEd.2 rfl rfl
theorem aDI:TOk Tryz.prog aSE∧cI aSE PF:=⟨bJ aEd.1 aOv,aY aEd.2 fun _=>⟨_,rfl⟩⟩
def aSM:Tbl:=ext aSE 34 (aH fS)
theorem aOt:FOk Tryz.prog 34 (aH fS):=aBr aDI.1 aDI.2
theorem aDg:TOk Tryz.prog aSM∧cI aSM PF:=⟨bJ aDI.1 aOt,aY aDI.2 fun _=>⟨_,rfl⟩⟩
def aRN:Tbl:=ext aSM 35 (aH dT)
theorem aOQ:FOk Tryz.prog 35 (aH dT):=zZ aDg.1 aDg.2
theorem aDe:TOk Tryz.prog aRN∧cI aRN PF:=⟨bJ aDg.1 aOQ,aY aDg.2 fun _=>⟨_,rfl⟩⟩
def aR8:Tbl:=ext aRN 36 (aH gE)
theorem aP2:FOk Tryz.prog 36 (aH gE):=xI aDe.1 aDe.2 rfl
theorem aFp:TOk Tryz.prog aR8∧cI aR8 PF:=⟨bJ aDe.1 aP2,aY aDe.2 fun _=>⟨_,rfl⟩⟩
def aR9:Tbl:=ext aR8 64 (aH fG)
theorem aPC:FOk Tryz.prog 64 (aH fG):=vM aFp.1 aFp.2 rfl
theorem aE7:TOk Tryz.prog aR9∧cI aR9 PF:=⟨bJ aFp.1 aPC,aY aFp.2 fun _=>⟨_,rfl⟩⟩
def aRL:Tbl:=ext aR9 37 (aH fH)
theorem aOX:FOk Tryz.prog 37 (aH fH):=tS aE7.1 aE7.2 rfl
theorem aDl:TOk Tryz.prog aRL∧cI aRL PF:=⟨bJ aE7.1 aOX,aY aE7.2 fun _=>⟨_,rfl⟩⟩
def aSo:Tbl:=ext aRL 66 (aH iB)
theorem aQY:FOk Tryz.prog 66 (aH iB):=yJ aDl.1 aDl.2
theorem aE0:TOk Tryz.prog aSo∧cI aSo PF:=⟨bJ aDl.1 aQY,aY aDl.2 fun _=>⟨_,rfl⟩⟩
def aSQ:Tbl:=ext aSo 40 (aH mY)
theorem aOn:FOk Tryz.prog 40 (aH mY):=aAR aE0.1 aE0.2 rfl rfl
theorem aDQ:TOk Tryz.prog aSQ∧cI aSQ PF:=⟨bJ aE0.1 aOn,aY aE0.2 fun _=>⟨_,rfl⟩⟩
def aSG:Tbl:=ext aSQ 39 (aH iX)
theorem aOZ:FOk Tryz.prog 39 (aH iX):=zS aDQ.1 aDQ.2 rfl rfl
theorem aEN:TOk Tryz.prog aSG∧cI aSG PF:=⟨bJ aDQ.1 aOZ,aY aDQ.2 fun _=>⟨_,rfl⟩⟩
def aS9:Tbl:=ext aSG 65 (aH dG)
theorem aO9:FOk Tryz.prog 65 (aH dG):=sQ aEN.1 aEN.2 rfl
theorem aDE:TOk Tryz.prog aS9∧cI aS9 PF:=⟨bJ aEN.1 aO9,aY aEN.2 fun _=>⟨_,rfl⟩⟩
def aSm:Tbl:=ext aS9 38 (aH dK)
theorem aPo:FOk Tryz.prog 38 (aH dK):=qR aDE.1 aDE.2 rfl
theorem aD0:TOk Tryz.prog aSm∧cI aSm PF:=⟨bJ aDE.1 aPo,aY aDE.2 fun _=>⟨_,rfl⟩⟩
def TT8:Tbl:=ext aSm 8 (aH gY)
theorem aSc:FOk Tryz.prog 8 (aH gY):=aAY aD0.1 aD0.2 rfl rfl rfl rfl rfl
theorem aHj:TOk Tryz.prog TT8∧cI TT8 PF:=⟨bJ aD0.1 aSc,aY aD0.2 fun _=>⟨_,rfl⟩⟩
def aTb:Tbl:=ext TT8 52 (aH lI)
theorem aOy:FOk Tryz.prog 52 (aH lI):=aA4 aHj.1 aHj.2 rfl rfl
theorem aEq:TOk Tryz.prog aTb∧cI aTb PF:=⟨bJ aHj.1 aOy,aY aHj.2 fun _=>⟨_,rfl⟩⟩
def aR4:Tbl:=ext aTb 73 (xN 3 bM default)
theorem aOB:FOk Tryz.prog 73 (xN 3 bM default):=xE aEq.1 aEq.2
theorem aDo:TOk Tryz.prog aR4∧cI aR4 PF:=⟨bJ aEq.1 aOB,aY aEq.2 (fun h=>by cases h)⟩
def aS3:Tbl:=ext aR4 76 (xN 1 eI default)
theorem aPP:FOk Tryz.prog 76 (xN 1 eI default):=yA aDo.1 aDo.2
theorem aDi:TOk Tryz.prog aS3∧cI aS3 PF:=⟨bJ aDo.1 aPP,aY aDo.2 (fun h=>by cases h)⟩
def aSr:Tbl:=ext aS3 53 (aH kL)
theorem aQc:FOk Tryz.prog 53 (aH kL):=aBH aDi.1 aDi.2 rfl rfl rfl
theorem aEj:TOk Tryz.prog aSr∧cI aSr PF:=⟨bJ aDi.1 aQc,aY aDi.2 fun _=>⟨_,rfl⟩⟩
def aRW:Tbl:=ext aSr 17 (aH kK)
theorem aOU:FOk Tryz.prog 17 (aH kK):=aB5 aEj.1 aEj.2 rfl rfl
theorem aFn:TOk Tryz.prog aRW∧cI aRW PF:=⟨bJ aEj.1 aOU,aY aEj.2 fun _=>⟨_,rfl⟩⟩
def aRE:Tbl:=ext aRW 77 (aH oJ)
theorem aO7:FOk Tryz.prog 77 (aH oJ):=aCl aFn.1 aFn.2
theorem aER:TOk Tryz.prog aRE∧cI aRE PF:=⟨bJ aFn.1 aO7,aY aFn.2 fun _=>⟨_,rfl⟩⟩
def aTc:Tbl:=ext aRE 87 (aDW)
theorem aQQ:FOk Tryz.prog 87 (aDW):=aKY aER.1 aER.2
theorem aEw:TOk Tryz.prog aTc∧cI aTc PF:=⟨bJ aER.1 aQQ,aY aER.2 (fun h=>by cases h)⟩
def aS4:Tbl:=ext aTc 86 (itR Tryz.prog aGB oZ)
theorem aOs:FOk Tryz.prog 86 (itR Tryz.prog aGB oZ):=aAs aEw.1 aEw.2 rfl
theorem aFw:TOk Tryz.prog aS4∧cI aS4 PF:=⟨bJ aEw.1 aOs,aY aEw.2 (fun h=>by cases h)⟩
def aSK:Tbl:=ext aS4 54 (aH lE)
theorem aPl:FOk Tryz.prog 54 (aH lE):=aA2 aFw.1 aFw.2 rfl rfl
theorem aDL:TOk Tryz.prog aSK∧cI aSK PF:=⟨bJ aFw.1 aPl,aY aFw.2 fun _=>⟨_,rfl⟩⟩
def aSd:Tbl:=ext aSK 19 (aH jD)
theorem aQR:FOk Tryz.prog 19 (aH jD):=aAZ aDL.1 aDL.2 rfl rfl
theorem aDs:TOk Tryz.prog aSd∧cI aSd PF:=⟨bJ aDL.1 aQR,aY aDL.2 fun _=>⟨_,rfl⟩⟩
def aSu:Tbl:=ext aSd 23 (aH iR)
theorem aP6:FOk Tryz.prog 23 (aH iR):=aCj aDs.1 aDs.2 rfl
theorem aDK:TOk Tryz.prog aSu∧cI aSu PF:=⟨bJ aDs.1 aP6,aY aDs.2 fun _=>⟨_,rfl⟩⟩
def aRq:Tbl:=ext aSu 44 (aH jX)
theorem aOY:FOk Tryz.prog 44 (aH jX):=aAx aDK.1 aDK.2 rfl rfl
theorem aEk:TOk Tryz.prog aRq∧cI aRq PF:=⟨bJ aDK.1 aOY,aY aDK.2 fun _=>⟨_,rfl⟩⟩
def aRT:Tbl:=ext aRq 10 (aH kX)
theorem aOx:FOk Tryz.prog 10 (aH kX):=aAQ aEk.1 aEk.2 rfl rfl
theorem aEo:TOk Tryz.prog aRT∧cI aRT PF:=⟨bJ aEk.1 aOx,aY aEk.2 fun _=>⟨_,rfl⟩⟩
def aRB:Tbl:=ext aRT 13 (aH mE)
theorem aPj:FOk Tryz.prog 13 (aH mE):=aB6 aEo.1 aEo.2 rfl rfl
theorem aET:TOk Tryz.prog aRB∧cI aRB PF:=⟨bJ aEo.1 aPj,aY aEo.2 fun _=>⟨_,rfl⟩⟩
def aRy:Tbl:=ext aRB 22 (aH pM)
theorem aQg:FOk Tryz.prog 22 (aH pM):=aDn aET.1 aET.2
theorem aEQ:TOk Tryz.prog aRy∧cI aRy PF:=⟨bJ aET.1 aQg,aY aET.2 fun _=>⟨_,rfl⟩⟩
def aSB:Tbl:=ext aRy 56 (aH gZ)
theorem aOC:FOk Tryz.prog 56 (aH gZ):=vZ aEQ.1 aEQ.2 rfl
theorem aDD:TOk Tryz.prog aSB∧cI aSB PF:=⟨bJ aEQ.1 aOC,aY aEQ.2 fun _=>⟨_,rfl⟩⟩
def aSj:Tbl:=ext aSB 78 (aH oS)
theorem aPA:FOk Tryz.prog 78 (aH oS):=aCk aDD.1 aDD.2 rfl
theorem aEK:TOk Tryz.prog aSj∧cI aSj PF:=⟨bJ aDD.1 aPA,aY aDD.2 fun _=>⟨_,rfl⟩⟩
def aSD:Tbl:=ext aSj 57 (aH oU)
theorem aPb:FOk Tryz.prog 57 (aH oU):=aB2 aEK.1 aEK.2 rfl rfl rfl
theorem aEx:TOk Tryz.prog aSD∧cI aSD PF:=⟨bJ aEK.1 aPb,aY aEK.2 fun _=>⟨_,rfl⟩⟩
def aRO:Tbl:=ext aSD 80 (aH fZ)
theorem aPW:FOk Tryz.prog 80 (aH fZ):=vB aEx.1 aEx.2
theorem aEI:TOk Tryz.prog aRO∧cI aRO PF:=⟨bJ aEx.1 aPW,aY aEx.2 fun _=>⟨_,rfl⟩⟩
def aRv:Tbl:=ext aRO 58 (aH gX)
theorem aPt:FOk Tryz.prog 58 (aH gX):=wB aEI.1 aEI.2 rfl
theorem aDz:TOk Tryz.prog aRv∧cI aRv PF:=⟨bJ aEI.1 aPt,aY aEI.2 fun _=>⟨_,rfl⟩⟩
def aSH:Tbl:=ext aRv 81 (aH mW)
theorem aPK:FOk Tryz.prog 81 (aH mW):=aA1 aDz.1 aDz.2 rfl rfl
theorem aD6:TOk Tryz.prog aSH∧cI aSH PF:=⟨bJ aDz.1 aPK,aY aDz.2 fun _=>⟨_,rfl⟩⟩
def aS8:Tbl:=ext aSH 82 (aH rL)
theorem aON:FOk Tryz.prog 82 (aH rL):=aEh aD6.1 aD6.2 rfl
theorem aFy:TOk Tryz.prog aS8∧cI aS8 PF:=⟨bJ aD6.1 aON,aY aD6.2 fun _=>⟨_,rfl⟩⟩
def aSz:Tbl:=ext aS8 83 (aH kF)
theorem aOK:FOk Tryz.prog 83 (aH kF):=xZ aFy.1 aFy.2
theorem aD1:TOk Tryz.prog aSz∧cI aSz PF:=⟨bJ aFy.1 aOK,aY aFy.2 fun _=>⟨_,rfl⟩⟩
def aSR:Tbl:=ext aSz 89 (aH oO)
theorem aQS:FOk Tryz.prog 89 (aH oO):=aBQ aD1.1 aD1.2
theorem aEg:TOk Tryz.prog aSR∧cI aSR PF:=⟨bJ aD1.1 aQS,aY aD1.2 fun _=>⟨_,rfl⟩⟩
def aSS:Tbl:=ext aSR 92 ((itR Tryz.prog (fun x=>[Value.int .i64 x]) pB))
theorem aPw:FOk Tryz.prog 92 ((itR Tryz.prog (fun x=>[Value.int .i64 x]) pB)):=aAu aEg.1 aEg.2
theorem aEs:TOk Tryz.prog aSS∧cI aSS PF:=⟨bJ aEg.1 aPw,aY aEg.2 (fun h=>by cases h)⟩
def aSn:Tbl:=ext aSS 84 (aH mX)
theorem aQM:FOk Tryz.prog 84 (aH mX):=aA0 aEs.1 aEs.2 rfl rfl
theorem aEC:TOk Tryz.prog aSn∧cI aSn PF:=⟨bJ aEs.1 aQM,aY aEs.2 fun _=>⟨_,rfl⟩⟩
def aSb:Tbl:=ext aSn 59 (aH mA)
theorem aPv:FOk Tryz.prog 59 (aH mA):=aAl aEC.1 aEC.2 rfl rfl rfl rfl rfl
theorem aDA:TOk Tryz.prog aSb∧cI aSb PF:=⟨bJ aEC.1 aPv,aY aEC.2 fun _=>⟨_,rfl⟩⟩
def aRR:Tbl:=ext aSb 25 (aH eK)
theorem aOo:FOk Tryz.prog 25 (aH eK):=vY aDA.1 aDA.2 rfl rfl rfl rfl rfl rfl rfl
theorem aEA:TOk Tryz.prog aRR∧cI aRR PF:=⟨bJ aDA.1 aOo,aY aDA.2 fun _=>⟨_,rfl⟩⟩
def aSk:Tbl:=ext aRR 26 (aH lA)
theorem aOO:FOk Tryz.prog 26 (aH lA):=aAT aEA.1 aEA.2 rfl rfl
theorem aDR:TOk Tryz.prog aSk∧cI aSk PF:=⟨bJ aEA.1 aOO,aY aEA.2 fun _=>⟨_,rfl⟩⟩
def aRd:Tbl:=ext aSk 27 (aKT nO iV kV)
theorem aQx:FOk Tryz.prog 27 (aKT nO iV kV):=aA6 aDR.1 aDR.2
theorem aEb:TOk Tryz.prog aRd∧cI aRd PF:=⟨bJ aDR.1 aQx,aY aDR.2 (fun h=>by cases h)⟩
def TT4:Tbl:=ext aRd 4 (aH rV)
theorem aRI:FOk Tryz.prog 4 (aH rV):=aDj aEb.1 aEb.2 rfl rfl rfl rfl rfl rfl rfl rfl rfl rfl
theorem aH2:TOk Tryz.prog TT4∧cI TT4 PF:=⟨bJ aEb.1 aRI,aY aEb.2 fun _=>⟨_,rfl⟩⟩
def aS7:Tbl:=ext TT4 60 (aH nN)
theorem aPa:FOk Tryz.prog 60 (aH nN):=aEP aH2.1 aH2.2
theorem aEW:TOk Tryz.prog aS7∧cI aS7 PF:=⟨bJ aH2.1 aPa,aY aH2.2 fun _=>⟨_,rfl⟩⟩
def aRr:Tbl:=ext aS7 28 (aH rQ)
theorem aP1:FOk Tryz.prog 28 (aH rQ):=aFq aEW.1 aEW.2 rfl
theorem aDh:TOk Tryz.prog aRr∧cI aRr PF:=⟨bJ aEW.1 aP1,aY aEW.2 fun _=>⟨_,rfl⟩⟩
def aS5:Tbl:=ext aRr 29 (aH mT)
theorem aQA:FOk Tryz.prog 29 (aH mT):=aE4 aDh.1 aDh.2
theorem aEp:TOk Tryz.prog aS5∧cI aS5 PF:=⟨bJ aDh.1 aQA,aY aDh.2 fun _=>⟨_,rfl⟩⟩
def TT5:Tbl:=ext aS5 5 (aH rO)
theorem aRG:FOk Tryz.prog 5 (aH rO):=aD8 aEp.1 aEp.2 rfl rfl
theorem aHg:TOk Tryz.prog TT5∧cI TT5 PF:=⟨bJ aEp.1 aRG,aY aEp.2 fun _=>⟨_,rfl⟩⟩
def aRk:Tbl:=ext TT5 30 (aKT rH mG rY)
theorem aPq:FOk Tryz.prog 30 (aKT rH mG rY):=aE3 aHg.1 aHg.2
theorem aD4:TOk Tryz.prog aRk∧cI aRk PF:=⟨bJ aHg.1 aPq,aY aHg.2 (fun h=>by cases h)⟩
def aSg:Tbl:=ext aRk 31 (aH rP)
theorem aP9:FOk Tryz.prog 31 (aH rP):=aFi aD4.1 aD4.2 rfl
theorem aDx:TOk Tryz.prog aSg∧cI aSg PF:=⟨bJ aD4.1 aP9,aY aD4.2 fun _=>⟨_,rfl⟩⟩
def aSX:Tbl:=ext aSg 32 (aH mC)
theorem aQj:FOk Tryz.prog 32 (aH mC):=aAq aDx.1 aDx.2 rfl
theorem aFk:TOk Tryz.prog aSX∧cI aSX PF:=⟨bJ aDx.1 aQj,aY aDx.2 fun _=>⟨_,rfl⟩⟩
def TT6:Tbl:=ext aSX 6 (aH sC)
theorem aSp:FOk Tryz.prog 6 (aH sC):=aDf aFk.1 aFk.2 rfl rfl rfl rfl
theorem aHD:TOk Tryz.prog TT6∧cI TT6 PF:=⟨bJ aFk.1 aSp,aY aFk.2 fun _=>⟨_,rfl⟩⟩
def TT7:Tbl:=ext TT6 7 (aH tP)
theorem aRZ:FOk Tryz.prog 7 (aH tP):=aFO aHD.1 aHD.2
theorem aHr:TOk Tryz.prog TT7∧cI TT7 PF:=⟨bJ aHD.1 aRZ,aY aHD.2 fun _=>⟨_,rfl⟩⟩
def aRJ:Tbl:=ext TT7 67 (aH nQ)
theorem aQf:FOk Tryz.prog 67 (aH nQ):=aGK aHr.1 aHr.2
theorem aDU:TOk Tryz.prog aRJ∧cI aRJ PF:=⟨bJ aHr.1 aQf,aY aHr.2 fun _=>⟨_,rfl⟩⟩
def aSF:Tbl:=ext aRJ 41 (aH lR)
theorem aOW:FOk Tryz.prog 41 (aH lR):=aCz aDU.1 aDU.2 rfl
theorem aFv:TOk Tryz.prog aSF∧cI aSF PF:=⟨bJ aDU.1 aOW,aY aDU.2 fun _=>⟨_,rfl⟩⟩
def aRo:Tbl:=ext aSF 42 (aH pK)
theorem aPD:FOk Tryz.prog 42 (aH pK):=aGZ aFv.1 aFv.2
theorem aEZ:TOk Tryz.prog aRo∧cI aRo PF:=⟨bJ aFv.1 aPD,aY aFv.2 fun _=>⟨_,rfl⟩⟩
def aRC:Tbl:=ext aRo 43 (aH tF)
theorem aQF:FOk Tryz.prog 43 (aH tF):=aGc aEZ.1 aEZ.2 rfl
theorem aE6:TOk Tryz.prog aRC∧cI aRC PF:=⟨bJ aEZ.1 aQF,aY aEZ.2 fun _=>⟨_,rfl⟩⟩
def TT9:Tbl:=ext aRC 9 (aH nV)
theorem aRX:FOk Tryz.prog 9 (aH nV):=aCD aE6.1 aE6.2 rfl rfl rfl
theorem aH1:TOk Tryz.prog TT9∧cI TT9 PF:=⟨bJ aE6.1 aRX,aY aE6.2 fun _=>⟨_,rfl⟩⟩
def aR5:Tbl:=ext TT9 46 (aH rC)
theorem aPd:FOk Tryz.prog 46 (aH rC):=aFH aH1.1 aH1.2 rfl rfl
theorem aDu:TOk Tryz.prog aR5∧cI aR5 PF:=⟨bJ aH1.1 aPd,aY aH1.2 fun _=>⟨_,rfl⟩⟩
def aRw:Tbl:=ext aR5 45 (aH mR)
theorem aO2:FOk Tryz.prog 45 (aH mR):=aF4 aDu.1 aDu.2
theorem aDF:TOk Tryz.prog aRw∧cI aRw PF:=⟨bJ aDu.1 aO2,aY aDu.2 fun _=>⟨_,rfl⟩⟩
def aSa:Tbl:=ext aRw 47 (aH qY)
theorem aOD:FOk Tryz.prog 47 (aH qY):=aGa aDF.1 aDF.2 rfl
theorem aFg:TOk Tryz.prog aSa∧cI aSa PF:=⟨bJ aDF.1 aOD,aY aDF.2 fun _=>⟨_,rfl⟩⟩
def aSx:Tbl:=ext aSa 48 (aH pF)
theorem aQW:FOk Tryz.prog 48 (aH pF):=aDp aFg.1 aFg.2 rfl
theorem aDv:TOk Tryz.prog aSx∧cI aSx PF:=⟨bJ aFg.1 aQW,aY aFg.2 fun _=>⟨_,rfl⟩⟩
def aSC:Tbl:=ext aSx 18 (aH pN)
theorem aPO:FOk Tryz.prog 18 (aH pN):=aDN aDv.1 aDv.2 rfl rfl
theorem aD7:TOk Tryz.prog aSC∧cI aSC PF:=⟨bJ aDv.1 aPO,aY aDv.2 fun _=>⟨_,rfl⟩⟩
def aTa:Tbl:=ext aSC 55 (aH oR)
theorem aPL:FOk Tryz.prog 55 (aH oR):=aBL aD7.1 aD7.2 rfl
theorem aEU:TOk Tryz.prog aTa∧cI aTa PF:=⟨bJ aD7.1 aPL,aY aD7.2 fun _=>⟨_,rfl⟩⟩
def aRp:Tbl:=ext aTa 20 (aH nW)
theorem aPn:FOk Tryz.prog 20 (aH nW):=aCB aEU.1 aEU.2 rfl rfl
theorem aEz:TOk Tryz.prog aRp∧cI aRp PF:=⟨bJ aEU.1 aPn,aY aEU.2 fun _=>⟨_,rfl⟩⟩
def aRg:Tbl:=ext aRp 24 (aH nM)
theorem aPZ:FOk Tryz.prog 24 (aH nM):=aEi aEz.1 aEz.2 rfl
theorem aED:TOk Tryz.prog aRg∧cI aRg PF:=⟨bJ aEz.1 aPZ,aY aEz.2 fun _=>⟨_,rfl⟩⟩
def aR2:Tbl:=ext aRg 11 (aH lX)
theorem aOu:FOk Tryz.prog 11 (aH lX):=aAC aED.1 aED.2 rfl
theorem aDy:TOk Tryz.prog aR2∧cI aR2 PF:=⟨bJ aED.1 aOu,aY aED.2 fun _=>⟨_,rfl⟩⟩
def aQ9:Tbl:=ext aR2 68 (aH pD)
theorem aPz:FOk Tryz.prog 68 (aH pD):=aGb aDy.1 aDy.2
theorem aDw:TOk Tryz.prog aQ9∧cI aQ9 PF:=⟨bJ aDy.1 aPz,aY aDy.2 fun _=>⟨_,rfl⟩⟩
def aRP:Tbl:=ext aQ9 49 (aH nJ)
theorem aOI:FOk Tryz.prog 49 (aH nJ):=aAX aDw.1 aDw.2 rfl rfl rfl
theorem aDk:TOk Tryz.prog aRP∧cI aRP PF:=⟨bJ aDw.1 aOI,aY aDw.2 fun _=>⟨_,rfl⟩⟩
def aR3:Tbl:=ext aRP 50 (aH sB)
theorem aOr:FOk Tryz.prog 50 (aH sB):=aDZ aDk.1 aDk.2
theorem aD3:TOk Tryz.prog aR3∧cI aR3 PF:=⟨bJ aDk.1 aOr,aY aDk.2 fun _=>⟨_,rfl⟩⟩
def aRi:Tbl:=ext aR3 69 (aH mB)
theorem aOH:FOk Tryz.prog 69 (aH mB):=aAg aD3.1 aD3.2 rfl rfl
theorem aEy:TOk Tryz.prog aRi∧cI aRi PF:=⟨bJ aD3.1 aOH,aY aD3.2 fun _=>⟨_,rfl⟩⟩
def aSi:Tbl:=ext aRi 85 (aH oT)
theorem aQO:FOk Tryz.prog 85 (aH oT):=aBO aEy.1 aEy.2 rfl
theorem aEF:TOk Tryz.prog aSi∧cI aSi PF:=⟨bJ aEy.1 aQO,aY aEy.2 fun _=>⟨_,rfl⟩⟩
def aRV:Tbl:=ext aSi 70 (aH nK)
theorem aQv:FOk Tryz.prog 70 (aH nK):=aA3 aEF.1 aEF.2 rfl rfl
theorem aFt:TOk Tryz.prog aRV∧cI aRV PF:=⟨bJ aEF.1 aQv,aY aEF.2 fun _=>⟨_,rfl⟩⟩
def aSV:Tbl:=ext aRV 71 (aH nD)
theorem aPX:FOk Tryz.prog 71 (aH nD):=aAS aFt.1 aFt.2 rfl
theorem aDS:TOk Tryz.prog aSV∧cI aSV PF:=⟨bJ aFt.1 aPX,aY aFt.2 fun _=>⟨_,rfl⟩⟩
def aRs:Tbl:=ext aSV 72 (aH qL)
theorem aO0:FOk Tryz.prog 72 (aH qL):=aCx aDS.1 aDS.2
theorem aEG:TOk Tryz.prog aRs∧cI aRs PF:=⟨bJ aDS.1 aO0,aY aDS.2 fun _=>⟨_,rfl⟩⟩
def aSA:Tbl:=ext aRs 51 (aH kU)
theorem aQl:FOk Tryz.prog 51 (aH kU):=yR aEG.1 aEG.2 rfl rfl rfl rfl rfl
theorem aDM:TOk Tryz.prog aSA∧cI aSA PF:=⟨bJ aEG.1 aQl,aY aEG.2 fun _=>⟨_,rfl⟩⟩
def aSY:Tbl:=ext aSA 14 (aH gK)
theorem aQX:FOk Tryz.prog 14 (aH gK):=xH aDM.1 aDM.2 rfl rfl rfl rfl rfl rfl rfl rfl
theorem aEO:TOk Tryz.prog aSY∧cI aSY PF:=⟨bJ aDM.1 aQX,aY aDM.2 fun _=>⟨_,rfl⟩⟩
def aST:Tbl:=ext aSY 12 (aH pX)
theorem aQb:FOk Tryz.prog 12 (aH pX):=aCw aEO.1 aEO.2 rfl rfl rfl
theorem aDV:TOk Tryz.prog aST∧cI aST PF:=⟨bJ aEO.1 aQb,aY aEO.2 fun _=>⟨_,rfl⟩⟩
def aRz:Tbl:=ext aST 15 (aH kC)
theorem aPp:FOk Tryz.prog 15 (aH kC):=xR aDV.1 aDV.2 rfl
theorem aFf:TOk Tryz.prog aRz∧cI aRz PF:=⟨bJ aDV.1 aPp,aY aDV.2 fun _=>⟨_,rfl⟩⟩
def aR1:Tbl:=ext aRz 16 (aH rN)
theorem aQn:FOk Tryz.prog 16 (aH rN):=aD9 aFf.1 aFf.2
theorem aDr:TOk Tryz.prog aR1∧cI aR1 PF:=⟨bJ aFf.1 aQn,aY aFf.2 fun _=>⟨_,rfl⟩⟩
def aTd:Tbl:=ext aR1 21 (aH sD)
theorem aPH:FOk Tryz.prog 21 (aH sD):=aFc aDr.1 aDr.2
theorem aJo:TOk Tryz.prog aTd∧cI aTd PF:=⟨bJ aDr.1 aPH,aY aDr.2 fun _=>⟨_,rfl⟩⟩
theorem aCC:Opn Tryz.prog 3 eI okI:=aOT Tryz.underlying3
theorem aOL:aKR Tryz.prog 3 eI:=.inr ⟨by rfl,fun _=>⟨rfl,rfl⟩⟩
theorem aQh:OpV Tryz.prog 3 eI okI:=aF9 aCC aOL fun _=>aM1 Tryz.underlying3
def aCE (x:Int×Int×Int):Prop:=okI x.1∧okI x.2.1∧okI x.2.2
theorem aQw:Opn Tryz.prog 27 aKU aCE:=by
 refine aHM (β:=Int×Int×Int×Unit) (fs:=[(3,0),(3,1),(3,2)]) Tryz.underlying27 (by kernel_rfl) (by kernel_rfl) (cZ (sz:=1) aCC (by kernel_rfl) rfl (cZ (sz:=1) aCC (by kernel_rfl) rfl (cZ (sz:=1) aCC (by kernel_rfl) rfl tX))) (fun p=>(p.1,p.2.1,p.2.2.1)) (fun _=>rfl) ?_
 intro p h
 exact ⟨h.1,h.2.1,h.2.2.1⟩
theorem aMf:aKR Tryz.prog 27 aKU:=.inl ⟨by rfl,fun _=>rfl⟩
theorem aQE:OpV Tryz.prog 27 aKU aCE:=aF9 aQw aMf (fun h=>by cases (show some true=some false from h))
theorem aRM:Opn Tryz.prog 22 (eL 3 aKU default) (okL aCE):=yZ Tryz.underlying22 (by kernel_rfl) (by decide) aQw aMf
theorem aJk:Opn Tryz.prog 23 (eL 1 eI default) (okL okI):=yZ Tryz.underlying23 (by kernel_rfl) (by decide) aCC aOL
def aK1 (x:Int×Int×Int×Int):Prop:=okI x.1∧okI x.2.1∧okI x.2.2.1∧okI x.2.2.2
theorem aSh:Opn Tryz.prog 71 aPk aK1:=by
 refine aHM (β:=Int×Int×Int×Int×Unit) (fs:=[(3,0),(3,1),(3,2),(3,3)]) Tryz.underlying71 (by kernel_rfl) (by kernel_rfl) (cZ (sz:=1) aCC (by kernel_rfl) rfl (cZ (sz:=1) aCC (by kernel_rfl) rfl (cZ (sz:=1) aCC (by kernel_rfl) rfl (cZ (sz:=1) aCC (by kernel_rfl) rfl tX)))) (fun p=>(p.1,p.2.1,p.2.2.1,p.2.2.2.1)) (fun _=>rfl) ?_
 intro p h
 exact ⟨h.1,h.2.1,h.2.2.1,h.2.2.2.1⟩
theorem aQo:aKR Tryz.prog 71 aPk:=.inl ⟨by rfl,fun _=>rfl⟩
theorem aSs:Opn Tryz.prog 24 (eL 4 aPk default) (okL aK1):=yZ Tryz.underlying24 (by kernel_rfl) (by decide) aSh aQo
def xC (x:qN):Prop:=okI x.Nodes∧(okL aCE) x.Edges∧(okL okI) x.Urgent∧(okL okI) x.Centres∧okI x.Faults∧(okL aK1) x.Calls
theorem aRS:Opn Tryz.prog 26 rS xC:=by
 refine uM (β:=Int×(List (Int×Int×Int))×(List Int)×(List Int)×Int×(List (Int×Int×Int×Int))×Unit) (fs:=[(3,0),(22,1),(23,2),(23,3),(3,4),(24,5)]) Tryz.underlying26 rfl (by kernel_rfl) (cZ (sz:=1) aCC (by kernel_rfl) rfl (cZ (sz:=1) aRM (by kernel_rfl) rfl (cZ (sz:=1) aJk (by kernel_rfl) rfl (cZ (sz:=1) aJk (by kernel_rfl) rfl (cZ (sz:=1) aCC (by kernel_rfl) rfl (cZ (sz:=1) aSs (by kernel_rfl) rfl tX)))))) (fun p=>⟨p.1,p.2.1,p.2.2.1,p.2.2.2.1,p.2.2.2.2.1,p.2.2.2.2.2.1⟩) (fun _=>rfl) ?_
 intro p h
 exact ⟨h.1,h.2.1,h.2.2.1,h.2.2.2.1,h.2.2.2.2.1,h.2.2.2.2.2.1⟩
theorem aOA:aKR Tryz.prog 26 rS:=.inl ⟨by rfl,fun _=>rfl⟩
theorem aPi:OpV Tryz.prog 26 rS xC:=aF9 aRS aOA (fun h=>by cases (show some true=some false from h))
def aGF (x:dE):Prop:=okI x.From∧okI x.To∧okI x.Capacity
theorem aRn:Opn Tryz.prog 67 bM aGF:=by
 refine uM (β:=Int×Int×Int×Unit) (fs:=[(3,0),(3,1),(3,2)]) Tryz.underlying67 rfl (by kernel_rfl) (cZ (sz:=1) aCC (by kernel_rfl) rfl (cZ (sz:=1) aCC (by kernel_rfl) rfl (cZ (sz:=1) aCC (by kernel_rfl) rfl tX))) (fun p=>⟨p.1,p.2.1,p.2.2.1⟩) (fun _=>rfl) ?_
 intro p h
 exact ⟨h.1,h.2.1,h.2.2.1⟩
theorem aPR:aKR Tryz.prog 67 bM:=.inl ⟨by rfl,fun _=>rfl⟩
theorem aSy:Opn Tryz.prog 28 (eL 3 bM default) (okL aGF):=yZ Tryz.underlying28 (by kernel_rfl) (by decide) aRn aPR
def aMC (x:bG):Prop:=okI x.N∧(okL aGF) x.Edges
theorem aSU:Opn Tryz.prog 30 fF aMC:=by
 refine uM (β:=Int×(List dE)×Unit) (fs:=[(3,0),(28,1)]) Tryz.underlying30 rfl (by kernel_rfl) (cZ (sz:=1) aCC (by kernel_rfl) rfl (cZ (sz:=1) aSy (by kernel_rfl) rfl tX)) (fun p=>⟨p.1,p.2.1⟩) (fun _=>rfl) ?_
 intro p h
 exact ⟨h.1,h.2.1⟩
def xY (x:bI):Prop:=(okL okI) x.Edges∧okI x.Amount
theorem aSP:Opn Tryz.prog 69 bA xY:=by
 refine uM (β:=(List Int)×Int×Unit) (fs:=[(23,0),(3,1)]) Tryz.underlying69 rfl (by kernel_rfl) (cZ (sz:=1) aJk (by kernel_rfl) rfl (cZ (sz:=1) aCC (by kernel_rfl) rfl tX)) (fun p=>⟨p.1,p.2.1⟩) (fun _=>rfl) ?_
 intro p h
 exact ⟨h.1,h.2.1⟩
theorem aPJ:aKR Tryz.prog 69 bA:=.inl ⟨by rfl,fun _=>rfl⟩
theorem aRx:Opn Tryz.prog 31 (eL 2 bA default) (okL xY):=yZ Tryz.underlying31 (by kernel_rfl) (by decide) aSP aPJ
def aAA (x:aD):Prop:=aMC x.Net∧(okL okI) x.Urgent∧(okL okI) x.Centres∧okI x.Faults∧(okL xY) x.Calls
theorem aRe:Opn Tryz.prog 33 bD aAA:=by
 refine uM (β:=bG×(List Int)×(List Int)×Int×(List bI)×Unit) (fs:=[(30,0),(23,2),(23,3),(3,4),(31,5)]) Tryz.underlying33 rfl (by kernel_rfl) (cZ (sz:=2) aSU (by kernel_rfl) rfl (cZ (sz:=1) aJk (by kernel_rfl) rfl (cZ (sz:=1) aJk (by kernel_rfl) rfl (cZ (sz:=1) aCC (by kernel_rfl) rfl (cZ (sz:=1) aRx (by kernel_rfl) rfl tX))))) (fun p=>⟨p.1,p.2.1,p.2.2.1,p.2.2.2.1,p.2.2.2.2.1⟩) (fun _=>rfl) ?_
 intro p h
 exact ⟨h.1,h.2.1,h.2.2.1,h.2.2.2.1,h.2.2.2.2.1⟩
theorem aQu:aKR Tryz.prog 33 bD:=.inl ⟨by rfl,fun _=>rfl⟩
theorem aPE:OpV Tryz.prog 33 bD aAA:=aF9 aRe aQu (fun h=>by cases (show some true=some false from h))
def aCa (x:bS):Prop:=okI x.Call∧okI x.Edge∧okI x.Failed∧okI x.Set
theorem aSt:Opn Tryz.prog 35 fE aCa:=by
 refine uM (β:=Int×Int×Int×Int×Unit) (fs:=[(3,0),(3,1),(3,2),(3,3)]) Tryz.underlying35 rfl (by kernel_rfl) (cZ (sz:=1) aCC (by kernel_rfl) rfl (cZ (sz:=1) aCC (by kernel_rfl) rfl (cZ (sz:=1) aCC (by kernel_rfl) rfl (cZ (sz:=1) aCC (by kernel_rfl) rfl tX)))) (fun p=>⟨p.1,p.2.1,p.2.2.1,p.2.2.2.1⟩) (fun _=>rfl) ?_
 intro p h
 exact ⟨h.1,h.2.1,h.2.2.1,h.2.2.2.1⟩
theorem aQP:aKR Tryz.prog 35 fE:=.inl ⟨by rfl,fun _=>rfl⟩
theorem aOG:OpV Tryz.prog 35 fE aCa:=aF9 aSt aQP (fun h=>by cases (show some true=some false from h))
theorem zN {a:Int} (h0:0≤a) (h1:a<4611686018427387904):(BitVec.ofInt IntKind.i64.bits a).toNat=a.toNat:=by
 show (BitVec.ofInt 64 a).toNat=a.toNat
 rw [BitVec.toNat_ofInt,Int.emod_eq_of_lt h0 (by omega)]
theorem aBh {a b:Int} (h0:0≤a) (h1:a<4611686018427387904) (g0:0≤b) (g1:b<4611686018427387904):zF .i64 a b=((a.toNat&&&b.toNat:Nat):Int):=by
 show IntKind.i64.wrap _=_
 rw [BitVec.toNat_and,zN h0 h1,zN g0 g1]
 have:a.toNat&&&b.toNat≤a.toNat:=Nat.and_le_left
 exact aHq (by omega) (by omega)
theorem aDB {a b:Int} (h0:0≤a) (h1:a<4611686018427387904) (g0:0≤b) (g1:b<4611686018427387904):bor .i64 a b=((a.toNat|||b.toNat:Nat):Int):=by
 show IntKind.i64.wrap _=_
 rw [BitVec.toNat_or,zN h0 h1,zN g0 g1]
 have:a.toNat|||b.toNat<2 ^ 62:=Nat.or_lt_two_pow (by omega) (by omega)
 exact aHq (by omega) (by omega)
theorem qX {n m:Nat} (h:n≤m):(2:Int) ^ n≤2 ^ m:=by
 have:=Nat.pow_le_pow_right (n:=2) (by omega) h
 exact_mod_cast this
theorem two_pow_pos (n:Nat):(0:Int)<2 ^ n:=by
 have:=Nat.two_pow_pos n
 exact_mod_cast this
theorem kI {k:Nat} (h:k≤60):aAw .i64 1 (k:Int)=2 ^ k:=by
 show IntKind.i64.wrap (1 * 2 ^ (min (k:Int).toNat 64))=_
 rw [Int.toNat_natCast,Nat.min_eq_left (by omega),Int.one_mul]
 have h1:=qX h
 have h2:=two_pow_pos k
 exact aHq (by omega) (by omega)
theorem aBc {s:Int} {i:Nat} (h0:0≤s) (hi:i≤60):zD .i64 s (i:Int)=((s.toNat >>> i:Nat):Int):=by
 show s.fdiv (2 ^ (min (i:Int).toNat 64))=_
 rw [Int.toNat_natCast,Nat.min_eq_left (by omega),Int.fdiv_eq_ediv_of_nonneg _ (Int.le_of_lt (two_pow_pos i)),Nat.shiftRight_eq_div_pow]
 conv=>lhs;rw [← Int.toNat_of_nonneg h0]
 norm_cast
theorem aCd (n i:Nat):(n >>> i)&&&1=if n.testBit i then 1 else 0:=by
 rw [Nat.testBit_eq_decide_div_mod_eq,Nat.shiftRight_eq_div_pow,Nat.and_one_is_mod]
 have:=Nat.mod_two_eq_zero_or_one (n / 2 ^ i)
 rcases this with h | h<;>simp [h]
theorem aIQ {s:Int} {i:Nat} (h0:0≤s) (h1:s<4611686018427387904) (hi:i≤60):(zF .i64 (zD .i64 s (i:Int)) 1==1)=s.toNat.testBit i:=by
 rw [aBc h0 hi]
 have:s.toNat >>> i≤s.toNat:=by rw [Nat.shiftRight_eq_div_pow];exact Nat.div_le_self _ _
 generalize hg:s.toNat >>> i=g at this
 rw [aBh (by omega) (by omega) (by omega) (by omega),Int.toNat_natCast,show Int.toNat 1=1 from rfl,← hg,aCd]
 cases s.toNat.testBit i<;>rfl
theorem aRK {s:Int} {i:Nat} (h0:0≤s) (h1:s<4611686018427387904) (hi:i≤60):(zF .i64 (zD .i64 s (i:Int)) 1==0) = !s.toNat.testBit i:=by
 rw [aBc h0 hi]
 have:s.toNat >>> i≤s.toNat:=by rw [Nat.shiftRight_eq_div_pow];exact Nat.div_le_self _ _
 generalize hg:s.toNat >>> i=g at this
 rw [aBh (by omega) (by omega) (by omega) (by omega),Int.toNat_natCast,show Int.toNat 1=1 from rfl,← hg,aCd]
 cases s.toNat.testBit i<;>rfl
def fP:Nat→List Int→Int
 | _,[]=>0
 | 0,a::l=>a+fP 0 l
 | k+1,a::l=>min (fP k l) (a+fP (k+1) l)
theorem lT (k:Nat):fP k []=0:=by cases k<;>rfl
theorem oE (a:Int) (l:List Int):fP 0 (a::l)=a+fP 0 l:=rfl
theorem nF (k:Nat) (a:Int) (l:List Int):fP (k+1) (a::l)=min (fP k l) (a+fP (k+1) l):=rfl
theorem aAB:∀ {l:List Int} (k:Nat),(∀ x∈l,0≤x)→0≤fP k l
 | [],k,_=>by rw [lT];exact Int.le_refl 0
 | a::l,0,h=>by
  have:=aAB 0 fun x hx=>h x (List.mem_cons_of_mem a hx)
  have:=h a List.mem_cons_self
  rw [oE];omega
 | a::l,k+1,h=>by
  have:=aAB k fun x hx=>h x (List.mem_cons_of_mem a hx)
  have:=aAB (k+1) fun x hx=>h x (List.mem_cons_of_mem a hx)
  have:=h a List.mem_cons_self
  rw [nF];omega
theorem aBN:∀ {l:List Int} (k:Nat),(∀ x∈l,0≤x)→fP (k+1) l≤fP k l
 | [],k,_=>by rw [lT,lT];exact Int.le_refl 0
 | a::l,0,h=>by
  have:=h a List.mem_cons_self
  rw [oE,nF];omega
 | a::l,k+1,h=>by
  have:=aBN k fun x hx=>h x (List.mem_cons_of_mem a hx)
  have:=aBN (k+1) fun x hx=>h x (List.mem_cons_of_mem a hx)
  rw [nF,nF];omega
theorem uQ {α:Type} {f g:α→Int}:∀ {l:List α} (k:Nat),(∀ x∈l,f x≤g x)→fP k (l.map f)≤fP k (l.map g)
 | [],k,_=>by simp [lT]
 | a::l,0,h=>by
  have:=uQ (f:=f) (g:=g) 0 fun x hx=>h x (List.mem_cons_of_mem a hx)
  have:=h a List.mem_cons_self
  rw [List.map_cons,List.map_cons,oE,oE];omega
 | a::l,k+1,h=>by
  have:=uQ (f:=f) (g:=g) k fun x hx=>h x (List.mem_cons_of_mem a hx)
  have:=uQ (f:=f) (g:=g) (k+1) fun x hx=>h x (List.mem_cons_of_mem a hx)
  have:=h a List.mem_cons_self
  rw [List.map_cons,List.map_cons,nF,nF];omega
theorem vA {l l':List Int} (h:l.Perm l'):∀ k,fP k l=fP k l':=by
 induction h with
 | nil=>exact fun _=>rfl
 | cons a _ ih=>intro k;cases k with
  | zero=>rw [oE,oE,ih]
  | succ k=>rw [nF,nF,ih,ih]
 | swap a b l=>intro k;match k with
  | 0=>rw [oE,oE,oE,oE];omega
  | 1=>
   have e1:∀ x y:Int,fP 1 (x::y::l)=min (y+fP 0 l) (x+min (fP 0 l) (y+fP 1 l)):=fun _ _=>rfl
   rw [e1,e1];omega
  | k+2=>rw [nF,nF,nF,nF,nF,nF];omega
 | trans _ _ ih1 ih2=>exact fun k=>(ih1 k).trans (ih2 k)
theorem vC:∀ (l l':List Int),fP 0 (l++l')=fP 0 l+fP 0 l'
 | [],l'=>by simp [lT]
 | a::l,l'=>by
  have:=vC l l'
  rw [List.cons_append,oE,oE,this];omega
theorem aKE:∀ (l:List Int) (a:Int) (k:Nat),(∀ x∈l,x≤a)→0≤a→fP 0 (l.drop k)≤a+fP 0 (l.drop (k+1))
 | [],a,k,_,h=>by simp [lT,h]
 | b::l,a,0,h,_=>by
  have:=h b List.mem_cons_self
  simp only [List.drop_zero,List.drop_succ_cons,oE];omega
 | b::l,a,k+1,h,h0=>aKE l a k (fun x hx=>h x (List.mem_cons_of_mem b hx)) h0
theorem vU:∀ {l:List Int} (k:Nat),l.Pairwise (fun x y=>y≤x)→(∀ x∈l,0≤x)→fP k l=fP 0 (l.drop k)
 | [],k,_,_=>by simp [lT]
 | a::l,0,_,_=>rfl
 | a::l,k+1,h,h0=>by
  obtain ⟨h1,h2⟩:=List.pairwise_cons.1 h
  have e1:=vU k h2 fun x hx=>h0 x (List.mem_cons_of_mem a hx)
  have e2:=vU (k+1) h2 fun x hx=>h0 x (List.mem_cons_of_mem a hx)
  have:=aKE l a k h1 (h0 a List.mem_cons_self)
  rw [nF,e1,e2,List.drop_succ_cons]
  omega
theorem yY {B:Int}:∀ {l:List Int},(∀ x∈l,x≤B)→fP 0 l≤l.length * B
 | [],_=>by simp [lT]
 | a::l,h=>by
  have:=yY fun x hx=>h x (List.mem_cons_of_mem a hx)
  have:=h a List.mem_cons_self
  rw [oE,List.length_cons]
  have e:((l.length+1:Nat):Int) * B=l.length * B+B:=by rw [Int.natCast_add,Int.add_mul];simp
  omega
theorem dC {α:Type} [Inhabited α] {l:List α} {k:Nat} (h:k<l.length):l.getD k default=l[k]:=by simp [h]
theorem bV {α:Type} [Inhabited α] {l:List α} {k:Nat} (h:k<l.length):l.getD k default∈l:=by rw [dC h];exact List.getElem_mem h
theorem sM (a b c:Int):cL a b c=some (decide (b≤a)&&decide (a≤c)):=by
 unfold cL
 simp only [iK,aZ]
 split
 ·rename_i h;rw [decide_eq_true h,Bool.true_and]
 ·rename_i h;rw [decide_eq_false h,Bool.false_and]
theorem aB7 (a b c:Int):fY a b c=some (decide (b≤a)&&decide (a≤c)):=sM a b c
theorem wW {α:Type} [Inhabited α] {l:List α} (hl:l.length<1048577) {G:α→Option Bool} {p:α→Bool} (h:∀ x∈l,G x=some (p x)) :
  ∃ o,lp (fun s:Int=>cn (decide (s<(l.length:Int))) (ix l default s fun e2=>bd (G e2) fun y3=>cn y3 (some (.rt s)) (some (.nx (wr (s+1))))) (some (.bk s))) FU 0=some o ∧
   ((∃ x,o=.inl x)∧(∀ x∈l,p x=false)∨∃ i:Nat,o=.inr (i:Int)∧i<l.length∧p (l.getD i default)=true∧∀ j,j<i→p (l.getD j default)=false):=by
 refine mJ (fun s=>∃ k:Nat,s=(k:Int)∧k≤l.length∧∀ j,j<k→p (l.getD j default)=false) (fun s=>(l.length-s.toNat)) _ ?_ 0 ⟨0,rfl,by omega,fun j hj=>by omega⟩ (by omega)
 rintro s ⟨k,rfl,hk,hj⟩
 simp only [aZ]
 by_cases q:k<l.length
 ·rw [if_pos (by omega),lB q,h _ (bV q),bL]
  cases hp:p (l.getD k default)
  ·rw [dN,bT (by omega) (by omega)]
   refine .inl ⟨_,rfl,⟨k+1,by omega,by omega,fun j h=>?_⟩,?_⟩
   ·by_cases e:j=k
    ·subst e;exact hp
    ·exact hj j (by omega)
   ·omega
  ·exact .inr (.inr ⟨_,eE _ _,.inr ⟨k,rfl,q,hp,hj⟩⟩)
 ·rw [if_neg (by omega)]
  refine .inr (.inl ⟨_,rfl,.inl ⟨⟨_,rfl⟩,fun x hx=>?_⟩⟩)
  obtain ⟨j,hj',e⟩:=List.getElem_of_mem hx
  rw [← e,← dC hj']
  exact hj j (by omega)
theorem aKI {α:Type} [Inhabited α] {l:List α} (hl:l.length<1048577) {G:α→Option Bool} (h:∀ x∈l,G x=some false) :
  ∃ x,lp (fun s:Int=>cn (decide (s<(l.length:Int))) (ix l default s fun e2=>bd (G e2) fun y3=>cn y3 (some (.rt s)) (some (.nx (wr (s+1))))) (some (.bk s)):Int→Option (Ct Int Int)) FU 0=some (.inl x):=by
 obtain ⟨o,e,⟨⟨x,rfl⟩,_⟩ | ⟨i,_,_,h,_⟩⟩:=wW hl (p:=fun _=>false) h
 ·exact ⟨x,e⟩
 ·simp at h
structure WV (n:bG) (l:List Int):Prop where
 len:1≤l.length∧l.length≤6
 rg:∀ e∈l,0≤e∧e<(n.Edges.length:Int)
 nd:l.Nodup
 go:∀ i,i+1<l.length→(n.Edges.getD (l.getD i default).toNat default).To=(n.Edges.getD (l.getD (i+1) default).toNat default).From
structure RV (r:aD):Prop where
 n:1≤r.Net.N∧r.Net.N≤8
 el:r.Net.Edges.length≤20
 eg:∀ e∈r.Net.Edges,(0≤e.From∧e.From<r.Net.N)∧(0≤e.To∧e.To<r.Net.N)∧e.From≠e.To∧0≤e.Capacity∧e.Capacity≤10000
 ul:(r.Urgent.length:Int)=r.Net.N
 uv:∀ u∈r.Urgent,0≤u∧u≤1000
 cl:(r.Centres.length:Int)=r.Net.N
 cv:∀ u∈r.Centres,0≤u∧u≤10000
 ft:0≤r.Faults∧r.Faults≤2
 kl:r.Calls.length≤8
 kv:∀ o∈r.Calls,(1≤o.Amount∧o.Amount≤10000)∧WV r.Net o.Edges
theorem aDH {l:List Int} (hl:l.length<1048577) (hn:l.Nodup) {k:Nat} (hk:k<l.length):dI l (l.getD k default)=some (k:Int):=by
 unfold dI
 obtain ⟨o,e,h⟩:=wW (l:=l) hl (G:=fun x=>some (l.getD k default==x)) (p:=fun x=>l.getD k default==x) (fun _ _=>rfl)
 have e2:(fun s:Int=>cn (decide (s<(l.length:Int))) (ix l default s fun e2=>bd (some (l.getD k default==e2)) fun y3=>cn y3 (some (.rt s)) (some (.nx (wr (s+1))))) (some (.bk s)):Int→Option (Ct Int Int))=dO l (l.getD k default):=by
  funext s;unfold dO;simp only [bL]
 rw [e2] at e
 rw [e,bL]
 rcases h with ⟨_,h⟩ | ⟨i,rfl,hi,h,_⟩
 ·have:=h _ (bV hk)
  simp at this
 ·have h:l.getD k default=l.getD i default:=by simpa using h
  rw [dC hk,dC hi] at h
  have hp:=List.pairwise_iff_getElem.1 hn
  have:k=i:=by
   rcases Nat.lt_trichotomy k i with q | q | q
   ·exact absurd h (hp k i hk hi q)
   ·exact q
   ·exact absurd h.symm (hp i k hi hk q)
  subst this
  rw [tT]
theorem aLr {n:bG} {l:List Int} (hn:n.Edges.length<1048577) (h:WV n l):gW n l=some true:=by
 unfold gW
 have hl:=h.len
 rw [sM,bL,decide_eq_true (by omega),decide_eq_true (by omega)]
 simp only [Bool.and_self,Bool.not_true,dN]
 obtain ⟨s,e,hs⟩:=dD (body:=fJ n l) (fun k s=>s=(k:Int)) l.length (by omega) (fun k s hk hs=>by
  subst hs
  unfold fJ
  have hm:=h.rg _ (bV hk)
  simp only [iK,aZ]
  rw [if_pos (by omega),lB hk,sM,bL,bT (by omega) (by omega),decide_eq_true (by omega),decide_eq_true (by omega),aDH (by omega) h.nd hk]
  simp only [Bool.and_self,Bool.not_true,dN,bL]
  rw [show ((k:Int) != k)=false by simp,dN]
  have fin:(some (Ct.nx (wr ((k:Int)+1))):Option (Ct Int Bool))=some (.nx ((k+1:Nat):Int)):=by rw [bT (by omega) (by omega)];rfl
  by_cases q:(k:Int)>0
  ·obtain ⟨j,rfl⟩:∃ j,k=j+1:=⟨k-1,by omega⟩
   have hg:=h.go j hk
   have hm2:=h.rg _ (bV (l:=l) (k:=j) (by omega))
   rw [if_pos q,bT (by omega) (by omega),show ((j+1:Nat):Int)-1=(j:Int) by omega,lB (by omega),aGu hm2.1 hm2.2,aGu hm.1 hm.2,hg]
   rw [show ((n.Edges.getD (l.getD (j+1) default).toNat default).From != (n.Edges.getD (l.getD (j+1) default).toNat default).From)=false by simp,dN]
   exact ⟨_,fin,rfl⟩
  ·rw [if_neg q]
   exact ⟨_,fin,rfl⟩) (fun s hs=>by
  subst hs
  unfold fJ
  simp only [aZ]
  rw [if_neg (by omega)]) 0 rfl
 rw [e,bL,eJ]
theorem aAN {n:bG} (h0:0≤n.N∧n.N≤12) (hl:n.Edges.length≤40) (h:∀ e∈n.Edges,(0≤e.From∧e.From<n.N)∧(0≤e.To∧e.To<n.N)∧e.From≠e.To∧0≤e.Capacity∧e.Capacity≤10000):hU n=some true:=by
 unfold hU
 simp only [iK]
 rw [aB7,bL,decide_eq_true h0.1,decide_eq_true h0.2,decide_eq_false (by omega)]
 simp only [Bool.and_self,Bool.not_true,dN]
 unfold cH dM
 obtain ⟨x,e⟩:=aKI (l:=n.Edges) (by omega) (G:=fun e=>gO e n) fun e he=>by
  obtain ⟨h1,h2,h3,h4,h5⟩:=h e he
  unfold gO
  simp only [iK]
  rw [bT (by omega) (by omega),aB7,bL,aB7,aB7,decide_eq_true (by omega),decide_eq_true (by omega),decide_eq_true (by omega),decide_eq_true (by omega),decide_eq_true (by omega),decide_eq_true (by omega)]
  simp only [Bool.and_self,Bool.not_true,dN,bL]
  rw [iL,if_neg h3]
 have e2:(fun s:Int=>cn (decide (s<(n.Edges.length:Int))) (ix n.Edges default s fun e2=>bd (gO e2 n) fun y3=>cn y3 (some (.rt s)) (some (.nx (wr (s+1))))) (some (.bk s)):Int→Option (Ct Int Int))=cP n.Edges n:=by
  funext s;unfold cP;rfl
 rw [e2] at e
 rw [e,bL,eJ,bL,bL]
 rfl
theorem aI6 {l:List Int} {B:Int} (hl:l.length≤1000) (h:∀ u∈l,0≤u∧u≤B):bW l B=some false:=by
 unfold bW dU
 obtain ⟨x,e⟩:=aKI (l:=l) (by omega) (G:=fun e=>dA e B) fun u hu=>by
  obtain ⟨h1,h2⟩:=h u hu
  unfold dA
  rw [sM,bL,decide_eq_true h1,decide_eq_true h2];rfl
 have e2:(fun s:Int=>cn (decide (s<(l.length:Int))) (ix l default s fun e2=>bd (dA e2 B) fun y3=>cn y3 (some (.rt s)) (some (.nx (wr (s+1))))) (some (.bk s)):Int→Option (Ct Int Int))=cT l B:=by
  funext s;unfold cT;rfl
 rw [e2] at e
 rw [e,bL,eJ,bL]
 rfl
theorem aBf {r:aD} (h:RV r):dF r=some true:=by
 unfold dF
 have hn:=h.n
 have he:=h.el
 have hk:=h.kl
 simp only [iK]
 have hu:=h.ul
 have hc:=h.cl
 rw [aAN ⟨by omega,by omega⟩ (by omega) h.eg,bL,sM,sM,decide_eq_true hn.1,decide_eq_true hn.2,decide_eq_true h.ft.1,decide_eq_true h.ft.2,decide_eq_false (by omega),decide_eq_false (by omega)]
 simp only [Bool.and_self,Bool.not_true,dN,bL]
 rw [fR,if_pos hu,fR,if_pos hc,aI6 (by omega) h.uv,aI6 (by omega) h.cv]
 simp only [bL,dN]
 unfold bX cR
 obtain ⟨x,e⟩:=aKI (l:=r.Calls) (by omega) (G:=fun e=>dW e r) fun o ho=>by
  obtain ⟨⟨h1,h2⟩,h3⟩:=h.kv o ho
  unfold dW
  simp only [iK]
  rw [sM,bL,decide_eq_true h1,decide_eq_true h2,aLr (by omega) h3];simp only [Bool.and_self,Bool.not_true,dN,bL]
 have e2:(fun s:Int=>cn (decide (s<(r.Calls.length:Int))) (ix r.Calls default s fun e2=>bd (dW e2 r) fun y3=>cn y3 (some (.rt s)) (some (.nx (wr (s+1))))) (some (.bk s)):Int→Option (Ct Int Int))=cE r.Calls r:=by
  funext s;unfold cE;rfl
 rw [e2] at e
 rw [e,bL,eJ,bL,bL]
 rfl
def vP (cs:List bI) (s e:Nat):Nat→Int
 | 0=>0
 | k+1=>vP cs s e k+(if s.testBit k=true∧(e:Int)∈(cs.getD k default).Edges then (cs.getD k default).Amount else 0)
def adj (es:List dE) (u:Nat→Int):List dE:=(List.range es.length).map fun e=>⟨(es.getD e default).From,(es.getD e default).To,(es.getD e default).Capacity-u e⟩
def aC7 (r:aD) (s e:Nat):Int:=(r.Net.Edges.getD e default).Capacity-vP r.Calls s e r.Calls.length
def aGw (r:aD) (k:Nat):List dE:=(List.range k).map fun i:Nat=>⟨(i:Int),r.Net.N,r.Centres.getD i default⟩
def lvE (r:aD) (s:Nat):List dE:=adj r.Net.Edges (fun e=>vP r.Calls s e r.Calls.length)++aGw r r.Centres.length
def yI (l:List Int):Nat→Int
 | 0=>0
 | k+1=>yI l k+l.getD k default
theorem pU (es:List dE) (u:Nat→Int):(adj es u).length=es.length:=by simp [adj]
theorem uC {es:List dE} {u:Nat→Int} {e:Nat} (h:e<es.length):(adj es u).getD e default=⟨(es.getD e default).From,(es.getD e default).To,(es.getD e default).Capacity-u e⟩:=by
 rw [dC (by rw [pU];exact h)]
 simp [adj]
theorem aLG (es:List dE):adj es (fun _=>0)=es:=by
 refine List.ext_getElem (pU _ _) fun i h1 h2=>?_
 rw [← dC h1,uC h2,← dC h2]
 simp
theorem aNt {es:List dE} {u u':Nat→Int} {e:Nat} {a:Int} (h:e<es.length) (h1:u' e=u e+a) (h2:∀ x,x≠e→u' x=u x):(adj es u).set e ⟨((adj es u).getD e default).From,((adj es u).getD e default).To,((adj es u).getD e default).Capacity-a⟩=adj es u':=by
 refine List.ext_getElem (by rw [List.length_set,pU,pU]) fun i hi1 hi2=>?_
 rw [pU] at hi2
 rw [List.getElem_set]
 split
 ·rename_i q;subst q
  rw [← dC,uC h,uC h,h1]
  simp;omega
 ·rename_i q
  rw [← dC,← dC,uC hi2,uC hi2,h2 i (fun q'=>q q'.symm)]
theorem aCT {r:aD} (h:RV r) (s e:Nat):∀ k,k≤r.Calls.length→0≤vP r.Calls s e k∧vP r.Calls s e k≤k * 10000
 | 0,_=>by simp [vP]
 | k+1,hk=>by
  have h1:=aCT h s e k (by omega)
  have h2:=(h.kv _ (bV (l:=r.Calls) (k:=k) (by omega))).1
  simp only [vP]
  split<;>omega
theorem aHJ {r:aD} (h:RV r) {e:Nat} (he:e<r.Net.Edges.length):0≤(r.Net.Edges.getD e default).Capacity∧(r.Net.Edges.getD e default).Capacity≤10000:=(h.eg _ (bV he)).2.2.2
section
variable {r:aD} (h:RV r)
include h
theorem aNU {o:bI} (ho:o∈r.Calls) {u:Nat→Int} (hu:∀ e,0≤u e∧u e≤80000) {N:Int} :
  ∃ x,lp (jN o) FU (0,(⟨N,adj r.Net.Edges u⟩:bG))=some (.inl (x,(⟨N,adj r.Net.Edges fun e=>u e+if (e:Int)∈o.Edges then o.Amount else 0⟩:bG))):=by
 obtain ⟨⟨a1,a2⟩,w⟩:=h.kv o ho
 have hl:=w.len
 have hel:=h.el
 obtain ⟨s,e,h1,h2⟩:=dD (body:=jN o) (fun k s=>s.1=(k:Int)∧s.2=(⟨N,adj r.Net.Edges fun e=>u e+if (e:Int)∈o.Edges.take k then o.Amount else 0⟩:bG)) o.Edges.length (by omega) (fun k s hk ⟨h1,h2⟩=>by
  obtain ⟨i,n⟩:=s
  simp only at h1 h2
  subst h1 h2
  have hm:=w.rg _ (bV hk)
  unfold jN
  simp only [aZ]
  obtain ⟨z,hz⟩:∃ z:Nat,o.Edges.getD k default=(z:Int):=⟨_,(Int.toNat_of_nonneg hm.1).symm⟩
  rw [hz] at hm
  have hz2:z<r.Net.Edges.length:=by omega
  have hnot:(z:Int) ∉ o.Edges.take k:=fun hc=>by
   obtain ⟨j,hj,e⟩:=List.getElem_of_mem hc
   rw [List.length_take] at hj
   rw [List.getElem_take,← hz,dC hk] at e
   exact List.pairwise_iff_getElem.1 w.nd j k (by omega) hk (by omega) e
  have hc:=aHJ h hz2
  have hb:=hu z
  rw [if_pos (by omega),lB hk,hz,kN _ (by rw [pU];omega),kN _ (by rw [pU];omega),aQ4]
  refine ⟨_,rfl,?_,?_⟩
  ·simp only;rw [bT (by omega) (by omega)];rfl
  ·simp only [Int.toNat_natCast]
   rw [uC hz2]
   simp only [hnot,if_false,Int.add_zero]
   rw [bT (by omega) (by omega)]
   congr 1
   have:=aNt (es:=r.Net.Edges) (u:=fun e=>u e+if (e:Int)∈o.Edges.take k then o.Amount else 0) (u':=fun e=>u e+if (e:Int)∈o.Edges.take (k+1) then o.Amount else 0) (e:=z) (a:=o.Amount) hz2 (by
    have hin:(z:Int)∈o.Edges.take (k+1):=by
     rw [List.take_succ_eq_append_getElem hk,← dC hk,hz];simp
    simp only [hnot,hin,if_true,if_false];omega) (fun x hx=>by
    have:(x:Int)∈o.Edges.take (k+1)↔(x:Int)∈o.Edges.take k:=by
     rw [List.take_succ_eq_append_getElem hk,← dC hk,hz,List.mem_append,List.mem_singleton]
     constructor
     ·rintro (q | q)
      ·exact q
      ·omega
     ·exact Or.inl
    simp only [this])
   rw [uC hz2] at this
   simp only [hnot,if_false,Int.add_zero] at this
   exact this) (fun s ⟨h1,h2⟩=>by
  unfold jN
  simp only [aZ]
  rw [if_neg (by omega)]) (0,⟨N,adj r.Net.Edges u⟩) ⟨rfl,by simp⟩
 rw [List.take_length] at h2
 exact ⟨s.1,by rw [e,← h2]⟩
theorem aNJ {s:Nat} (hs:s<4611686018427387904) {N:Int}:∃ x,lp (jL r (s:Int)) FU (0,(⟨N,r.Net.Edges⟩:bG))=some (.inl (x,(⟨N,adj r.Net.Edges fun e=>vP r.Calls s e r.Calls.length⟩:bG))):=by
 have hk8:=h.kl
 obtain ⟨s',e,h1,h2⟩:=dD (body:=jL r (s:Int)) (fun k x=>x.1=(k:Int)∧x.2=(⟨N,adj r.Net.Edges fun e=>vP r.Calls s e k⟩:bG)) r.Calls.length (by omega) (fun k x hk ⟨h1,h2⟩=>by
  obtain ⟨i,n⟩:=x
  simp only at h1 h2
  subst h1 h2
  unfold jL
  simp only [aZ,iK]
  rw [if_pos (by omega),lB hk,kN _ (by omega),aIQ (by omega) (by omega) (by omega),Int.toNat_natCast]
  have fin:wr ((k:Int)+1)=((k+1:Nat):Int):=by rw [bT (by omega) (by omega)];rfl
  cases hb:s.testBit k
  ·rw [dN]
   refine ⟨_,rfl,fin,?_⟩
   simp [vP,hb]
  ·obtain ⟨x,e⟩:=aNU h (o:=r.Calls.getD k default) (bV hk) (u:=fun e=>vP r.Calls s e k) (fun e=>by have:=aCT h s e k (by omega);omega) (N:=N)
   rw [eE,e,bL,eJ]
   refine ⟨_,rfl,fin,?_⟩
   simp [vP,hb]) (fun x ⟨h1,h2⟩=>by
  unfold jL
  simp only [aZ]
  rw [if_neg (by omega)]) (0,⟨N,r.Net.Edges⟩) ⟨rfl,by simp only [vP];rw [aLG]⟩
 exact ⟨s'.1,by rw [e,← h2]⟩
theorem aAk:∀ k,k≤r.Urgent.length→0≤yI r.Urgent k∧yI r.Urgent k≤k * 1000
 | 0,_=>by simp [yI]
 | k+1,hk=>by
  have h1:=aAk k (by omega)
  have h2:=h.uv _ (bV (l:=r.Urgent) (k:=k) (by omega))
  simp only [yI];omega
theorem aN6 {N:Int} {es:List dE} (hes:es.length≤20):∃ x,lp (jE r) FU (0,0,(⟨N,es⟩:bG))=some (.inl (yI r.Urgent r.Urgent.length,x,(⟨N,es++aGw r r.Centres.length⟩:bG))):=by
 have hn:=h.n
 have hul:=h.ul
 have hcl:=h.cl
 obtain ⟨s',e,h1,h2,h3⟩:=dD (body:=jE r) (fun k x=>x.2.1=(k:Int)∧x.2.2=(⟨N,es++aGw r k⟩:bG)∧x.1=yI r.Urgent k) r.Centres.length (by omega) (fun k x hk ⟨h1,h2,h3⟩=>by
  obtain ⟨sm,i,n⟩:=x
  simp only at h1 h2 h3
  subst h1 h2 h3
  have hk2:k<r.Urgent.length:=by omega
  have hb:=aAk h k (by omega)
  have hu:=h.uv _ (bV hk2)
  unfold jE
  simp only [aZ]
  rw [if_pos (by omega),lB hk,wZ,aCu (by simp [aGw];omega),lB hk2,bT (by omega) (by omega),bT (by omega) (by omega)]
  refine ⟨_,rfl,rfl,?_,rfl⟩
  simp only [aGw,List.range_succ,List.map_append,List.map_cons,List.map_nil,List.append_assoc]) (fun x ⟨h1,_,_⟩=>by
  unfold jE
  simp only [aZ]
  rw [if_neg (by omega)]) (0,0,⟨N,es⟩) ⟨rfl,by simp [aGw],rfl⟩
 obtain ⟨a,b,c⟩:=s'
 simp only at h1 h2 h3
 refine ⟨b,?_⟩
 rw [e,h2,h3,show r.Urgent.length=r.Centres.length by omega]
theorem aEJ {s:Nat} (hs:s<4611686018427387904) :
  (∃ e:Nat,e<r.Net.Edges.length∧aC7 r s e<0∧eP r s=some (⟨0,[]⟩,[],(e:Int))) ∨
  ((∀ e,e<r.Net.Edges.length→0≤aC7 r s e)∧eP r s=some (⟨r.Net.N+1,lvE r s⟩,r.Urgent++[-(yI r.Urgent r.Urgent.length)],-1)):=by
 have hn:=h.n
 have hel:=h.el
 have hul:=h.ul
 obtain ⟨x,e⟩:=aNJ h hs (N:=wr (r.Net.N+1))
 have hw:wr (r.Net.N+1)=r.Net.N+1:=bT (by omega) (by omega)
 rw [hw] at e
 unfold eP
 rw [kN _ (by omega),wZ,hw,e,bL,eJ]
 simp only
 have hget:∀ k,k<r.Net.Edges.length→((adj r.Net.Edges fun e=>vP r.Calls s e r.Calls.length).getD k default).Capacity=aC7 r s k:=fun k hk=>by rw [uC hk];rfl
 generalize hA:(adj r.Net.Edges fun e=>vP r.Calls s e r.Calls.length)=A at hget
 have hAl:A.length=r.Net.Edges.length:=by rw [← hA,pU]
 obtain ⟨o,e2,ho⟩:=wW (l:=A) (by omega) (G:=iH) (p:=fun e=>decide (e.Capacity<0)) (fun x _=>by unfold iH;rfl)
 have e3:(fun s:Int=>cn (decide (s<(A.length:Int))) (ix A default s fun e2=>bd (iH e2) fun y3=>cn y3 (some (.rt s)) (some (.nx (wr (s+1))))) (some (.bk s)):Int→Option (Ct Int Int))=eO A:=by
  funext s;unfold eO;rfl
 rw [e3] at e2
 unfold eY
 rw [e2,bL]
 rcases ho with ⟨⟨x,rfl⟩,ho⟩ | ⟨i,rfl,hi,ho,_⟩
 ·refine .inr ⟨fun k hk=>?_,?_⟩
  ·have:=ho _ (bV (l:=A) (k:=k) (by omega))
   rw [hget k hk] at this
   simpa using this
  ·obtain ⟨x3,e4⟩:=aN6 h (N:=r.Net.N+1) (es:=A) (by omega)
   have hb:=aAk h r.Urgent.length (Nat.le_refl _)
   rw [eJ,bL,aZ,if_neg (by omega),e4,bL,eJ,kN _ (by omega),wZ,wZ,aCu (by simp;omega),bT (by omega) (by omega)]
   simp only [Int.zero_sub,lvE,hA]
 ·refine .inl ⟨i,by omega,?_,?_⟩
  ·rw [hget i (by omega)] at ho
   simpa using ho
  ·rw [tT,bL,aZ,if_pos (by omega)]
end
end Go.Proofs.YtkjccabdpeldhaaGreat
