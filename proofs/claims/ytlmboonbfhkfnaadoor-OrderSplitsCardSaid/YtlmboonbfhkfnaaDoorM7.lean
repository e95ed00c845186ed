import Derived.Test.YtlmboonbfhkfnaaDoorM5
import Derived.Test.YtlmboonbfhkfnaaDoorM6
set_option linter.unusedVariables false
set_option linter.unusedSimpArgs false
set_option linter.unusedSectionVars false
namespace Go.Proofs.YtlmboonbfhkfnaaDoor
open Go Go.Eng
set_option maxRecDepth 100000
set_option maxHeartbeats 0
set_option maxHeartbeats 0
set_option maxRecDepth 100000
def fG (a0:Int) (a1:List (Int×Int)) (a2:Int) (a3:Int) (a4:Int):Option Bool:=bd (jS ) fun y1=>
  cn (!y1) (some false) (bd (hZ a0 a1 a2) fun y2=>cn (decide (y2.N<2)) (bd (cI y2) fun y3=>jn (fun p4:Bool=>some p4) fun k5=>cn (y3.2 ==
  0) (k5 (y3.1==1)) (k5 false)) (bd (eJ y2) fun y6=>bd (dZ a3 y2.N) fun y7=>bd (dZ a4 (wr (y2.N-1))) fun y8=>
  gd (y2.N≠0) (let v9:=(Int.tmod (wr ((wr (y7+1))+y8)) y2.N);lt ([]:List (Int×Int)) fun l10=>ap l10 y6.1.Pairs fun l11=>
  lt ([(y7,v9)]:List (Int×Int)) fun l12=>ap l11 l12 fun l13=>lt ([]:List (Int×Int)) fun l14=>ap l14 y6.1.Pairs fun l15=>
  lt ([(v9,y7)]:List (Int×Int)) fun l16=>ap l15 l16 fun l17=>bd (cI y2) fun y18=>bd (cI (⟨y2.N,l13⟩:aP)) fun y19=>
  bd (cI (⟨y2.N,l17⟩:aP)) fun y20=>jn (fun p21:Bool=>cn p21 (some false) (bd (cH y2 y7 v9) fun y23=>cn y23 (jn (fun p24:Bool=>
  some p24) fun k25=>cn (y19.2==0) (cn (y19.1==y18.1) (cn (y20.2==70) (k25 (y20.1==0)) (k25 false)) (k25 false)) (k25 false)) (bd (cH y2 v9 y7) fun y26=>
  cn y26 (jn (fun p27:Bool=>some p27) fun k28=>cn (y20.2==0) (cn (y20.1==y18.1) (cn (y19.2==70) (k28 (y19.1 ==
  0)) (k28 false)) (k28 false)) (k28 false)) (jn (fun p29:Bool=>some p29) fun k30=>cn (y19.2==0) (cn (y20.2==0) (cn ((wr (y19.1+y20.1))==y18.1) (cn (decide (y19.1 >
  0)) (k30 (decide (y20.1>0))) (k30 false)) (k30 false)) (k30 false)) (k30 false))))) fun k22=>cn (y6.2 != 0) (k22 true) (k22 (y18.2 != 0)))))
def kX:List AV→AV→Prop:=fun args r=>∃ a0 a1 a2 a3 a4,args=[eI a0,(eL 2 dK default) a1,eI a2,eI a3,eI a4]∧W (fG a0 a1 a2 a3 a4) fun y=>r=(eB y)
theorem pQ {T:Tbl} (hT:TOk Tryd.prog T) (hpf:cP T PF) (h11:T 11=aS jN) (h12:T 12=aS jO) (h13:T 13=aS hG) (h20:T 20=aS gF) (h25:T 25=aS fL) (h27:T 27=aS eC):FOk Tryd.prog 9 (aS kX):=by
 refine bJ hT hpf Tryd.func9 rfl Tryd.ntmps9 Tryd.results9 (by decide) ?_
 rintro args r ⟨a0,a1,a2,a3,a4,rfl,h⟩
 refine ⟨nle rfl,?_,?_⟩
 ·exact (lsC (lsI _ _) (lsC (lsL fun _=>(aO _)) (lsC (lsI _ _) (lsC (lsI _ _) (lsC (lsI _ _) lsN)))))
 rw [fG.eq_1] at h
 refine aE dCo rfl fun K hK=>?_;conv=>whnf
 refine hK _ _ _ ?_
 refine aE dCo rfl fun K hK=>?_;conv=>whnf
 replace h:=bC h
 refine vD h11 h (WkL.refl _) (fun _ h=>?_);conv=>whnf
 refine hK _ _ _ ?_
 refine aL ?_
 refine aE dCo rfl fun K hK=>?_;conv=>whnf
 refine hK _ _ _ ?_
 refine aQ fun K1 K2 hK1 hK2=>?_;conv=>whnf
 refine cLk h (fun _ h=>?_) (fun _ h=>?_)
 ·refine hK1 ?_
  refine aE dCo rfl fun K hK=>?_;conv=>whnf
  refine hK _ _ _ ?_
  refine aD ?_
  refine aG ?_
  replace h:=aB h
  refine aA dCo fun K hK=>?_;conv=>whnf
  refine hK _ ?_
  cases h
  exact Wk.refl _
 refine hK2 ?_
 refine aK ?_
 refine tHn ?_
 refine aE dCo rfl fun K hK=>?_;conv=>whnf
 replace h:=bC h
 refine uP h12 h (WkL.refl _) (fun _ h=>?_);conv=>whnf
 refine bKo rfl ?_;conv=>whnf
 refine And.intro rfl (And.intro (nle rfl) (And.intro rfl ?_));conv=>whnf
 refine hK _ _ _ ?_
 refine aL ?_
 refine aE dCo rfl fun K hK=>?_;conv=>whnf
 refine nlA rfl ?_;conv=>whnf
 refine bKo rfl ?_;conv=>whnf
 refine gKo rfl ?_;conv=>whnf
 refine hK _ _ _ ?_
 refine aQ fun K1 K2 hK1 hK2=>?_;conv=>whnf
 refine cLk h (fun _ h=>?_) (fun _ h=>?_)
 ·refine hK1 ?_
  refine aE dCo rfl fun K hK=>?_;conv=>whnf
  refine nlA rfl ?_;conv=>whnf
  refine bKo rfl ?_;conv=>whnf
  refine nlA rfl ?_;conv=>whnf
  replace h:=bC h
  refine aH h20 h (WkL.refl _) (fun _ h=>?_);conv=>whnf
  refine hK _ _ _ ?_
  refine aE dCo rfl fun K hK=>?_;conv=>whnf
  replace h:=cL h
  refine cLk h (fun _ h=>?_) (fun _ h=>?_)<;>(conv=>whnf)
  ·refine hK _ _ _ ?_
   refine aD ?_
   refine aG ?_
   replace h:=aB h
   refine aA dCo fun K hK=>?_;conv=>whnf
   refine hK _ ?_
   cases h
   exact Wk.refl _
  refine hK _ _ _ ?_
  refine aD ?_
  refine aG ?_
  replace h:=aB h
  refine aA dCo fun K hK=>?_;conv=>whnf
  refine hK _ ?_
  cases h
  exact Wk.refl _
 refine hK2 ?_
 refine aK ?_
 refine tHn ?_
 refine aE dCo rfl fun K hK=>?_;conv=>whnf
 refine nlA rfl ?_;conv=>whnf
 refine bKo rfl ?_;conv=>whnf
 refine nlA rfl ?_;conv=>whnf
 replace h:=bC h
 refine mZ h25 h (WkL.refl _) (fun _ h=>?_);conv=>whnf
 refine bKo rfl ?_;conv=>whnf
 refine And.intro rfl (And.intro (nle rfl) (And.intro rfl ?_));conv=>whnf
 refine hK _ _ _ ?_
 refine aE dCo rfl fun K hK=>?_;conv=>whnf
 refine nlA rfl ?_;conv=>whnf
 refine bKo rfl ?_;conv=>whnf
 refine gKo rfl ?_;conv=>whnf
 replace h:=bC h
 refine lM h13 h (WkL.refl _) (fun _ h=>?_);conv=>whnf
 refine hK _ _ _ ?_
 refine tC dCo eZ rfl (by kernel_rfl) fun K hK=>?_;conv=>whnf
 refine nlA rfl ?_;conv=>whnf
 refine bKo rfl ?_;conv=>whnf
 refine gKo rfl ?_;conv=>whnf
 replace h:=bC h
 refine lM h13 h (WkL.refl _) (fun _ h=>?_);conv=>whnf
 refine nlA rfl ?_;conv=>whnf
 refine bKo rfl ?_;conv=>whnf
 refine gKo rfl ?_;conv=>whnf
 refine cO h fun _ h=>?_;conv=>whnf
 refine hK _ _ _ ?_
 refine uK (.step 0 (.step 2 (.step 3 (.step 4 (.step 5 (.step 6 (.step 7 (.step 8 (.step 9 (.thr 1 10 12 (.two 10 12 (.step 12 (.step 11 (.step 13 (.nil)))) (.step 10 (.step 11 (.step 13 (.nil))))) (.step 1 (.step 12 (.step 11 (.step 13 (.nil))))) (.two 1 10 (.step 10 (.step 11 (.step 13 (.nil)))) (.step 1 (.step 11 (.step 13 (.nil))))))))))))))) dCo eZ rfl (by kernel_rfl) fun K hK=>?_;conv=>whnf
 refine cZ (enc:=dK) (d:=default) dCo h rfl rfl rfl ⟨nle rfl,nle rfl,rfl⟩ rfl trivial (fun h=>?_);conv=>whnf
 refine nlA rfl ?_;conv=>whnf
 refine bKo rfl ?_;conv=>whnf
 refine gKo rfl ?_;conv=>whnf
 refine sO (enc:=dK) (d:=default) dCo h rfl rfl rfl ⟨rfl,nle rfl,nle rfl,nle rfl,rfl⟩ (fun _=>rfl) (fun h=>?_);conv=>whnf
 refine cZ (enc:=dK) (d:=default) dCo h rfl rfl rfl ⟨nle rfl,nle rfl,rfl⟩ rfl ⟨⟨rfl,nle rfl⟩,trivial⟩ (fun h=>?_);conv=>whnf
 refine And.intro ?_ (And.intro ?_ ?_)<;>(conv=>whnf)
 ·refine nlA rfl ?_;conv=>whnf
  refine bKo rfl ?_;conv=>whnf
  refine gKo rfl ?_;conv=>whnf
  refine And.intro ?_ ?_<;>(conv=>whnf)
  ·refine dI (enc:=dK) (d:=default) dCo h (.inl rfl) rfl rfl rfl ⟨rfl,nle rfl,nle rfl,nle rfl,rfl⟩ (fun _=>rfl) (.inr (.inr ⟨_,_,rfl,rfl,rfl⟩)) (fun h=>?_);conv=>whnf
   refine bKo rfl ?_;conv=>whnf
   refine And.intro rfl (And.intro (nle rfl) (And.intro rfl ?_));conv=>whnf
   refine hK _ _ _ ?_
   refine uK (.step 0 (.step 2 (.step 3 (.step 4 (.step 5 (.step 6 (.step 7 (.step 8 (.step 9 (.thr 1 10 12 (.two 10 12 (.step 12 (.step 11 (.step 13 (.nil)))) (.step 10 (.step 11 (.step 13 (.nil))))) (.step 1 (.step 12 (.step 11 (.step 13 (.nil))))) (.two 1 10 (.step 10 (.step 11 (.step 13 (.nil)))) (.step 1 (.step 11 (.step 13 (.nil))))))))))))))) dCo eZ rfl (by kernel_rfl) fun K hK=>?_;conv=>whnf
   refine cZ (enc:=dK) (d:=default) dCo h rfl rfl rfl ⟨nle rfl,nle rfl,rfl⟩ rfl trivial (fun h=>?_);conv=>whnf
   refine nlA rfl ?_;conv=>whnf
   refine bKo rfl ?_;conv=>whnf
   refine gKo rfl ?_;conv=>whnf
   refine sO (enc:=dK) (d:=default) dCo h rfl rfl rfl ⟨rfl,nle rfl,nle rfl,nle rfl,rfl⟩ (fun _=>rfl) (fun h=>?_);conv=>whnf
   refine cZ (enc:=dK) (d:=default) dCo h rfl rfl rfl ⟨nle rfl,nle rfl,rfl⟩ rfl ⟨⟨rfl,nle rfl⟩,trivial⟩ (fun h=>?_);conv=>whnf
   refine And.intro ?_ (And.intro ?_ ?_)<;>(conv=>whnf)
   ·refine nlA rfl ?_;conv=>whnf
    refine bKo rfl ?_;conv=>whnf
    refine gKo rfl ?_;conv=>whnf
    refine And.intro ?_ ?_<;>(conv=>whnf)
    ·refine dI (enc:=dK) (d:=default) dCo h (.inl rfl) rfl rfl rfl ⟨rfl,nle rfl,nle rfl,nle rfl,rfl⟩ (fun _=>rfl) (.inr (.inr ⟨_,_,rfl,rfl,rfl⟩)) (fun h=>?_);conv=>whnf
     refine bKo rfl ?_;conv=>whnf
     refine And.intro rfl (And.intro (nle rfl) (And.intro rfl ?_));conv=>whnf
     refine hK _ _ _ ?_
     refine aE dCo rfl fun K hK=>?_;conv=>whnf
     refine nlA rfl ?_;conv=>whnf
     refine bKo rfl ?_;conv=>whnf
     refine nlA rfl ?_;conv=>whnf
     replace h:=bC h
     refine aH h20 h (WkL.refl _) (fun _ h=>?_);conv=>whnf
     refine hK _ _ _ ?_
     refine aE dCo rfl fun K hK=>?_;conv=>whnf
     refine nlA rfl ?_;conv=>whnf
     refine bKo rfl ?_;conv=>whnf
     refine nlA rfl ?_;conv=>whnf
     replace h:=bC h
     refine aH h20 h (aF (bH (aF (Wk.refl _) (aF aW aJ))) aJ) (fun _ h=>?_);conv=>whnf
     refine hK _ _ _ ?_
     refine aE dCo rfl fun K hK=>?_;conv=>whnf
     refine nlA rfl ?_;conv=>whnf
     refine bKo rfl ?_;conv=>whnf
     refine nlA rfl ?_;conv=>whnf
     replace h:=bC h
     refine aH h20 h (aF (bH (aF (Wk.refl _) (aF aW aJ))) aJ) (fun _ h=>?_);conv=>whnf
     refine hK _ _ _ ?_
     refine aL ?_
     refine aE dCo rfl fun K hK=>?_;conv=>whnf
     replace h:=cL h
     refine cLk h (fun _ h=>?_) (fun _ h=>?_)<;>(conv=>whnf)
     ·refine hK _ _ _ ?_
      refine aQ fun K1 K2 hK1 hK2=>?_;conv=>whnf
      refine hK1 ?_
      replace h:=fC h
      refine aE dCo rfl fun K hK=>?_;conv=>whnf
      refine hK _ _ _ ?_
      refine aD ?_
      refine aG ?_
      replace h:=aB h
      refine aA dCo fun K hK=>?_;conv=>whnf
      refine hK _ ?_
      cases h
      exact Wk.refl _
     refine hK _ _ _ ?_
     refine aQ fun K1 K2 hK1 hK2=>?_;conv=>whnf
     refine cLk h (fun _ h=>?_) (fun _ h=>?_)
     ·refine hK1 ?_
      refine aE dCo rfl fun K hK=>?_;conv=>whnf
      refine hK _ _ _ ?_
      refine aD ?_
      refine aG ?_
      replace h:=aB h
      refine aA dCo fun K hK=>?_;conv=>whnf
      refine hK _ ?_
      cases h
      exact Wk.refl _
     refine hK2 ?_
     refine aK ?_
     refine tHn ?_
     refine aL ?_
     refine aN ?_
     refine aE dCo rfl fun K hK=>?_;conv=>whnf
     refine nlA rfl ?_;conv=>whnf
     refine bKo rfl ?_;conv=>whnf
     refine nlA rfl ?_;conv=>whnf
     replace h:=bC h
     refine aI h27 h (WkL.refl _) (fun _ h=>?_);conv=>whnf
     refine hK _ _ _ ?_
     refine aQ fun K1 K2 hK1 hK2=>?_;conv=>whnf
     refine cLk h (fun _ h=>?_) (fun _ h=>?_)
     ·refine hK1 ?_
      refine aE dCo rfl fun K hK=>?_;conv=>whnf
      replace h:=cL h
      refine cLk h (fun _ h=>?_) (fun _ h=>?_)<;>(conv=>whnf)
      ·refine cLk h (fun _ h=>?_) (fun _ h=>?_)<;>(conv=>whnf)
       ·refine cLk h (fun _ h=>?_) (fun _ h=>?_)<;>(conv=>whnf)
        ·refine hK _ _ _ ?_
         refine aD ?_
         refine aC ?_
         refine aG ?_
         replace h:=aB h
         refine aA dCo fun K hK=>?_;conv=>whnf
         refine hK _ ?_
         cases h
         exact Wk.refl _
        refine hK _ _ _ ?_
        refine aD ?_
        refine aC ?_
        refine aG ?_
        replace h:=aB h
        refine aA dCo fun K hK=>?_;conv=>whnf
        refine hK _ ?_
        cases h
        exact Wk.refl _
       refine hK _ _ _ ?_
       refine aD ?_
       refine aC ?_
       refine aG ?_
       replace h:=aB h
       refine aA dCo fun K hK=>?_;conv=>whnf
       refine hK _ ?_
       cases h
       exact Wk.refl _
      refine hK _ _ _ ?_
      refine aD ?_
      refine aC ?_
      refine aG ?_
      replace h:=aB h
      refine aA dCo fun K hK=>?_;conv=>whnf
      refine hK _ ?_
      cases h
      exact Wk.refl _
     refine hK2 ?_
     refine aE dCo rfl fun K hK=>?_;conv=>whnf
     refine nlA rfl ?_;conv=>whnf
     refine bKo rfl ?_;conv=>whnf
     refine nlA rfl ?_;conv=>whnf
     replace h:=bC h
     refine aI h27 h (WkL.refl _) (fun _ h=>?_);conv=>whnf
     refine hK _ _ _ ?_
     refine aQ fun K1 K2 hK1 hK2=>?_;conv=>whnf
     refine cLk h (fun _ h=>?_) (fun _ h=>?_)
     ·refine hK1 ?_
      refine aE dCo rfl fun K hK=>?_;conv=>whnf
      replace h:=cL h
      refine cLk h (fun _ h=>?_) (fun _ h=>?_)<;>(conv=>whnf)
      ·refine cLk h (fun _ h=>?_) (fun _ h=>?_)<;>(conv=>whnf)
       ·refine cLk h (fun _ h=>?_) (fun _ h=>?_)<;>(conv=>whnf)
        ·refine hK _ _ _ ?_
         refine aD ?_
         refine aC ?_
         refine aG ?_
         replace h:=aB h
         refine aA dCo fun K hK=>?_;conv=>whnf
         refine hK _ ?_
         cases h
         exact Wk.refl _
        refine hK _ _ _ ?_
        refine aD ?_
        refine aC ?_
        refine aG ?_
        replace h:=aB h
        refine aA dCo fun K hK=>?_;conv=>whnf
        refine hK _ ?_
        cases h
        exact Wk.refl _
       refine hK _ _ _ ?_
       refine aD ?_
       refine aC ?_
       refine aG ?_
       replace h:=aB h
       refine aA dCo fun K hK=>?_;conv=>whnf
       refine hK _ ?_
       cases h
       exact Wk.refl _
      refine hK _ _ _ ?_
      refine aD ?_
      refine aC ?_
      refine aG ?_
      replace h:=aB h
      refine aA dCo fun K hK=>?_;conv=>whnf
      refine hK _ ?_
      cases h
      exact Wk.refl _
     refine hK2 ?_
     refine aK ?_
     refine iBn ?_
     refine tHn ?_
     refine aE dCo rfl fun K hK=>?_;conv=>whnf
     replace h:=cL h
     refine cLk h (fun _ h=>?_) (fun _ h=>?_)<;>(conv=>whnf)
     ·refine cLk h (fun _ h=>?_) (fun _ h=>?_)<;>(conv=>whnf)
      ·refine cLk h (fun _ h=>?_) (fun _ h=>?_)<;>(conv=>whnf)
       ·refine cLk h (fun _ h=>?_) (fun _ h=>?_)<;>(conv=>whnf)
        ·refine hK _ _ _ ?_
         refine aD ?_
         replace h:=aB h
         refine aA dCo fun K hK=>?_;conv=>whnf
         refine hK _ ?_
         cases h
         exact Wk.refl _
        refine hK _ _ _ ?_
        refine aD ?_
        replace h:=aB h
        refine aA dCo fun K hK=>?_;conv=>whnf
        refine hK _ ?_
        cases h
        exact Wk.refl _
       refine hK _ _ _ ?_
       refine aD ?_
       replace h:=aB h
       refine aA dCo fun K hK=>?_;conv=>whnf
       refine hK _ ?_
       cases h
       exact Wk.refl _
      refine hK _ _ _ ?_
      refine aD ?_
      replace h:=aB h
      refine aA dCo fun K hK=>?_;conv=>whnf
      refine hK _ ?_
      cases h
      exact Wk.refl _
     refine hK _ _ _ ?_
     refine aD ?_
     replace h:=aB h
     refine aA dCo fun K hK=>?_;conv=>whnf
     refine hK _ ?_
     cases h
     exact Wk.refl _
    refine dI (enc:=dK) (d:=default) dCo h (.inl rfl) rfl rfl rfl ⟨rfl,nle rfl,nle rfl,nle rfl,rfl⟩ (fun _=>rfl) (.inr (.inr ⟨_,_,rfl,rfl,rfl⟩)) (fun h=>?_);conv=>whnf
    refine bKo rfl ?_;conv=>whnf
    refine And.intro rfl (And.intro (nle rfl) (And.intro rfl ?_));conv=>whnf
    refine hK _ _ _ ?_
    refine aE dCo rfl fun K hK=>?_;conv=>whnf
    refine nlA rfl ?_;conv=>whnf
    refine bKo rfl ?_;conv=>whnf
    refine nlA rfl ?_;conv=>whnf
    replace h:=bC h
    refine aH h20 h (WkL.refl _) (fun _ h=>?_);conv=>whnf
    refine hK _ _ _ ?_
    refine aE dCo rfl fun K hK=>?_;conv=>whnf
    refine nlA rfl ?_;conv=>whnf
    refine bKo rfl ?_;conv=>whnf
    refine nlA rfl ?_;conv=>whnf
    replace h:=bC h
    refine aH h20 h (aF (bH (aF (Wk.refl _) (aF aW aJ))) aJ) (fun _ h=>?_);conv=>whnf
    refine hK _ _ _ ?_
    refine aE dCo rfl fun K hK=>?_;conv=>whnf
    refine nlA rfl ?_;conv=>whnf
    refine bKo rfl ?_;conv=>whnf
    refine nlA rfl ?_;conv=>whnf
    replace h:=bC h
    refine aH h20 h (aF (bH (aF (Wk.refl _) (aF aW aJ))) aJ) (fun _ h=>?_);conv=>whnf
    refine hK _ _ _ ?_
    refine aL ?_
    refine aE dCo rfl fun K hK=>?_;conv=>whnf
    replace h:=cL h
    refine cLk h (fun _ h=>?_) (fun _ h=>?_)<;>(conv=>whnf)
    ·refine hK _ _ _ ?_
     refine aQ fun K1 K2 hK1 hK2=>?_;conv=>whnf
     refine hK1 ?_
     replace h:=fC h
     refine aE dCo rfl fun K hK=>?_;conv=>whnf
     refine hK _ _ _ ?_
     refine aD ?_
     refine aG ?_
     replace h:=aB h
     refine aA dCo fun K hK=>?_;conv=>whnf
     refine hK _ ?_
     cases h
     exact Wk.refl _
    refine hK _ _ _ ?_
    refine aQ fun K1 K2 hK1 hK2=>?_;conv=>whnf
    refine cLk h (fun _ h=>?_) (fun _ h=>?_)
    ·refine hK1 ?_
     refine aE dCo rfl fun K hK=>?_;conv=>whnf
     refine hK _ _ _ ?_
     refine aD ?_
     refine aG ?_
     replace h:=aB h
     refine aA dCo fun K hK=>?_;conv=>whnf
     refine hK _ ?_
     cases h
     exact Wk.refl _
    refine hK2 ?_
    refine aK ?_
    refine tHn ?_
    refine aL ?_
    refine aN ?_
    refine aE dCo rfl fun K hK=>?_;conv=>whnf
    refine nlA rfl ?_;conv=>whnf
    refine bKo rfl ?_;conv=>whnf
    refine nlA rfl ?_;conv=>whnf
    replace h:=bC h
    refine aI h27 h (WkL.refl _) (fun _ h=>?_);conv=>whnf
    refine hK _ _ _ ?_
    refine aQ fun K1 K2 hK1 hK2=>?_;conv=>whnf
    refine cLk h (fun _ h=>?_) (fun _ h=>?_)
    ·refine hK1 ?_
     refine aE dCo rfl fun K hK=>?_;conv=>whnf
     replace h:=cL h
     refine cLk h (fun _ h=>?_) (fun _ h=>?_)<;>(conv=>whnf)
     ·refine cLk h (fun _ h=>?_) (fun _ h=>?_)<;>(conv=>whnf)
      ·refine cLk h (fun _ h=>?_) (fun _ h=>?_)<;>(conv=>whnf)
       ·refine hK _ _ _ ?_
        refine aD ?_
        refine aC ?_
        refine aG ?_
        replace h:=aB h
        refine aA dCo fun K hK=>?_;conv=>whnf
        refine hK _ ?_
        cases h
        exact Wk.refl _
       refine hK _ _ _ ?_
       refine aD ?_
       refine aC ?_
       refine aG ?_
       replace h:=aB h
       refine aA dCo fun K hK=>?_;conv=>whnf
       refine hK _ ?_
       cases h
       exact Wk.refl _
      refine hK _ _ _ ?_
      refine aD ?_
      refine aC ?_
      refine aG ?_
      replace h:=aB h
      refine aA dCo fun K hK=>?_;conv=>whnf
      refine hK _ ?_
      cases h
      exact Wk.refl _
     refine hK _ _ _ ?_
     refine aD ?_
     refine aC ?_
     refine aG ?_
     replace h:=aB h
     refine aA dCo fun K hK=>?_;conv=>whnf
     refine hK _ ?_
     cases h
     exact Wk.refl _
    refine hK2 ?_
    refine aE dCo rfl fun K hK=>?_;conv=>whnf
    refine nlA rfl ?_;conv=>whnf
    refine bKo rfl ?_;conv=>whnf
    refine nlA rfl ?_;conv=>whnf
    replace h:=bC h
    refine aI h27 h (WkL.refl _) (fun _ h=>?_);conv=>whnf
    refine hK _ _ _ ?_
    refine aQ fun K1 K2 hK1 hK2=>?_;conv=>whnf
    refine cLk h (fun _ h=>?_) (fun _ h=>?_)
    ·refine hK1 ?_
     refine aE dCo rfl fun K hK=>?_;conv=>whnf
     replace h:=cL h
     refine cLk h (fun _ h=>?_) (fun _ h=>?_)<;>(conv=>whnf)
     ·refine cLk h (fun _ h=>?_) (fun _ h=>?_)<;>(conv=>whnf)
      ·refine cLk h (fun _ h=>?_) (fun _ h=>?_)<;>(conv=>whnf)
       ·refine hK _ _ _ ?_
        refine aD ?_
        refine aC ?_
        refine aG ?_
        replace h:=aB h
        refine aA dCo fun K hK=>?_;conv=>whnf
        refine hK _ ?_
        cases h
        exact Wk.refl _
       refine hK _ _ _ ?_
       refine aD ?_
       refine aC ?_
       refine aG ?_
       replace h:=aB h
       refine aA dCo fun K hK=>?_;conv=>whnf
       refine hK _ ?_
       cases h
       exact Wk.refl _
      refine hK _ _ _ ?_
      refine aD ?_
      refine aC ?_
      refine aG ?_
      replace h:=aB h
      refine aA dCo fun K hK=>?_;conv=>whnf
      refine hK _ ?_
      cases h
      exact Wk.refl _
     refine hK _ _ _ ?_
     refine aD ?_
     refine aC ?_
     refine aG ?_
     replace h:=aB h
     refine aA dCo fun K hK=>?_;conv=>whnf
     refine hK _ ?_
     cases h
     exact Wk.refl _
    refine hK2 ?_
    refine aK ?_
    refine iBn ?_
    refine tHn ?_
    refine aE dCo rfl fun K hK=>?_;conv=>whnf
    replace h:=cL h
    refine cLk h (fun _ h=>?_) (fun _ h=>?_)<;>(conv=>whnf)
    ·refine cLk h (fun _ h=>?_) (fun _ h=>?_)<;>(conv=>whnf)
     ·refine cLk h (fun _ h=>?_) (fun _ h=>?_)<;>(conv=>whnf)
      ·refine cLk h (fun _ h=>?_) (fun _ h=>?_)<;>(conv=>whnf)
       ·refine hK _ _ _ ?_
        refine aD ?_
        replace h:=aB h
        refine aA dCo fun K hK=>?_;conv=>whnf
        refine hK _ ?_
        cases h
        exact Wk.refl _
       refine hK _ _ _ ?_
       refine aD ?_
       replace h:=aB h
       refine aA dCo fun K hK=>?_;conv=>whnf
       refine hK _ ?_
       cases h
       exact Wk.refl _
      refine hK _ _ _ ?_
      refine aD ?_
      replace h:=aB h
      refine aA dCo fun K hK=>?_;conv=>whnf
      refine hK _ ?_
      cases h
      exact Wk.refl _
     refine hK _ _ _ ?_
     refine aD ?_
     replace h:=aB h
     refine aA dCo fun K hK=>?_;conv=>whnf
     refine hK _ ?_
     cases h
     exact Wk.refl _
    refine hK _ _ _ ?_
    refine aD ?_
    replace h:=aB h
    refine aA dCo fun K hK=>?_;conv=>whnf
    refine hK _ ?_
    cases h
    exact Wk.refl _
   ·refine dI (enc:=dK) (d:=default) dCo h (.inl rfl) rfl rfl rfl ⟨rfl,nle rfl,nle rfl,nle rfl,rfl⟩ (fun _=>rfl) (.inr (.inr ⟨_,_,rfl,rfl,rfl⟩)) (fun h=>?_);conv=>whnf
    refine nlA rfl ?_;conv=>whnf
    refine bKo rfl ?_;conv=>whnf
    refine gKo rfl ?_;conv=>whnf
    refine bKo rfl ?_;conv=>whnf
    refine And.intro rfl (And.intro (nle rfl) (And.intro rfl ?_));conv=>whnf
    refine hK _ _ _ ?_
    refine aE dCo rfl fun K hK=>?_;conv=>whnf
    refine nlA rfl ?_;conv=>whnf
    refine bKo rfl ?_;conv=>whnf
    refine nlA rfl ?_;conv=>whnf
    replace h:=bC h
    refine aH h20 h (WkL.refl _) (fun _ h=>?_);conv=>whnf
    refine hK _ _ _ ?_
    refine aE dCo rfl fun K hK=>?_;conv=>whnf
    refine nlA rfl ?_;conv=>whnf
    refine bKo rfl ?_;conv=>whnf
    refine nlA rfl ?_;conv=>whnf
    replace h:=bC h
    refine aH h20 h (aF (bH (aF (Wk.refl _) (aF aW aJ))) aJ) (fun _ h=>?_);conv=>whnf
    refine hK _ _ _ ?_
    refine aE dCo rfl fun K hK=>?_;conv=>whnf
    refine nlA rfl ?_;conv=>whnf
    refine bKo rfl ?_;conv=>whnf
    refine nlA rfl ?_;conv=>whnf
    replace h:=bC h
    refine aH h20 h (aF (bH (aF (Wk.refl _) (aF aW aJ))) aJ) (fun _ h=>?_);conv=>whnf
    refine hK _ _ _ ?_
    refine aL ?_
    refine aE dCo rfl fun K hK=>?_;conv=>whnf
    replace h:=cL h
    refine cLk h (fun _ h=>?_) (fun _ h=>?_)<;>(conv=>whnf)
    ·refine hK _ _ _ ?_
     refine aQ fun K1 K2 hK1 hK2=>?_;conv=>whnf
     refine hK1 ?_
     replace h:=fC h
     refine aE dCo rfl fun K hK=>?_;conv=>whnf
     refine hK _ _ _ ?_
     refine aD ?_
     refine aG ?_
     replace h:=aB h
     refine aA dCo fun K hK=>?_;conv=>whnf
     refine hK _ ?_
     cases h
     exact Wk.refl _
    refine hK _ _ _ ?_
    refine aQ fun K1 K2 hK1 hK2=>?_;conv=>whnf
    refine cLk h (fun _ h=>?_) (fun _ h=>?_)
    ·refine hK1 ?_
     refine aE dCo rfl fun K hK=>?_;conv=>whnf
     refine hK _ _ _ ?_
     refine aD ?_
     refine aG ?_
     replace h:=aB h
     refine aA dCo fun K hK=>?_;conv=>whnf
     refine hK _ ?_
     cases h
     exact Wk.refl _
    refine hK2 ?_
    refine aK ?_
    refine tHn ?_
    refine aL ?_
    refine aN ?_
    refine aE dCo rfl fun K hK=>?_;conv=>whnf
    refine nlA rfl ?_;conv=>whnf
    refine bKo rfl ?_;conv=>whnf
    refine nlA rfl ?_;conv=>whnf
    replace h:=bC h
    refine aI h27 h (WkL.refl _) (fun _ h=>?_);conv=>whnf
    refine hK _ _ _ ?_
    refine aQ fun K1 K2 hK1 hK2=>?_;conv=>whnf
    refine cLk h (fun _ h=>?_) (fun _ h=>?_)
    ·refine hK1 ?_
     refine aE dCo rfl fun K hK=>?_;conv=>whnf
     replace h:=cL h
     refine cLk h (fun _ h=>?_) (fun _ h=>?_)<;>(conv=>whnf)
     ·refine cLk h (fun _ h=>?_) (fun _ h=>?_)<;>(conv=>whnf)
      ·refine cLk h (fun _ h=>?_) (fun _ h=>?_)<;>(conv=>whnf)
       ·refine hK _ _ _ ?_
        refine aD ?_
        refine aC ?_
        refine aG ?_
        replace h:=aB h
        refine aA dCo fun K hK=>?_;conv=>whnf
        refine hK _ ?_
        cases h
        exact Wk.refl _
       refine hK _ _ _ ?_
       refine aD ?_
       refine aC ?_
       refine aG ?_
       replace h:=aB h
       refine aA dCo fun K hK=>?_;conv=>whnf
       refine hK _ ?_
       cases h
       exact Wk.refl _
      refine hK _ _ _ ?_
      refine aD ?_
      refine aC ?_
      refine aG ?_
      replace h:=aB h
      refine aA dCo fun K hK=>?_;conv=>whnf
      refine hK _ ?_
      cases h
      exact Wk.refl _
     refine hK _ _ _ ?_
     refine aD ?_
     refine aC ?_
     refine aG ?_
     replace h:=aB h
     refine aA dCo fun K hK=>?_;conv=>whnf
     refine hK _ ?_
     cases h
     exact Wk.refl _
    refine hK2 ?_
    refine aE dCo rfl fun K hK=>?_;conv=>whnf
    refine nlA rfl ?_;conv=>whnf
    refine bKo rfl ?_;conv=>whnf
    refine nlA rfl ?_;conv=>whnf
    replace h:=bC h
    refine aI h27 h (WkL.refl _) (fun _ h=>?_);conv=>whnf
    refine hK _ _ _ ?_
    refine aQ fun K1 K2 hK1 hK2=>?_;conv=>whnf
    refine cLk h (fun _ h=>?_) (fun _ h=>?_)
    ·refine hK1 ?_
     refine aE dCo rfl fun K hK=>?_;conv=>whnf
     replace h:=cL h
     refine cLk h (fun _ h=>?_) (fun _ h=>?_)<;>(conv=>whnf)
     ·refine cLk h (fun _ h=>?_) (fun _ h=>?_)<;>(conv=>whnf)
      ·refine cLk h (fun _ h=>?_) (fun _ h=>?_)<;>(conv=>whnf)
       ·refine hK _ _ _ ?_
        refine aD ?_
        refine aC ?_
        refine aG ?_
        replace h:=aB h
        refine aA dCo fun K hK=>?_;conv=>whnf
        refine hK _ ?_
        cases h
        exact Wk.refl _
       refine hK _ _ _ ?_
       refine aD ?_
       refine aC ?_
       refine aG ?_
       replace h:=aB h
       refine aA dCo fun K hK=>?_;conv=>whnf
       refine hK _ ?_
       cases h
       exact Wk.refl _
      refine hK _ _ _ ?_
      refine aD ?_
      refine aC ?_
      refine aG ?_
      replace h:=aB h
      refine aA dCo fun K hK=>?_;conv=>whnf
      refine hK _ ?_
      cases h
      exact Wk.refl _
     refine hK _ _ _ ?_
     refine aD ?_
     refine aC ?_
     refine aG ?_
     replace h:=aB h
     refine aA dCo fun K hK=>?_;conv=>whnf
     refine hK _ ?_
     cases h
     exact Wk.refl _
    refine hK2 ?_
    refine aK ?_
    refine iBn ?_
    refine tHn ?_
    refine aE dCo rfl fun K hK=>?_;conv=>whnf
    replace h:=cL h
    refine cLk h (fun _ h=>?_) (fun _ h=>?_)<;>(conv=>whnf)
    ·refine cLk h (fun _ h=>?_) (fun _ h=>?_)<;>(conv=>whnf)
     ·refine cLk h (fun _ h=>?_) (fun _ h=>?_)<;>(conv=>whnf)
      ·refine cLk h (fun _ h=>?_) (fun _ h=>?_)<;>(conv=>whnf)
       ·refine hK _ _ _ ?_
        refine aD ?_
        replace h:=aB h
        refine aA dCo fun K hK=>?_;conv=>whnf
        refine hK _ ?_
        cases h
        exact Wk.refl _
       refine hK _ _ _ ?_
       refine aD ?_
       replace h:=aB h
       refine aA dCo fun K hK=>?_;conv=>whnf
       refine hK _ ?_
       cases h
       exact Wk.refl _
      refine hK _ _ _ ?_
      refine aD ?_
      replace h:=aB h
      refine aA dCo fun K hK=>?_;conv=>whnf
      refine hK _ ?_
      cases h
      exact Wk.refl _
     refine hK _ _ _ ?_
     refine aD ?_
     replace h:=aB h
     refine aA dCo fun K hK=>?_;conv=>whnf
     refine hK _ ?_
     cases h
     exact Wk.refl _
    refine hK _ _ _ ?_
    refine aD ?_
    replace h:=aB h
    refine aA dCo fun K hK=>?_;conv=>whnf
    refine hK _ ?_
    cases h
    exact Wk.refl _
   refine And.intro ?_ ?_<;>(conv=>whnf)
   ·refine nlA rfl ?_;conv=>whnf
    refine bKo rfl ?_;conv=>whnf
    refine gKo rfl ?_;conv=>whnf
    refine dI (enc:=dK) (d:=default) dCo h (.inl rfl) rfl rfl rfl ⟨rfl,nle rfl,nle rfl,nle rfl,rfl⟩ (fun _=>rfl) (.inr (.inr ⟨_,_,rfl,rfl,rfl⟩)) (fun h=>?_);conv=>whnf
    refine bKo rfl ?_;conv=>whnf
    refine And.intro rfl (And.intro (nle rfl) (And.intro rfl ?_));conv=>whnf
    refine hK _ _ _ ?_
    refine aE dCo rfl fun K hK=>?_;conv=>whnf
    refine nlA rfl ?_;conv=>whnf
    refine bKo rfl ?_;conv=>whnf
    refine nlA rfl ?_;conv=>whnf
    replace h:=bC h
    refine aH h20 h (WkL.refl _) (fun _ h=>?_);conv=>whnf
    refine hK _ _ _ ?_
    refine aE dCo rfl fun K hK=>?_;conv=>whnf
    refine nlA rfl ?_;conv=>whnf
    refine bKo rfl ?_;conv=>whnf
    refine nlA rfl ?_;conv=>whnf
    replace h:=bC h
    refine aH h20 h (aF (bH (aF (Wk.refl _) (aF aW aJ))) aJ) (fun _ h=>?_);conv=>whnf
    refine hK _ _ _ ?_
    refine aE dCo rfl fun K hK=>?_;conv=>whnf
    refine nlA rfl ?_;conv=>whnf
    refine bKo rfl ?_;conv=>whnf
    refine nlA rfl ?_;conv=>whnf
    replace h:=bC h
    refine aH h20 h (aF (bH (aF (Wk.refl _) (aF aW aJ))) aJ) (fun _ h=>?_);conv=>whnf
    refine hK _ _ _ ?_
    refine aL ?_
    refine aE dCo rfl fun K hK=>?_;conv=>whnf
    replace h:=cL h
    refine cLk h (fun _ h=>?_) (fun _ h=>?_)<;>(conv=>whnf)
    ·refine hK _ _ _ ?_
     refine aQ fun K1 K2 hK1 hK2=>?_;conv=>whnf
     refine hK1 ?_
     replace h:=fC h
     refine aE dCo rfl fun K hK=>?_;conv=>whnf
     refine hK _ _ _ ?_
     refine aD ?_
     refine aG ?_
     replace h:=aB h
     refine aA dCo fun K hK=>?_;conv=>whnf
     refine hK _ ?_
     cases h
     exact Wk.refl _
    refine hK _ _ _ ?_
    refine aQ fun K1 K2 hK1 hK2=>?_;conv=>whnf
    refine cLk h (fun _ h=>?_) (fun _ h=>?_)
    ·refine hK1 ?_
     refine aE dCo rfl fun K hK=>?_;conv=>whnf
     refine hK _ _ _ ?_
     refine aD ?_
     refine aG ?_
     replace h:=aB h
     refine aA dCo fun K hK=>?_;conv=>whnf
     refine hK _ ?_
     cases h
     exact Wk.refl _
    refine hK2 ?_
    refine aK ?_
    refine tHn ?_
    refine aL ?_
    refine aN ?_
    refine aE dCo rfl fun K hK=>?_;conv=>whnf
    refine nlA rfl ?_;conv=>whnf
    refine bKo rfl ?_;conv=>whnf
    refine nlA rfl ?_;conv=>whnf
    replace h:=bC h
    refine aI h27 h (WkL.refl _) (fun _ h=>?_);conv=>whnf
    refine hK _ _ _ ?_
    refine aQ fun K1 K2 hK1 hK2=>?_;conv=>whnf
    refine cLk h (fun _ h=>?_) (fun _ h=>?_)
    ·refine hK1 ?_
     refine aE dCo rfl fun K hK=>?_;conv=>whnf
     replace h:=cL h
     refine cLk h (fun _ h=>?_) (fun _ h=>?_)<;>(conv=>whnf)
     ·refine cLk h (fun _ h=>?_) (fun _ h=>?_)<;>(conv=>whnf)
      ·refine cLk h (fun _ h=>?_) (fun _ h=>?_)<;>(conv=>whnf)
       ·refine hK _ _ _ ?_
        refine aD ?_
        refine aC ?_
        refine aG ?_
        replace h:=aB h
        refine aA dCo fun K hK=>?_;conv=>whnf
        refine hK _ ?_
        cases h
        exact Wk.refl _
       refine hK _ _ _ ?_
       refine aD ?_
       refine aC ?_
       refine aG ?_
       replace h:=aB h
       refine aA dCo fun K hK=>?_;conv=>whnf
       refine hK _ ?_
       cases h
       exact Wk.refl _
      refine hK _ _ _ ?_
      refine aD ?_
      refine aC ?_
      refine aG ?_
      replace h:=aB h
      refine aA dCo fun K hK=>?_;conv=>whnf
      refine hK _ ?_
      cases h
      exact Wk.refl _
     refine hK _ _ _ ?_
     refine aD ?_
     refine aC ?_
     refine aG ?_
     replace h:=aB h
     refine aA dCo fun K hK=>?_;conv=>whnf
     refine hK _ ?_
     cases h
     exact Wk.refl _
    refine hK2 ?_
    refine aE dCo rfl fun K hK=>?_;conv=>whnf
    refine nlA rfl ?_;conv=>whnf
    refine bKo rfl ?_;conv=>whnf
    refine nlA rfl ?_;conv=>whnf
    replace h:=bC h
    refine aI h27 h (WkL.refl _) (fun _ h=>?_);conv=>whnf
    refine hK _ _ _ ?_
    refine aQ fun K1 K2 hK1 hK2=>?_;conv=>whnf
    refine cLk h (fun _ h=>?_) (fun _ h=>?_)
    ·refine hK1 ?_
     refine aE dCo rfl fun K hK=>?_;conv=>whnf
     replace h:=cL h
     refine cLk h (fun _ h=>?_) (fun _ h=>?_)<;>(conv=>whnf)
     ·refine cLk h (fun _ h=>?_) (fun _ h=>?_)<;>(conv=>whnf)
      ·refine cLk h (fun _ h=>?_) (fun _ h=>?_)<;>(conv=>whnf)
       ·refine hK _ _ _ ?_
        refine aD ?_
        refine aC ?_
        refine aG ?_
        replace h:=aB h
        refine aA dCo fun K hK=>?_;conv=>whnf
        refine hK _ ?_
        cases h
        exact Wk.refl _
       refine hK _ _ _ ?_
       refine aD ?_
       refine aC ?_
       refine aG ?_
       replace h:=aB h
       refine aA dCo fun K hK=>?_;conv=>whnf
       refine hK _ ?_
       cases h
       exact Wk.refl _
      refine hK _ _ _ ?_
      refine aD ?_
      refine aC ?_
      refine aG ?_
      replace h:=aB h
      refine aA dCo fun K hK=>?_;conv=>whnf
      refine hK _ ?_
      cases h
      exact Wk.refl _
     refine hK _ _ _ ?_
     refine aD ?_
     refine aC ?_
     refine aG ?_
     replace h:=aB h
     refine aA dCo fun K hK=>?_;conv=>whnf
     refine hK _ ?_
     cases h
     exact Wk.refl _
    refine hK2 ?_
    refine aK ?_
    refine iBn ?_
    refine tHn ?_
    refine aE dCo rfl fun K hK=>?_;conv=>whnf
    replace h:=cL h
    refine cLk h (fun _ h=>?_) (fun _ h=>?_)<;>(conv=>whnf)
    ·refine cLk h (fun _ h=>?_) (fun _ h=>?_)<;>(conv=>whnf)
     ·refine cLk h (fun _ h=>?_) (fun _ h=>?_)<;>(conv=>whnf)
      ·refine cLk h (fun _ h=>?_) (fun _ h=>?_)<;>(conv=>whnf)
       ·refine hK _ _ _ ?_
        refine aD ?_
        replace h:=aB h
        refine aA dCo fun K hK=>?_;conv=>whnf
        refine hK _ ?_
        cases h
        exact Wk.refl _
       refine hK _ _ _ ?_
       refine aD ?_
       replace h:=aB h
       refine aA dCo fun K hK=>?_;conv=>whnf
       refine hK _ ?_
       cases h
       exact Wk.refl _
      refine hK _ _ _ ?_
      refine aD ?_
      replace h:=aB h
      refine aA dCo fun K hK=>?_;conv=>whnf
      refine hK _ ?_
      cases h
      exact Wk.refl _
     refine hK _ _ _ ?_
     refine aD ?_
     replace h:=aB h
     refine aA dCo fun K hK=>?_;conv=>whnf
     refine hK _ ?_
     cases h
     exact Wk.refl _
    refine hK _ _ _ ?_
    refine aD ?_
    replace h:=aB h
    refine aA dCo fun K hK=>?_;conv=>whnf
    refine hK _ ?_
    cases h
    exact Wk.refl _
   refine dI (enc:=dK) (d:=default) dCo h (.inl rfl) rfl rfl rfl ⟨rfl,nle rfl,nle rfl,nle rfl,rfl⟩ (fun _=>rfl) (.inr (.inr ⟨_,_,rfl,rfl,rfl⟩)) (fun h=>?_);conv=>whnf
   refine nlA rfl ?_;conv=>whnf
   refine bKo rfl ?_;conv=>whnf
   refine gKo rfl ?_;conv=>whnf
   refine bKo rfl ?_;conv=>whnf
   refine And.intro rfl (And.intro (nle rfl) (And.intro rfl ?_));conv=>whnf
   refine hK _ _ _ ?_
   refine aE dCo rfl fun K hK=>?_;conv=>whnf
   refine nlA rfl ?_;conv=>whnf
   refine bKo rfl ?_;conv=>whnf
   refine nlA rfl ?_;conv=>whnf
   replace h:=bC h
   refine aH h20 h (WkL.refl _) (fun _ h=>?_);conv=>whnf
   refine hK _ _ _ ?_
   refine aE dCo rfl fun K hK=>?_;conv=>whnf
   refine nlA rfl ?_;conv=>whnf
   refine bKo rfl ?_;conv=>whnf
   refine nlA rfl ?_;conv=>whnf
   replace h:=bC h
   refine aH h20 h (aF (bH (aF (Wk.refl _) (aF aW aJ))) aJ) (fun _ h=>?_);conv=>whnf
   refine hK _ _ _ ?_
   refine aE dCo rfl fun K hK=>?_;conv=>whnf
   refine nlA rfl ?_;conv=>whnf
   refine bKo rfl ?_;conv=>whnf
   refine nlA rfl ?_;conv=>whnf
   replace h:=bC h
   refine aH h20 h (aF (bH (aF (Wk.refl _) (aF aW aJ))) aJ) (fun _ h=>?_);conv=>whnf
   refine hK _ _ _ ?_
   refine aL ?_
   refine aE dCo rfl fun K hK=>?_;conv=>whnf
   replace h:=cL h
   refine cLk h (fun _ h=>?_) (fun _ h=>?_)<;>(conv=>whnf)
   ·refine hK _ _ _ ?_
    refine aQ fun K1 K2 hK1 hK2=>?_;conv=>whnf
    refine hK1 ?_
    replace h:=fC h
    refine aE dCo rfl fun K hK=>?_;conv=>whnf
    refine hK _ _ _ ?_
    refine aD ?_
    refine aG ?_
    replace h:=aB h
    refine aA dCo fun K hK=>?_;conv=>whnf
    refine hK _ ?_
    cases h
    exact Wk.refl _
   refine hK _ _ _ ?_
   refine aQ fun K1 K2 hK1 hK2=>?_;conv=>whnf
   refine cLk h (fun _ h=>?_) (fun _ h=>?_)
   ·refine hK1 ?_
    refine aE dCo rfl fun K hK=>?_;conv=>whnf
    refine hK _ _ _ ?_
    refine aD ?_
    refine aG ?_
    replace h:=aB h
    refine aA dCo fun K hK=>?_;conv=>whnf
    refine hK _ ?_
    cases h
    exact Wk.refl _
   refine hK2 ?_
   refine aK ?_
   refine tHn ?_
   refine aL ?_
   refine aN ?_
   refine aE dCo rfl fun K hK=>?_;conv=>whnf
   refine nlA rfl ?_;conv=>whnf
   refine bKo rfl ?_;conv=>whnf
   refine nlA rfl ?_;conv=>whnf
   replace h:=bC h
   refine aI h27 h (WkL.refl _) (fun _ h=>?_);conv=>whnf
   refine hK _ _ _ ?_
   refine aQ fun K1 K2 hK1 hK2=>?_;conv=>whnf
   refine cLk h (fun _ h=>?_) (fun _ h=>?_)
   ·refine hK1 ?_
    refine aE dCo rfl fun K hK=>?_;conv=>whnf
    replace h:=cL h
    refine cLk h (fun _ h=>?_) (fun _ h=>?_)<;>(conv=>whnf)
    ·refine cLk h (fun _ h=>?_) (fun _ h=>?_)<;>(conv=>whnf)
     ·refine cLk h (fun _ h=>?_) (fun _ h=>?_)<;>(conv=>whnf)
      ·refine hK _ _ _ ?_
       refine aD ?_
       refine aC ?_
       refine aG ?_
       replace h:=aB h
       refine aA dCo fun K hK=>?_;conv=>whnf
       refine hK _ ?_
       cases h
       exact Wk.refl _
      refine hK _ _ _ ?_
      refine aD ?_
      refine aC ?_
      refine aG ?_
      replace h:=aB h
      refine aA dCo fun K hK=>?_;conv=>whnf
      refine hK _ ?_
      cases h
      exact Wk.refl _
     refine hK _ _ _ ?_
     refine aD ?_
     refine aC ?_
     refine aG ?_
     replace h:=aB h
     refine aA dCo fun K hK=>?_;conv=>whnf
     refine hK _ ?_
     cases h
     exact Wk.refl _
    refine hK _ _ _ ?_
    refine aD ?_
    refine aC ?_
    refine aG ?_
    replace h:=aB h
    refine aA dCo fun K hK=>?_;conv=>whnf
    refine hK _ ?_
    cases h
    exact Wk.refl _
   refine hK2 ?_
   refine aE dCo rfl fun K hK=>?_;conv=>whnf
   refine nlA rfl ?_;conv=>whnf
   refine bKo rfl ?_;conv=>whnf
   refine nlA rfl ?_;conv=>whnf
   replace h:=bC h
   refine aI h27 h (WkL.refl _) (fun _ h=>?_);conv=>whnf
   refine hK _ _ _ ?_
   refine aQ fun K1 K2 hK1 hK2=>?_;conv=>whnf
   refine cLk h (fun _ h=>?_) (fun _ h=>?_)
   ·refine hK1 ?_
    refine aE dCo rfl fun K hK=>?_;conv=>whnf
    replace h:=cL h
    refine cLk h (fun _ h=>?_) (fun _ h=>?_)<;>(conv=>whnf)
    ·refine cLk h (fun _ h=>?_) (fun _ h=>?_)<;>(conv=>whnf)
     ·refine cLk h (fun _ h=>?_) (fun _ h=>?_)<;>(conv=>whnf)
      ·refine hK _ _ _ ?_
       refine aD ?_
       refine aC ?_
       refine aG ?_
       replace h:=aB h
       refine aA dCo fun K hK=>?_;conv=>whnf
       refine hK _ ?_
       cases h
       exact Wk.refl _
      refine hK _ _ _ ?_
      refine aD ?_
      refine aC ?_
      refine aG ?_
      replace h:=aB h
      refine aA dCo fun K hK=>?_;conv=>whnf
      refine hK _ ?_
      cases h
      exact Wk.refl _
     refine hK _ _ _ ?_
     refine aD ?_
     refine aC ?_
     refine aG ?_
     replace h:=aB h
     refine aA dCo fun K hK=>?_;conv=>whnf
     refine hK _ ?_
     cases h
     exact Wk.refl _
    refine hK _ _ _ ?_
    refine aD ?_
    refine aC ?_
    refine aG ?_
    replace h:=aB h
    refine aA dCo fun K hK=>?_;conv=>whnf
    refine hK _ ?_
    cases h
    exact Wk.refl _
   refine hK2 ?_
   refine aK ?_
   refine iBn ?_
   refine tHn ?_
   refine aE dCo rfl fun K hK=>?_;conv=>whnf
   replace h:=cL h
   refine cLk h (fun _ h=>?_) (fun _ h=>?_)<;>(conv=>whnf)
   ·refine cLk h (fun _ h=>?_) (fun _ h=>?_)<;>(conv=>whnf)
    ·refine cLk h (fun _ h=>?_) (fun _ h=>?_)<;>(conv=>whnf)
     ·refine cLk h (fun _ h=>?_) (fun _ h=>?_)<;>(conv=>whnf)
      ·refine hK _ _ _ ?_
       refine aD ?_
       replace h:=aB h
       refine aA dCo fun K hK=>?_;conv=>whnf
       refine hK _ ?_
       cases h
       exact Wk.refl _
      refine hK _ _ _ ?_
      refine aD ?_
      replace h:=aB h
      refine aA dCo fun K hK=>?_;conv=>whnf
      refine hK _ ?_
      cases h
      exact Wk.refl _
     refine hK _ _ _ ?_
     refine aD ?_
     replace h:=aB h
     refine aA dCo fun K hK=>?_;conv=>whnf
     refine hK _ ?_
     cases h
     exact Wk.refl _
    refine hK _ _ _ ?_
    refine aD ?_
    replace h:=aB h
    refine aA dCo fun K hK=>?_;conv=>whnf
    refine hK _ ?_
    cases h
    exact Wk.refl _
   refine hK _ _ _ ?_
   refine aD ?_
   replace h:=aB h
   refine aA dCo fun K hK=>?_;conv=>whnf
   refine hK _ ?_
   cases h
   exact Wk.refl _
  refine dI (enc:=dK) (d:=default) dCo h (.inl rfl) rfl rfl rfl ⟨rfl,nle rfl,nle rfl,nle rfl,rfl⟩ (fun _=>rfl) (.inr (.inr ⟨_,_,rfl,rfl,rfl⟩)) (fun h=>?_);conv=>whnf
  refine bKo rfl ?_;conv=>whnf
  refine And.intro rfl (And.intro (nle rfl) (And.intro rfl ?_));conv=>whnf
  refine hK _ _ _ ?_
  refine uK (.step 0 (.step 2 (.step 3 (.step 4 (.step 5 (.step 6 (.step 7 (.step 8 (.step 9 (.thr 1 10 12 (.two 10 12 (.step 12 (.step 11 (.step 13 (.nil)))) (.step 10 (.step 11 (.step 13 (.nil))))) (.step 1 (.step 12 (.step 11 (.step 13 (.nil))))) (.two 1 10 (.step 10 (.step 11 (.step 13 (.nil)))) (.step 1 (.step 11 (.step 13 (.nil))))))))))))))) dCo eZ rfl (by kernel_rfl) fun K hK=>?_;conv=>whnf
  refine cZ (enc:=dK) (d:=default) dCo h rfl rfl rfl ⟨nle rfl,nle rfl,rfl⟩ rfl trivial (fun h=>?_);conv=>whnf
  refine nlA rfl ?_;conv=>whnf
  refine bKo rfl ?_;conv=>whnf
  refine gKo rfl ?_;conv=>whnf
  refine sO (enc:=dK) (d:=default) dCo h rfl rfl rfl ⟨rfl,nle rfl,nle rfl,nle rfl,rfl⟩ (fun _=>rfl) (fun h=>?_);conv=>whnf
  refine cZ (enc:=dK) (d:=default) dCo h rfl rfl rfl ⟨nle rfl,nle rfl,rfl⟩ rfl ⟨⟨rfl,nle rfl⟩,trivial⟩ (fun h=>?_);conv=>whnf
  refine And.intro ?_ (And.intro ?_ ?_)<;>(conv=>whnf)
  ·refine nlA rfl ?_;conv=>whnf
   refine bKo rfl ?_;conv=>whnf
   refine gKo rfl ?_;conv=>whnf
   refine And.intro ?_ ?_<;>(conv=>whnf)
   ·refine dI (enc:=dK) (d:=default) dCo h (.inl rfl) rfl rfl rfl ⟨rfl,nle rfl,nle rfl,nle rfl,rfl⟩ (fun _=>rfl) (.inr (.inr ⟨_,_,rfl,rfl,rfl⟩)) (fun h=>?_);conv=>whnf
    refine bKo rfl ?_;conv=>whnf
    refine And.intro rfl (And.intro (nle rfl) (And.intro rfl ?_));conv=>whnf
    refine hK _ _ _ ?_
    refine aE dCo rfl fun K hK=>?_;conv=>whnf
    refine nlA rfl ?_;conv=>whnf
    refine bKo rfl ?_;conv=>whnf
    refine nlA rfl ?_;conv=>whnf
    replace h:=bC h
    refine aH h20 h (WkL.refl _) (fun _ h=>?_);conv=>whnf
    refine hK _ _ _ ?_
    refine aE dCo rfl fun K hK=>?_;conv=>whnf
    refine nlA rfl ?_;conv=>whnf
    refine bKo rfl ?_;conv=>whnf
    refine nlA rfl ?_;conv=>whnf
    replace h:=bC h
    refine aH h20 h (aF (bH (aF (Wk.refl _) (aF aW aJ))) aJ) (fun _ h=>?_);conv=>whnf
    refine hK _ _ _ ?_
    refine aE dCo rfl fun K hK=>?_;conv=>whnf
    refine nlA rfl ?_;conv=>whnf
    refine bKo rfl ?_;conv=>whnf
    refine nlA rfl ?_;conv=>whnf
    replace h:=bC h
    refine aH h20 h (aF (bH (aF (Wk.refl _) (aF aW aJ))) aJ) (fun _ h=>?_);conv=>whnf
    refine hK _ _ _ ?_
    refine aL ?_
    refine aE dCo rfl fun K hK=>?_;conv=>whnf
    replace h:=cL h
    refine cLk h (fun _ h=>?_) (fun _ h=>?_)<;>(conv=>whnf)
    ·refine hK _ _ _ ?_
     refine aQ fun K1 K2 hK1 hK2=>?_;conv=>whnf
     refine hK1 ?_
     replace h:=fC h
     refine aE dCo rfl fun K hK=>?_;conv=>whnf
     refine hK _ _ _ ?_
     refine aD ?_
     refine aG ?_
     replace h:=aB h
     refine aA dCo fun K hK=>?_;conv=>whnf
     refine hK _ ?_
     cases h
     exact Wk.refl _
    refine hK _ _ _ ?_
    refine aQ fun K1 K2 hK1 hK2=>?_;conv=>whnf
    refine cLk h (fun _ h=>?_) (fun _ h=>?_)
    ·refine hK1 ?_
     refine aE dCo rfl fun K hK=>?_;conv=>whnf
     refine hK _ _ _ ?_
     refine aD ?_
     refine aG ?_
     replace h:=aB h
     refine aA dCo fun K hK=>?_;conv=>whnf
     refine hK _ ?_
     cases h
     exact Wk.refl _
    refine hK2 ?_
    refine aK ?_
    refine tHn ?_
    refine aL ?_
    refine aN ?_
    refine aE dCo rfl fun K hK=>?_;conv=>whnf
    refine nlA rfl ?_;conv=>whnf
    refine bKo rfl ?_;conv=>whnf
    refine nlA rfl ?_;conv=>whnf
    replace h:=bC h
    refine aI h27 h (WkL.refl _) (fun _ h=>?_);conv=>whnf
    refine hK _ _ _ ?_
    refine aQ fun K1 K2 hK1 hK2=>?_;conv=>whnf
    refine cLk h (fun _ h=>?_) (fun _ h=>?_)
    ·refine hK1 ?_
     refine aE dCo rfl fun K hK=>?_;conv=>whnf
     replace h:=cL h
     refine cLk h (fun _ h=>?_) (fun _ h=>?_)<;>(conv=>whnf)
     ·refine cLk h (fun _ h=>?_) (fun _ h=>?_)<;>(conv=>whnf)
      ·refine cLk h (fun _ h=>?_) (fun _ h=>?_)<;>(conv=>whnf)
       ·refine hK _ _ _ ?_
        refine aD ?_
        refine aC ?_
        refine aG ?_
        replace h:=aB h
        refine aA dCo fun K hK=>?_;conv=>whnf
        refine hK _ ?_
        cases h
        exact Wk.refl _
       refine hK _ _ _ ?_
       refine aD ?_
       refine aC ?_
       refine aG ?_
       replace h:=aB h
       refine aA dCo fun K hK=>?_;conv=>whnf
       refine hK _ ?_
       cases h
       exact Wk.refl _
      refine hK _ _ _ ?_
      refine aD ?_
      refine aC ?_
      refine aG ?_
      replace h:=aB h
      refine aA dCo fun K hK=>?_;conv=>whnf
      refine hK _ ?_
      cases h
      exact Wk.refl _
     refine hK _ _ _ ?_
     refine aD ?_
     refine aC ?_
     refine aG ?_
     replace h:=aB h
     refine aA dCo fun K hK=>?_;conv=>whnf
     refine hK _ ?_
     cases h
     exact Wk.refl _
    refine hK2 ?_
    refine aE dCo rfl fun K hK=>?_;conv=>whnf
    refine nlA rfl ?_;conv=>whnf
    refine bKo rfl ?_;conv=>whnf
    refine nlA rfl ?_;conv=>whnf
    replace h:=bC h
    refine aI h27 h (WkL.refl _) (fun _ h=>?_);conv=>whnf
    refine hK _ _ _ ?_
    refine aQ fun K1 K2 hK1 hK2=>?_;conv=>whnf
    refine cLk h (fun _ h=>?_) (fun _ h=>?_)
    ·refine hK1 ?_
     refine aE dCo rfl fun K hK=>?_;conv=>whnf
     replace h:=cL h
     refine cLk h (fun _ h=>?_) (fun _ h=>?_)<;>(conv=>whnf)
     ·refine cLk h (fun _ h=>?_) (fun _ h=>?_)<;>(conv=>whnf)
      ·refine cLk h (fun _ h=>?_) (fun _ h=>?_)<;>(conv=>whnf)
       ·refine hK _ _ _ ?_
        refine aD ?_
        refine aC ?_
        refine aG ?_
        replace h:=aB h
        refine aA dCo fun K hK=>?_;conv=>whnf
        refine hK _ ?_
        cases h
        exact Wk.refl _
       refine hK _ _ _ ?_
       refine aD ?_
       refine aC ?_
       refine aG ?_
       replace h:=aB h
       refine aA dCo fun K hK=>?_;conv=>whnf
       refine hK _ ?_
       cases h
       exact Wk.refl _
      refine hK _ _ _ ?_
      refine aD ?_
      refine aC ?_
      refine aG ?_
      replace h:=aB h
      refine aA dCo fun K hK=>?_;conv=>whnf
      refine hK _ ?_
      cases h
      exact Wk.refl _
     refine hK _ _ _ ?_
     refine aD ?_
     refine aC ?_
     refine aG ?_
     replace h:=aB h
     refine aA dCo fun K hK=>?_;conv=>whnf
     refine hK _ ?_
     cases h
     exact Wk.refl _
    refine hK2 ?_
    refine aK ?_
    refine iBn ?_
    refine tHn ?_
    refine aE dCo rfl fun K hK=>?_;conv=>whnf
    replace h:=cL h
    refine cLk h (fun _ h=>?_) (fun _ h=>?_)<;>(conv=>whnf)
    ·refine cLk h (fun _ h=>?_) (fun _ h=>?_)<;>(conv=>whnf)
     ·refine cLk h (fun _ h=>?_) (fun _ h=>?_)<;>(conv=>whnf)
      ·refine cLk h (fun _ h=>?_) (fun _ h=>?_)<;>(conv=>whnf)
       ·refine hK _ _ _ ?_
        refine aD ?_
        replace h:=aB h
        refine aA dCo fun K hK=>?_;conv=>whnf
        refine hK _ ?_
        cases h
        exact Wk.refl _
       refine hK _ _ _ ?_
       refine aD ?_
       replace h:=aB h
       refine aA dCo fun K hK=>?_;conv=>whnf
       refine hK _ ?_
       cases h
       exact Wk.refl _
      refine hK _ _ _ ?_
      refine aD ?_
      replace h:=aB h
      refine aA dCo fun K hK=>?_;conv=>whnf
      refine hK _ ?_
      cases h
      exact Wk.refl _
     refine hK _ _ _ ?_
     refine aD ?_
     replace h:=aB h
     refine aA dCo fun K hK=>?_;conv=>whnf
     refine hK _ ?_
     cases h
     exact Wk.refl _
    refine hK _ _ _ ?_
    refine aD ?_
    replace h:=aB h
    refine aA dCo fun K hK=>?_;conv=>whnf
    refine hK _ ?_
    cases h
    exact Wk.refl _
   refine dI (enc:=dK) (d:=default) dCo h (.inl rfl) rfl rfl rfl ⟨rfl,nle rfl,nle rfl,nle rfl,rfl⟩ (fun _=>rfl) (.inr (.inr ⟨_,_,rfl,rfl,rfl⟩)) (fun h=>?_);conv=>whnf
   refine bKo rfl ?_;conv=>whnf
   refine And.intro rfl (And.intro (nle rfl) (And.intro rfl ?_));conv=>whnf
   refine hK _ _ _ ?_
   refine aE dCo rfl fun K hK=>?_;conv=>whnf
   refine nlA rfl ?_;conv=>whnf
   refine bKo rfl ?_;conv=>whnf
   refine nlA rfl ?_;conv=>whnf
   replace h:=bC h
   refine aH h20 h (WkL.refl _) (fun _ h=>?_);conv=>whnf
   refine hK _ _ _ ?_
   refine aE dCo rfl fun K hK=>?_;conv=>whnf
   refine nlA rfl ?_;conv=>whnf
   refine bKo rfl ?_;conv=>whnf
   refine nlA rfl ?_;conv=>whnf
   replace h:=bC h
   refine aH h20 h (aF (bH (aF (Wk.refl _) (aF aW aJ))) aJ) (fun _ h=>?_);conv=>whnf
   refine hK _ _ _ ?_
   refine aE dCo rfl fun K hK=>?_;conv=>whnf
   refine nlA rfl ?_;conv=>whnf
   refine bKo rfl ?_;conv=>whnf
   refine nlA rfl ?_;conv=>whnf
   replace h:=bC h
   refine aH h20 h (aF (bH (aF (Wk.refl _) (aF aW aJ))) aJ) (fun _ h=>?_);conv=>whnf
   refine hK _ _ _ ?_
   refine aL ?_
   refine aE dCo rfl fun K hK=>?_;conv=>whnf
   replace h:=cL h
   refine cLk h (fun _ h=>?_) (fun _ h=>?_)<;>(conv=>whnf)
   ·refine hK _ _ _ ?_
    refine aQ fun K1 K2 hK1 hK2=>?_;conv=>whnf
    refine hK1 ?_
    replace h:=fC h
    refine aE dCo rfl fun K hK=>?_;conv=>whnf
    refine hK _ _ _ ?_
    refine aD ?_
    refine aG ?_
    replace h:=aB h
    refine aA dCo fun K hK=>?_;conv=>whnf
    refine hK _ ?_
    cases h
    exact Wk.refl _
   refine hK _ _ _ ?_
   refine aQ fun K1 K2 hK1 hK2=>?_;conv=>whnf
   refine cLk h (fun _ h=>?_) (fun _ h=>?_)
   ·refine hK1 ?_
    refine aE dCo rfl fun K hK=>?_;conv=>whnf
    refine hK _ _ _ ?_
    refine aD ?_
    refine aG ?_
    replace h:=aB h
    refine aA dCo fun K hK=>?_;conv=>whnf
    refine hK _ ?_
    cases h
    exact Wk.refl _
   refine hK2 ?_
   refine aK ?_
   refine tHn ?_
   refine aL ?_
   refine aN ?_
   refine aE dCo rfl fun K hK=>?_;conv=>whnf
   refine nlA rfl ?_;conv=>whnf
   refine bKo rfl ?_;conv=>whnf
   refine nlA rfl ?_;conv=>whnf
   replace h:=bC h
   refine aI h27 h (WkL.refl _) (fun _ h=>?_);conv=>whnf
   refine hK _ _ _ ?_
   refine aQ fun K1 K2 hK1 hK2=>?_;conv=>whnf
   refine cLk h (fun _ h=>?_) (fun _ h=>?_)
   ·refine hK1 ?_
    refine aE dCo rfl fun K hK=>?_;conv=>whnf
    replace h:=cL h
    refine cLk h (fun _ h=>?_) (fun _ h=>?_)<;>(conv=>whnf)
    ·refine cLk h (fun _ h=>?_) (fun _ h=>?_)<;>(conv=>whnf)
     ·refine cLk h (fun _ h=>?_) (fun _ h=>?_)<;>(conv=>whnf)
      ·refine hK _ _ _ ?_
       refine aD ?_
       refine aC ?_
       refine aG ?_
       replace h:=aB h
       refine aA dCo fun K hK=>?_;conv=>whnf
       refine hK _ ?_
       cases h
       exact Wk.refl _
      refine hK _ _ _ ?_
      refine aD ?_
      refine aC ?_
      refine aG ?_
      replace h:=aB h
      refine aA dCo fun K hK=>?_;conv=>whnf
      refine hK _ ?_
      cases h
      exact Wk.refl _
     refine hK _ _ _ ?_
     refine aD ?_
     refine aC ?_
     refine aG ?_
     replace h:=aB h
     refine aA dCo fun K hK=>?_;conv=>whnf
     refine hK _ ?_
     cases h
     exact Wk.refl _
    refine hK _ _ _ ?_
    refine aD ?_
    refine aC ?_
    refine aG ?_
    replace h:=aB h
    refine aA dCo fun K hK=>?_;conv=>whnf
    refine hK _ ?_
    cases h
    exact Wk.refl _
   refine hK2 ?_
   refine aE dCo rfl fun K hK=>?_;conv=>whnf
   refine nlA rfl ?_;conv=>whnf
   refine bKo rfl ?_;conv=>whnf
   refine nlA rfl ?_;conv=>whnf
   replace h:=bC h
   refine aI h27 h (WkL.refl _) (fun _ h=>?_);conv=>whnf
   refine hK _ _ _ ?_
   refine aQ fun K1 K2 hK1 hK2=>?_;conv=>whnf
   refine cLk h (fun _ h=>?_) (fun _ h=>?_)
   ·refine hK1 ?_
    refine aE dCo rfl fun K hK=>?_;conv=>whnf
    replace h:=cL h
    refine cLk h (fun _ h=>?_) (fun _ h=>?_)<;>(conv=>whnf)
    ·refine cLk h (fun _ h=>?_) (fun _ h=>?_)<;>(conv=>whnf)
     ·refine cLk h (fun _ h=>?_) (fun _ h=>?_)<;>(conv=>whnf)
      ·refine hK _ _ _ ?_
       refine aD ?_
       refine aC ?_
       refine aG ?_
       replace h:=aB h
       refine aA dCo fun K hK=>?_;conv=>whnf
       refine hK _ ?_
       cases h
       exact Wk.refl _
      refine hK _ _ _ ?_
      refine aD ?_
      refine aC ?_
      refine aG ?_
      replace h:=aB h
      refine aA dCo fun K hK=>?_;conv=>whnf
      refine hK _ ?_
      cases h
      exact Wk.refl _
     refine hK _ _ _ ?_
     refine aD ?_
     refine aC ?_
     refine aG ?_
     replace h:=aB h
     refine aA dCo fun K hK=>?_;conv=>whnf
     refine hK _ ?_
     cases h
     exact Wk.refl _
    refine hK _ _ _ ?_
    refine aD ?_
    refine aC ?_
    refine aG ?_
    replace h:=aB h
    refine aA dCo fun K hK=>?_;conv=>whnf
    refine hK _ ?_
    cases h
    exact Wk.refl _
   refine hK2 ?_
   refine aK ?_
   refine iBn ?_
   refine tHn ?_
   refine aE dCo rfl fun K hK=>?_;conv=>whnf
   replace h:=cL h
   refine cLk h (fun _ h=>?_) (fun _ h=>?_)<;>(conv=>whnf)
   ·refine cLk h (fun _ h=>?_) (fun _ h=>?_)<;>(conv=>whnf)
    ·refine cLk h (fun _ h=>?_) (fun _ h=>?_)<;>(conv=>whnf)
     ·refine cLk h (fun _ h=>?_) (fun _ h=>?_)<;>(conv=>whnf)
      ·refine hK _ _ _ ?_
       refine aD ?_
       replace h:=aB h
       refine aA dCo fun K hK=>?_;conv=>whnf
       refine hK _ ?_
       cases h
       exact Wk.refl _
      refine hK _ _ _ ?_
      refine aD ?_
      replace h:=aB h
      refine aA dCo fun K hK=>?_;conv=>whnf
      refine hK _ ?_
      cases h
      exact Wk.refl _
     refine hK _ _ _ ?_
     refine aD ?_
     replace h:=aB h
     refine aA dCo fun K hK=>?_;conv=>whnf
     refine hK _ ?_
     cases h
     exact Wk.refl _
    refine hK _ _ _ ?_
    refine aD ?_
    replace h:=aB h
    refine aA dCo fun K hK=>?_;conv=>whnf
    refine hK _ ?_
    cases h
    exact Wk.refl _
   refine hK _ _ _ ?_
   refine aD ?_
   replace h:=aB h
   refine aA dCo fun K hK=>?_;conv=>whnf
   refine hK _ ?_
   cases h
   exact Wk.refl _
  ·refine dI (enc:=dK) (d:=default) dCo h (.inl rfl) rfl rfl rfl ⟨rfl,nle rfl,nle rfl,nle rfl,rfl⟩ (fun _=>rfl) (.inr (.inr ⟨_,_,rfl,rfl,rfl⟩)) (fun h=>?_);conv=>whnf
   refine nlA rfl ?_;conv=>whnf
   refine bKo rfl ?_;conv=>whnf
   refine gKo rfl ?_;conv=>whnf
   refine bKo rfl ?_;conv=>whnf
   refine And.intro rfl (And.intro (nle rfl) (And.intro rfl ?_));conv=>whnf
   refine hK _ _ _ ?_
   refine aE dCo rfl fun K hK=>?_;conv=>whnf
   refine nlA rfl ?_;conv=>whnf
   refine bKo rfl ?_;conv=>whnf
   refine nlA rfl ?_;conv=>whnf
   replace h:=bC h
   refine aH h20 h (WkL.refl _) (fun _ h=>?_);conv=>whnf
   refine hK _ _ _ ?_
   refine aE dCo rfl fun K hK=>?_;conv=>whnf
   refine nlA rfl ?_;conv=>whnf
   refine bKo rfl ?_;conv=>whnf
   refine nlA rfl ?_;conv=>whnf
   replace h:=bC h
   refine aH h20 h (aF (bH (aF (Wk.refl _) (aF aW aJ))) aJ) (fun _ h=>?_);conv=>whnf
   refine hK _ _ _ ?_
   refine aE dCo rfl fun K hK=>?_;conv=>whnf
   refine nlA rfl ?_;conv=>whnf
   refine bKo rfl ?_;conv=>whnf
   refine nlA rfl ?_;conv=>whnf
   replace h:=bC h
   refine aH h20 h (aF (bH (aF (Wk.refl _) (aF aW aJ))) aJ) (fun _ h=>?_);conv=>whnf
   refine hK _ _ _ ?_
   refine aL ?_
   refine aE dCo rfl fun K hK=>?_;conv=>whnf
   replace h:=cL h
   refine cLk h (fun _ h=>?_) (fun _ h=>?_)<;>(conv=>whnf)
   ·refine hK _ _ _ ?_
    refine aQ fun K1 K2 hK1 hK2=>?_;conv=>whnf
    refine hK1 ?_
    replace h:=fC h
    refine aE dCo rfl fun K hK=>?_;conv=>whnf
    refine hK _ _ _ ?_
    refine aD ?_
    refine aG ?_
    replace h:=aB h
    refine aA dCo fun K hK=>?_;conv=>whnf
    refine hK _ ?_
    cases h
    exact Wk.refl _
   refine hK _ _ _ ?_
   refine aQ fun K1 K2 hK1 hK2=>?_;conv=>whnf
   refine cLk h (fun _ h=>?_) (fun _ h=>?_)
   ·refine hK1 ?_
    refine aE dCo rfl fun K hK=>?_;conv=>whnf
    refine hK _ _ _ ?_
    refine aD ?_
    refine aG ?_
    replace h:=aB h
    refine aA dCo fun K hK=>?_;conv=>whnf
    refine hK _ ?_
    cases h
    exact Wk.refl _
   refine hK2 ?_
   refine aK ?_
   refine tHn ?_
   refine aL ?_
   refine aN ?_
   refine aE dCo rfl fun K hK=>?_;conv=>whnf
   refine nlA rfl ?_;conv=>whnf
   refine bKo rfl ?_;conv=>whnf
   refine nlA rfl ?_;conv=>whnf
   replace h:=bC h
   refine aI h27 h (WkL.refl _) (fun _ h=>?_);conv=>whnf
   refine hK _ _ _ ?_
   refine aQ fun K1 K2 hK1 hK2=>?_;conv=>whnf
   refine cLk h (fun _ h=>?_) (fun _ h=>?_)
   ·refine hK1 ?_
    refine aE dCo rfl fun K hK=>?_;conv=>whnf
    replace h:=cL h
    refine cLk h (fun _ h=>?_) (fun _ h=>?_)<;>(conv=>whnf)
    ·refine cLk h (fun _ h=>?_) (fun _ h=>?_)<;>(conv=>whnf)
     ·refine cLk h (fun _ h=>?_) (fun _ h=>?_)<;>(conv=>whnf)
      ·refine hK _ _ _ ?_
       refine aD ?_
       refine aC ?_
       refine aG ?_
       replace h:=aB h
       refine aA dCo fun K hK=>?_;conv=>whnf
       refine hK _ ?_
       cases h
       exact Wk.refl _
      refine hK _ _ _ ?_
      refine aD ?_
      refine aC ?_
      refine aG ?_
      replace h:=aB h
      refine aA dCo fun K hK=>?_;conv=>whnf
      refine hK _ ?_
      cases h
      exact Wk.refl _
     refine hK _ _ _ ?_
     refine aD ?_
     refine aC ?_
     refine aG ?_
     replace h:=aB h
     refine aA dCo fun K hK=>?_;conv=>whnf
     refine hK _ ?_
     cases h
     exact Wk.refl _
    refine hK _ _ _ ?_
    refine aD ?_
    refine aC ?_
    refine aG ?_
    replace h:=aB h
    refine aA dCo fun K hK=>?_;conv=>whnf
    refine hK _ ?_
    cases h
    exact Wk.refl _
   refine hK2 ?_
   refine aE dCo rfl fun K hK=>?_;conv=>whnf
   refine nlA rfl ?_;conv=>whnf
   refine bKo rfl ?_;conv=>whnf
   refine nlA rfl ?_;conv=>whnf
   replace h:=bC h
   refine aI h27 h (WkL.refl _) (fun _ h=>?_);conv=>whnf
   refine hK _ _ _ ?_
   refine aQ fun K1 K2 hK1 hK2=>?_;conv=>whnf
   refine cLk h (fun _ h=>?_) (fun _ h=>?_)
   ·refine hK1 ?_
    refine aE dCo rfl fun K hK=>?_;conv=>whnf
    replace h:=cL h
    refine cLk h (fun _ h=>?_) (fun _ h=>?_)<;>(conv=>whnf)
    ·refine cLk h (fun _ h=>?_) (fun _ h=>?_)<;>(conv=>whnf)
     ·refine cLk h (fun _ h=>?_) (fun _ h=>?_)<;>(conv=>whnf)
      ·refine hK _ _ _ ?_
       refine aD ?_
       refine aC ?_
       refine aG ?_
       replace h:=aB h
       refine aA dCo fun K hK=>?_;conv=>whnf
       refine hK _ ?_
       cases h
       exact Wk.refl _
      refine hK _ _ _ ?_
      refine aD ?_
      refine aC ?_
      refine aG ?_
      replace h:=aB h
      refine aA dCo fun K hK=>?_;conv=>whnf
      refine hK _ ?_
      cases h
      exact Wk.refl _
     refine hK _ _ _ ?_
     refine aD ?_
     refine aC ?_
     refine aG ?_
     replace h:=aB h
     refine aA dCo fun K hK=>?_;conv=>whnf
     refine hK _ ?_
     cases h
     exact Wk.refl _
    refine hK _ _ _ ?_
    refine aD ?_
    refine aC ?_
    refine aG ?_
    replace h:=aB h
    refine aA dCo fun K hK=>?_;conv=>whnf
    refine hK _ ?_
    cases h
    exact Wk.refl _
   refine hK2 ?_
   refine aK ?_
   refine iBn ?_
   refine tHn ?_
   refine aE dCo rfl fun K hK=>?_;conv=>whnf
   replace h:=cL h
   refine cLk h (fun _ h=>?_) (fun _ h=>?_)<;>(conv=>whnf)
   ·refine cLk h (fun _ h=>?_) (fun _ h=>?_)<;>(conv=>whnf)
    ·refine cLk h (fun _ h=>?_) (fun _ h=>?_)<;>(conv=>whnf)
     ·refine cLk h (fun _ h=>?_) (fun _ h=>?_)<;>(conv=>whnf)
      ·refine hK _ _ _ ?_
       refine aD ?_
       replace h:=aB h
       refine aA dCo fun K hK=>?_;conv=>whnf
       refine hK _ ?_
       cases h
       exact Wk.refl _
      refine hK _ _ _ ?_
      refine aD ?_
      replace h:=aB h
      refine aA dCo fun K hK=>?_;conv=>whnf
      refine hK _ ?_
      cases h
      exact Wk.refl _
     refine hK _ _ _ ?_
     refine aD ?_
     replace h:=aB h
     refine aA dCo fun K hK=>?_;conv=>whnf
     refine hK _ ?_
     cases h
     exact Wk.refl _
    refine hK _ _ _ ?_
    refine aD ?_
    replace h:=aB h
    refine aA dCo fun K hK=>?_;conv=>whnf
    refine hK _ ?_
    cases h
    exact Wk.refl _
   refine hK _ _ _ ?_
   refine aD ?_
   replace h:=aB h
   refine aA dCo fun K hK=>?_;conv=>whnf
   refine hK _ ?_
   cases h
   exact Wk.refl _
  refine And.intro ?_ ?_<;>(conv=>whnf)
  ·refine nlA rfl ?_;conv=>whnf
   refine bKo rfl ?_;conv=>whnf
   refine gKo rfl ?_;conv=>whnf
   refine dI (enc:=dK) (d:=default) dCo h (.inl rfl) rfl rfl rfl ⟨rfl,nle rfl,nle rfl,nle rfl,rfl⟩ (fun _=>rfl) (.inr (.inr ⟨_,_,rfl,rfl,rfl⟩)) (fun h=>?_);conv=>whnf
   refine bKo rfl ?_;conv=>whnf
   refine And.intro rfl (And.intro (nle rfl) (And.intro rfl ?_));conv=>whnf
   refine hK _ _ _ ?_
   refine aE dCo rfl fun K hK=>?_;conv=>whnf
   refine nlA rfl ?_;conv=>whnf
   refine bKo rfl ?_;conv=>whnf
   refine nlA rfl ?_;conv=>whnf
   replace h:=bC h
   refine aH h20 h (WkL.refl _) (fun _ h=>?_);conv=>whnf
   refine hK _ _ _ ?_
   refine aE dCo rfl fun K hK=>?_;conv=>whnf
   refine nlA rfl ?_;conv=>whnf
   refine bKo rfl ?_;conv=>whnf
   refine nlA rfl ?_;conv=>whnf
   replace h:=bC h
   refine aH h20 h (aF (bH (aF (Wk.refl _) (aF aW aJ))) aJ) (fun _ h=>?_);conv=>whnf
   refine hK _ _ _ ?_
   refine aE dCo rfl fun K hK=>?_;conv=>whnf
   refine nlA rfl ?_;conv=>whnf
   refine bKo rfl ?_;conv=>whnf
   refine nlA rfl ?_;conv=>whnf
   replace h:=bC h
   refine aH h20 h (aF (bH (aF (Wk.refl _) (aF aW aJ))) aJ) (fun _ h=>?_);conv=>whnf
   refine hK _ _ _ ?_
   refine aL ?_
   refine aE dCo rfl fun K hK=>?_;conv=>whnf
   replace h:=cL h
   refine cLk h (fun _ h=>?_) (fun _ h=>?_)<;>(conv=>whnf)
   ·refine hK _ _ _ ?_
    refine aQ fun K1 K2 hK1 hK2=>?_;conv=>whnf
    refine hK1 ?_
    replace h:=fC h
    refine aE dCo rfl fun K hK=>?_;conv=>whnf
    refine hK _ _ _ ?_
    refine aD ?_
    refine aG ?_
    replace h:=aB h
    refine aA dCo fun K hK=>?_;conv=>whnf
    refine hK _ ?_
    cases h
    exact Wk.refl _
   refine hK _ _ _ ?_
   refine aQ fun K1 K2 hK1 hK2=>?_;conv=>whnf
   refine cLk h (fun _ h=>?_) (fun _ h=>?_)
   ·refine hK1 ?_
    refine aE dCo rfl fun K hK=>?_;conv=>whnf
    refine hK _ _ _ ?_
    refine aD ?_
    refine aG ?_
    replace h:=aB h
    refine aA dCo fun K hK=>?_;conv=>whnf
    refine hK _ ?_
    cases h
    exact Wk.refl _
   refine hK2 ?_
   refine aK ?_
   refine tHn ?_
   refine aL ?_
   refine aN ?_
   refine aE dCo rfl fun K hK=>?_;conv=>whnf
   refine nlA rfl ?_;conv=>whnf
   refine bKo rfl ?_;conv=>whnf
   refine nlA rfl ?_;conv=>whnf
   replace h:=bC h
   refine aI h27 h (WkL.refl _) (fun _ h=>?_);conv=>whnf
   refine hK _ _ _ ?_
   refine aQ fun K1 K2 hK1 hK2=>?_;conv=>whnf
   refine cLk h (fun _ h=>?_) (fun _ h=>?_)
   ·refine hK1 ?_
    refine aE dCo rfl fun K hK=>?_;conv=>whnf
    replace h:=cL h
    refine cLk h (fun _ h=>?_) (fun _ h=>?_)<;>(conv=>whnf)
    ·refine cLk h (fun _ h=>?_) (fun _ h=>?_)<;>(conv=>whnf)
     ·refine cLk h (fun _ h=>?_) (fun _ h=>?_)<;>(conv=>whnf)
      ·refine hK _ _ _ ?_
       refine aD ?_
       refine aC ?_
       refine aG ?_
       replace h:=aB h
       refine aA dCo fun K hK=>?_;conv=>whnf
       refine hK _ ?_
       cases h
       exact Wk.refl _
      refine hK _ _ _ ?_
      refine aD ?_
      refine aC ?_
      refine aG ?_
      replace h:=aB h
      refine aA dCo fun K hK=>?_;conv=>whnf
      refine hK _ ?_
      cases h
      exact Wk.refl _
     refine hK _ _ _ ?_
     refine aD ?_
     refine aC ?_
     refine aG ?_
     replace h:=aB h
     refine aA dCo fun K hK=>?_;conv=>whnf
     refine hK _ ?_
     cases h
     exact Wk.refl _
    refine hK _ _ _ ?_
    refine aD ?_
    refine aC ?_
    refine aG ?_
    replace h:=aB h
    refine aA dCo fun K hK=>?_;conv=>whnf
    refine hK _ ?_
    cases h
    exact Wk.refl _
   refine hK2 ?_
   refine aE dCo rfl fun K hK=>?_;conv=>whnf
   refine nlA rfl ?_;conv=>whnf
   refine bKo rfl ?_;conv=>whnf
   refine nlA rfl ?_;conv=>whnf
   replace h:=bC h
   refine aI h27 h (WkL.refl _) (fun _ h=>?_);conv=>whnf
   refine hK _ _ _ ?_
   refine aQ fun K1 K2 hK1 hK2=>?_;conv=>whnf
   refine cLk h (fun _ h=>?_) (fun _ h=>?_)
   ·refine hK1 ?_
    refine aE dCo rfl fun K hK=>?_;conv=>whnf
    replace h:=cL h
    refine cLk h (fun _ h=>?_) (fun _ h=>?_)<;>(conv=>whnf)
    ·refine cLk h (fun _ h=>?_) (fun _ h=>?_)<;>(conv=>whnf)
     ·refine cLk h (fun _ h=>?_) (fun _ h=>?_)<;>(conv=>whnf)
      ·refine hK _ _ _ ?_
       refine aD ?_
       refine aC ?_
       refine aG ?_
       replace h:=aB h
       refine aA dCo fun K hK=>?_;conv=>whnf
       refine hK _ ?_
       cases h
       exact Wk.refl _
      refine hK _ _ _ ?_
      refine aD ?_
      refine aC ?_
      refine aG ?_
      replace h:=aB h
      refine aA dCo fun K hK=>?_;conv=>whnf
      refine hK _ ?_
      cases h
      exact Wk.refl _
     refine hK _ _ _ ?_
     refine aD ?_
     refine aC ?_
     refine aG ?_
     replace h:=aB h
     refine aA dCo fun K hK=>?_;conv=>whnf
     refine hK _ ?_
     cases h
     exact Wk.refl _
    refine hK _ _ _ ?_
    refine aD ?_
    refine aC ?_
    refine aG ?_
    replace h:=aB h
    refine aA dCo fun K hK=>?_;conv=>whnf
    refine hK _ ?_
    cases h
    exact Wk.refl _
   refine hK2 ?_
   refine aK ?_
   refine iBn ?_
   refine tHn ?_
   refine aE dCo rfl fun K hK=>?_;conv=>whnf
   replace h:=cL h
   refine cLk h (fun _ h=>?_) (fun _ h=>?_)<;>(conv=>whnf)
   ·refine cLk h (fun _ h=>?_) (fun _ h=>?_)<;>(conv=>whnf)
    ·refine cLk h (fun _ h=>?_) (fun _ h=>?_)<;>(conv=>whnf)
     ·refine cLk h (fun _ h=>?_) (fun _ h=>?_)<;>(conv=>whnf)
      ·refine hK _ _ _ ?_
       refine aD ?_
       replace h:=aB h
       refine aA dCo fun K hK=>?_;conv=>whnf
       refine hK _ ?_
       cases h
       exact Wk.refl _
      refine hK _ _ _ ?_
      refine aD ?_
      replace h:=aB h
      refine aA dCo fun K hK=>?_;conv=>whnf
      refine hK _ ?_
      cases h
      exact Wk.refl _
     refine hK _ _ _ ?_
     refine aD ?_
     replace h:=aB h
     refine aA dCo fun K hK=>?_;conv=>whnf
     refine hK _ ?_
     cases h
     exact Wk.refl _
    refine hK _ _ _ ?_
    refine aD ?_
    replace h:=aB h
    refine aA dCo fun K hK=>?_;conv=>whnf
    refine hK _ ?_
    cases h
    exact Wk.refl _
   refine hK _ _ _ ?_
   refine aD ?_
   replace h:=aB h
   refine aA dCo fun K hK=>?_;conv=>whnf
   refine hK _ ?_
   cases h
   exact Wk.refl _
  refine dI (enc:=dK) (d:=default) dCo h (.inl rfl) rfl rfl rfl ⟨rfl,nle rfl,nle rfl,nle rfl,rfl⟩ (fun _=>rfl) (.inr (.inr ⟨_,_,rfl,rfl,rfl⟩)) (fun h=>?_);conv=>whnf
  refine nlA rfl ?_;conv=>whnf
  refine bKo rfl ?_;conv=>whnf
  refine gKo rfl ?_;conv=>whnf
  refine bKo rfl ?_;conv=>whnf
  refine And.intro rfl (And.intro (nle rfl) (And.intro rfl ?_));conv=>whnf
  refine hK _ _ _ ?_
  refine aE dCo rfl fun K hK=>?_;conv=>whnf
  refine nlA rfl ?_;conv=>whnf
  refine bKo rfl ?_;conv=>whnf
  refine nlA rfl ?_;conv=>whnf
  replace h:=bC h
  refine aH h20 h (WkL.refl _) (fun _ h=>?_);conv=>whnf
  refine hK _ _ _ ?_
  refine aE dCo rfl fun K hK=>?_;conv=>whnf
  refine nlA rfl ?_;conv=>whnf
  refine bKo rfl ?_;conv=>whnf
  refine nlA rfl ?_;conv=>whnf
  replace h:=bC h
  refine aH h20 h (aF (bH (aF (Wk.refl _) (aF aW aJ))) aJ) (fun _ h=>?_);conv=>whnf
  refine hK _ _ _ ?_
  refine aE dCo rfl fun K hK=>?_;conv=>whnf
  refine nlA rfl ?_;conv=>whnf
  refine bKo rfl ?_;conv=>whnf
  refine nlA rfl ?_;conv=>whnf
  replace h:=bC h
  refine aH h20 h (aF (bH (aF (Wk.refl _) (aF aW aJ))) aJ) (fun _ h=>?_);conv=>whnf
  refine hK _ _ _ ?_
  refine aL ?_
  refine aE dCo rfl fun K hK=>?_;conv=>whnf
  replace h:=cL h
  refine cLk h (fun _ h=>?_) (fun _ h=>?_)<;>(conv=>whnf)
  ·refine hK _ _ _ ?_
   refine aQ fun K1 K2 hK1 hK2=>?_;conv=>whnf
   refine hK1 ?_
   replace h:=fC h
   refine aE dCo rfl fun K hK=>?_;conv=>whnf
   refine hK _ _ _ ?_
   refine aD ?_
   refine aG ?_
   replace h:=aB h
   refine aA dCo fun K hK=>?_;conv=>whnf
   refine hK _ ?_
   cases h
   exact Wk.refl _
  refine hK _ _ _ ?_
  refine aQ fun K1 K2 hK1 hK2=>?_;conv=>whnf
  refine cLk h (fun _ h=>?_) (fun _ h=>?_)
  ·refine hK1 ?_
   refine aE dCo rfl fun K hK=>?_;conv=>whnf
   refine hK _ _ _ ?_
   refine aD ?_
   refine aG ?_
   replace h:=aB h
   refine aA dCo fun K hK=>?_;conv=>whnf
   refine hK _ ?_
   cases h
   exact Wk.refl _
  refine hK2 ?_
  refine aK ?_
  refine tHn ?_
  refine aL ?_
  refine aN ?_
  refine aE dCo rfl fun K hK=>?_;conv=>whnf
  refine nlA rfl ?_;conv=>whnf
  refine bKo rfl ?_;conv=>whnf
  refine nlA rfl ?_;conv=>whnf
  replace h:=bC h
  refine aI h27 h (WkL.refl _) (fun _ h=>?_);conv=>whnf
  refine hK _ _ _ ?_
  refine aQ fun K1 K2 hK1 hK2=>?_;conv=>whnf
  refine cLk h (fun _ h=>?_) (fun _ h=>?_)
  ·refine hK1 ?_
   refine aE dCo rfl fun K hK=>?_;conv=>whnf
   replace h:=cL h
   refine cLk h (fun _ h=>?_) (fun _ h=>?_)<;>(conv=>whnf)
   ·refine cLk h (fun _ h=>?_) (fun _ h=>?_)<;>(conv=>whnf)
    ·refine cLk h (fun _ h=>?_) (fun _ h=>?_)<;>(conv=>whnf)
     ·refine hK _ _ _ ?_
      refine aD ?_
      refine aC ?_
      refine aG ?_
      replace h:=aB h
      refine aA dCo fun K hK=>?_;conv=>whnf
      refine hK _ ?_
      cases h
      exact Wk.refl _
     refine hK _ _ _ ?_
     refine aD ?_
     refine aC ?_
     refine aG ?_
     replace h:=aB h
     refine aA dCo fun K hK=>?_;conv=>whnf
     refine hK _ ?_
     cases h
     exact Wk.refl _
    refine hK _ _ _ ?_
    refine aD ?_
    refine aC ?_
    refine aG ?_
    replace h:=aB h
    refine aA dCo fun K hK=>?_;conv=>whnf
    refine hK _ ?_
    cases h
    exact Wk.refl _
   refine hK _ _ _ ?_
   refine aD ?_
   refine aC ?_
   refine aG ?_
   replace h:=aB h
   refine aA dCo fun K hK=>?_;conv=>whnf
   refine hK _ ?_
   cases h
   exact Wk.refl _
  refine hK2 ?_
  refine aE dCo rfl fun K hK=>?_;conv=>whnf
  refine nlA rfl ?_;conv=>whnf
  refine bKo rfl ?_;conv=>whnf
  refine nlA rfl ?_;conv=>whnf
  replace h:=bC h
  refine aI h27 h (WkL.refl _) (fun _ h=>?_);conv=>whnf
  refine hK _ _ _ ?_
  refine aQ fun K1 K2 hK1 hK2=>?_;conv=>whnf
  refine cLk h (fun _ h=>?_) (fun _ h=>?_)
  ·refine hK1 ?_
   refine aE dCo rfl fun K hK=>?_;conv=>whnf
   replace h:=cL h
   refine cLk h (fun _ h=>?_) (fun _ h=>?_)<;>(conv=>whnf)
   ·refine cLk h (fun _ h=>?_) (fun _ h=>?_)<;>(conv=>whnf)
    ·refine cLk h (fun _ h=>?_) (fun _ h=>?_)<;>(conv=>whnf)
     ·refine hK _ _ _ ?_
      refine aD ?_
      refine aC ?_
      refine aG ?_
      replace h:=aB h
      refine aA dCo fun K hK=>?_;conv=>whnf
      refine hK _ ?_
      cases h
      exact Wk.refl _
     refine hK _ _ _ ?_
     refine aD ?_
     refine aC ?_
     refine aG ?_
     replace h:=aB h
     refine aA dCo fun K hK=>?_;conv=>whnf
     refine hK _ ?_
     cases h
     exact Wk.refl _
    refine hK _ _ _ ?_
    refine aD ?_
    refine aC ?_
    refine aG ?_
    replace h:=aB h
    refine aA dCo fun K hK=>?_;conv=>whnf
    refine hK _ ?_
    cases h
    exact Wk.refl _
   refine hK _ _ _ ?_
   refine aD ?_
   refine aC ?_
   refine aG ?_
   replace h:=aB h
   refine aA dCo fun K hK=>?_;conv=>whnf
   refine hK _ ?_
   cases h
   exact Wk.refl _
  refine hK2 ?_
  refine aK ?_
  refine iBn ?_
  refine tHn ?_
  refine aE dCo rfl fun K hK=>?_;conv=>whnf
  replace h:=cL h
  refine cLk h (fun _ h=>?_) (fun _ h=>?_)<;>(conv=>whnf)
  ·refine cLk h (fun _ h=>?_) (fun _ h=>?_)<;>(conv=>whnf)
   ·refine cLk h (fun _ h=>?_) (fun _ h=>?_)<;>(conv=>whnf)
    ·refine cLk h (fun _ h=>?_) (fun _ h=>?_)<;>(conv=>whnf)
     ·refine hK _ _ _ ?_
      refine aD ?_
      replace h:=aB h
      refine aA dCo fun K hK=>?_;conv=>whnf
      refine hK _ ?_
      cases h
      exact Wk.refl _
     refine hK _ _ _ ?_
     refine aD ?_
     replace h:=aB h
     refine aA dCo fun K hK=>?_;conv=>whnf
     refine hK _ ?_
     cases h
     exact Wk.refl _
    refine hK _ _ _ ?_
    refine aD ?_
    replace h:=aB h
    refine aA dCo fun K hK=>?_;conv=>whnf
    refine hK _ ?_
    cases h
    exact Wk.refl _
   refine hK _ _ _ ?_
   refine aD ?_
   replace h:=aB h
   refine aA dCo fun K hK=>?_;conv=>whnf
   refine hK _ ?_
   cases h
   exact Wk.refl _
  refine hK _ _ _ ?_
  refine aD ?_
  replace h:=aB h
  refine aA dCo fun K hK=>?_;conv=>whnf
  refine hK _ ?_
  cases h
  exact Wk.refl _
 ·refine dI (enc:=dK) (d:=default) dCo h (.inl rfl) rfl rfl rfl ⟨rfl,nle rfl,nle rfl,nle rfl,rfl⟩ (fun _=>rfl) (.inr (.inr ⟨_,_,rfl,rfl,rfl⟩)) (fun h=>?_);conv=>whnf
  refine nlA rfl ?_;conv=>whnf
  refine bKo rfl ?_;conv=>whnf
  refine gKo rfl ?_;conv=>whnf
  refine bKo rfl ?_;conv=>whnf
  refine And.intro rfl (And.intro (nle rfl) (And.intro rfl ?_));conv=>whnf
  refine hK _ _ _ ?_
  refine uK (.step 0 (.step 2 (.step 3 (.step 4 (.step 5 (.step 6 (.step 7 (.step 8 (.step 9 (.thr 1 10 12 (.two 10 12 (.step 12 (.step 11 (.step 13 (.nil)))) (.step 10 (.step 11 (.step 13 (.nil))))) (.step 1 (.step 12 (.step 11 (.step 13 (.nil))))) (.two 1 10 (.step 10 (.step 11 (.step 13 (.nil)))) (.step 1 (.step 11 (.step 13 (.nil))))))))))))))) dCo eZ rfl (by kernel_rfl) fun K hK=>?_;conv=>whnf
  refine cZ (enc:=dK) (d:=default) dCo h rfl rfl rfl ⟨nle rfl,nle rfl,rfl⟩ rfl trivial (fun h=>?_);conv=>whnf
  refine nlA rfl ?_;conv=>whnf
  refine bKo rfl ?_;conv=>whnf
  refine gKo rfl ?_;conv=>whnf
  refine sO (enc:=dK) (d:=default) dCo h rfl rfl rfl ⟨rfl,nle rfl,nle rfl,nle rfl,rfl⟩ (fun _=>rfl) (fun h=>?_);conv=>whnf
  refine cZ (enc:=dK) (d:=default) dCo h rfl rfl rfl ⟨nle rfl,nle rfl,rfl⟩ rfl ⟨⟨rfl,nle rfl⟩,trivial⟩ (fun h=>?_);conv=>whnf
  refine And.intro ?_ (And.intro ?_ ?_)<;>(conv=>whnf)
  ·refine nlA rfl ?_;conv=>whnf
   refine bKo rfl ?_;conv=>whnf
   refine gKo rfl ?_;conv=>whnf
   refine And.intro ?_ ?_<;>(conv=>whnf)
   ·refine dI (enc:=dK) (d:=default) dCo h (.inl rfl) rfl rfl rfl ⟨rfl,nle rfl,nle rfl,nle rfl,rfl⟩ (fun _=>rfl) (.inr (.inr ⟨_,_,rfl,rfl,rfl⟩)) (fun h=>?_);conv=>whnf
    refine bKo rfl ?_;conv=>whnf
    refine And.intro rfl (And.intro (nle rfl) (And.intro rfl ?_));conv=>whnf
    refine hK _ _ _ ?_
    refine aE dCo rfl fun K hK=>?_;conv=>whnf
    refine nlA rfl ?_;conv=>whnf
    refine bKo rfl ?_;conv=>whnf
    refine nlA rfl ?_;conv=>whnf
    replace h:=bC h
    refine aH h20 h (WkL.refl _) (fun _ h=>?_);conv=>whnf
    refine hK _ _ _ ?_
    refine aE dCo rfl fun K hK=>?_;conv=>whnf
    refine nlA rfl ?_;conv=>whnf
    refine bKo rfl ?_;conv=>whnf
    refine nlA rfl ?_;conv=>whnf
    replace h:=bC h
    refine aH h20 h (aF (bH (aF (Wk.refl _) (aF aW aJ))) aJ) (fun _ h=>?_);conv=>whnf
    refine hK _ _ _ ?_
    refine aE dCo rfl fun K hK=>?_;conv=>whnf
    refine nlA rfl ?_;conv=>whnf
    refine bKo rfl ?_;conv=>whnf
    refine nlA rfl ?_;conv=>whnf
    replace h:=bC h
    refine aH h20 h (aF (bH (aF (Wk.refl _) (aF aW aJ))) aJ) (fun _ h=>?_);conv=>whnf
    refine hK _ _ _ ?_
    refine aL ?_
    refine aE dCo rfl fun K hK=>?_;conv=>whnf
    replace h:=cL h
    refine cLk h (fun _ h=>?_) (fun _ h=>?_)<;>(conv=>whnf)
    ·refine hK _ _ _ ?_
     refine aQ fun K1 K2 hK1 hK2=>?_;conv=>whnf
     refine hK1 ?_
     replace h:=fC h
     refine aE dCo rfl fun K hK=>?_;conv=>whnf
     refine hK _ _ _ ?_
     refine aD ?_
     refine aG ?_
     replace h:=aB h
     refine aA dCo fun K hK=>?_;conv=>whnf
     refine hK _ ?_
     cases h
     exact Wk.refl _
    refine hK _ _ _ ?_
    refine aQ fun K1 K2 hK1 hK2=>?_;conv=>whnf
    refine cLk h (fun _ h=>?_) (fun _ h=>?_)
    ·refine hK1 ?_
     refine aE dCo rfl fun K hK=>?_;conv=>whnf
     refine hK _ _ _ ?_
     refine aD ?_
     refine aG ?_
     replace h:=aB h
     refine aA dCo fun K hK=>?_;conv=>whnf
     refine hK _ ?_
     cases h
     exact Wk.refl _
    refine hK2 ?_
    refine aK ?_
    refine tHn ?_
    refine aL ?_
    refine aN ?_
    refine aE dCo rfl fun K hK=>?_;conv=>whnf
    refine nlA rfl ?_;conv=>whnf
    refine bKo rfl ?_;conv=>whnf
    refine nlA rfl ?_;conv=>whnf
    replace h:=bC h
    refine aI h27 h (WkL.refl _) (fun _ h=>?_);conv=>whnf
    refine hK _ _ _ ?_
    refine aQ fun K1 K2 hK1 hK2=>?_;conv=>whnf
    refine cLk h (fun _ h=>?_) (fun _ h=>?_)
    ·refine hK1 ?_
     refine aE dCo rfl fun K hK=>?_;conv=>whnf
     replace h:=cL h
     refine cLk h (fun _ h=>?_) (fun _ h=>?_)<;>(conv=>whnf)
     ·refine cLk h (fun _ h=>?_) (fun _ h=>?_)<;>(conv=>whnf)
      ·refine cLk h (fun _ h=>?_) (fun _ h=>?_)<;>(conv=>whnf)
       ·refine hK _ _ _ ?_
        refine aD ?_
        refine aC ?_
        refine aG ?_
        replace h:=aB h
        refine aA dCo fun K hK=>?_;conv=>whnf
        refine hK _ ?_
        cases h
        exact Wk.refl _
       refine hK _ _ _ ?_
       refine aD ?_
       refine aC ?_
       refine aG ?_
       replace h:=aB h
       refine aA dCo fun K hK=>?_;conv=>whnf
       refine hK _ ?_
       cases h
       exact Wk.refl _
      refine hK _ _ _ ?_
      refine aD ?_
      refine aC ?_
      refine aG ?_
      replace h:=aB h
      refine aA dCo fun K hK=>?_;conv=>whnf
      refine hK _ ?_
      cases h
      exact Wk.refl _
     refine hK _ _ _ ?_
     refine aD ?_
     refine aC ?_
     refine aG ?_
     replace h:=aB h
     refine aA dCo fun K hK=>?_;conv=>whnf
     refine hK _ ?_
     cases h
     exact Wk.refl _
    refine hK2 ?_
    refine aE dCo rfl fun K hK=>?_;conv=>whnf
    refine nlA rfl ?_;conv=>whnf
    refine bKo rfl ?_;conv=>whnf
    refine nlA rfl ?_;conv=>whnf
    replace h:=bC h
    refine aI h27 h (WkL.refl _) (fun _ h=>?_);conv=>whnf
    refine hK _ _ _ ?_
    refine aQ fun K1 K2 hK1 hK2=>?_;conv=>whnf
    refine cLk h (fun _ h=>?_) (fun _ h=>?_)
    ·refine hK1 ?_
     refine aE dCo rfl fun K hK=>?_;conv=>whnf
     replace h:=cL h
     refine cLk h (fun _ h=>?_) (fun _ h=>?_)<;>(conv=>whnf)
     ·refine cLk h (fun _ h=>?_) (fun _ h=>?_)<;>(conv=>whnf)
      ·refine cLk h (fun _ h=>?_) (fun _ h=>?_)<;>(conv=>whnf)
       ·refine hK _ _ _ ?_
        refine aD ?_
        refine aC ?_
        refine aG ?_
        replace h:=aB h
        refine aA dCo fun K hK=>?_;conv=>whnf
        refine hK _ ?_
        cases h
        exact Wk.refl _
       refine hK _ _ _ ?_
       refine aD ?_
       refine aC ?_
       refine aG ?_
       replace h:=aB h
       refine aA dCo fun K hK=>?_;conv=>whnf
       refine hK _ ?_
       cases h
       exact Wk.refl _
      refine hK _ _ _ ?_
      refine aD ?_
      refine aC ?_
      refine aG ?_
      replace h:=aB h
      refine aA dCo fun K hK=>?_;conv=>whnf
      refine hK _ ?_
      cases h
      exact Wk.refl _
     refine hK _ _ _ ?_
     refine aD ?_
     refine aC ?_
     refine aG ?_
     replace h:=aB h
     refine aA dCo fun K hK=>?_;conv=>whnf
     refine hK _ ?_
     cases h
     exact Wk.refl _
    refine hK2 ?_
    refine aK ?_
    refine iBn ?_
    refine tHn ?_
    refine aE dCo rfl fun K hK=>?_;conv=>whnf
    replace h:=cL h
    refine cLk h (fun _ h=>?_) (fun _ h=>?_)<;>(conv=>whnf)
    ·refine cLk h (fun _ h=>?_) (fun _ h=>?_)<;>(conv=>whnf)
     ·refine cLk h (fun _ h=>?_) (fun _ h=>?_)<;>(conv=>whnf)
      ·refine cLk h (fun _ h=>?_) (fun _ h=>?_)<;>(conv=>whnf)
       ·refine hK _ _ _ ?_
        refine aD ?_
        replace h:=aB h
        refine aA dCo fun K hK=>?_;conv=>whnf
        refine hK _ ?_
        cases h
        exact Wk.refl _
       refine hK _ _ _ ?_
       refine aD ?_
       replace h:=aB h
       refine aA dCo fun K hK=>?_;conv=>whnf
       refine hK _ ?_
       cases h
       exact Wk.refl _
      refine hK _ _ _ ?_
      refine aD ?_
      replace h:=aB h
      refine aA dCo fun K hK=>?_;conv=>whnf
      refine hK _ ?_
      cases h
      exact Wk.refl _
     refine hK _ _ _ ?_
     refine aD ?_
     replace h:=aB h
     refine aA dCo fun K hK=>?_;conv=>whnf
     refine hK _ ?_
     cases h
     exact Wk.refl _
    refine hK _ _ _ ?_
    refine aD ?_
    replace h:=aB h
    refine aA dCo fun K hK=>?_;conv=>whnf
    refine hK _ ?_
    cases h
    exact Wk.refl _
   refine dI (enc:=dK) (d:=default) dCo h (.inl rfl) rfl rfl rfl ⟨rfl,nle rfl,nle rfl,nle rfl,rfl⟩ (fun _=>rfl) (.inr (.inr ⟨_,_,rfl,rfl,rfl⟩)) (fun h=>?_);conv=>whnf
   refine bKo rfl ?_;conv=>whnf
   refine And.intro rfl (And.intro (nle rfl) (And.intro rfl ?_));conv=>whnf
   refine hK _ _ _ ?_
   refine aE dCo rfl fun K hK=>?_;conv=>whnf
   refine nlA rfl ?_;conv=>whnf
   refine bKo rfl ?_;conv=>whnf
   refine nlA rfl ?_;conv=>whnf
   replace h:=bC h
   refine aH h20 h (WkL.refl _) (fun _ h=>?_);conv=>whnf
   refine hK _ _ _ ?_
   refine aE dCo rfl fun K hK=>?_;conv=>whnf
   refine nlA rfl ?_;conv=>whnf
   refine bKo rfl ?_;conv=>whnf
   refine nlA rfl ?_;conv=>whnf
   replace h:=bC h
   refine aH h20 h (aF (bH (aF (Wk.refl _) (aF aW aJ))) aJ) (fun _ h=>?_);conv=>whnf
   refine hK _ _ _ ?_
   refine aE dCo rfl fun K hK=>?_;conv=>whnf
   refine nlA rfl ?_;conv=>whnf
   refine bKo rfl ?_;conv=>whnf
   refine nlA rfl ?_;conv=>whnf
   replace h:=bC h
   refine aH h20 h (aF (bH (aF (Wk.refl _) (aF aW aJ))) aJ) (fun _ h=>?_);conv=>whnf
   refine hK _ _ _ ?_
   refine aL ?_
   refine aE dCo rfl fun K hK=>?_;conv=>whnf
   replace h:=cL h
   refine cLk h (fun _ h=>?_) (fun _ h=>?_)<;>(conv=>whnf)
   ·refine hK _ _ _ ?_
    refine aQ fun K1 K2 hK1 hK2=>?_;conv=>whnf
    refine hK1 ?_
    replace h:=fC h
    refine aE dCo rfl fun K hK=>?_;conv=>whnf
    refine hK _ _ _ ?_
    refine aD ?_
    refine aG ?_
    replace h:=aB h
    refine aA dCo fun K hK=>?_;conv=>whnf
    refine hK _ ?_
    cases h
    exact Wk.refl _
   refine hK _ _ _ ?_
   refine aQ fun K1 K2 hK1 hK2=>?_;conv=>whnf
   refine cLk h (fun _ h=>?_) (fun _ h=>?_)
   ·refine hK1 ?_
    refine aE dCo rfl fun K hK=>?_;conv=>whnf
    refine hK _ _ _ ?_
    refine aD ?_
    refine aG ?_
    replace h:=aB h
    refine aA dCo fun K hK=>?_;conv=>whnf
    refine hK _ ?_
    cases h
    exact Wk.refl _
   refine hK2 ?_
   refine aK ?_
   refine tHn ?_
   refine aL ?_
   refine aN ?_
   refine aE dCo rfl fun K hK=>?_;conv=>whnf
   refine nlA rfl ?_;conv=>whnf
   refine bKo rfl ?_;conv=>whnf
   refine nlA rfl ?_;conv=>whnf
   replace h:=bC h
   refine aI h27 h (WkL.refl _) (fun _ h=>?_);conv=>whnf
   refine hK _ _ _ ?_
   refine aQ fun K1 K2 hK1 hK2=>?_;conv=>whnf
   refine cLk h (fun _ h=>?_) (fun _ h=>?_)
   ·refine hK1 ?_
    refine aE dCo rfl fun K hK=>?_;conv=>whnf
    replace h:=cL h
    refine cLk h (fun _ h=>?_) (fun _ h=>?_)<;>(conv=>whnf)
    ·refine cLk h (fun _ h=>?_) (fun _ h=>?_)<;>(conv=>whnf)
     ·refine cLk h (fun _ h=>?_) (fun _ h=>?_)<;>(conv=>whnf)
      ·refine hK _ _ _ ?_
       refine aD ?_
       refine aC ?_
       refine aG ?_
       replace h:=aB h
       refine aA dCo fun K hK=>?_;conv=>whnf
       refine hK _ ?_
       cases h
       exact Wk.refl _
      refine hK _ _ _ ?_
      refine aD ?_
      refine aC ?_
      refine aG ?_
      replace h:=aB h
      refine aA dCo fun K hK=>?_;conv=>whnf
      refine hK _ ?_
      cases h
      exact Wk.refl _
     refine hK _ _ _ ?_
     refine aD ?_
     refine aC ?_
     refine aG ?_
     replace h:=aB h
     refine aA dCo fun K hK=>?_;conv=>whnf
     refine hK _ ?_
     cases h
     exact Wk.refl _
    refine hK _ _ _ ?_
    refine aD ?_
    refine aC ?_
    refine aG ?_
    replace h:=aB h
    refine aA dCo fun K hK=>?_;conv=>whnf
    refine hK _ ?_
    cases h
    exact Wk.refl _
   refine hK2 ?_
   refine aE dCo rfl fun K hK=>?_;conv=>whnf
   refine nlA rfl ?_;conv=>whnf
   refine bKo rfl ?_;conv=>whnf
   refine nlA rfl ?_;conv=>whnf
   replace h:=bC h
   refine aI h27 h (WkL.refl _) (fun _ h=>?_);conv=>whnf
   refine hK _ _ _ ?_
   refine aQ fun K1 K2 hK1 hK2=>?_;conv=>whnf
   refine cLk h (fun _ h=>?_) (fun _ h=>?_)
   ·refine hK1 ?_
    refine aE dCo rfl fun K hK=>?_;conv=>whnf
    replace h:=cL h
    refine cLk h (fun _ h=>?_) (fun _ h=>?_)<;>(conv=>whnf)
    ·refine cLk h (fun _ h=>?_) (fun _ h=>?_)<;>(conv=>whnf)
     ·refine cLk h (fun _ h=>?_) (fun _ h=>?_)<;>(conv=>whnf)
      ·refine hK _ _ _ ?_
       refine aD ?_
       refine aC ?_
       refine aG ?_
       replace h:=aB h
       refine aA dCo fun K hK=>?_;conv=>whnf
       refine hK _ ?_
       cases h
       exact Wk.refl _
      refine hK _ _ _ ?_
      refine aD ?_
      refine aC ?_
      refine aG ?_
      replace h:=aB h
      refine aA dCo fun K hK=>?_;conv=>whnf
      refine hK _ ?_
      cases h
      exact Wk.refl _
     refine hK _ _ _ ?_
     refine aD ?_
     refine aC ?_
     refine aG ?_
     replace h:=aB h
     refine aA dCo fun K hK=>?_;conv=>whnf
     refine hK _ ?_
     cases h
     exact Wk.refl _
    refine hK _ _ _ ?_
    refine aD ?_
    refine aC ?_
    refine aG ?_
    replace h:=aB h
    refine aA dCo fun K hK=>?_;conv=>whnf
    refine hK _ ?_
    cases h
    exact Wk.refl _
   refine hK2 ?_
   refine aK ?_
   refine iBn ?_
   refine tHn ?_
   refine aE dCo rfl fun K hK=>?_;conv=>whnf
   replace h:=cL h
   refine cLk h (fun _ h=>?_) (fun _ h=>?_)<;>(conv=>whnf)
   ·refine cLk h (fun _ h=>?_) (fun _ h=>?_)<;>(conv=>whnf)
    ·refine cLk h (fun _ h=>?_) (fun _ h=>?_)<;>(conv=>whnf)
     ·refine cLk h (fun _ h=>?_) (fun _ h=>?_)<;>(conv=>whnf)
      ·refine hK _ _ _ ?_
       refine aD ?_
       replace h:=aB h
       refine aA dCo fun K hK=>?_;conv=>whnf
       refine hK _ ?_
       cases h
       exact Wk.refl _
      refine hK _ _ _ ?_
      refine aD ?_
      replace h:=aB h
      refine aA dCo fun K hK=>?_;conv=>whnf
      refine hK _ ?_
      cases h
      exact Wk.refl _
     refine hK _ _ _ ?_
     refine aD ?_
     replace h:=aB h
     refine aA dCo fun K hK=>?_;conv=>whnf
     refine hK _ ?_
     cases h
     exact Wk.refl _
    refine hK _ _ _ ?_
    refine aD ?_
    replace h:=aB h
    refine aA dCo fun K hK=>?_;conv=>whnf
    refine hK _ ?_
    cases h
    exact Wk.refl _
   refine hK _ _ _ ?_
   refine aD ?_
   replace h:=aB h
   refine aA dCo fun K hK=>?_;conv=>whnf
   refine hK _ ?_
   cases h
   exact Wk.refl _
  ·refine dI (enc:=dK) (d:=default) dCo h (.inl rfl) rfl rfl rfl ⟨rfl,nle rfl,nle rfl,nle rfl,rfl⟩ (fun _=>rfl) (.inr (.inr ⟨_,_,rfl,rfl,rfl⟩)) (fun h=>?_);conv=>whnf
   refine nlA rfl ?_;conv=>whnf
   refine bKo rfl ?_;conv=>whnf
   refine gKo rfl ?_;conv=>whnf
   refine bKo rfl ?_;conv=>whnf
   refine And.intro rfl (And.intro (nle rfl) (And.intro rfl ?_));conv=>whnf
   refine hK _ _ _ ?_
   refine aE dCo rfl fun K hK=>?_;conv=>whnf
   refine nlA rfl ?_;conv=>whnf
   refine bKo rfl ?_;conv=>whnf
   refine nlA rfl ?_;conv=>whnf
   replace h:=bC h
   refine aH h20 h (WkL.refl _) (fun _ h=>?_);conv=>whnf
   refine hK _ _ _ ?_
   refine aE dCo rfl fun K hK=>?_;conv=>whnf
   refine nlA rfl ?_;conv=>whnf
   refine bKo rfl ?_;conv=>whnf
   refine nlA rfl ?_;conv=>whnf
   replace h:=bC h
   refine aH h20 h (aF (bH (aF (Wk.refl _) (aF aW aJ))) aJ) (fun _ h=>?_);conv=>whnf
   refine hK _ _ _ ?_
   refine aE dCo rfl fun K hK=>?_;conv=>whnf
   refine nlA rfl ?_;conv=>whnf
   refine bKo rfl ?_;conv=>whnf
   refine nlA rfl ?_;conv=>whnf
   replace h:=bC h
   refine aH h20 h (aF (bH (aF (Wk.refl _) (aF aW aJ))) aJ) (fun _ h=>?_);conv=>whnf
   refine hK _ _ _ ?_
   refine aL ?_
   refine aE dCo rfl fun K hK=>?_;conv=>whnf
   replace h:=cL h
   refine cLk h (fun _ h=>?_) (fun _ h=>?_)<;>(conv=>whnf)
   ·refine hK _ _ _ ?_
    refine aQ fun K1 K2 hK1 hK2=>?_;conv=>whnf
    refine hK1 ?_
    replace h:=fC h
    refine aE dCo rfl fun K hK=>?_;conv=>whnf
    refine hK _ _ _ ?_
    refine aD ?_
    refine aG ?_
    replace h:=aB h
    refine aA dCo fun K hK=>?_;conv=>whnf
    refine hK _ ?_
    cases h
    exact Wk.refl _
   refine hK _ _ _ ?_
   refine aQ fun K1 K2 hK1 hK2=>?_;conv=>whnf
   refine cLk h (fun _ h=>?_) (fun _ h=>?_)
   ·refine hK1 ?_
    refine aE dCo rfl fun K hK=>?_;conv=>whnf
    refine hK _ _ _ ?_
    refine aD ?_
    refine aG ?_
    replace h:=aB h
    refine aA dCo fun K hK=>?_;conv=>whnf
    refine hK _ ?_
    cases h
    exact Wk.refl _
   refine hK2 ?_
   refine aK ?_
   refine tHn ?_
   refine aL ?_
   refine aN ?_
   refine aE dCo rfl fun K hK=>?_;conv=>whnf
   refine nlA rfl ?_;conv=>whnf
   refine bKo rfl ?_;conv=>whnf
   refine nlA rfl ?_;conv=>whnf
   replace h:=bC h
   refine aI h27 h (WkL.refl _) (fun _ h=>?_);conv=>whnf
   refine hK _ _ _ ?_
   refine aQ fun K1 K2 hK1 hK2=>?_;conv=>whnf
   refine cLk h (fun _ h=>?_) (fun _ h=>?_)
   ·refine hK1 ?_
    refine aE dCo rfl fun K hK=>?_;conv=>whnf
    replace h:=cL h
    refine cLk h (fun _ h=>?_) (fun _ h=>?_)<;>(conv=>whnf)
    ·refine cLk h (fun _ h=>?_) (fun _ h=>?_)<;>(conv=>whnf)
     ·refine cLk h (fun _ h=>?_) (fun _ h=>?_)<;>(conv=>whnf)
      ·refine hK _ _ _ ?_
       refine aD ?_
       refine aC ?_
       refine aG ?_
       replace h:=aB h
       refine aA dCo fun K hK=>?_;conv=>whnf
       refine hK _ ?_
       cases h
       exact Wk.refl _
      refine hK _ _ _ ?_
      refine aD ?_
      refine aC ?_
      refine aG ?_
      replace h:=aB h
      refine aA dCo fun K hK=>?_;conv=>whnf
      refine hK _ ?_
      cases h
      exact Wk.refl _
     refine hK _ _ _ ?_
     refine aD ?_
     refine aC ?_
     refine aG ?_
     replace h:=aB h
     refine aA dCo fun K hK=>?_;conv=>whnf
     refine hK _ ?_
     cases h
     exact Wk.refl _
    refine hK _ _ _ ?_
    refine aD ?_
    refine aC ?_
    refine aG ?_
    replace h:=aB h
    refine aA dCo fun K hK=>?_;conv=>whnf
    refine hK _ ?_
    cases h
    exact Wk.refl _
   refine hK2 ?_
   refine aE dCo rfl fun K hK=>?_;conv=>whnf
   refine nlA rfl ?_;conv=>whnf
   refine bKo rfl ?_;conv=>whnf
   refine nlA rfl ?_;conv=>whnf
   replace h:=bC h
   refine aI h27 h (WkL.refl _) (fun _ h=>?_);conv=>whnf
   refine hK _ _ _ ?_
   refine aQ fun K1 K2 hK1 hK2=>?_;conv=>whnf
   refine cLk h (fun _ h=>?_) (fun _ h=>?_)
   ·refine hK1 ?_
    refine aE dCo rfl fun K hK=>?_;conv=>whnf
    replace h:=cL h
    refine cLk h (fun _ h=>?_) (fun _ h=>?_)<;>(conv=>whnf)
    ·refine cLk h (fun _ h=>?_) (fun _ h=>?_)<;>(conv=>whnf)
     ·refine cLk h (fun _ h=>?_) (fun _ h=>?_)<;>(conv=>whnf)
      ·refine hK _ _ _ ?_
       refine aD ?_
       refine aC ?_
       refine aG ?_
       replace h:=aB h
       refine aA dCo fun K hK=>?_;conv=>whnf
       refine hK _ ?_
       cases h
       exact Wk.refl _
      refine hK _ _ _ ?_
      refine aD ?_
      refine aC ?_
      refine aG ?_
      replace h:=aB h
      refine aA dCo fun K hK=>?_;conv=>whnf
      refine hK _ ?_
      cases h
      exact Wk.refl _
     refine hK _ _ _ ?_
     refine aD ?_
     refine aC ?_
     refine aG ?_
     replace h:=aB h
     refine aA dCo fun K hK=>?_;conv=>whnf
     refine hK _ ?_
     cases h
     exact Wk.refl _
    refine hK _ _ _ ?_
    refine aD ?_
    refine aC ?_
    refine aG ?_
    replace h:=aB h
    refine aA dCo fun K hK=>?_;conv=>whnf
    refine hK _ ?_
    cases h
    exact Wk.refl _
   refine hK2 ?_
   refine aK ?_
   refine iBn ?_
   refine tHn ?_
   refine aE dCo rfl fun K hK=>?_;conv=>whnf
   replace h:=cL h
   refine cLk h (fun _ h=>?_) (fun _ h=>?_)<;>(conv=>whnf)
   ·refine cLk h (fun _ h=>?_) (fun _ h=>?_)<;>(conv=>whnf)
    ·refine cLk h (fun _ h=>?_) (fun _ h=>?_)<;>(conv=>whnf)
     ·refine cLk h (fun _ h=>?_) (fun _ h=>?_)<;>(conv=>whnf)
      ·refine hK _ _ _ ?_
       refine aD ?_
       replace h:=aB h
       refine aA dCo fun K hK=>?_;conv=>whnf
       refine hK _ ?_
       cases h
       exact Wk.refl _
      refine hK _ _ _ ?_
      refine aD ?_
      replace h:=aB h
      refine aA dCo fun K hK=>?_;conv=>whnf
      refine hK _ ?_
      cases h
      exact Wk.refl _
     refine hK _ _ _ ?_
     refine aD ?_
     replace h:=aB h
     refine aA dCo fun K hK=>?_;conv=>whnf
     refine hK _ ?_
     cases h
     exact Wk.refl _
    refine hK _ _ _ ?_
    refine aD ?_
    replace h:=aB h
    refine aA dCo fun K hK=>?_;conv=>whnf
    refine hK _ ?_
    cases h
    exact Wk.refl _
   refine hK _ _ _ ?_
   refine aD ?_
   replace h:=aB h
   refine aA dCo fun K hK=>?_;conv=>whnf
   refine hK _ ?_
   cases h
   exact Wk.refl _
  refine And.intro ?_ ?_<;>(conv=>whnf)
  ·refine nlA rfl ?_;conv=>whnf
   refine bKo rfl ?_;conv=>whnf
   refine gKo rfl ?_;conv=>whnf
   refine dI (enc:=dK) (d:=default) dCo h (.inl rfl) rfl rfl rfl ⟨rfl,nle rfl,nle rfl,nle rfl,rfl⟩ (fun _=>rfl) (.inr (.inr ⟨_,_,rfl,rfl,rfl⟩)) (fun h=>?_);conv=>whnf
   refine bKo rfl ?_;conv=>whnf
   refine And.intro rfl (And.intro (nle rfl) (And.intro rfl ?_));conv=>whnf
   refine hK _ _ _ ?_
   refine aE dCo rfl fun K hK=>?_;conv=>whnf
   refine nlA rfl ?_;conv=>whnf
   refine bKo rfl ?_;conv=>whnf
   refine nlA rfl ?_;conv=>whnf
   replace h:=bC h
   refine aH h20 h (WkL.refl _) (fun _ h=>?_);conv=>whnf
   refine hK _ _ _ ?_
   refine aE dCo rfl fun K hK=>?_;conv=>whnf
   refine nlA rfl ?_;conv=>whnf
   refine bKo rfl ?_;conv=>whnf
   refine nlA rfl ?_;conv=>whnf
   replace h:=bC h
   refine aH h20 h (aF (bH (aF (Wk.refl _) (aF aW aJ))) aJ) (fun _ h=>?_);conv=>whnf
   refine hK _ _ _ ?_
   refine aE dCo rfl fun K hK=>?_;conv=>whnf
   refine nlA rfl ?_;conv=>whnf
   refine bKo rfl ?_;conv=>whnf
   refine nlA rfl ?_;conv=>whnf
   replace h:=bC h
   refine aH h20 h (aF (bH (aF (Wk.refl _) (aF aW aJ))) aJ) (fun _ h=>?_);conv=>whnf
   refine hK _ _ _ ?_
   refine aL ?_
   refine aE dCo rfl fun K hK=>?_;conv=>whnf
   replace h:=cL h
   refine cLk h (fun _ h=>?_) (fun _ h=>?_)<;>(conv=>whnf)
   ·refine hK _ _ _ ?_
    refine aQ fun K1 K2 hK1 hK2=>?_;conv=>whnf
    refine hK1 ?_
    replace h:=fC h
    refine aE dCo rfl fun K hK=>?_;conv=>whnf
    refine hK _ _ _ ?_
    refine aD ?_
    refine aG ?_
    replace h:=aB h
    refine aA dCo fun K hK=>?_;conv=>whnf
    refine hK _ ?_
    cases h
    exact Wk.refl _
   refine hK _ _ _ ?_
   refine aQ fun K1 K2 hK1 hK2=>?_;conv=>whnf
   refine cLk h (fun _ h=>?_) (fun _ h=>?_)
   ·refine hK1 ?_
    refine aE dCo rfl fun K hK=>?_;conv=>whnf
    refine hK _ _ _ ?_
    refine aD ?_
    refine aG ?_
    replace h:=aB h
    refine aA dCo fun K hK=>?_;conv=>whnf
    refine hK _ ?_
    cases h
    exact Wk.refl _
   refine hK2 ?_
   refine aK ?_
   refine tHn ?_
   refine aL ?_
   refine aN ?_
   refine aE dCo rfl fun K hK=>?_;conv=>whnf
   refine nlA rfl ?_;conv=>whnf
   refine bKo rfl ?_;conv=>whnf
   refine nlA rfl ?_;conv=>whnf
   replace h:=bC h
   refine aI h27 h (WkL.refl _) (fun _ h=>?_);conv=>whnf
   refine hK _ _ _ ?_
   refine aQ fun K1 K2 hK1 hK2=>?_;conv=>whnf
   refine cLk h (fun _ h=>?_) (fun _ h=>?_)
   ·refine hK1 ?_
    refine aE dCo rfl fun K hK=>?_;conv=>whnf
    replace h:=cL h
    refine cLk h (fun _ h=>?_) (fun _ h=>?_)<;>(conv=>whnf)
    ·refine cLk h (fun _ h=>?_) (fun _ h=>?_)<;>(conv=>whnf)
     ·refine cLk h (fun _ h=>?_) (fun _ h=>?_)<;>(conv=>whnf)
      ·refine hK _ _ _ ?_
       refine aD ?_
       refine aC ?_
       refine aG ?_
       replace h:=aB h
       refine aA dCo fun K hK=>?_;conv=>whnf
       refine hK _ ?_
       cases h
       exact Wk.refl _
      refine hK _ _ _ ?_
      refine aD ?_
      refine aC ?_
      refine aG ?_
      replace h:=aB h
      refine aA dCo fun K hK=>?_;conv=>whnf
      refine hK _ ?_
      cases h
      exact Wk.refl _
     refine hK _ _ _ ?_
     refine aD ?_
     refine aC ?_
     refine aG ?_
     replace h:=aB h
     refine aA dCo fun K hK=>?_;conv=>whnf
     refine hK _ ?_
     cases h
     exact Wk.refl _
    refine hK _ _ _ ?_
    refine aD ?_
    refine aC ?_
    refine aG ?_
    replace h:=aB h
    refine aA dCo fun K hK=>?_;conv=>whnf
    refine hK _ ?_
    cases h
    exact Wk.refl _
   refine hK2 ?_
   refine aE dCo rfl fun K hK=>?_;conv=>whnf
   refine nlA rfl ?_;conv=>whnf
   refine bKo rfl ?_;conv=>whnf
   refine nlA rfl ?_;conv=>whnf
   replace h:=bC h
   refine aI h27 h (WkL.refl _) (fun _ h=>?_);conv=>whnf
   refine hK _ _ _ ?_
   refine aQ fun K1 K2 hK1 hK2=>?_;conv=>whnf
   refine cLk h (fun _ h=>?_) (fun _ h=>?_)
   ·refine hK1 ?_
    refine aE dCo rfl fun K hK=>?_;conv=>whnf
    replace h:=cL h
    refine cLk h (fun _ h=>?_) (fun _ h=>?_)<;>(conv=>whnf)
    ·refine cLk h (fun _ h=>?_) (fun _ h=>?_)<;>(conv=>whnf)
     ·refine cLk h (fun _ h=>?_) (fun _ h=>?_)<;>(conv=>whnf)
      ·refine hK _ _ _ ?_
       refine aD ?_
       refine aC ?_
       refine aG ?_
       replace h:=aB h
       refine aA dCo fun K hK=>?_;conv=>whnf
       refine hK _ ?_
       cases h
       exact Wk.refl _
      refine hK _ _ _ ?_
      refine aD ?_
      refine aC ?_
      refine aG ?_
      replace h:=aB h
      refine aA dCo fun K hK=>?_;conv=>whnf
      refine hK _ ?_
      cases h
      exact Wk.refl _
     refine hK _ _ _ ?_
     refine aD ?_
     refine aC ?_
     refine aG ?_
     replace h:=aB h
     refine aA dCo fun K hK=>?_;conv=>whnf
     refine hK _ ?_
     cases h
     exact Wk.refl _
    refine hK _ _ _ ?_
    refine aD ?_
    refine aC ?_
    refine aG ?_
    replace h:=aB h
    refine aA dCo fun K hK=>?_;conv=>whnf
    refine hK _ ?_
    cases h
    exact Wk.refl _
   refine hK2 ?_
   refine aK ?_
   refine iBn ?_
   refine tHn ?_
   refine aE dCo rfl fun K hK=>?_;conv=>whnf
   replace h:=cL h
   refine cLk h (fun _ h=>?_) (fun _ h=>?_)<;>(conv=>whnf)
   ·refine cLk h (fun _ h=>?_) (fun _ h=>?_)<;>(conv=>whnf)
    ·refine cLk h (fun _ h=>?_) (fun _ h=>?_)<;>(conv=>whnf)
     ·refine cLk h (fun _ h=>?_) (fun _ h=>?_)<;>(conv=>whnf)
      ·refine hK _ _ _ ?_
       refine aD ?_
       replace h:=aB h
       refine aA dCo fun K hK=>?_;conv=>whnf
       refine hK _ ?_
       cases h
       exact Wk.refl _
      refine hK _ _ _ ?_
      refine aD ?_
      replace h:=aB h
      refine aA dCo fun K hK=>?_;conv=>whnf
      refine hK _ ?_
      cases h
      exact Wk.refl _
     refine hK _ _ _ ?_
     refine aD ?_
     replace h:=aB h
     refine aA dCo fun K hK=>?_;conv=>whnf
     refine hK _ ?_
     cases h
     exact Wk.refl _
    refine hK _ _ _ ?_
    refine aD ?_
    replace h:=aB h
    refine aA dCo fun K hK=>?_;conv=>whnf
    refine hK _ ?_
    cases h
    exact Wk.refl _
   refine hK _ _ _ ?_
   refine aD ?_
   replace h:=aB h
   refine aA dCo fun K hK=>?_;conv=>whnf
   refine hK _ ?_
   cases h
   exact Wk.refl _
  refine dI (enc:=dK) (d:=default) dCo h (.inl rfl) rfl rfl rfl ⟨rfl,nle rfl,nle rfl,nle rfl,rfl⟩ (fun _=>rfl) (.inr (.inr ⟨_,_,rfl,rfl,rfl⟩)) (fun h=>?_);conv=>whnf
  refine nlA rfl ?_;conv=>whnf
  refine bKo rfl ?_;conv=>whnf
  refine gKo rfl ?_;conv=>whnf
  refine bKo rfl ?_;conv=>whnf
  refine And.intro rfl (And.intro (nle rfl) (And.intro rfl ?_));conv=>whnf
  refine hK _ _ _ ?_
  refine aE dCo rfl fun K hK=>?_;conv=>whnf
  refine nlA rfl ?_;conv=>whnf
  refine bKo rfl ?_;conv=>whnf
  refine nlA rfl ?_;conv=>whnf
  replace h:=bC h
  refine aH h20 h (WkL.refl _) (fun _ h=>?_);conv=>whnf
  refine hK _ _ _ ?_
  refine aE dCo rfl fun K hK=>?_;conv=>whnf
  refine nlA rfl ?_;conv=>whnf
  refine bKo rfl ?_;conv=>whnf
  refine nlA rfl ?_;conv=>whnf
  replace h:=bC h
  refine aH h20 h (aF (bH (aF (Wk.refl _) (aF aW aJ))) aJ) (fun _ h=>?_);conv=>whnf
  refine hK _ _ _ ?_
  refine aE dCo rfl fun K hK=>?_;conv=>whnf
  refine nlA rfl ?_;conv=>whnf
  refine bKo rfl ?_;conv=>whnf
  refine nlA rfl ?_;conv=>whnf
  replace h:=bC h
  refine aH h20 h (aF (bH (aF (Wk.refl _) (aF aW aJ))) aJ) (fun _ h=>?_);conv=>whnf
  refine hK _ _ _ ?_
  refine aL ?_
  refine aE dCo rfl fun K hK=>?_;conv=>whnf
  replace h:=cL h
  refine cLk h (fun _ h=>?_) (fun _ h=>?_)<;>(conv=>whnf)
  ·refine hK _ _ _ ?_
   refine aQ fun K1 K2 hK1 hK2=>?_;conv=>whnf
   refine hK1 ?_
   replace h:=fC h
   refine aE dCo rfl fun K hK=>?_;conv=>whnf
   refine hK _ _ _ ?_
   refine aD ?_
   refine aG ?_
   replace h:=aB h
   refine aA dCo fun K hK=>?_;conv=>whnf
   refine hK _ ?_
   cases h
   exact Wk.refl _
  refine hK _ _ _ ?_
  refine aQ fun K1 K2 hK1 hK2=>?_;conv=>whnf
  refine cLk h (fun _ h=>?_) (fun _ h=>?_)
  ·refine hK1 ?_
   refine aE dCo rfl fun K hK=>?_;conv=>whnf
   refine hK _ _ _ ?_
   refine aD ?_
   refine aG ?_
   replace h:=aB h
   refine aA dCo fun K hK=>?_;conv=>whnf
   refine hK _ ?_
   cases h
   exact Wk.refl _
  refine hK2 ?_
  refine aK ?_
  refine tHn ?_
  refine aL ?_
  refine aN ?_
  refine aE dCo rfl fun K hK=>?_;conv=>whnf
  refine nlA rfl ?_;conv=>whnf
  refine bKo rfl ?_;conv=>whnf
  refine nlA rfl ?_;conv=>whnf
  replace h:=bC h
  refine aI h27 h (WkL.refl _) (fun _ h=>?_);conv=>whnf
  refine hK _ _ _ ?_
  refine aQ fun K1 K2 hK1 hK2=>?_;conv=>whnf
  refine cLk h (fun _ h=>?_) (fun _ h=>?_)
  ·refine hK1 ?_
   refine aE dCo rfl fun K hK=>?_;conv=>whnf
   replace h:=cL h
   refine cLk h (fun _ h=>?_) (fun _ h=>?_)<;>(conv=>whnf)
   ·refine cLk h (fun _ h=>?_) (fun _ h=>?_)<;>(conv=>whnf)
    ·refine cLk h (fun _ h=>?_) (fun _ h=>?_)<;>(conv=>whnf)
     ·refine hK _ _ _ ?_
      refine aD ?_
      refine aC ?_
      refine aG ?_
      replace h:=aB h
      refine aA dCo fun K hK=>?_;conv=>whnf
      refine hK _ ?_
      cases h
      exact Wk.refl _
     refine hK _ _ _ ?_
     refine aD ?_
     refine aC ?_
     refine aG ?_
     replace h:=aB h
     refine aA dCo fun K hK=>?_;conv=>whnf
     refine hK _ ?_
     cases h
     exact Wk.refl _
    refine hK _ _ _ ?_
    refine aD ?_
    refine aC ?_
    refine aG ?_
    replace h:=aB h
    refine aA dCo fun K hK=>?_;conv=>whnf
    refine hK _ ?_
    cases h
    exact Wk.refl _
   refine hK _ _ _ ?_
   refine aD ?_
   refine aC ?_
   refine aG ?_
   replace h:=aB h
   refine aA dCo fun K hK=>?_;conv=>whnf
   refine hK _ ?_
   cases h
   exact Wk.refl _
  refine hK2 ?_
  refine aE dCo rfl fun K hK=>?_;conv=>whnf
  refine nlA rfl ?_;conv=>whnf
  refine bKo rfl ?_;conv=>whnf
  refine nlA rfl ?_;conv=>whnf
  replace h:=bC h
  refine aI h27 h (WkL.refl _) (fun _ h=>?_);conv=>whnf
  refine hK _ _ _ ?_
  refine aQ fun K1 K2 hK1 hK2=>?_;conv=>whnf
  refine cLk h (fun _ h=>?_) (fun _ h=>?_)
  ·refine hK1 ?_
   refine aE dCo rfl fun K hK=>?_;conv=>whnf
   replace h:=cL h
   refine cLk h (fun _ h=>?_) (fun _ h=>?_)<;>(conv=>whnf)
   ·refine cLk h (fun _ h=>?_) (fun _ h=>?_)<;>(conv=>whnf)
    ·refine cLk h (fun _ h=>?_) (fun _ h=>?_)<;>(conv=>whnf)
     ·refine hK _ _ _ ?_
      refine aD ?_
      refine aC ?_
      refine aG ?_
      replace h:=aB h
      refine aA dCo fun K hK=>?_;conv=>whnf
      refine hK _ ?_
      cases h
      exact Wk.refl _
     refine hK _ _ _ ?_
     refine aD ?_
     refine aC ?_
     refine aG ?_
     replace h:=aB h
     refine aA dCo fun K hK=>?_;conv=>whnf
     refine hK _ ?_
     cases h
     exact Wk.refl _
    refine hK _ _ _ ?_
    refine aD ?_
    refine aC ?_
    refine aG ?_
    replace h:=aB h
    refine aA dCo fun K hK=>?_;conv=>whnf
    refine hK _ ?_
    cases h
    exact Wk.refl _
   refine hK _ _ _ ?_
   refine aD ?_
   refine aC ?_
   refine aG ?_
   replace h:=aB h
   refine aA dCo fun K hK=>?_;conv=>whnf
   refine hK _ ?_
   cases h
   exact Wk.refl _
  refine hK2 ?_
  refine aK ?_
  refine iBn ?_
  refine tHn ?_
  refine aE dCo rfl fun K hK=>?_;conv=>whnf
  replace h:=cL h
  refine cLk h (fun _ h=>?_) (fun _ h=>?_)<;>(conv=>whnf)
  ·refine cLk h (fun _ h=>?_) (fun _ h=>?_)<;>(conv=>whnf)
   ·refine cLk h (fun _ h=>?_) (fun _ h=>?_)<;>(conv=>whnf)
    ·refine cLk h (fun _ h=>?_) (fun _ h=>?_)<;>(conv=>whnf)
     ·refine hK _ _ _ ?_
      refine aD ?_
      replace h:=aB h
      refine aA dCo fun K hK=>?_;conv=>whnf
      refine hK _ ?_
      cases h
      exact Wk.refl _
     refine hK _ _ _ ?_
     refine aD ?_
     replace h:=aB h
     refine aA dCo fun K hK=>?_;conv=>whnf
     refine hK _ ?_
     cases h
     exact Wk.refl _
    refine hK _ _ _ ?_
    refine aD ?_
    replace h:=aB h
    refine aA dCo fun K hK=>?_;conv=>whnf
    refine hK _ ?_
    cases h
    exact Wk.refl _
   refine hK _ _ _ ?_
   refine aD ?_
   replace h:=aB h
   refine aA dCo fun K hK=>?_;conv=>whnf
   refine hK _ ?_
   cases h
   exact Wk.refl _
  refine hK _ _ _ ?_
  refine aD ?_
  replace h:=aB h
  refine aA dCo fun K hK=>?_;conv=>whnf
  refine hK _ ?_
  cases h
  exact Wk.refl _
 refine And.intro ?_ ?_<;>(conv=>whnf)
 ·refine nlA rfl ?_;conv=>whnf
  refine bKo rfl ?_;conv=>whnf
  refine gKo rfl ?_;conv=>whnf
  refine dI (enc:=dK) (d:=default) dCo h (.inl rfl) rfl rfl rfl ⟨rfl,nle rfl,nle rfl,nle rfl,rfl⟩ (fun _=>rfl) (.inr (.inr ⟨_,_,rfl,rfl,rfl⟩)) (fun h=>?_);conv=>whnf
  refine bKo rfl ?_;conv=>whnf
  refine And.intro rfl (And.intro (nle rfl) (And.intro rfl ?_));conv=>whnf
  refine hK _ _ _ ?_
  refine uK (.step 0 (.step 2 (.step 3 (.step 4 (.step 5 (.step 6 (.step 7 (.step 8 (.step 9 (.thr 1 10 12 (.two 10 12 (.step 12 (.step 11 (.step 13 (.nil)))) (.step 10 (.step 11 (.step 13 (.nil))))) (.step 1 (.step 12 (.step 11 (.step 13 (.nil))))) (.two 1 10 (.step 10 (.step 11 (.step 13 (.nil)))) (.step 1 (.step 11 (.step 13 (.nil))))))))))))))) dCo eZ rfl (by kernel_rfl) fun K hK=>?_;conv=>whnf
  refine cZ (enc:=dK) (d:=default) dCo h rfl rfl rfl ⟨nle rfl,nle rfl,rfl⟩ rfl trivial (fun h=>?_);conv=>whnf
  refine nlA rfl ?_;conv=>whnf
  refine bKo rfl ?_;conv=>whnf
  refine gKo rfl ?_;conv=>whnf
  refine sO (enc:=dK) (d:=default) dCo h rfl rfl rfl ⟨rfl,nle rfl,nle rfl,nle rfl,rfl⟩ (fun _=>rfl) (fun h=>?_);conv=>whnf
  refine cZ (enc:=dK) (d:=default) dCo h rfl rfl rfl ⟨nle rfl,nle rfl,rfl⟩ rfl ⟨⟨rfl,nle rfl⟩,trivial⟩ (fun h=>?_);conv=>whnf
  refine And.intro ?_ (And.intro ?_ ?_)<;>(conv=>whnf)
  ·refine nlA rfl ?_;conv=>whnf
   refine bKo rfl ?_;conv=>whnf
   refine gKo rfl ?_;conv=>whnf
   refine And.intro ?_ ?_<;>(conv=>whnf)
   ·refine dI (enc:=dK) (d:=default) dCo h (.inl rfl) rfl rfl rfl ⟨rfl,nle rfl,nle rfl,nle rfl,rfl⟩ (fun _=>rfl) (.inr (.inr ⟨_,_,rfl,rfl,rfl⟩)) (fun h=>?_);conv=>whnf
    refine bKo rfl ?_;conv=>whnf
    refine And.intro rfl (And.intro (nle rfl) (And.intro rfl ?_));conv=>whnf
    refine hK _ _ _ ?_
    refine aE dCo rfl fun K hK=>?_;conv=>whnf
    refine nlA rfl ?_;conv=>whnf
    refine bKo rfl ?_;conv=>whnf
    refine nlA rfl ?_;conv=>whnf
    replace h:=bC h
    refine aH h20 h (WkL.refl _) (fun _ h=>?_);conv=>whnf
    refine hK _ _ _ ?_
    refine aE dCo rfl fun K hK=>?_;conv=>whnf
    refine nlA rfl ?_;conv=>whnf
    refine bKo rfl ?_;conv=>whnf
    refine nlA rfl ?_;conv=>whnf
    replace h:=bC h
    refine aH h20 h (aF (bH (aF (Wk.refl _) (aF aW aJ))) aJ) (fun _ h=>?_);conv=>whnf
    refine hK _ _ _ ?_
    refine aE dCo rfl fun K hK=>?_;conv=>whnf
    refine nlA rfl ?_;conv=>whnf
    refine bKo rfl ?_;conv=>whnf
    refine nlA rfl ?_;conv=>whnf
    replace h:=bC h
    refine aH h20 h (aF (bH (aF (Wk.refl _) (aF aW aJ))) aJ) (fun _ h=>?_);conv=>whnf
    refine hK _ _ _ ?_
    refine aL ?_
    refine aE dCo rfl fun K hK=>?_;conv=>whnf
    replace h:=cL h
    refine cLk h (fun _ h=>?_) (fun _ h=>?_)<;>(conv=>whnf)
    ·refine hK _ _ _ ?_
     refine aQ fun K1 K2 hK1 hK2=>?_;conv=>whnf
     refine hK1 ?_
     replace h:=fC h
     refine aE dCo rfl fun K hK=>?_;conv=>whnf
     refine hK _ _ _ ?_
     refine aD ?_
     refine aG ?_
     replace h:=aB h
     refine aA dCo fun K hK=>?_;conv=>whnf
     refine hK _ ?_
     cases h
     exact Wk.refl _
    refine hK _ _ _ ?_
    refine aQ fun K1 K2 hK1 hK2=>?_;conv=>whnf
    refine cLk h (fun _ h=>?_) (fun _ h=>?_)
    ·refine hK1 ?_
     refine aE dCo rfl fun K hK=>?_;conv=>whnf
     refine hK _ _ _ ?_
     refine aD ?_
     refine aG ?_
     replace h:=aB h
     refine aA dCo fun K hK=>?_;conv=>whnf
     refine hK _ ?_
     cases h
     exact Wk.refl _
    refine hK2 ?_
    refine aK ?_
    refine tHn ?_
    refine aL ?_
    refine aN ?_
    refine aE dCo rfl fun K hK=>?_;conv=>whnf
    refine nlA rfl ?_;conv=>whnf
    refine bKo rfl ?_;conv=>whnf
    refine nlA rfl ?_;conv=>whnf
    replace h:=bC h
    refine aI h27 h (WkL.refl _) (fun _ h=>?_);conv=>whnf
    refine hK _ _ _ ?_
    refine aQ fun K1 K2 hK1 hK2=>?_;conv=>whnf
    refine cLk h (fun _ h=>?_) (fun _ h=>?_)
    ·refine hK1 ?_
     refine aE dCo rfl fun K hK=>?_;conv=>whnf
     replace h:=cL h
     refine cLk h (fun _ h=>?_) (fun _ h=>?_)<;>(conv=>whnf)
     ·refine cLk h (fun _ h=>?_) (fun _ h=>?_)<;>(conv=>whnf)
      ·refine cLk h (fun _ h=>?_) (fun _ h=>?_)<;>(conv=>whnf)
       ·refine hK _ _ _ ?_
        refine aD ?_
        refine aC ?_
        refine aG ?_
        replace h:=aB h
        refine aA dCo fun K hK=>?_;conv=>whnf
        refine hK _ ?_
        cases h
        exact Wk.refl _
       refine hK _ _ _ ?_
       refine aD ?_
       refine aC ?_
       refine aG ?_
       replace h:=aB h
       refine aA dCo fun K hK=>?_;conv=>whnf
       refine hK _ ?_
       cases h
       exact Wk.refl _
      refine hK _ _ _ ?_
      refine aD ?_
      refine aC ?_
      refine aG ?_
      replace h:=aB h
      refine aA dCo fun K hK=>?_;conv=>whnf
      refine hK _ ?_
      cases h
      exact Wk.refl _
     refine hK _ _ _ ?_
     refine aD ?_
     refine aC ?_
     refine aG ?_
     replace h:=aB h
     refine aA dCo fun K hK=>?_;conv=>whnf
     refine hK _ ?_
     cases h
     exact Wk.refl _
    refine hK2 ?_
    refine aE dCo rfl fun K hK=>?_;conv=>whnf
    refine nlA rfl ?_;conv=>whnf
    refine bKo rfl ?_;conv=>whnf
    refine nlA rfl ?_;conv=>whnf
    replace h:=bC h
    refine aI h27 h (WkL.refl _) (fun _ h=>?_);conv=>whnf
    refine hK _ _ _ ?_
    refine aQ fun K1 K2 hK1 hK2=>?_;conv=>whnf
    refine cLk h (fun _ h=>?_) (fun _ h=>?_)
    ·refine hK1 ?_
     refine aE dCo rfl fun K hK=>?_;conv=>whnf
     replace h:=cL h
     refine cLk h (fun _ h=>?_) (fun _ h=>?_)<;>(conv=>whnf)
     ·refine cLk h (fun _ h=>?_) (fun _ h=>?_)<;>(conv=>whnf)
      ·refine cLk h (fun _ h=>?_) (fun _ h=>?_)<;>(conv=>whnf)
       ·refine hK _ _ _ ?_
        refine aD ?_
        refine aC ?_
        refine aG ?_
        replace h:=aB h
        refine aA dCo fun K hK=>?_;conv=>whnf
        refine hK _ ?_
        cases h
        exact Wk.refl _
       refine hK _ _ _ ?_
       refine aD ?_
       refine aC ?_
       refine aG ?_
       replace h:=aB h
       refine aA dCo fun K hK=>?_;conv=>whnf
       refine hK _ ?_
       cases h
       exact Wk.refl _
      refine hK _ _ _ ?_
      refine aD ?_
      refine aC ?_
      refine aG ?_
      replace h:=aB h
      refine aA dCo fun K hK=>?_;conv=>whnf
      refine hK _ ?_
      cases h
      exact Wk.refl _
     refine hK _ _ _ ?_
     refine aD ?_
     refine aC ?_
     refine aG ?_
     replace h:=aB h
     refine aA dCo fun K hK=>?_;conv=>whnf
     refine hK _ ?_
     cases h
     exact Wk.refl _
    refine hK2 ?_
    refine aK ?_
    refine iBn ?_
    refine tHn ?_
    refine aE dCo rfl fun K hK=>?_;conv=>whnf
    replace h:=cL h
    refine cLk h (fun _ h=>?_) (fun _ h=>?_)<;>(conv=>whnf)
    ·refine cLk h (fun _ h=>?_) (fun _ h=>?_)<;>(conv=>whnf)
     ·refine cLk h (fun _ h=>?_) (fun _ h=>?_)<;>(conv=>whnf)
      ·refine cLk h (fun _ h=>?_) (fun _ h=>?_)<;>(conv=>whnf)
       ·refine hK _ _ _ ?_
        refine aD ?_
        replace h:=aB h
        refine aA dCo fun K hK=>?_;conv=>whnf
        refine hK _ ?_
        cases h
        exact Wk.refl _
       refine hK _ _ _ ?_
       refine aD ?_
       replace h:=aB h
       refine aA dCo fun K hK=>?_;conv=>whnf
       refine hK _ ?_
       cases h
       exact Wk.refl _
      refine hK _ _ _ ?_
      refine aD ?_
      replace h:=aB h
      refine aA dCo fun K hK=>?_;conv=>whnf
      refine hK _ ?_
      cases h
      exact Wk.refl _
     refine hK _ _ _ ?_
     refine aD ?_
     replace h:=aB h
     refine aA dCo fun K hK=>?_;conv=>whnf
     refine hK _ ?_
     cases h
     exact Wk.refl _
    refine hK _ _ _ ?_
    refine aD ?_
    replace h:=aB h
    refine aA dCo fun K hK=>?_;conv=>whnf
    refine hK _ ?_
    cases h
    exact Wk.refl _
   refine dI (enc:=dK) (d:=default) dCo h (.inl rfl) rfl rfl rfl ⟨rfl,nle rfl,nle rfl,nle rfl,rfl⟩ (fun _=>rfl) (.inr (.inr ⟨_,_,rfl,rfl,rfl⟩)) (fun h=>?_);conv=>whnf
   refine bKo rfl ?_;conv=>whnf
   refine And.intro rfl (And.intro (nle rfl) (And.intro rfl ?_));conv=>whnf
   refine hK _ _ _ ?_
   refine aE dCo rfl fun K hK=>?_;conv=>whnf
   refine nlA rfl ?_;conv=>whnf
   refine bKo rfl ?_;conv=>whnf
   refine nlA rfl ?_;conv=>whnf
   replace h:=bC h
   refine aH h20 h (WkL.refl _) (fun _ h=>?_);conv=>whnf
   refine hK _ _ _ ?_
   refine aE dCo rfl fun K hK=>?_;conv=>whnf
   refine nlA rfl ?_;conv=>whnf
   refine bKo rfl ?_;conv=>whnf
   refine nlA rfl ?_;conv=>whnf
   replace h:=bC h
   refine aH h20 h (aF (bH (aF (Wk.refl _) (aF aW aJ))) aJ) (fun _ h=>?_);conv=>whnf
   refine hK _ _ _ ?_
   refine aE dCo rfl fun K hK=>?_;conv=>whnf
   refine nlA rfl ?_;conv=>whnf
   refine bKo rfl ?_;conv=>whnf
   refine nlA rfl ?_;conv=>whnf
   replace h:=bC h
   refine aH h20 h (aF (bH (aF (Wk.refl _) (aF aW aJ))) aJ) (fun _ h=>?_);conv=>whnf
   refine hK _ _ _ ?_
   refine aL ?_
   refine aE dCo rfl fun K hK=>?_;conv=>whnf
   replace h:=cL h
   refine cLk h (fun _ h=>?_) (fun _ h=>?_)<;>(conv=>whnf)
   ·refine hK _ _ _ ?_
    refine aQ fun K1 K2 hK1 hK2=>?_;conv=>whnf
    refine hK1 ?_
    replace h:=fC h
    refine aE dCo rfl fun K hK=>?_;conv=>whnf
    refine hK _ _ _ ?_
    refine aD ?_
    refine aG ?_
    replace h:=aB h
    refine aA dCo fun K hK=>?_;conv=>whnf
    refine hK _ ?_
    cases h
    exact Wk.refl _
   refine hK _ _ _ ?_
   refine aQ fun K1 K2 hK1 hK2=>?_;conv=>whnf
   refine cLk h (fun _ h=>?_) (fun _ h=>?_)
   ·refine hK1 ?_
    refine aE dCo rfl fun K hK=>?_;conv=>whnf
    refine hK _ _ _ ?_
    refine aD ?_
    refine aG ?_
    replace h:=aB h
    refine aA dCo fun K hK=>?_;conv=>whnf
    refine hK _ ?_
    cases h
    exact Wk.refl _
   refine hK2 ?_
   refine aK ?_
   refine tHn ?_
   refine aL ?_
   refine aN ?_
   refine aE dCo rfl fun K hK=>?_;conv=>whnf
   refine nlA rfl ?_;conv=>whnf
   refine bKo rfl ?_;conv=>whnf
   refine nlA rfl ?_;conv=>whnf
   replace h:=bC h
   refine aI h27 h (WkL.refl _) (fun _ h=>?_);conv=>whnf
   refine hK _ _ _ ?_
   refine aQ fun K1 K2 hK1 hK2=>?_;conv=>whnf
   refine cLk h (fun _ h=>?_) (fun _ h=>?_)
   ·refine hK1 ?_
    refine aE dCo rfl fun K hK=>?_;conv=>whnf
    replace h:=cL h
    refine cLk h (fun _ h=>?_) (fun _ h=>?_)<;>(conv=>whnf)
    ·refine cLk h (fun _ h=>?_) (fun _ h=>?_)<;>(conv=>whnf)
     ·refine cLk h (fun _ h=>?_) (fun _ h=>?_)<;>(conv=>whnf)
      ·refine hK _ _ _ ?_
       refine aD ?_
       refine aC ?_
       refine aG ?_
       replace h:=aB h
       refine aA dCo fun K hK=>?_;conv=>whnf
       refine hK _ ?_
       cases h
       exact Wk.refl _
      refine hK _ _ _ ?_
      refine aD ?_
      refine aC ?_
      refine aG ?_
      replace h:=aB h
      refine aA dCo fun K hK=>?_;conv=>whnf
      refine hK _ ?_
      cases h
      exact Wk.refl _
     refine hK _ _ _ ?_
     refine aD ?_
     refine aC ?_
     refine aG ?_
     replace h:=aB h
     refine aA dCo fun K hK=>?_;conv=>whnf
     refine hK _ ?_
     cases h
     exact Wk.refl _
    refine hK _ _ _ ?_
    refine aD ?_
    refine aC ?_
    refine aG ?_
    replace h:=aB h
    refine aA dCo fun K hK=>?_;conv=>whnf
    refine hK _ ?_
    cases h
    exact Wk.refl _
   refine hK2 ?_
   refine aE dCo rfl fun K hK=>?_;conv=>whnf
   refine nlA rfl ?_;conv=>whnf
   refine bKo rfl ?_;conv=>whnf
   refine nlA rfl ?_;conv=>whnf
   replace h:=bC h
   refine aI h27 h (WkL.refl _) (fun _ h=>?_);conv=>whnf
   refine hK _ _ _ ?_
   refine aQ fun K1 K2 hK1 hK2=>?_;conv=>whnf
   refine cLk h (fun _ h=>?_) (fun _ h=>?_)
   ·refine hK1 ?_
    refine aE dCo rfl fun K hK=>?_;conv=>whnf
    replace h:=cL h
    refine cLk h (fun _ h=>?_) (fun _ h=>?_)<;>(conv=>whnf)
    ·refine cLk h (fun _ h=>?_) (fun _ h=>?_)<;>(conv=>whnf)
     ·refine cLk h (fun _ h=>?_) (fun _ h=>?_)<;>(conv=>whnf)
      ·refine hK _ _ _ ?_
       refine aD ?_
       refine aC ?_
       refine aG ?_
       replace h:=aB h
       refine aA dCo fun K hK=>?_;conv=>whnf
       refine hK _ ?_
       cases h
       exact Wk.refl _
      refine hK _ _ _ ?_
      refine aD ?_
      refine aC ?_
      refine aG ?_
      replace h:=aB h
      refine aA dCo fun K hK=>?_;conv=>whnf
      refine hK _ ?_
      cases h
      exact Wk.refl _
     refine hK _ _ _ ?_
     refine aD ?_
     refine aC ?_
     refine aG ?_
     replace h:=aB h
     refine aA dCo fun K hK=>?_;conv=>whnf
     refine hK _ ?_
     cases h
     exact Wk.refl _
    refine hK _ _ _ ?_
    refine aD ?_
    refine aC ?_
    refine aG ?_
    replace h:=aB h
    refine aA dCo fun K hK=>?_;conv=>whnf
    refine hK _ ?_
    cases h
    exact Wk.refl _
   refine hK2 ?_
   refine aK ?_
   refine iBn ?_
   refine tHn ?_
   refine aE dCo rfl fun K hK=>?_;conv=>whnf
   replace h:=cL h
   refine cLk h (fun _ h=>?_) (fun _ h=>?_)<;>(conv=>whnf)
   ·refine cLk h (fun _ h=>?_) (fun _ h=>?_)<;>(conv=>whnf)
    ·refine cLk h (fun _ h=>?_) (fun _ h=>?_)<;>(conv=>whnf)
     ·refine cLk h (fun _ h=>?_) (fun _ h=>?_)<;>(conv=>whnf)
      ·refine hK _ _ _ ?_
       refine aD ?_
       replace h:=aB h
       refine aA dCo fun K hK=>?_;conv=>whnf
       refine hK _ ?_
       cases h
       exact Wk.refl _
      refine hK _ _ _ ?_
      refine aD ?_
      replace h:=aB h
      refine aA dCo fun K hK=>?_;conv=>whnf
      refine hK _ ?_
      cases h
      exact Wk.refl _
     refine hK _ _ _ ?_
     refine aD ?_
     replace h:=aB h
     refine aA dCo fun K hK=>?_;conv=>whnf
     refine hK _ ?_
     cases h
     exact Wk.refl _
    refine hK _ _ _ ?_
    refine aD ?_
    replace h:=aB h
    refine aA dCo fun K hK=>?_;conv=>whnf
    refine hK _ ?_
    cases h
    exact Wk.refl _
   refine hK _ _ _ ?_
   refine aD ?_
   replace h:=aB h
   refine aA dCo fun K hK=>?_;conv=>whnf
   refine hK _ ?_
   cases h
   exact Wk.refl _
  ·refine dI (enc:=dK) (d:=default) dCo h (.inl rfl) rfl rfl rfl ⟨rfl,nle rfl,nle rfl,nle rfl,rfl⟩ (fun _=>rfl) (.inr (.inr ⟨_,_,rfl,rfl,rfl⟩)) (fun h=>?_);conv=>whnf
   refine nlA rfl ?_;conv=>whnf
   refine bKo rfl ?_;conv=>whnf
   refine gKo rfl ?_;conv=>whnf
   refine bKo rfl ?_;conv=>whnf
   refine And.intro rfl (And.intro (nle rfl) (And.intro rfl ?_));conv=>whnf
   refine hK _ _ _ ?_
   refine aE dCo rfl fun K hK=>?_;conv=>whnf
   refine nlA rfl ?_;conv=>whnf
   refine bKo rfl ?_;conv=>whnf
   refine nlA rfl ?_;conv=>whnf
   replace h:=bC h
   refine aH h20 h (WkL.refl _) (fun _ h=>?_);conv=>whnf
   refine hK _ _ _ ?_
   refine aE dCo rfl fun K hK=>?_;conv=>whnf
   refine nlA rfl ?_;conv=>whnf
   refine bKo rfl ?_;conv=>whnf
   refine nlA rfl ?_;conv=>whnf
   replace h:=bC h
   refine aH h20 h (aF (bH (aF (Wk.refl _) (aF aW aJ))) aJ) (fun _ h=>?_);conv=>whnf
   refine hK _ _ _ ?_
   refine aE dCo rfl fun K hK=>?_;conv=>whnf
   refine nlA rfl ?_;conv=>whnf
   refine bKo rfl ?_;conv=>whnf
   refine nlA rfl ?_;conv=>whnf
   replace h:=bC h
   refine aH h20 h (aF (bH (aF (Wk.refl _) (aF aW aJ))) aJ) (fun _ h=>?_);conv=>whnf
   refine hK _ _ _ ?_
   refine aL ?_
   refine aE dCo rfl fun K hK=>?_;conv=>whnf
   replace h:=cL h
   refine cLk h (fun _ h=>?_) (fun _ h=>?_)<;>(conv=>whnf)
   ·refine hK _ _ _ ?_
    refine aQ fun K1 K2 hK1 hK2=>?_;conv=>whnf
    refine hK1 ?_
    replace h:=fC h
    refine aE dCo rfl fun K hK=>?_;conv=>whnf
    refine hK _ _ _ ?_
    refine aD ?_
    refine aG ?_
    replace h:=aB h
    refine aA dCo fun K hK=>?_;conv=>whnf
    refine hK _ ?_
    cases h
    exact Wk.refl _
   refine hK _ _ _ ?_
   refine aQ fun K1 K2 hK1 hK2=>?_;conv=>whnf
   refine cLk h (fun _ h=>?_) (fun _ h=>?_)
   ·refine hK1 ?_
    refine aE dCo rfl fun K hK=>?_;conv=>whnf
    refine hK _ _ _ ?_
    refine aD ?_
    refine aG ?_
    replace h:=aB h
    refine aA dCo fun K hK=>?_;conv=>whnf
    refine hK _ ?_
    cases h
    exact Wk.refl _
   refine hK2 ?_
   refine aK ?_
   refine tHn ?_
   refine aL ?_
   refine aN ?_
   refine aE dCo rfl fun K hK=>?_;conv=>whnf
   refine nlA rfl ?_;conv=>whnf
   refine bKo rfl ?_;conv=>whnf
   refine nlA rfl ?_;conv=>whnf
   replace h:=bC h
   refine aI h27 h (WkL.refl _) (fun _ h=>?_);conv=>whnf
   refine hK _ _ _ ?_
   refine aQ fun K1 K2 hK1 hK2=>?_;conv=>whnf
   refine cLk h (fun _ h=>?_) (fun _ h=>?_)
   ·refine hK1 ?_
    refine aE dCo rfl fun K hK=>?_;conv=>whnf
    replace h:=cL h
    refine cLk h (fun _ h=>?_) (fun _ h=>?_)<;>(conv=>whnf)
    ·refine cLk h (fun _ h=>?_) (fun _ h=>?_)<;>(conv=>whnf)
     ·refine cLk h (fun _ h=>?_) (fun _ h=>?_)<;>(conv=>whnf)
      ·refine hK _ _ _ ?_
       refine aD ?_
       refine aC ?_
       refine aG ?_
       replace h:=aB h
       refine aA dCo fun K hK=>?_;conv=>whnf
       refine hK _ ?_
       cases h
       exact Wk.refl _
      refine hK _ _ _ ?_
      refine aD ?_
      refine aC ?_
      refine aG ?_
      replace h:=aB h
      refine aA dCo fun K hK=>?_;conv=>whnf
      refine hK _ ?_
      cases h
      exact Wk.refl _
     refine hK _ _ _ ?_
     refine aD ?_
     refine aC ?_
     refine aG ?_
     replace h:=aB h
     refine aA dCo fun K hK=>?_;conv=>whnf
     refine hK _ ?_
     cases h
     exact Wk.refl _
    refine hK _ _ _ ?_
    refine aD ?_
    refine aC ?_
    refine aG ?_
    replace h:=aB h
    refine aA dCo fun K hK=>?_;conv=>whnf
    refine hK _ ?_
    cases h
    exact Wk.refl _
   refine hK2 ?_
   refine aE dCo rfl fun K hK=>?_;conv=>whnf
   refine nlA rfl ?_;conv=>whnf
   refine bKo rfl ?_;conv=>whnf
   refine nlA rfl ?_;conv=>whnf
   replace h:=bC h
   refine aI h27 h (WkL.refl _) (fun _ h=>?_);conv=>whnf
   refine hK _ _ _ ?_
   refine aQ fun K1 K2 hK1 hK2=>?_;conv=>whnf
   refine cLk h (fun _ h=>?_) (fun _ h=>?_)
   ·refine hK1 ?_
    refine aE dCo rfl fun K hK=>?_;conv=>whnf
    replace h:=cL h
    refine cLk h (fun _ h=>?_) (fun _ h=>?_)<;>(conv=>whnf)
    ·refine cLk h (fun _ h=>?_) (fun _ h=>?_)<;>(conv=>whnf)
     ·refine cLk h (fun _ h=>?_) (fun _ h=>?_)<;>(conv=>whnf)
      ·refine hK _ _ _ ?_
       refine aD ?_
       refine aC ?_
       refine aG ?_
       replace h:=aB h
       refine aA dCo fun K hK=>?_;conv=>whnf
       refine hK _ ?_
       cases h
       exact Wk.refl _
      refine hK _ _ _ ?_
      refine aD ?_
      refine aC ?_
      refine aG ?_
      replace h:=aB h
      refine aA dCo fun K hK=>?_;conv=>whnf
      refine hK _ ?_
      cases h
      exact Wk.refl _
     refine hK _ _ _ ?_
     refine aD ?_
     refine aC ?_
     refine aG ?_
     replace h:=aB h
     refine aA dCo fun K hK=>?_;conv=>whnf
     refine hK _ ?_
     cases h
     exact Wk.refl _
    refine hK _ _ _ ?_
    refine aD ?_
    refine aC ?_
    refine aG ?_
    replace h:=aB h
    refine aA dCo fun K hK=>?_;conv=>whnf
    refine hK _ ?_
    cases h
    exact Wk.refl _
   refine hK2 ?_
   refine aK ?_
   refine iBn ?_
   refine tHn ?_
   refine aE dCo rfl fun K hK=>?_;conv=>whnf
   replace h:=cL h
   refine cLk h (fun _ h=>?_) (fun _ h=>?_)<;>(conv=>whnf)
   ·refine cLk h (fun _ h=>?_) (fun _ h=>?_)<;>(conv=>whnf)
    ·refine cLk h (fun _ h=>?_) (fun _ h=>?_)<;>(conv=>whnf)
     ·refine cLk h (fun _ h=>?_) (fun _ h=>?_)<;>(conv=>whnf)
      ·refine hK _ _ _ ?_
       refine aD ?_
       replace h:=aB h
       refine aA dCo fun K hK=>?_;conv=>whnf
       refine hK _ ?_
       cases h
       exact Wk.refl _
      refine hK _ _ _ ?_
      refine aD ?_
      replace h:=aB h
      refine aA dCo fun K hK=>?_;conv=>whnf
      refine hK _ ?_
      cases h
      exact Wk.refl _
     refine hK _ _ _ ?_
     refine aD ?_
     replace h:=aB h
     refine aA dCo fun K hK=>?_;conv=>whnf
     refine hK _ ?_
     cases h
     exact Wk.refl _
    refine hK _ _ _ ?_
    refine aD ?_
    replace h:=aB h
    refine aA dCo fun K hK=>?_;conv=>whnf
    refine hK _ ?_
    cases h
    exact Wk.refl _
   refine hK _ _ _ ?_
   refine aD ?_
   replace h:=aB h
   refine aA dCo fun K hK=>?_;conv=>whnf
   refine hK _ ?_
   cases h
   exact Wk.refl _
  refine And.intro ?_ ?_<;>(conv=>whnf)
  ·refine nlA rfl ?_;conv=>whnf
   refine bKo rfl ?_;conv=>whnf
   refine gKo rfl ?_;conv=>whnf
   refine dI (enc:=dK) (d:=default) dCo h (.inl rfl) rfl rfl rfl ⟨rfl,nle rfl,nle rfl,nle rfl,rfl⟩ (fun _=>rfl) (.inr (.inr ⟨_,_,rfl,rfl,rfl⟩)) (fun h=>?_);conv=>whnf
   refine bKo rfl ?_;conv=>whnf
   refine And.intro rfl (And.intro (nle rfl) (And.intro rfl ?_));conv=>whnf
   refine hK _ _ _ ?_
   refine aE dCo rfl fun K hK=>?_;conv=>whnf
   refine nlA rfl ?_;conv=>whnf
   refine bKo rfl ?_;conv=>whnf
   refine nlA rfl ?_;conv=>whnf
   replace h:=bC h
   refine aH h20 h (WkL.refl _) (fun _ h=>?_);conv=>whnf
   refine hK _ _ _ ?_
   refine aE dCo rfl fun K hK=>?_;conv=>whnf
   refine nlA rfl ?_;conv=>whnf
   refine bKo rfl ?_;conv=>whnf
   refine nlA rfl ?_;conv=>whnf
   replace h:=bC h
   refine aH h20 h (aF (bH (aF (Wk.refl _) (aF aW aJ))) aJ) (fun _ h=>?_);conv=>whnf
   refine hK _ _ _ ?_
   refine aE dCo rfl fun K hK=>?_;conv=>whnf
   refine nlA rfl ?_;conv=>whnf
   refine bKo rfl ?_;conv=>whnf
   refine nlA rfl ?_;conv=>whnf
   replace h:=bC h
   refine aH h20 h (aF (bH (aF (Wk.refl _) (aF aW aJ))) aJ) (fun _ h=>?_);conv=>whnf
   refine hK _ _ _ ?_
   refine aL ?_
   refine aE dCo rfl fun K hK=>?_;conv=>whnf
   replace h:=cL h
   refine cLk h (fun _ h=>?_) (fun _ h=>?_)<;>(conv=>whnf)
   ·refine hK _ _ _ ?_
    refine aQ fun K1 K2 hK1 hK2=>?_;conv=>whnf
    refine hK1 ?_
    replace h:=fC h
    refine aE dCo rfl fun K hK=>?_;conv=>whnf
    refine hK _ _ _ ?_
    refine aD ?_
    refine aG ?_
    replace h:=aB h
    refine aA dCo fun K hK=>?_;conv=>whnf
    refine hK _ ?_
    cases h
    exact Wk.refl _
   refine hK _ _ _ ?_
   refine aQ fun K1 K2 hK1 hK2=>?_;conv=>whnf
   refine cLk h (fun _ h=>?_) (fun _ h=>?_)
   ·refine hK1 ?_
    refine aE dCo rfl fun K hK=>?_;conv=>whnf
    refine hK _ _ _ ?_
    refine aD ?_
    refine aG ?_
    replace h:=aB h
    refine aA dCo fun K hK=>?_;conv=>whnf
    refine hK _ ?_
    cases h
    exact Wk.refl _
   refine hK2 ?_
   refine aK ?_
   refine tHn ?_
   refine aL ?_
   refine aN ?_
   refine aE dCo rfl fun K hK=>?_;conv=>whnf
   refine nlA rfl ?_;conv=>whnf
   refine bKo rfl ?_;conv=>whnf
   refine nlA rfl ?_;conv=>whnf
   replace h:=bC h
   refine aI h27 h (WkL.refl _) (fun _ h=>?_);conv=>whnf
   refine hK _ _ _ ?_
   refine aQ fun K1 K2 hK1 hK2=>?_;conv=>whnf
   refine cLk h (fun _ h=>?_) (fun _ h=>?_)
   ·refine hK1 ?_
    refine aE dCo rfl fun K hK=>?_;conv=>whnf
    replace h:=cL h
    refine cLk h (fun _ h=>?_) (fun _ h=>?_)<;>(conv=>whnf)
    ·refine cLk h (fun _ h=>?_) (fun _ h=>?_)<;>(conv=>whnf)
     ·refine cLk h (fun _ h=>?_) (fun _ h=>?_)<;>(conv=>whnf)
      ·refine hK _ _ _ ?_
       refine aD ?_
       refine aC ?_
       refine aG ?_
       replace h:=aB h
       refine aA dCo fun K hK=>?_;conv=>whnf
       refine hK _ ?_
       cases h
       exact Wk.refl _
      refine hK _ _ _ ?_
      refine aD ?_
      refine aC ?_
      refine aG ?_
      replace h:=aB h
      refine aA dCo fun K hK=>?_;conv=>whnf
      refine hK _ ?_
      cases h
      exact Wk.refl _
     refine hK _ _ _ ?_
     refine aD ?_
     refine aC ?_
     refine aG ?_
     replace h:=aB h
     refine aA dCo fun K hK=>?_;conv=>whnf
     refine hK _ ?_
     cases h
     exact Wk.refl _
    refine hK _ _ _ ?_
    refine aD ?_
    refine aC ?_
    refine aG ?_
    replace h:=aB h
    refine aA dCo fun K hK=>?_;conv=>whnf
    refine hK _ ?_
    cases h
    exact Wk.refl _
   refine hK2 ?_
   refine aE dCo rfl fun K hK=>?_;conv=>whnf
   refine nlA rfl ?_;conv=>whnf
   refine bKo rfl ?_;conv=>whnf
   refine nlA rfl ?_;conv=>whnf
   replace h:=bC h
   refine aI h27 h (WkL.refl _) (fun _ h=>?_);conv=>whnf
   refine hK _ _ _ ?_
   refine aQ fun K1 K2 hK1 hK2=>?_;conv=>whnf
   refine cLk h (fun _ h=>?_) (fun _ h=>?_)
   ·refine hK1 ?_
    refine aE dCo rfl fun K hK=>?_;conv=>whnf
    replace h:=cL h
    refine cLk h (fun _ h=>?_) (fun _ h=>?_)<;>(conv=>whnf)
    ·refine cLk h (fun _ h=>?_) (fun _ h=>?_)<;>(conv=>whnf)
     ·refine cLk h (fun _ h=>?_) (fun _ h=>?_)<;>(conv=>whnf)
      ·refine hK _ _ _ ?_
       refine aD ?_
       refine aC ?_
       refine aG ?_
       replace h:=aB h
       refine aA dCo fun K hK=>?_;conv=>whnf
       refine hK _ ?_
       cases h
       exact Wk.refl _
      refine hK _ _ _ ?_
      refine aD ?_
      refine aC ?_
      refine aG ?_
      replace h:=aB h
      refine aA dCo fun K hK=>?_;conv=>whnf
      refine hK _ ?_
      cases h
      exact Wk.refl _
     refine hK _ _ _ ?_
     refine aD ?_
     refine aC ?_
     refine aG ?_
     replace h:=aB h
     refine aA dCo fun K hK=>?_;conv=>whnf
     refine hK _ ?_
     cases h
     exact Wk.refl _
    refine hK _ _ _ ?_
    refine aD ?_
    refine aC ?_
    refine aG ?_
    replace h:=aB h
    refine aA dCo fun K hK=>?_;conv=>whnf
    refine hK _ ?_
    cases h
    exact Wk.refl _
   refine hK2 ?_
   refine aK ?_
   refine iBn ?_
   refine tHn ?_
   refine aE dCo rfl fun K hK=>?_;conv=>whnf
   replace h:=cL h
   refine cLk h (fun _ h=>?_) (fun _ h=>?_)<;>(conv=>whnf)
   ·refine cLk h (fun _ h=>?_) (fun _ h=>?_)<;>(conv=>whnf)
    ·refine cLk h (fun _ h=>?_) (fun _ h=>?_)<;>(conv=>whnf)
     ·refine cLk h (fun _ h=>?_) (fun _ h=>?_)<;>(conv=>whnf)
      ·refine hK _ _ _ ?_
       refine aD ?_
       replace h:=aB h
       refine aA dCo fun K hK=>?_;conv=>whnf
       refine hK _ ?_
       cases h
       exact Wk.refl _
      refine hK _ _ _ ?_
      refine aD ?_
      replace h:=aB h
      refine aA dCo fun K hK=>?_;conv=>whnf
      refine hK _ ?_
      cases h
      exact Wk.refl _
     refine hK _ _ _ ?_
     refine aD ?_
     replace h:=aB h
     refine aA dCo fun K hK=>?_;conv=>whnf
     refine hK _ ?_
     cases h
     exact Wk.refl _
    refine hK _ _ _ ?_
    refine aD ?_
    replace h:=aB h
    refine aA dCo fun K hK=>?_;conv=>whnf
    refine hK _ ?_
    cases h
    exact Wk.refl _
   refine hK _ _ _ ?_
   refine aD ?_
   replace h:=aB h
   refine aA dCo fun K hK=>?_;conv=>whnf
   refine hK _ ?_
   cases h
   exact Wk.refl _
  refine dI (enc:=dK) (d:=default) dCo h (.inl rfl) rfl rfl rfl ⟨rfl,nle rfl,nle rfl,nle rfl,rfl⟩ (fun _=>rfl) (.inr (.inr ⟨_,_,rfl,rfl,rfl⟩)) (fun h=>?_);conv=>whnf
  refine nlA rfl ?_;conv=>whnf
  refine bKo rfl ?_;conv=>whnf
  refine gKo rfl ?_;conv=>whnf
  refine bKo rfl ?_;conv=>whnf
  refine And.intro rfl (And.intro (nle rfl) (And.intro rfl ?_));conv=>whnf
  refine hK _ _ _ ?_
  refine aE dCo rfl fun K hK=>?_;conv=>whnf
  refine nlA rfl ?_;conv=>whnf
  refine bKo rfl ?_;conv=>whnf
  refine nlA rfl ?_;conv=>whnf
  replace h:=bC h
  refine aH h20 h (WkL.refl _) (fun _ h=>?_);conv=>whnf
  refine hK _ _ _ ?_
  refine aE dCo rfl fun K hK=>?_;conv=>whnf
  refine nlA rfl ?_;conv=>whnf
  refine bKo rfl ?_;conv=>whnf
  refine nlA rfl ?_;conv=>whnf
  replace h:=bC h
  refine aH h20 h (aF (bH (aF (Wk.refl _) (aF aW aJ))) aJ) (fun _ h=>?_);conv=>whnf
  refine hK _ _ _ ?_
  refine aE dCo rfl fun K hK=>?_;conv=>whnf
  refine nlA rfl ?_;conv=>whnf
  refine bKo rfl ?_;conv=>whnf
  refine nlA rfl ?_;conv=>whnf
  replace h:=bC h
  refine aH h20 h (aF (bH (aF (Wk.refl _) (aF aW aJ))) aJ) (fun _ h=>?_);conv=>whnf
  refine hK _ _ _ ?_
  refine aL ?_
  refine aE dCo rfl fun K hK=>?_;conv=>whnf
  replace h:=cL h
  refine cLk h (fun _ h=>?_) (fun _ h=>?_)<;>(conv=>whnf)
  ·refine hK _ _ _ ?_
   refine aQ fun K1 K2 hK1 hK2=>?_;conv=>whnf
   refine hK1 ?_
   replace h:=fC h
   refine aE dCo rfl fun K hK=>?_;conv=>whnf
   refine hK _ _ _ ?_
   refine aD ?_
   refine aG ?_
   replace h:=aB h
   refine aA dCo fun K hK=>?_;conv=>whnf
   refine hK _ ?_
   cases h
   exact Wk.refl _
  refine hK _ _ _ ?_
  refine aQ fun K1 K2 hK1 hK2=>?_;conv=>whnf
  refine cLk h (fun _ h=>?_) (fun _ h=>?_)
  ·refine hK1 ?_
   refine aE dCo rfl fun K hK=>?_;conv=>whnf
   refine hK _ _ _ ?_
   refine aD ?_
   refine aG ?_
   replace h:=aB h
   refine aA dCo fun K hK=>?_;conv=>whnf
   refine hK _ ?_
   cases h
   exact Wk.refl _
  refine hK2 ?_
  refine aK ?_
  refine tHn ?_
  refine aL ?_
  refine aN ?_
  refine aE dCo rfl fun K hK=>?_;conv=>whnf
  refine nlA rfl ?_;conv=>whnf
  refine bKo rfl ?_;conv=>whnf
  refine nlA rfl ?_;conv=>whnf
  replace h:=bC h
  refine aI h27 h (WkL.refl _) (fun _ h=>?_);conv=>whnf
  refine hK _ _ _ ?_
  refine aQ fun K1 K2 hK1 hK2=>?_;conv=>whnf
  refine cLk h (fun _ h=>?_) (fun _ h=>?_)
  ·refine hK1 ?_
   refine aE dCo rfl fun K hK=>?_;conv=>whnf
   replace h:=cL h
   refine cLk h (fun _ h=>?_) (fun _ h=>?_)<;>(conv=>whnf)
   ·refine cLk h (fun _ h=>?_) (fun _ h=>?_)<;>(conv=>whnf)
    ·refine cLk h (fun _ h=>?_) (fun _ h=>?_)<;>(conv=>whnf)
     ·refine hK _ _ _ ?_
      refine aD ?_
      refine aC ?_
      refine aG ?_
      replace h:=aB h
      refine aA dCo fun K hK=>?_;conv=>whnf
      refine hK _ ?_
      cases h
      exact Wk.refl _
     refine hK _ _ _ ?_
     refine aD ?_
     refine aC ?_
     refine aG ?_
     replace h:=aB h
     refine aA dCo fun K hK=>?_;conv=>whnf
     refine hK _ ?_
     cases h
     exact Wk.refl _
    refine hK _ _ _ ?_
    refine aD ?_
    refine aC ?_
    refine aG ?_
    replace h:=aB h
    refine aA dCo fun K hK=>?_;conv=>whnf
    refine hK _ ?_
    cases h
    exact Wk.refl _
   refine hK _ _ _ ?_
   refine aD ?_
   refine aC ?_
   refine aG ?_
   replace h:=aB h
   refine aA dCo fun K hK=>?_;conv=>whnf
   refine hK _ ?_
   cases h
   exact Wk.refl _
  refine hK2 ?_
  refine aE dCo rfl fun K hK=>?_;conv=>whnf
  refine nlA rfl ?_;conv=>whnf
  refine bKo rfl ?_;conv=>whnf
  refine nlA rfl ?_;conv=>whnf
  replace h:=bC h
  refine aI h27 h (WkL.refl _) (fun _ h=>?_);conv=>whnf
  refine hK _ _ _ ?_
  refine aQ fun K1 K2 hK1 hK2=>?_;conv=>whnf
  refine cLk h (fun _ h=>?_) (fun _ h=>?_)
  ·refine hK1 ?_
   refine aE dCo rfl fun K hK=>?_;conv=>whnf
   replace h:=cL h
   refine cLk h (fun _ h=>?_) (fun _ h=>?_)<;>(conv=>whnf)
   ·refine cLk h (fun _ h=>?_) (fun _ h=>?_)<;>(conv=>whnf)
    ·refine cLk h (fun _ h=>?_) (fun _ h=>?_)<;>(conv=>whnf)
     ·refine hK _ _ _ ?_
      refine aD ?_
      refine aC ?_
      refine aG ?_
      replace h:=aB h
      refine aA dCo fun K hK=>?_;conv=>whnf
      refine hK _ ?_
      cases h
      exact Wk.refl _
     refine hK _ _ _ ?_
     refine aD ?_
     refine aC ?_
     refine aG ?_
     replace h:=aB h
     refine aA dCo fun K hK=>?_;conv=>whnf
     refine hK _ ?_
     cases h
     exact Wk.refl _
    refine hK _ _ _ ?_
    refine aD ?_
    refine aC ?_
    refine aG ?_
    replace h:=aB h
    refine aA dCo fun K hK=>?_;conv=>whnf
    refine hK _ ?_
    cases h
    exact Wk.refl _
   refine hK _ _ _ ?_
   refine aD ?_
   refine aC ?_
   refine aG ?_
   replace h:=aB h
   refine aA dCo fun K hK=>?_;conv=>whnf
   refine hK _ ?_
   cases h
   exact Wk.refl _
  refine hK2 ?_
  refine aK ?_
  refine iBn ?_
  refine tHn ?_
  refine aE dCo rfl fun K hK=>?_;conv=>whnf
  replace h:=cL h
  refine cLk h (fun _ h=>?_) (fun _ h=>?_)<;>(conv=>whnf)
  ·refine cLk h (fun _ h=>?_) (fun _ h=>?_)<;>(conv=>whnf)
   ·refine cLk h (fun _ h=>?_) (fun _ h=>?_)<;>(conv=>whnf)
    ·refine cLk h (fun _ h=>?_) (fun _ h=>?_)<;>(conv=>whnf)
     ·refine hK _ _ _ ?_
      refine aD ?_
      replace h:=aB h
      refine aA dCo fun K hK=>?_;conv=>whnf
      refine hK _ ?_
      cases h
      exact Wk.refl _
     refine hK _ _ _ ?_
     refine aD ?_
     replace h:=aB h
     refine aA dCo fun K hK=>?_;conv=>whnf
     refine hK _ ?_
     cases h
     exact Wk.refl _
    refine hK _ _ _ ?_
    refine aD ?_
    replace h:=aB h
    refine aA dCo fun K hK=>?_;conv=>whnf
    refine hK _ ?_
    cases h
    exact Wk.refl _
   refine hK _ _ _ ?_
   refine aD ?_
   replace h:=aB h
   refine aA dCo fun K hK=>?_;conv=>whnf
   refine hK _ ?_
   cases h
   exact Wk.refl _
  refine hK _ _ _ ?_
  refine aD ?_
  replace h:=aB h
  refine aA dCo fun K hK=>?_;conv=>whnf
  refine hK _ ?_
  cases h
  exact Wk.refl _
 refine dI (enc:=dK) (d:=default) dCo h (.inl rfl) rfl rfl rfl ⟨rfl,nle rfl,nle rfl,nle rfl,rfl⟩ (fun _=>rfl) (.inr (.inr ⟨_,_,rfl,rfl,rfl⟩)) (fun h=>?_);conv=>whnf
 refine nlA rfl ?_;conv=>whnf
 refine bKo rfl ?_;conv=>whnf
 refine gKo rfl ?_;conv=>whnf
 refine bKo rfl ?_;conv=>whnf
 refine And.intro rfl (And.intro (nle rfl) (And.intro rfl ?_));conv=>whnf
 refine hK _ _ _ ?_
 refine uK (.step 0 (.step 2 (.step 3 (.step 4 (.step 5 (.step 6 (.step 7 (.step 8 (.step 9 (.thr 1 10 12 (.two 10 12 (.step 12 (.step 11 (.step 13 (.nil)))) (.step 10 (.step 11 (.step 13 (.nil))))) (.step 1 (.step 12 (.step 11 (.step 13 (.nil))))) (.two 1 10 (.step 10 (.step 11 (.step 13 (.nil)))) (.step 1 (.step 11 (.step 13 (.nil))))))))))))))) dCo eZ rfl (by kernel_rfl) fun K hK=>?_;conv=>whnf
 refine cZ (enc:=dK) (d:=default) dCo h rfl rfl rfl ⟨nle rfl,nle rfl,rfl⟩ rfl trivial (fun h=>?_);conv=>whnf
 refine nlA rfl ?_;conv=>whnf
 refine bKo rfl ?_;conv=>whnf
 refine gKo rfl ?_;conv=>whnf
 refine sO (enc:=dK) (d:=default) dCo h rfl rfl rfl ⟨rfl,nle rfl,nle rfl,nle rfl,rfl⟩ (fun _=>rfl) (fun h=>?_);conv=>whnf
 refine cZ (enc:=dK) (d:=default) dCo h rfl rfl rfl ⟨nle rfl,nle rfl,rfl⟩ rfl ⟨⟨rfl,nle rfl⟩,trivial⟩ (fun h=>?_);conv=>whnf
 refine And.intro ?_ (And.intro ?_ ?_)<;>(conv=>whnf)
 ·refine nlA rfl ?_;conv=>whnf
  refine bKo rfl ?_;conv=>whnf
  refine gKo rfl ?_;conv=>whnf
  refine And.intro ?_ ?_<;>(conv=>whnf)
  ·refine dI (enc:=dK) (d:=default) dCo h (.inl rfl) rfl rfl rfl ⟨rfl,nle rfl,nle rfl,nle rfl,rfl⟩ (fun _=>rfl) (.inr (.inr ⟨_,_,rfl,rfl,rfl⟩)) (fun h=>?_);conv=>whnf
   refine bKo rfl ?_;conv=>whnf
   refine And.intro rfl (And.intro (nle rfl) (And.intro rfl ?_));conv=>whnf
   refine hK _ _ _ ?_
   refine aE dCo rfl fun K hK=>?_;conv=>whnf
   refine nlA rfl ?_;conv=>whnf
   refine bKo rfl ?_;conv=>whnf
   refine nlA rfl ?_;conv=>whnf
   replace h:=bC h
   refine aH h20 h (WkL.refl _) (fun _ h=>?_);conv=>whnf
   refine hK _ _ _ ?_
   refine aE dCo rfl fun K hK=>?_;conv=>whnf
   refine nlA rfl ?_;conv=>whnf
   refine bKo rfl ?_;conv=>whnf
   refine nlA rfl ?_;conv=>whnf
   replace h:=bC h
   refine aH h20 h (aF (bH (aF (Wk.refl _) (aF aW aJ))) aJ) (fun _ h=>?_);conv=>whnf
   refine hK _ _ _ ?_
   refine aE dCo rfl fun K hK=>?_;conv=>whnf
   refine nlA rfl ?_;conv=>whnf
   refine bKo rfl ?_;conv=>whnf
   refine nlA rfl ?_;conv=>whnf
   replace h:=bC h
   refine aH h20 h (aF (bH (aF (Wk.refl _) (aF aW aJ))) aJ) (fun _ h=>?_);conv=>whnf
   refine hK _ _ _ ?_
   refine aL ?_
   refine aE dCo rfl fun K hK=>?_;conv=>whnf
   replace h:=cL h
   refine cLk h (fun _ h=>?_) (fun _ h=>?_)<;>(conv=>whnf)
   ·refine hK _ _ _ ?_
    refine aQ fun K1 K2 hK1 hK2=>?_;conv=>whnf
    refine hK1 ?_
    replace h:=fC h
    refine aE dCo rfl fun K hK=>?_;conv=>whnf
    refine hK _ _ _ ?_
    refine aD ?_
    refine aG ?_
    replace h:=aB h
    refine aA dCo fun K hK=>?_;conv=>whnf
    refine hK _ ?_
    cases h
    exact Wk.refl _
   refine hK _ _ _ ?_
   refine aQ fun K1 K2 hK1 hK2=>?_;conv=>whnf
   refine cLk h (fun _ h=>?_) (fun _ h=>?_)
   ·refine hK1 ?_
    refine aE dCo rfl fun K hK=>?_;conv=>whnf
    refine hK _ _ _ ?_
    refine aD ?_
    refine aG ?_
    replace h:=aB h
    refine aA dCo fun K hK=>?_;conv=>whnf
    refine hK _ ?_
    cases h
    exact Wk.refl _
   refine hK2 ?_
   refine aK ?_
   refine tHn ?_
   refine aL ?_
   refine aN ?_
   refine aE dCo rfl fun K hK=>?_;conv=>whnf
   refine nlA rfl ?_;conv=>whnf
   refine bKo rfl ?_;conv=>whnf
   refine nlA rfl ?_;conv=>whnf
   replace h:=bC h
   refine aI h27 h (WkL.refl _) (fun _ h=>?_);conv=>whnf
   refine hK _ _ _ ?_
   refine aQ fun K1 K2 hK1 hK2=>?_;conv=>whnf
   refine cLk h (fun _ h=>?_) (fun _ h=>?_)
   ·refine hK1 ?_
    refine aE dCo rfl fun K hK=>?_;conv=>whnf
    replace h:=cL h
    refine cLk h (fun _ h=>?_) (fun _ h=>?_)<;>(conv=>whnf)
    ·refine cLk h (fun _ h=>?_) (fun _ h=>?_)<;>(conv=>whnf)
     ·refine cLk h (fun _ h=>?_) (fun _ h=>?_)<;>(conv=>whnf)
      ·refine hK _ _ _ ?_
       refine aD ?_
       refine aC ?_
       refine aG ?_
       replace h:=aB h
       refine aA dCo fun K hK=>?_;conv=>whnf
       refine hK _ ?_
       cases h
       exact Wk.refl _
      refine hK _ _ _ ?_
      refine aD ?_
      refine aC ?_
      refine aG ?_
      replace h:=aB h
      refine aA dCo fun K hK=>?_;conv=>whnf
      refine hK _ ?_
      cases h
      exact Wk.refl _
     refine hK _ _ _ ?_
     refine aD ?_
     refine aC ?_
     refine aG ?_
     replace h:=aB h
     refine aA dCo fun K hK=>?_;conv=>whnf
     refine hK _ ?_
     cases h
     exact Wk.refl _
    refine hK _ _ _ ?_
    refine aD ?_
    refine aC ?_
    refine aG ?_
    replace h:=aB h
    refine aA dCo fun K hK=>?_;conv=>whnf
    refine hK _ ?_
    cases h
    exact Wk.refl _
   refine hK2 ?_
   refine aE dCo rfl fun K hK=>?_;conv=>whnf
   refine nlA rfl ?_;conv=>whnf
   refine bKo rfl ?_;conv=>whnf
   refine nlA rfl ?_;conv=>whnf
   replace h:=bC h
   refine aI h27 h (WkL.refl _) (fun _ h=>?_);conv=>whnf
   refine hK _ _ _ ?_
   refine aQ fun K1 K2 hK1 hK2=>?_;conv=>whnf
   refine cLk h (fun _ h=>?_) (fun _ h=>?_)
   ·refine hK1 ?_
    refine aE dCo rfl fun K hK=>?_;conv=>whnf
    replace h:=cL h
    refine cLk h (fun _ h=>?_) (fun _ h=>?_)<;>(conv=>whnf)
    ·refine cLk h (fun _ h=>?_) (fun _ h=>?_)<;>(conv=>whnf)
     ·refine cLk h (fun _ h=>?_) (fun _ h=>?_)<;>(conv=>whnf)
      ·refine hK _ _ _ ?_
       refine aD ?_
       refine aC ?_
       refine aG ?_
       replace h:=aB h
       refine aA dCo fun K hK=>?_;conv=>whnf
       refine hK _ ?_
       cases h
       exact Wk.refl _
      refine hK _ _ _ ?_
      refine aD ?_
      refine aC ?_
      refine aG ?_
      replace h:=aB h
      refine aA dCo fun K hK=>?_;conv=>whnf
      refine hK _ ?_
      cases h
      exact Wk.refl _
     refine hK _ _ _ ?_
     refine aD ?_
     refine aC ?_
     refine aG ?_
     replace h:=aB h
     refine aA dCo fun K hK=>?_;conv=>whnf
     refine hK _ ?_
     cases h
     exact Wk.refl _
    refine hK _ _ _ ?_
    refine aD ?_
    refine aC ?_
    refine aG ?_
    replace h:=aB h
    refine aA dCo fun K hK=>?_;conv=>whnf
    refine hK _ ?_
    cases h
    exact Wk.refl _
   refine hK2 ?_
   refine aK ?_
   refine iBn ?_
   refine tHn ?_
   refine aE dCo rfl fun K hK=>?_;conv=>whnf
   replace h:=cL h
   refine cLk h (fun _ h=>?_) (fun _ h=>?_)<;>(conv=>whnf)
   ·refine cLk h (fun _ h=>?_) (fun _ h=>?_)<;>(conv=>whnf)
    ·refine cLk h (fun _ h=>?_) (fun _ h=>?_)<;>(conv=>whnf)
     ·refine cLk h (fun _ h=>?_) (fun _ h=>?_)<;>(conv=>whnf)
      ·refine hK _ _ _ ?_
       refine aD ?_
       replace h:=aB h
       refine aA dCo fun K hK=>?_;conv=>whnf
       refine hK _ ?_
       cases h
       exact Wk.refl _
      refine hK _ _ _ ?_
      refine aD ?_
      replace h:=aB h
      refine aA dCo fun K hK=>?_;conv=>whnf
      refine hK _ ?_
      cases h
      exact Wk.refl _
     refine hK _ _ _ ?_
     refine aD ?_
     replace h:=aB h
     refine aA dCo fun K hK=>?_;conv=>whnf
     refine hK _ ?_
     cases h
     exact Wk.refl _
    refine hK _ _ _ ?_
    refine aD ?_
    replace h:=aB h
    refine aA dCo fun K hK=>?_;conv=>whnf
    refine hK _ ?_
    cases h
    exact Wk.refl _
   refine hK _ _ _ ?_
   refine aD ?_
   replace h:=aB h
   refine aA dCo fun K hK=>?_;conv=>whnf
   refine hK _ ?_
   cases h
   exact Wk.refl _
  refine dI (enc:=dK) (d:=default) dCo h (.inl rfl) rfl rfl rfl ⟨rfl,nle rfl,nle rfl,nle rfl,rfl⟩ (fun _=>rfl) (.inr (.inr ⟨_,_,rfl,rfl,rfl⟩)) (fun h=>?_);conv=>whnf
  refine bKo rfl ?_;conv=>whnf
  refine And.intro rfl (And.intro (nle rfl) (And.intro rfl ?_));conv=>whnf
  refine hK _ _ _ ?_
  refine aE dCo rfl fun K hK=>?_;conv=>whnf
  refine nlA rfl ?_;conv=>whnf
  refine bKo rfl ?_;conv=>whnf
  refine nlA rfl ?_;conv=>whnf
  replace h:=bC h
  refine aH h20 h (WkL.refl _) (fun _ h=>?_);conv=>whnf
  refine hK _ _ _ ?_
  refine aE dCo rfl fun K hK=>?_;conv=>whnf
  refine nlA rfl ?_;conv=>whnf
  refine bKo rfl ?_;conv=>whnf
  refine nlA rfl ?_;conv=>whnf
  replace h:=bC h
  refine aH h20 h (aF (bH (aF (Wk.refl _) (aF aW aJ))) aJ) (fun _ h=>?_);conv=>whnf
  refine hK _ _ _ ?_
  refine aE dCo rfl fun K hK=>?_;conv=>whnf
  refine nlA rfl ?_;conv=>whnf
  refine bKo rfl ?_;conv=>whnf
  refine nlA rfl ?_;conv=>whnf
  replace h:=bC h
  refine aH h20 h (aF (bH (aF (Wk.refl _) (aF aW aJ))) aJ) (fun _ h=>?_);conv=>whnf
  refine hK _ _ _ ?_
  refine aL ?_
  refine aE dCo rfl fun K hK=>?_;conv=>whnf
  replace h:=cL h
  refine cLk h (fun _ h=>?_) (fun _ h=>?_)<;>(conv=>whnf)
  ·refine hK _ _ _ ?_
   refine aQ fun K1 K2 hK1 hK2=>?_;conv=>whnf
   refine hK1 ?_
   replace h:=fC h
   refine aE dCo rfl fun K hK=>?_;conv=>whnf
   refine hK _ _ _ ?_
   refine aD ?_
   refine aG ?_
   replace h:=aB h
   refine aA dCo fun K hK=>?_;conv=>whnf
   refine hK _ ?_
   cases h
   exact Wk.refl _
  refine hK _ _ _ ?_
  refine aQ fun K1 K2 hK1 hK2=>?_;conv=>whnf
  refine cLk h (fun _ h=>?_) (fun _ h=>?_)
  ·refine hK1 ?_
   refine aE dCo rfl fun K hK=>?_;conv=>whnf
   refine hK _ _ _ ?_
   refine aD ?_
   refine aG ?_
   replace h:=aB h
   refine aA dCo fun K hK=>?_;conv=>whnf
   refine hK _ ?_
   cases h
   exact Wk.refl _
  refine hK2 ?_
  refine aK ?_
  refine tHn ?_
  refine aL ?_
  refine aN ?_
  refine aE dCo rfl fun K hK=>?_;conv=>whnf
  refine nlA rfl ?_;conv=>whnf
  refine bKo rfl ?_;conv=>whnf
  refine nlA rfl ?_;conv=>whnf
  replace h:=bC h
  refine aI h27 h (WkL.refl _) (fun _ h=>?_);conv=>whnf
  refine hK _ _ _ ?_
  refine aQ fun K1 K2 hK1 hK2=>?_;conv=>whnf
  refine cLk h (fun _ h=>?_) (fun _ h=>?_)
  ·refine hK1 ?_
   refine aE dCo rfl fun K hK=>?_;conv=>whnf
   replace h:=cL h
   refine cLk h (fun _ h=>?_) (fun _ h=>?_)<;>(conv=>whnf)
   ·refine cLk h (fun _ h=>?_) (fun _ h=>?_)<;>(conv=>whnf)
    ·refine cLk h (fun _ h=>?_) (fun _ h=>?_)<;>(conv=>whnf)
     ·refine hK _ _ _ ?_
      refine aD ?_
      refine aC ?_
      refine aG ?_
      replace h:=aB h
      refine aA dCo fun K hK=>?_;conv=>whnf
      refine hK _ ?_
      cases h
      exact Wk.refl _
     refine hK _ _ _ ?_
     refine aD ?_
     refine aC ?_
     refine aG ?_
     replace h:=aB h
     refine aA dCo fun K hK=>?_;conv=>whnf
     refine hK _ ?_
     cases h
     exact Wk.refl _
    refine hK _ _ _ ?_
    refine aD ?_
    refine aC ?_
    refine aG ?_
    replace h:=aB h
    refine aA dCo fun K hK=>?_;conv=>whnf
    refine hK _ ?_
    cases h
    exact Wk.refl _
   refine hK _ _ _ ?_
   refine aD ?_
   refine aC ?_
   refine aG ?_
   replace h:=aB h
   refine aA dCo fun K hK=>?_;conv=>whnf
   refine hK _ ?_
   cases h
   exact Wk.refl _
  refine hK2 ?_
  refine aE dCo rfl fun K hK=>?_;conv=>whnf
  refine nlA rfl ?_;conv=>whnf
  refine bKo rfl ?_;conv=>whnf
  refine nlA rfl ?_;conv=>whnf
  replace h:=bC h
  refine aI h27 h (WkL.refl _) (fun _ h=>?_);conv=>whnf
  refine hK _ _ _ ?_
  refine aQ fun K1 K2 hK1 hK2=>?_;conv=>whnf
  refine cLk h (fun _ h=>?_) (fun _ h=>?_)
  ·refine hK1 ?_
   refine aE dCo rfl fun K hK=>?_;conv=>whnf
   replace h:=cL h
   refine cLk h (fun _ h=>?_) (fun _ h=>?_)<;>(conv=>whnf)
   ·refine cLk h (fun _ h=>?_) (fun _ h=>?_)<;>(conv=>whnf)
    ·refine cLk h (fun _ h=>?_) (fun _ h=>?_)<;>(conv=>whnf)
     ·refine hK _ _ _ ?_
      refine aD ?_
      refine aC ?_
      refine aG ?_
      replace h:=aB h
      refine aA dCo fun K hK=>?_;conv=>whnf
      refine hK _ ?_
      cases h
      exact Wk.refl _
     refine hK _ _ _ ?_
     refine aD ?_
     refine aC ?_
     refine aG ?_
     replace h:=aB h
     refine aA dCo fun K hK=>?_;conv=>whnf
     refine hK _ ?_
     cases h
     exact Wk.refl _
    refine hK _ _ _ ?_
    refine aD ?_
    refine aC ?_
    refine aG ?_
    replace h:=aB h
    refine aA dCo fun K hK=>?_;conv=>whnf
    refine hK _ ?_
    cases h
    exact Wk.refl _
   refine hK _ _ _ ?_
   refine aD ?_
   refine aC ?_
   refine aG ?_
   replace h:=aB h
   refine aA dCo fun K hK=>?_;conv=>whnf
   refine hK _ ?_
   cases h
   exact Wk.refl _
  refine hK2 ?_
  refine aK ?_
  refine iBn ?_
  refine tHn ?_
  refine aE dCo rfl fun K hK=>?_;conv=>whnf
  replace h:=cL h
  refine cLk h (fun _ h=>?_) (fun _ h=>?_)<;>(conv=>whnf)
  ·refine cLk h (fun _ h=>?_) (fun _ h=>?_)<;>(conv=>whnf)
   ·refine cLk h (fun _ h=>?_) (fun _ h=>?_)<;>(conv=>whnf)
    ·refine cLk h (fun _ h=>?_) (fun _ h=>?_)<;>(conv=>whnf)
     ·refine hK _ _ _ ?_
      refine aD ?_
      replace h:=aB h
      refine aA dCo fun K hK=>?_;conv=>whnf
      refine hK _ ?_
      cases h
      exact Wk.refl _
     refine hK _ _ _ ?_
     refine aD ?_
     replace h:=aB h
     refine aA dCo fun K hK=>?_;conv=>whnf
     refine hK _ ?_
     cases h
     exact Wk.refl _
    refine hK _ _ _ ?_
    refine aD ?_
    replace h:=aB h
    refine aA dCo fun K hK=>?_;conv=>whnf
    refine hK _ ?_
    cases h
    exact Wk.refl _
   refine hK _ _ _ ?_
   refine aD ?_
   replace h:=aB h
   refine aA dCo fun K hK=>?_;conv=>whnf
   refine hK _ ?_
   cases h
   exact Wk.refl _
  refine hK _ _ _ ?_
  refine aD ?_
  replace h:=aB h
  refine aA dCo fun K hK=>?_;conv=>whnf
  refine hK _ ?_
  cases h
  exact Wk.refl _
 ·refine dI (enc:=dK) (d:=default) dCo h (.inl rfl) rfl rfl rfl ⟨rfl,nle rfl,nle rfl,nle rfl,rfl⟩ (fun _=>rfl) (.inr (.inr ⟨_,_,rfl,rfl,rfl⟩)) (fun h=>?_);conv=>whnf
  refine nlA rfl ?_;conv=>whnf
  refine bKo rfl ?_;conv=>whnf
  refine gKo rfl ?_;conv=>whnf
  refine bKo rfl ?_;conv=>whnf
  refine And.intro rfl (And.intro (nle rfl) (And.intro rfl ?_));conv=>whnf
  refine hK _ _ _ ?_
  refine aE dCo rfl fun K hK=>?_;conv=>whnf
  refine nlA rfl ?_;conv=>whnf
  refine bKo rfl ?_;conv=>whnf
  refine nlA rfl ?_;conv=>whnf
  replace h:=bC h
  refine aH h20 h (WkL.refl _) (fun _ h=>?_);conv=>whnf
  refine hK _ _ _ ?_
  refine aE dCo rfl fun K hK=>?_;conv=>whnf
  refine nlA rfl ?_;conv=>whnf
  refine bKo rfl ?_;conv=>whnf
  refine nlA rfl ?_;conv=>whnf
  replace h:=bC h
  refine aH h20 h (aF (bH (aF (Wk.refl _) (aF aW aJ))) aJ) (fun _ h=>?_);conv=>whnf
  refine hK _ _ _ ?_
  refine aE dCo rfl fun K hK=>?_;conv=>whnf
  refine nlA rfl ?_;conv=>whnf
  refine bKo rfl ?_;conv=>whnf
  refine nlA rfl ?_;conv=>whnf
  replace h:=bC h
  refine aH h20 h (aF (bH (aF (Wk.refl _) (aF aW aJ))) aJ) (fun _ h=>?_);conv=>whnf
  refine hK _ _ _ ?_
  refine aL ?_
  refine aE dCo rfl fun K hK=>?_;conv=>whnf
  replace h:=cL h
  refine cLk h (fun _ h=>?_) (fun _ h=>?_)<;>(conv=>whnf)
  ·refine hK _ _ _ ?_
   refine aQ fun K1 K2 hK1 hK2=>?_;conv=>whnf
   refine hK1 ?_
   replace h:=fC h
   refine aE dCo rfl fun K hK=>?_;conv=>whnf
   refine hK _ _ _ ?_
   refine aD ?_
   refine aG ?_
   replace h:=aB h
   refine aA dCo fun K hK=>?_;conv=>whnf
   refine hK _ ?_
   cases h
   exact Wk.refl _
  refine hK _ _ _ ?_
  refine aQ fun K1 K2 hK1 hK2=>?_;conv=>whnf
  refine cLk h (fun _ h=>?_) (fun _ h=>?_)
  ·refine hK1 ?_
   refine aE dCo rfl fun K hK=>?_;conv=>whnf
   refine hK _ _ _ ?_
   refine aD ?_
   refine aG ?_
   replace h:=aB h
   refine aA dCo fun K hK=>?_;conv=>whnf
   refine hK _ ?_
   cases h
   exact Wk.refl _
  refine hK2 ?_
  refine aK ?_
  refine tHn ?_
  refine aL ?_
  refine aN ?_
  refine aE dCo rfl fun K hK=>?_;conv=>whnf
  refine nlA rfl ?_;conv=>whnf
  refine bKo rfl ?_;conv=>whnf
  refine nlA rfl ?_;conv=>whnf
  replace h:=bC h
  refine aI h27 h (WkL.refl _) (fun _ h=>?_);conv=>whnf
  refine hK _ _ _ ?_
  refine aQ fun K1 K2 hK1 hK2=>?_;conv=>whnf
  refine cLk h (fun _ h=>?_) (fun _ h=>?_)
  ·refine hK1 ?_
   refine aE dCo rfl fun K hK=>?_;conv=>whnf
   replace h:=cL h
   refine cLk h (fun _ h=>?_) (fun _ h=>?_)<;>(conv=>whnf)
   ·refine cLk h (fun _ h=>?_) (fun _ h=>?_)<;>(conv=>whnf)
    ·refine cLk h (fun _ h=>?_) (fun _ h=>?_)<;>(conv=>whnf)
     ·refine hK _ _ _ ?_
      refine aD ?_
      refine aC ?_
      refine aG ?_
      replace h:=aB h
      refine aA dCo fun K hK=>?_;conv=>whnf
      refine hK _ ?_
      cases h
      exact Wk.refl _
     refine hK _ _ _ ?_
     refine aD ?_
     refine aC ?_
     refine aG ?_
     replace h:=aB h
     refine aA dCo fun K hK=>?_;conv=>whnf
     refine hK _ ?_
     cases h
     exact Wk.refl _
    refine hK _ _ _ ?_
    refine aD ?_
    refine aC ?_
    refine aG ?_
    replace h:=aB h
    refine aA dCo fun K hK=>?_;conv=>whnf
    refine hK _ ?_
    cases h
    exact Wk.refl _
   refine hK _ _ _ ?_
   refine aD ?_
   refine aC ?_
   refine aG ?_
   replace h:=aB h
   refine aA dCo fun K hK=>?_;conv=>whnf
   refine hK _ ?_
   cases h
   exact Wk.refl _
  refine hK2 ?_
  refine aE dCo rfl fun K hK=>?_;conv=>whnf
  refine nlA rfl ?_;conv=>whnf
  refine bKo rfl ?_;conv=>whnf
  refine nlA rfl ?_;conv=>whnf
  replace h:=bC h
  refine aI h27 h (WkL.refl _) (fun _ h=>?_);conv=>whnf
  refine hK _ _ _ ?_
  refine aQ fun K1 K2 hK1 hK2=>?_;conv=>whnf
  refine cLk h (fun _ h=>?_) (fun _ h=>?_)
  ·refine hK1 ?_
   refine aE dCo rfl fun K hK=>?_;conv=>whnf
   replace h:=cL h
   refine cLk h (fun _ h=>?_) (fun _ h=>?_)<;>(conv=>whnf)
   ·refine cLk h (fun _ h=>?_) (fun _ h=>?_)<;>(conv=>whnf)
    ·refine cLk h (fun _ h=>?_) (fun _ h=>?_)<;>(conv=>whnf)
     ·refine hK _ _ _ ?_
      refine aD ?_
      refine aC ?_
      refine aG ?_
      replace h:=aB h
      refine aA dCo fun K hK=>?_;conv=>whnf
      refine hK _ ?_
      cases h
      exact Wk.refl _
     refine hK _ _ _ ?_
     refine aD ?_
     refine aC ?_
     refine aG ?_
     replace h:=aB h
     refine aA dCo fun K hK=>?_;conv=>whnf
     refine hK _ ?_
     cases h
     exact Wk.refl _
    refine hK _ _ _ ?_
    refine aD ?_
    refine aC ?_
    refine aG ?_
    replace h:=aB h
    refine aA dCo fun K hK=>?_;conv=>whnf
    refine hK _ ?_
    cases h
    exact Wk.refl _
   refine hK _ _ _ ?_
   refine aD ?_
   refine aC ?_
   refine aG ?_
   replace h:=aB h
   refine aA dCo fun K hK=>?_;conv=>whnf
   refine hK _ ?_
   cases h
   exact Wk.refl _
  refine hK2 ?_
  refine aK ?_
  refine iBn ?_
  refine tHn ?_
  refine aE dCo rfl fun K hK=>?_;conv=>whnf
  replace h:=cL h
  refine cLk h (fun _ h=>?_) (fun _ h=>?_)<;>(conv=>whnf)
  ·refine cLk h (fun _ h=>?_) (fun _ h=>?_)<;>(conv=>whnf)
   ·refine cLk h (fun _ h=>?_) (fun _ h=>?_)<;>(conv=>whnf)
    ·refine cLk h (fun _ h=>?_) (fun _ h=>?_)<;>(conv=>whnf)
     ·refine hK _ _ _ ?_
      refine aD ?_
      replace h:=aB h
      refine aA dCo fun K hK=>?_;conv=>whnf
      refine hK _ ?_
      cases h
      exact Wk.refl _
     refine hK _ _ _ ?_
     refine aD ?_
     replace h:=aB h
     refine aA dCo fun K hK=>?_;conv=>whnf
     refine hK _ ?_
     cases h
     exact Wk.refl _
    refine hK _ _ _ ?_
    refine aD ?_
    replace h:=aB h
    refine aA dCo fun K hK=>?_;conv=>whnf
    refine hK _ ?_
    cases h
    exact Wk.refl _
   refine hK _ _ _ ?_
   refine aD ?_
   replace h:=aB h
   refine aA dCo fun K hK=>?_;conv=>whnf
   refine hK _ ?_
   cases h
   exact Wk.refl _
  refine hK _ _ _ ?_
  refine aD ?_
  replace h:=aB h
  refine aA dCo fun K hK=>?_;conv=>whnf
  refine hK _ ?_
  cases h
  exact Wk.refl _
 refine And.intro ?_ ?_<;>(conv=>whnf)
 ·refine nlA rfl ?_;conv=>whnf
  refine bKo rfl ?_;conv=>whnf
  refine gKo rfl ?_;conv=>whnf
  refine dI (enc:=dK) (d:=default) dCo h (.inl rfl) rfl rfl rfl ⟨rfl,nle rfl,nle rfl,nle rfl,rfl⟩ (fun _=>rfl) (.inr (.inr ⟨_,_,rfl,rfl,rfl⟩)) (fun h=>?_);conv=>whnf
  refine bKo rfl ?_;conv=>whnf
  refine And.intro rfl (And.intro (nle rfl) (And.intro rfl ?_));conv=>whnf
  refine hK _ _ _ ?_
  refine aE dCo rfl fun K hK=>?_;conv=>whnf
  refine nlA rfl ?_;conv=>whnf
  refine bKo rfl ?_;conv=>whnf
  refine nlA rfl ?_;conv=>whnf
  replace h:=bC h
  refine aH h20 h (WkL.refl _) (fun _ h=>?_);conv=>whnf
  refine hK _ _ _ ?_
  refine aE dCo rfl fun K hK=>?_;conv=>whnf
  refine nlA rfl ?_;conv=>whnf
  refine bKo rfl ?_;conv=>whnf
  refine nlA rfl ?_;conv=>whnf
  replace h:=bC h
  refine aH h20 h (aF (bH (aF (Wk.refl _) (aF aW aJ))) aJ) (fun _ h=>?_);conv=>whnf
  refine hK _ _ _ ?_
  refine aE dCo rfl fun K hK=>?_;conv=>whnf
  refine nlA rfl ?_;conv=>whnf
  refine bKo rfl ?_;conv=>whnf
  refine nlA rfl ?_;conv=>whnf
  replace h:=bC h
  refine aH h20 h (aF (bH (aF (Wk.refl _) (aF aW aJ))) aJ) (fun _ h=>?_);conv=>whnf
  refine hK _ _ _ ?_
  refine aL ?_
  refine aE dCo rfl fun K hK=>?_;conv=>whnf
  replace h:=cL h
  refine cLk h (fun _ h=>?_) (fun _ h=>?_)<;>(conv=>whnf)
  ·refine hK _ _ _ ?_
   refine aQ fun K1 K2 hK1 hK2=>?_;conv=>whnf
   refine hK1 ?_
   replace h:=fC h
   refine aE dCo rfl fun K hK=>?_;conv=>whnf
   refine hK _ _ _ ?_
   refine aD ?_
   refine aG ?_
   replace h:=aB h
   refine aA dCo fun K hK=>?_;conv=>whnf
   refine hK _ ?_
   cases h
   exact Wk.refl _
  refine hK _ _ _ ?_
  refine aQ fun K1 K2 hK1 hK2=>?_;conv=>whnf
  refine cLk h (fun _ h=>?_) (fun _ h=>?_)
  ·refine hK1 ?_
   refine aE dCo rfl fun K hK=>?_;conv=>whnf
   refine hK _ _ _ ?_
   refine aD ?_
   refine aG ?_
   replace h:=aB h
   refine aA dCo fun K hK=>?_;conv=>whnf
   refine hK _ ?_
   cases h
   exact Wk.refl _
  refine hK2 ?_
  refine aK ?_
  refine tHn ?_
  refine aL ?_
  refine aN ?_
  refine aE dCo rfl fun K hK=>?_;conv=>whnf
  refine nlA rfl ?_;conv=>whnf
  refine bKo rfl ?_;conv=>whnf
  refine nlA rfl ?_;conv=>whnf
  replace h:=bC h
  refine aI h27 h (WkL.refl _) (fun _ h=>?_);conv=>whnf
  refine hK _ _ _ ?_
  refine aQ fun K1 K2 hK1 hK2=>?_;conv=>whnf
  refine cLk h (fun _ h=>?_) (fun _ h=>?_)
  ·refine hK1 ?_
   refine aE dCo rfl fun K hK=>?_;conv=>whnf
   replace h:=cL h
   refine cLk h (fun _ h=>?_) (fun _ h=>?_)<;>(conv=>whnf)
   ·refine cLk h (fun _ h=>?_) (fun _ h=>?_)<;>(conv=>whnf)
    ·refine cLk h (fun _ h=>?_) (fun _ h=>?_)<;>(conv=>whnf)
     ·refine hK _ _ _ ?_
      refine aD ?_
      refine aC ?_
      refine aG ?_
      replace h:=aB h
      refine aA dCo fun K hK=>?_;conv=>whnf
      refine hK _ ?_
      cases h
      exact Wk.refl _
     refine hK _ _ _ ?_
     refine aD ?_
     refine aC ?_
     refine aG ?_
     replace h:=aB h
     refine aA dCo fun K hK=>?_;conv=>whnf
     refine hK _ ?_
     cases h
     exact Wk.refl _
    refine hK _ _ _ ?_
    refine aD ?_
    refine aC ?_
    refine aG ?_
    replace h:=aB h
    refine aA dCo fun K hK=>?_;conv=>whnf
    refine hK _ ?_
    cases h
    exact Wk.refl _
   refine hK _ _ _ ?_
   refine aD ?_
   refine aC ?_
   refine aG ?_
   replace h:=aB h
   refine aA dCo fun K hK=>?_;conv=>whnf
   refine hK _ ?_
   cases h
   exact Wk.refl _
  refine hK2 ?_
  refine aE dCo rfl fun K hK=>?_;conv=>whnf
  refine nlA rfl ?_;conv=>whnf
  refine bKo rfl ?_;conv=>whnf
  refine nlA rfl ?_;conv=>whnf
  replace h:=bC h
  refine aI h27 h (WkL.refl _) (fun _ h=>?_);conv=>whnf
  refine hK _ _ _ ?_
  refine aQ fun K1 K2 hK1 hK2=>?_;conv=>whnf
  refine cLk h (fun _ h=>?_) (fun _ h=>?_)
  ·refine hK1 ?_
   refine aE dCo rfl fun K hK=>?_;conv=>whnf
   replace h:=cL h
   refine cLk h (fun _ h=>?_) (fun _ h=>?_)<;>(conv=>whnf)
   ·refine cLk h (fun _ h=>?_) (fun _ h=>?_)<;>(conv=>whnf)
    ·refine cLk h (fun _ h=>?_) (fun _ h=>?_)<;>(conv=>whnf)
     ·refine hK _ _ _ ?_
      refine aD ?_
      refine aC ?_
      refine aG ?_
      replace h:=aB h
      refine aA dCo fun K hK=>?_;conv=>whnf
      refine hK _ ?_
      cases h
      exact Wk.refl _
     refine hK _ _ _ ?_
     refine aD ?_
     refine aC ?_
     refine aG ?_
     replace h:=aB h
     refine aA dCo fun K hK=>?_;conv=>whnf
     refine hK _ ?_
     cases h
     exact Wk.refl _
    refine hK _ _ _ ?_
    refine aD ?_
    refine aC ?_
    refine aG ?_
    replace h:=aB h
    refine aA dCo fun K hK=>?_;conv=>whnf
    refine hK _ ?_
    cases h
    exact Wk.refl _
   refine hK _ _ _ ?_
   refine aD ?_
   refine aC ?_
   refine aG ?_
   replace h:=aB h
   refine aA dCo fun K hK=>?_;conv=>whnf
   refine hK _ ?_
   cases h
   exact Wk.refl _
  refine hK2 ?_
  refine aK ?_
  refine iBn ?_
  refine tHn ?_
  refine aE dCo rfl fun K hK=>?_;conv=>whnf
  replace h:=cL h
  refine cLk h (fun _ h=>?_) (fun _ h=>?_)<;>(conv=>whnf)
  ·refine cLk h (fun _ h=>?_) (fun _ h=>?_)<;>(conv=>whnf)
   ·refine cLk h (fun _ h=>?_) (fun _ h=>?_)<;>(conv=>whnf)
    ·refine cLk h (fun _ h=>?_) (fun _ h=>?_)<;>(conv=>whnf)
     ·refine hK _ _ _ ?_
      refine aD ?_
      replace h:=aB h
      refine aA dCo fun K hK=>?_;conv=>whnf
      refine hK _ ?_
      cases h
      exact Wk.refl _
     refine hK _ _ _ ?_
     refine aD ?_
     replace h:=aB h
     refine aA dCo fun K hK=>?_;conv=>whnf
     refine hK _ ?_
     cases h
     exact Wk.refl _
    refine hK _ _ _ ?_
    refine aD ?_
    replace h:=aB h
    refine aA dCo fun K hK=>?_;conv=>whnf
    refine hK _ ?_
    cases h
    exact Wk.refl _
   refine hK _ _ _ ?_
   refine aD ?_
   replace h:=aB h
   refine aA dCo fun K hK=>?_;conv=>whnf
   refine hK _ ?_
   cases h
   exact Wk.refl _
  refine hK _ _ _ ?_
  refine aD ?_
  replace h:=aB h
  refine aA dCo fun K hK=>?_;conv=>whnf
  refine hK _ ?_
  cases h
  exact Wk.refl _
 refine dI (enc:=dK) (d:=default) dCo h (.inl rfl) rfl rfl rfl ⟨rfl,nle rfl,nle rfl,nle rfl,rfl⟩ (fun _=>rfl) (.inr (.inr ⟨_,_,rfl,rfl,rfl⟩)) (fun h=>?_);conv=>whnf
 refine nlA rfl ?_;conv=>whnf
 refine bKo rfl ?_;conv=>whnf
 refine gKo rfl ?_;conv=>whnf
 refine bKo rfl ?_;conv=>whnf
 refine And.intro rfl (And.intro (nle rfl) (And.intro rfl ?_));conv=>whnf
 refine hK _ _ _ ?_
 refine aE dCo rfl fun K hK=>?_;conv=>whnf
 refine nlA rfl ?_;conv=>whnf
 refine bKo rfl ?_;conv=>whnf
 refine nlA rfl ?_;conv=>whnf
 replace h:=bC h
 refine aH h20 h (WkL.refl _) (fun _ h=>?_);conv=>whnf
 refine hK _ _ _ ?_
 refine aE dCo rfl fun K hK=>?_;conv=>whnf
 refine nlA rfl ?_;conv=>whnf
 refine bKo rfl ?_;conv=>whnf
 refine nlA rfl ?_;conv=>whnf
 replace h:=bC h
 refine aH h20 h (aF (bH (aF (Wk.refl _) (aF aW aJ))) aJ) (fun _ h=>?_);conv=>whnf
 refine hK _ _ _ ?_
 refine aE dCo rfl fun K hK=>?_;conv=>whnf
 refine nlA rfl ?_;conv=>whnf
 refine bKo rfl ?_;conv=>whnf
 refine nlA rfl ?_;conv=>whnf
 replace h:=bC h
 refine aH h20 h (aF (bH (aF (Wk.refl _) (aF aW aJ))) aJ) (fun _ h=>?_);conv=>whnf
 refine hK _ _ _ ?_
 refine aL ?_
 refine aE dCo rfl fun K hK=>?_;conv=>whnf
 replace h:=cL h
 refine cLk h (fun _ h=>?_) (fun _ h=>?_)<;>(conv=>whnf)
 ·refine hK _ _ _ ?_
  refine aQ fun K1 K2 hK1 hK2=>?_;conv=>whnf
  refine hK1 ?_
  replace h:=fC h
  refine aE dCo rfl fun K hK=>?_;conv=>whnf
  refine hK _ _ _ ?_
  refine aD ?_
  refine aG ?_
  replace h:=aB h
  refine aA dCo fun K hK=>?_;conv=>whnf
  refine hK _ ?_
  cases h
  exact Wk.refl _
 refine hK _ _ _ ?_
 refine aQ fun K1 K2 hK1 hK2=>?_;conv=>whnf
 refine cLk h (fun _ h=>?_) (fun _ h=>?_)
 ·refine hK1 ?_
  refine aE dCo rfl fun K hK=>?_;conv=>whnf
  refine hK _ _ _ ?_
  refine aD ?_
  refine aG ?_
  replace h:=aB h
  refine aA dCo fun K hK=>?_;conv=>whnf
  refine hK _ ?_
  cases h
  exact Wk.refl _
 refine hK2 ?_
 refine aK ?_
 refine tHn ?_
 refine aL ?_
 refine aN ?_
 refine aE dCo rfl fun K hK=>?_;conv=>whnf
 refine nlA rfl ?_;conv=>whnf
 refine bKo rfl ?_;conv=>whnf
 refine nlA rfl ?_;conv=>whnf
 replace h:=bC h
 refine aI h27 h (WkL.refl _) (fun _ h=>?_);conv=>whnf
 refine hK _ _ _ ?_
 refine aQ fun K1 K2 hK1 hK2=>?_;conv=>whnf
 refine cLk h (fun _ h=>?_) (fun _ h=>?_)
 ·refine hK1 ?_
  refine aE dCo rfl fun K hK=>?_;conv=>whnf
  replace h:=cL h
  refine cLk h (fun _ h=>?_) (fun _ h=>?_)<;>(conv=>whnf)
  ·refine cLk h (fun _ h=>?_) (fun _ h=>?_)<;>(conv=>whnf)
   ·refine cLk h (fun _ h=>?_) (fun _ h=>?_)<;>(conv=>whnf)
    ·refine hK _ _ _ ?_
     refine aD ?_
     refine aC ?_
     refine aG ?_
     replace h:=aB h
     refine aA dCo fun K hK=>?_;conv=>whnf
     refine hK _ ?_
     cases h
     exact Wk.refl _
    refine hK _ _ _ ?_
    refine aD ?_
    refine aC ?_
    refine aG ?_
    replace h:=aB h
    refine aA dCo fun K hK=>?_;conv=>whnf
    refine hK _ ?_
    cases h
    exact Wk.refl _
   refine hK _ _ _ ?_
   refine aD ?_
   refine aC ?_
   refine aG ?_
   replace h:=aB h
   refine aA dCo fun K hK=>?_;conv=>whnf
   refine hK _ ?_
   cases h
   exact Wk.refl _
  refine hK _ _ _ ?_
  refine aD ?_
  refine aC ?_
  refine aG ?_
  replace h:=aB h
  refine aA dCo fun K hK=>?_;conv=>whnf
  refine hK _ ?_
  cases h
  exact Wk.refl _
 refine hK2 ?_
 refine aE dCo rfl fun K hK=>?_;conv=>whnf
 refine nlA rfl ?_;conv=>whnf
 refine bKo rfl ?_;conv=>whnf
 refine nlA rfl ?_;conv=>whnf
 replace h:=bC h
 refine aI h27 h (WkL.refl _) (fun _ h=>?_);conv=>whnf
 refine hK _ _ _ ?_
 refine aQ fun K1 K2 hK1 hK2=>?_;conv=>whnf
 refine cLk h (fun _ h=>?_) (fun _ h=>?_)
 ·refine hK1 ?_
  refine aE dCo rfl fun K hK=>?_;conv=>whnf
  replace h:=cL h
  refine cLk h (fun _ h=>?_) (fun _ h=>?_)<;>(conv=>whnf)
  ·refine cLk h (fun _ h=>?_) (fun _ h=>?_)<;>(conv=>whnf)
   ·refine cLk h (fun _ h=>?_) (fun _ h=>?_)<;>(conv=>whnf)
    ·refine hK _ _ _ ?_
     refine aD ?_
     refine aC ?_
     refine aG ?_
     replace h:=aB h
     refine aA dCo fun K hK=>?_;conv=>whnf
     refine hK _ ?_
     cases h
     exact Wk.refl _
    refine hK _ _ _ ?_
    refine aD ?_
    refine aC ?_
    refine aG ?_
    replace h:=aB h
    refine aA dCo fun K hK=>?_;conv=>whnf
    refine hK _ ?_
    cases h
    exact Wk.refl _
   refine hK _ _ _ ?_
   refine aD ?_
   refine aC ?_
   refine aG ?_
   replace h:=aB h
   refine aA dCo fun K hK=>?_;conv=>whnf
   refine hK _ ?_
   cases h
   exact Wk.refl _
  refine hK _ _ _ ?_
  refine aD ?_
  refine aC ?_
  refine aG ?_
  replace h:=aB h
  refine aA dCo fun K hK=>?_;conv=>whnf
  refine hK _ ?_
  cases h
  exact Wk.refl _
 refine hK2 ?_
 refine aK ?_
 refine iBn ?_
 refine tHn ?_
 refine aE dCo rfl fun K hK=>?_;conv=>whnf
 replace h:=cL h
 refine cLk h (fun _ h=>?_) (fun _ h=>?_)<;>(conv=>whnf)
 ·refine cLk h (fun _ h=>?_) (fun _ h=>?_)<;>(conv=>whnf)
  ·refine cLk h (fun _ h=>?_) (fun _ h=>?_)<;>(conv=>whnf)
   ·refine cLk h (fun _ h=>?_) (fun _ h=>?_)<;>(conv=>whnf)
    ·refine hK _ _ _ ?_
     refine aD ?_
     replace h:=aB h
     refine aA dCo fun K hK=>?_;conv=>whnf
     refine hK _ ?_
     cases h
     exact Wk.refl _
    refine hK _ _ _ ?_
    refine aD ?_
    replace h:=aB h
    refine aA dCo fun K hK=>?_;conv=>whnf
    refine hK _ ?_
    cases h
    exact Wk.refl _
   refine hK _ _ _ ?_
   refine aD ?_
   replace h:=aB h
   refine aA dCo fun K hK=>?_;conv=>whnf
   refine hK _ ?_
   cases h
   exact Wk.refl _
  refine hK _ _ _ ?_
  refine aD ?_
  replace h:=aB h
  refine aA dCo fun K hK=>?_;conv=>whnf
  refine hK _ ?_
  cases h
  exact Wk.refl _
 refine hK _ _ _ ?_
 refine aD ?_
 replace h:=aB h
 refine aA dCo fun K hK=>?_;conv=>whnf
 refine hK _ ?_
 cases h
 exact Wk.refl _
section
variable {n:Nat} {r r1 r2:Nat→Nat→Bool} {a b:Nat}
theorem aBM (h1:∀ p,dnB n r1 p=true↔dnB n r p=true∧(p.testBit b=true→p.testBit a=true)):∀ (k p:Nat),p<k→p.testBit b=false→Lc n r1 p=Lc n r p
 | 0,_,h,_=>absurd h (Nat.not_lt_zero _)
 | k+1,p,h,hb=>by
  have e:dnB n r1 p=dnB n r p:=by
   rw [Bool.eq_iff_iff,h1]
   exact ⟨fun q=>q.1,fun q=>⟨q,fun g=>by rw [hb] at g;cases g⟩⟩
  rw [tE,tE n r,e]
  congr 2
  refine nH fun x _=>?_
  by_cases c:p.testBit x=true
  ·rw [if_pos c,if_pos c]
   have:=aBS c
   exact aBM h1 k _ (by omega) (by rw [pZ c,hb];rfl)
  ·rw [if_neg c,if_neg c]
theorem aDT (h1:∀ p,dnB n r1 p=true↔dnB n r p=true∧(p.testBit b=true→p.testBit a=true)) {p:Nat} (hb:p.testBit b=true) (ha:p.testBit a=false):Lc n r1 p=0:=
 aEs (Bool.eq_false_iff.2 fun q=>by have:=((h1 p).1 q).2 hb;rw [ha] at this;cases this)
theorem aCd (hne:a≠b) (h1:∀ p,dnB n r1 p=true↔dnB n r p=true∧(p.testBit b=true→p.testBit a=true)) (h2:∀ p,dnB n r2 p=true↔dnB n r p=true∧(p.testBit a=true→p.testBit b=true)) :
  ∀ (k p:Nat),p<k→p.testBit a=true→p.testBit b=true→Lc n r p=Lc n r1 p+Lc n r2 p
 | 0,_,h,_,_=>absurd h (Nat.not_lt_zero _)
 | k+1,p,h,ha,hb=>by
  by_cases c:dnB n r p=true
  ·have d1:=(h1 p).2 ⟨c,fun _=>ha⟩
   have d2:=(h2 p).2 ⟨c,fun _=>hb⟩
   have d0:p≠0:=fun q=>by subst q;rw [Nat.zero_testBit] at ha;cases ha
   rw [tE,tE n r1,tE n r2,if_pos c,if_pos d1,if_pos d2,if_neg d0,if_neg d0,if_neg d0,← tZ]
   refine nH fun x _=>?_
   by_cases g:p.testBit x=true
   ·simp only [if_pos g]
    have hlt:=aBS g
    by_cases xa:x=a
    ·subst xa
     have a0:(p-2 ^ x).testBit x=false:=by rw [pZ g,decide_eq_true rfl,Bool.not_true,Bool.and_false]
     have b1:(p-2 ^ x).testBit b=true:=by rw [pZ g,hb,decide_eq_false fun q=>hne q.symm];rfl
     rw [aBM h2 _ _ (Nat.lt_succ_self _) a0,aDT h1 b1 a0,Nat.zero_add]
    ·by_cases xb:x=b
     ·subst xb
      have b0:(p-2 ^ x).testBit x=false:=by rw [pZ g,decide_eq_true rfl,Bool.not_true,Bool.and_false]
      have a1:(p-2 ^ x).testBit a=true:=by rw [pZ g,ha,decide_eq_false hne];rfl
      rw [aBM h1 _ _ (Nat.lt_succ_self _) b0,aDT h2 a1 b0,Nat.add_zero]
     ·exact aCd hne h1 h2 k _ (by omega) (by rw [pZ g,ha,decide_eq_false fun q=>xa q.symm];rfl) (by rw [pZ g,hb,decide_eq_false fun q=>xb q.symm];rfl)
   ·simp only [if_neg g]
  ·have q0:dnB n r p=false:=Bool.eq_false_iff.2 c
   rw [aEs q0,aEs (Bool.eq_false_iff.2 fun q=>c ((h1 p).1 q).1),aEs (Bool.eq_false_iff.2 fun q=>c ((h2 p).1 q).1)]
theorem aCj (h:∀ p,dnB n r1 p=dnB n r p):∀ (k p:Nat),Lf n r1 k p=Lf n r k p
 | 0,_=>rfl
 | k+1,p=>by
  unfold Lf
  rw [h]
  congr 2
  refine nH fun x _=>?_
  rw [aCj h k]
end
theorem aIx (a0:Int) (a1:List (Int×Int)) (a2 a3 a4:Int) (o0:okI a0) (o1:okL aDa a1) (o2:okI a2) (o3:okI a3) (o4:okI a4):fG a0 a1 a2 a3 a4=some true:=by
 obtain ⟨o,n,t,r,e0,h,hol⟩:=aHz a0 a1 a2 o0 o1 o2
 have n8:=h.n8
 have hN:=h.N
 have cl:=h.cv_27
 unfold fG
 rw [aHK,iT,tT,xU,e0,iT,hN,dO]
 by_cases c:n<2
 ·rw [if_pos (by omega),pH h,iT]
  simp only [aCn]
  rw [show ((0:Int)==0)=true from rfl,xU]
  have z0:dnB n r 0=true:=(oD h.lt).2 fun a b _ hb=>by rw [Nat.zero_testBit] at hb;cases hb
  have l0:Lc n r 0=1:=by rw [tE,if_pos z0,if_pos rfl]
  have:Lc n r (2 ^ n-1)=1:=by
   have hn:n=0∨n=1:=by omega
   rcases hn with rfl | rfl
   ·exact l0
   ·have z1:dnB 1 r 1=true:=(oD h.lt).2 (aES h.lt)
    rw [tE,show 2 ^ 1-1=1 from rfl,if_pos z1,if_neg (by decide)]
    show 0+(if Nat.testBit 1 0=true then Lc 1 r (1-2 ^ 0) else 0)=1
    rw [if_pos (by decide)]
    show 0+Lc 1 r 0=1
    rw [l0]
  rw [this];rfl
 rw [if_neg (by omega),aEA h,iT]
 obtain ⟨a,al,e3⟩:=aGg a3 (n:=n) o3 (by omega)
 obtain ⟨d,dl,e4⟩:=aGg a4 (n:=n-1) o4 (by omega)
 rw [e3,iT,iV (by omega) (by omega),show (n:Int)-1=((n-1:Nat):Int) by omega,e4,iT,oG _ (by omega)]
 obtain ⟨t1,t2⟩:=aDx (a:=(a:Int)) (b:=(d:Int)) (n:=(n:Int)) ⟨by omega,by omega⟩ ⟨by omega,by omega⟩
 rw [iV (x:=(a:Int)+1) (by omega) (by omega),iV (x:=(a:Int)+1+d) (by omega) (by omega)]
 generalize hb:Int.tmod ((a:Int)+1+d) (n:Int)=bi at t1 t2
 obtain ⟨b,rfl⟩:∃ b:Nat,bi=(b:Int):=⟨bi.toNat,by omega⟩
 have bl:b<n:=by omega
 have hne:a≠b:=by omega
 simp only [aCn,aJh]
 rw [aF9 (by simp only [List.length_nil];omega),List.nil_append,aF9 (by simp only [List.length_cons,List.length_nil];omega),aF9 (by simp only [List.length_nil];omega),List.nil_append,aF9 (by simp only [List.length_cons,List.length_nil];omega),pH h,iT]
 rw [show ((0:Int) != 0)=false from rfl]
 simp only [aEZ]
 have full:∀ i,i<n→(2 ^ n-1).testBit i=true:=fun i hi=>by rw [Nat.testBit_two_pow_sub_one,decide_eq_true hi]
 have lift:∀ {t':Ar 8} {r':Nat→Nat→Bool} {x y:Nat},OV (wI n r x y) n t' r'→(∀ p,Dn r' p↔Dn r p∧(p.testBit y=true→p.testBit x=true))→∀ p,dnB n r' p=true↔dnB n r p=true∧(p.testBit y=true→p.testBit x=true):=fun hv hd p=>by
  rw [oD hv.lt,oD h.lt];exact hd p
 have same:∀ {t':Ar 8} {r':Nat→Nat→Bool} {x y:Nat},r x y=true→OV (wI n r x y) n t' r'→(∀ p,Dn r' p↔Dn r p∧(p.testBit y=true→p.testBit x=true))→Lc n r' (2 ^ n-1)=Lc n r (2 ^ n-1):=fun hr hv hd=>by
  refine aCj (fun p=>?_) _ _
  rw [Bool.eq_iff_iff,oD hv.lt,oD h.lt,hd]
  exact ⟨fun q=>q.1,fun q=>⟨q,q _ _ hr⟩⟩
 have zz:((0:Int)==0)=true:=rfl
 have z7:((70:Int)==70)=true:=rfl
 by_cases ab:r a b=true
 ·have ba:=h.asy ab
  obtain ⟨u1,r1,v1,w1⟩:=h.more_ok al bl hne ba
  obtain ⟨u2,e2⟩:=h.more_no (a:=b) (b:=a) (.inr (.inr (.inr ab)))
  rw [pH v1,iT,aCz e2,iT,rP h,iT,ab,xU]
  simp only [zz,z7,xU]
  rw [same ab v1 w1,beq_self_eq_true,xU]
 ·have ab':=Bool.eq_false_iff.2 ab
  by_cases ba:r b a=true
  ·obtain ⟨u1,e1⟩:=h.more_no (a:=a) (b:=b) (.inr (.inr (.inr ba)))
   obtain ⟨u2,r2,v2,w2⟩:=h.more_ok bl al (fun q=>hne q.symm) ab'
   rw [aCz e1,iT,pH v2,iT,rP h,iT,ab',aEZ,rP h,iT,ba,xU]
   simp only [zz,z7,xU]
   rw [same ba v2 w2,beq_self_eq_true,xU]
  ·have ba':=Bool.eq_false_iff.2 ba
   obtain ⟨u1,r1,v1,w1⟩:=h.more_ok al bl hne ba'
   obtain ⟨u2,r2,v2,w2⟩:=h.more_ok bl al (fun q=>hne q.symm) ab'
   have s1:=aAD n8 r1 (2 ^ n-1)
   have s2:=aAD n8 r2 (2 ^ n-1)
   have p2:=Nat.two_pow_pos n
   have q1:=v1.Lc_pos _ _ (Nat.lt_succ_self _) (show 2 ^ n-1<2 ^ n by omega) (aES v1.lt)
   have q2:=v2.Lc_pos _ _ (Nat.lt_succ_self _) (show 2 ^ n-1<2 ^ n by omega) (aES v2.lt)
   have key:=aCd hne (lift v1 w1) (lift v2 w2) _ _ (Nat.lt_succ_self _) (full a al) (full b bl)
   rw [pH v1,iT,pH v2,iT,rP h,iT,ab',aEZ,rP h,iT,ba',aEZ]
   simp only [zz,xU]
   rw [iV (by omega) (by omega),show (((Lc n r1 (2 ^ n-1):Nat):Int)+((Lc n r2 (2 ^ n-1):Nat):Int)==((Lc n r (2 ^ n-1):Nat):Int))=true from beq_iff_eq.2 (by omega),xU,decide_eq_true (by omega),xU,decide_eq_true (by omega)]
end Go.Proofs.YtlmboonbfhkfnaaDoor
