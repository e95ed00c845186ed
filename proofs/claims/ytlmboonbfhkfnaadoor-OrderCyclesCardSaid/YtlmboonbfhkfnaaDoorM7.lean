import Derived.Test.YtlmboonbfhkfnaaDoorM5
set_option linter.unusedVariables false
set_option linter.unusedSimpArgs false
set_option linter.unusedSectionVars false
namespace Go.Proofs.YtlmboonbfhkfnaaDoor
open Go Go.Eng
set_option maxRecDepth 100000
set_option maxHeartbeats 0
set_option maxHeartbeats 0
set_option maxRecDepth 100000
def bJ (s29:(List Int)×Int) (y3:(List Int)×Bool) (s36:Int):Option (Ct Int Bool):=jn (fun p37:Bool=>cn p37 (ix y3.1 default s36 fun e39=>
  ix s29.1 default s36 fun e40=>cn (e39 != e40) (ix y3.1 default s36 fun e41=>ix s29.1 default s36 fun e42=>cn (decide (e41 >
  e42)) (some (.rt false)) (some (.bk s36))) (some (.nx (wr (s36+1))))) (some (.bk s36))) fun k38=>cn (decide (s36<(y3.1.length:Int))) (k38 ((s29.1.length:Int) ==
  (y3.1.length:Int))) (k38 false)
def cM (a2:List Int) (s21:(List Int)×Int):Option (Ct ((List Int)×Int) Bool):=jn (fun p22:Bool=>cn p22 (ix a2 default s21.2 fun e24=>
  bd (cE e24 8) fun y25=>lt ([y25]:List Int) fun l26=>ap s21.1 l26 fun l27=>some (.nx (l27,(wr (s21.2+1))))) (some (.bk (s21.1,s21.2)))) fun k23=>
  cn (decide (s21.2<(a2.length:Int))) (k23 (decide (s21.2<8))) (k23 false)
def cY (s11:Int) (y3:(List Int)×Bool) (s12:Int):Option (Ct Int Bool):=cn (decide (s12<s11)) (ix y3.1 default s11 fun e13=>
  ix y3.1 default s12 fun e14=>cn (e13==e14) (some (.rt false)) (some (.nx (wr (s12+1))))) (some (.bk s12))
  def cZ (y3:(List Int)×Bool) (s11:Int):Option (Ct Int Bool):=cn (decide (s11<(y3.1.length:Int))) (bd (lp (cY s11 y3) FU 0) fun c15=>
  smK c15 (fun s16=>some (.nx (wr (s11+1)))) (fun r17=>some (.rt r17))) (some (.bk s11))
def fJ (a0:Int) (a1:List (Int×Int)) (a2:List Int) (a3:Int) (a4:Int):Option Bool:=bd (jT ) fun y1=>
  cn (!y1) (some false) (bd (fL a0 a1) fun y2=>bd (cS (⟨y2.N,y2.Pairs⟩:aP)) fun y3=>jn (fun p4:Bool=>cn p4 (some false) (jn (fun p8:Unit=>
  bd (lp (cM a2) FU ([],0)) fun c28=>smK c28 (fun s29=>bd (eN (⟨y2.N,y2.Pairs⟩:aP) s29.1) fun y31=>jn (fun p32:Unit=>
  bd (cE a3 8) fun y46=>bd (cE a4 8) fun y47=>bd (bU (⟨y2.N,y2.Pairs⟩:aP) y46 y47) fun y48=>
  cn (!y48) (some y1) (lt ([]:List (Int×Int)) fun l49=>ap l49 y2.Pairs fun l50=>lt ([(y47,y46)]:List (Int×Int)) fun l51=>ap l50 l51 fun l52=>
  bd (cS (⟨y2.N,l52⟩:aP)) fun y53=>jn (fun p54:Bool=>some p54) fun k55=>cn y53.2 (bd (cT (⟨y2.N,l52⟩:aP)) fun y56=>
  cn (!y56) (bd (cD (⟨y2.N,l52⟩:aP)) fun y57=>k55 y57) (k55 false)) (k55 false))) fun k33=>cn y31 (jn (fun p34:Bool=>
  cn p34 (some false) (bd (lp (bJ s29 y3) FU 0) fun c43=>smK c43 (fun s44=>k33 ()) (fun r45=>some r45))) fun k35=>
  cn (!y3.2) (k35 true) (k35 (decide ((s29.1.length:Int)<(y3.1.length:Int))))) (k33 ())) (fun r30=>some r30)) fun k9=>
  cn y3.2 (bd (eN (⟨y2.N,y2.Pairs⟩:aP) y3.1) fun y10=>cn (!y10) (some false) (bd (lp (cZ y3) FU 0) fun c18=>smK c18 (fun s19=>
  k9 ()) (fun r20=>some r20))) (k9 ()))) fun k5=>bd (cD (⟨y2.N,y2.Pairs⟩:aP)) fun y6=>
  cn (!y6) (k5 true) (bd (cT (⟨y2.N,y2.Pairs⟩:aP)) fun y7=>k5 (y3.2==y7)))
def lQ:List AV→AV→Prop:=fun args r=>∃ a0 a1 a2 a3 a4,args=[eI a0,(eL 2 cB default) a1,(eL 1 eI default) a2,eI a3,eI a4]∧W (fJ a0 a1 a2 a3 a4) fun y=>r=(eB y)
theorem pW {T:Tbl} (hT:TOk Tryd.prog T) (hpf:dD T PF) (h11:T 11=aU jZ) (h13:T 13=aU iI) (h17:T 17=aBo fW eF fK) (h27:T 27=aU eT) (h32:T 32=aU gI) (h33:T 33=aU eC) (h34:T 34=aU gJ) (h35:T 35=aU iP):FOk Tryd.prog 8 (aU lQ):=by
 refine bO hT hpf Tryd.func8 rfl Tryd.ntmps8 Tryd.results8 (by decide) ?_
 rintro args r ⟨a0,a1,a2,a3,a4,rfl,h⟩
 refine ⟨nle rfl,?_,?_⟩
 ·exact (lsC (lsI _ _) (lsC (lsL fun _=>(aO _)) (lsC (lsL fun _=>(lsI _ _)) (lsC (lsI _ _) (lsC (lsI _ _) lsN)))))
 rw [fJ.eq_1] at h
 refine aD dCo rfl fun K hK=>?_;conv=>whnf
 refine hK _ _ _ ?_
 refine aD dCo rfl fun K hK=>?_;conv=>whnf
 replace h:=aS h
 refine uC h11 h (WkL.refl _) (fun _ h=>?_);conv=>whnf
 refine hK _ _ _ ?_
 refine aN ?_
 refine aD dCo rfl fun K hK=>?_;conv=>whnf
 refine hK _ _ _ ?_
 refine bA fun K1 K2 hK1 hK2=>?_;conv=>whnf
 refine cLk h (fun _ h=>?_) (fun _ h=>?_)
 ·refine hK1 ?_
  refine aD dCo rfl fun K hK=>?_;conv=>whnf
  refine hK _ _ _ ?_
  refine aG ?_
  refine aR ?_
  replace h:=aF h
  refine aC dCo fun K hK=>?_;conv=>whnf
  refine hK _ ?_
  cases h
  exact Wk.refl _
 refine hK2 ?_
 refine aL ?_
 refine tHn ?_
 refine aD dCo rfl fun K hK=>?_;conv=>whnf
 refine pN h17 h (fun y e=>(⟨_,_,rfl,e⟩:fK _ _)) (WkL.refl _) (fun _ h=>?_);conv=>whnf
 refine bKo rfl ?_;conv=>whnf
 refine And.intro rfl (And.intro (nle rfl) (And.intro rfl ?_));conv=>whnf
 refine hK _ _ _ ?_
 refine xQ 12 1 (enc:=cB) (e:=46) default (aB9 dCo rfl rfl (fun _=>rfl) (fun _=>rfl)) ?_;(conv=>whnf);refine ⟨_,_,_,(Nat.ne_of_beq_eq_false rfl),rfl,rfl,rfl,rfl,?_⟩;conv=>whnf
 refine aD dCo rfl fun K hK=>?_;conv=>whnf
 refine nlA rfl ?_;conv=>whnf
 refine bKo rfl ?_;conv=>whnf
 refine nlA rfl ?_;conv=>whnf
 replace h:=aS h
 refine aJ h32 h (WkL.refl _) (fun _ h=>?_);conv=>whnf
 refine hK _ _ _ ?_
 refine aN ?_
 refine aD dCo rfl fun K hK=>?_;conv=>whnf
 replace h:=dF h
 refine nlA rfl ?_;conv=>whnf
 refine bKo rfl ?_;conv=>whnf
 refine nlA rfl ?_;conv=>whnf
 replace h:=aS h
 refine aE h33 h (WkL.refl _) (fun _ h=>?_);conv=>whnf
 refine cLk h (fun _ h=>?_) (fun _ h=>?_)<;>(conv=>whnf)
 ·refine hK _ _ _ ?_
  refine bA fun K1 K2 hK1 hK2=>?_;conv=>whnf
  refine hK1 ?_
  replace h:=mN h
  refine aD dCo rfl fun K hK=>?_;conv=>whnf
  refine hK _ _ _ ?_
  refine aG ?_
  refine aR ?_
  replace h:=aF h
  refine aC dCo fun K hK=>?_;conv=>whnf
  refine hK _ ?_
  cases h
  exact Wk.refl _
 refine nlA rfl ?_;conv=>whnf
 refine bKo rfl ?_;conv=>whnf
 refine nlA rfl ?_;conv=>whnf
 replace h:=aS h
 refine aI h34 h (WkL.refl _) (fun _ h=>?_);conv=>whnf
 refine aHF (aEB dCo rfl _ _) ?_;conv=>whnf
 refine hK _ _ _ ?_
 refine bA fun K1 K2 hK1 hK2=>?_;conv=>whnf
 refine cLk h (fun _ h=>?_) (fun _ h=>?_)
 ·refine hK1 ?_
  refine aD dCo rfl fun K hK=>?_;conv=>whnf
  refine hK _ _ _ ?_
  refine aG ?_
  refine aR ?_
  replace h:=aF h
  refine aC dCo fun K hK=>?_;conv=>whnf
  refine hK _ ?_
  cases h
  exact Wk.refl _
 refine hK2 ?_
 refine aL ?_
 refine tHn ?_
 refine aN ?_
 refine aD dCo rfl fun K hK=>?_;conv=>whnf
 refine hK _ _ _ ?_
 replace h:=dF h
 refine bA fun K1 K2 hK1 hK2=>?_;conv=>whnf
 refine cLk h (fun _ h=>?_) (fun _ h=>?_)
 ·refine hK1 ?_
  refine aN ?_
  refine aD dCo rfl fun K hK=>?_;conv=>whnf
  refine nlA rfl ?_;conv=>whnf
  refine bKo rfl ?_;conv=>whnf
  refine nlA rfl ?_;conv=>whnf
  replace h:=aS h
  refine fN h35 h (WkL.refl _) (fun _ h=>?_);conv=>whnf
  refine hK _ _ _ ?_
  refine bA fun K1 K2 hK1 hK2=>?_;conv=>whnf
  refine cLk h (fun _ h=>?_) (fun _ h=>?_)
  ·refine hK1 ?_
   refine aD dCo rfl fun K hK=>?_;conv=>whnf
   refine hK _ _ _ ?_
   refine aG ?_
   refine aR ?_
   refine aR ?_
   replace h:=aF h
   refine aC dCo fun K hK=>?_;conv=>whnf
   refine hK _ ?_
   cases h
   exact Wk.refl _
  refine hK2 ?_
  refine aL ?_
  refine tHn ?_
  refine aD dCo rfl fun K hK=>?_;conv=>whnf
  refine hK _ _ _ ?_
  refine aQ ?_
  replace h:=aS h
  refine fP (body:=cZ _) rfl h [2,3,4,11,12,13,14] [12] [] (fun kl kh ids b s=>⟨ofL ([(15,eI s)]++kl),ofH ([]++kh),b+64⟩) ?_;(conv=>whnf);refine And.intro ?_ (fun s m h=>dO ?_)
  ·refine bI ?_;conv=>whnf
   exact And.intro rfl (And.intro (aLc wkI (aLc (wkr (lsL fun _=>(lsI _ _))) (aLc wkI (aLc wkI (aLc (wkr (lsB _)) (aLc (WkR.ptr (fun _=>rfl)) (aLc (wkr (lsL fun _=>(lsI _ _))) (aLc (wkr (lsB _)) aLn)))))))) (aLc ⟨some _,rfl,bRc rfl (cKc wkI (cKc (wkr (lsL fun _=>(aO _))) cKn))⟩ aLn))
  replace h:=aS h;rw [cZ.eq_1] at h
  refine aN ?_
  refine aD dCo rfl fun K hK=>?_;conv=>whnf
  refine hK _ _ _ ?_
  refine bA fun K1 K2 hK1 hK2=>?_;conv=>whnf
  refine cLk h (fun _ h=>?_) (fun _ h=>?_)
  ·refine hK1 ?_
   refine aL ?_
   refine tHn ?_
   refine aN ?_
   refine aQ ?_
   refine aD dCo rfl fun K hK=>?_;conv=>whnf
   refine hK _ _ _ ?_
   refine aQ ?_
   replace h:=aS h
   refine fP (body:=cY _ _) rfl h [2,3,4,11,12,13,14,15] [12] [] (fun kl kh ids b s=>⟨ofL ([(16,eI s)]++kl),ofH ([]++kh),b+64⟩) ?_;(conv=>whnf);refine And.intro ?_ (fun s m h=>dO ?_)
   ·refine bI ?_;conv=>whnf
    exact And.intro rfl (And.intro (aLc wkI (aLc (wkr (lsL fun _=>(lsI _ _))) (aLc wkI (aLc wkI (aLc (wkr (lsB _)) (aLc (WkR.ptr (fun _=>rfl)) (aLc (wkr (lsL fun _=>(lsI _ _))) (aLc (wkr (lsB _)) (aLc wkI aLn))))))))) (aLc ⟨some _,rfl,bRc rfl (cKc wkI (cKc (wkr (lsL fun _=>(aO _))) cKn))⟩ aLn))
   replace h:=aS h;rw [cY.eq_1] at h
   refine aN ?_
   refine aD dCo rfl fun K hK=>?_;conv=>whnf
   refine hK _ _ _ ?_
   refine bA fun K1 K2 hK1 hK2=>?_;conv=>whnf
   refine cLk h (fun _ h=>?_) (fun _ h=>?_)
   ·refine hK1 ?_
    refine aL ?_
    refine tHn ?_
    refine aN ?_
    refine aQ ?_
    refine mQ dCo cV rfl (by kernel_rfl) fun K hK=>?_;conv=>whnf
    refine eQ h fun _ h=>?_;conv=>whnf
    refine gKo rfl ?_;conv=>whnf
    refine eQ h fun _ h=>?_;conv=>whnf
    refine gKo rfl ?_;conv=>whnf
    refine hK _ _ _ ?_
    refine bA fun K1 K2 hK1 hK2=>?_;conv=>whnf
    refine cLk h (fun _ h=>?_) (fun _ h=>?_)
    ·refine hK1 ?_
     refine aD dCo rfl fun K hK=>?_;conv=>whnf
     refine hK _ _ _ ?_
     refine aG ?_
     refine bB ?_
     refine aR ?_
     refine aR ?_
     refine bB ?_
     refine bB ?_
     refine aR ?_
     refine aR ?_
     refine bB ?_
     refine aR ?_
     replace h:=iJ h
     replace h:=iK h
     replace h:=iJ h
     replace h:=iK h
     replace h:=aF h
     refine aC dCo fun K hK=>?_;conv=>whnf
     refine hK _ ?_
     cases h
     exact Wk.refl _
    refine hK2 ?_
    refine aL ?_
    refine iBn ?_
    refine tHn ?_
    refine cX dCo rfl fun K hK=>?_;conv=>whnf
    refine hK _ _ _ ?_
    refine tHn ?_
    replace h:=bX h
    refine ⟨_,h,?_⟩
    refine bI ?_;conv=>whnf
    exact And.intro rfl (And.intro (aLc wkI (aLc (wkr (lsL fun _=>(lsI _ _))) (aLc wkI (aLc wkI (aLc (wkr (lsB _)) (aLc (WkR.ptr (fun _=>rfl)) (aLc (wkr (lsL fun _=>(lsI _ _))) (aLc (wkr (lsB _)) (aLc wkI aLn))))))))) (aLc ⟨some _,rfl,bRc rfl (cKc wkI (cKc (wkr (lsL fun _=>(aO _))) cKn))⟩ aLn))
   refine hK2 ?_
   refine bK ?_
   refine aY ?_
   refine aY ?_
   refine aX ?_
   replace h:=dE h
   replace h:=dB h
   refine iBn ?_
   refine tHn ?_
   refine cX dCo rfl fun K hK=>?_;conv=>whnf
   refine hK _ _ _ ?_
   refine tHn ?_
   replace h:=bX h
   refine ⟨_,h,?_⟩
   refine bI ?_;conv=>whnf
   exact And.intro rfl (And.intro (aLc wkI (aLc (wkr (lsL fun _=>(lsI _ _))) (aLc wkI (aLc wkI (aLc (wkr (lsB _)) (aLc (WkR.ptr (fun _=>rfl)) (aLc (wkr (lsL fun _=>(lsI _ _))) (aLc (wkr (lsB _)) aLn)))))))) (aLc ⟨some _,rfl,bRc rfl (cKc wkI (cKc (wkr (lsL fun _=>(aO _))) cKn))⟩ aLn))
  refine hK2 ?_
  refine bK ?_
  refine aY ?_
  refine aY ?_
  refine aX ?_
  replace h:=dE h
  replace h:=dB h
  refine tHn ?_
  refine aD dCo rfl fun K hK=>?_;conv=>whnf
  refine hK _ _ _ ?_
  refine aN ?_
  refine aD dCo rfl fun K hK=>?_;conv=>whnf
  refine hK _ _ _ ?_
  refine aQ ?_
  replace h:=aS h
  refine fP (body:=cM _) rfl h [2,3,4,11,12,13,14] [12] [] (fun kl kh ids b s=>⟨ofL ([(17,.lst (.tok (b+0)) 1 s.1.length (fun j=>eI (s.1.getD j default))),(18,eI s.2)]++kl),ofH ([(b+0,.cells [])]++kh),b+128⟩) ?_;(conv=>whnf);refine And.intro ?_ (fun s m h=>dO ?_)
  ·refine bI ?_;conv=>whnf
   exact And.intro rfl (And.intro (aLc (WkR.nil (fun _=>rfl)) (aLc wkI (aLc (wkr (lsL fun _=>(lsI _ _))) (aLc wkI (aLc wkI (aLc (wkr (lsB _)) (aLc (WkR.ptr (fun _=>rfl)) (aLc (wkr (lsL fun _=>(lsI _ _))) (aLc (wkr (lsB _)) aLn))))))))) (aLc ⟨none,rfl,qL⟩ (aLc ⟨some _,rfl,bRc rfl (cKc wkI (cKc (wkr (lsL fun _=>(aO _))) cKn))⟩ aLn)))
  replace h:=aS h;rw [cM.eq_1] at h
  refine aN ?_
  refine aD dCo rfl fun K hK=>?_;conv=>whnf
  replace h:=dF h
  refine cLk h (fun _ h=>?_) (fun _ h=>?_)<;>(conv=>whnf)
  ·refine hK _ _ _ ?_
   refine bA fun K1 K2 hK1 hK2=>?_;conv=>whnf
   refine cLk h (fun _ h=>?_) (fun _ h=>?_)
   ·refine hK1 ?_
    refine aL ?_
    refine tHn ?_
    refine aN ?_
    refine aQ ?_
    refine cX dCo rfl fun K hK=>?_;conv=>whnf
    refine eQ h fun _ h=>?_;conv=>whnf
    refine gKo rfl ?_;conv=>whnf
    replace h:=aS h
    refine aV h13 h (WkL.refl _) (fun _ h=>?_);conv=>whnf
    refine cI (enc:=eI) (d:=default) dCo h rfl rfl rfl ⟨nle rfl,nle rfl,rfl⟩ rfl ⟨⟨rfl,rfl,rfl⟩,trivial⟩ (fun h=>?_);conv=>whnf
    refine bN (enc:=eI) (d:=default) dCo h (.inl rfl) rfl rfl rfl ⟨rfl,nle rfl,nle rfl,nle rfl,rfl⟩ (fun _=>rfl) (.inr (.inr ⟨_,_,rfl,rfl,rfl⟩)) (fun h=>?_);conv=>whnf
    refine hK _ _ _ ?_
    refine iBn ?_
    refine tHn ?_
    refine cX dCo rfl fun K hK=>?_;conv=>whnf
    refine hK _ _ _ ?_
    refine tHn ?_
    replace h:=bX h
    refine ⟨_,h,?_⟩
    refine bI ?_;conv=>whnf
    exact And.intro rfl (And.intro (aLc (WkR.tok (fun _=>rfl) rfl (fun _ _=>Wk.refl _) (fun _=>(lsI _ _))) (aLc wkI (aLc (wkr (lsL fun _=>(lsI _ _))) (aLc wkI (aLc wkI (aLc (wkr (lsB _)) (aLc (WkR.ptr (fun _=>rfl)) (aLc (wkr (lsL fun _=>(lsI _ _))) (aLc (wkr (lsB _)) aLn))))))))) (aLc ⟨some _,rfl,bRc rfl cKn⟩ (aLc ⟨some _,rfl,bRc rfl (cKc wkI (cKc (wkr (lsL fun _=>(aO _))) cKn))⟩ aLn)))
   refine hK2 ?_
   refine bK ?_
   refine aY ?_
   refine aY ?_
   refine aX ?_
   replace h:=dE h
   replace h:=dB h
   refine tHn ?_
   refine aN ?_
   refine aD dCo rfl fun K hK=>?_;conv=>whnf
   refine nlA rfl ?_;conv=>whnf
   refine bKo rfl ?_;conv=>whnf
   refine nlA rfl ?_;conv=>whnf
   replace h:=aS h
   refine fN h35 h (aA (Wk.refl _) (aA aH aB)) (fun _ h=>?_);conv=>whnf
   refine hK _ _ _ ?_
   replace h:=dF h
   refine bA fun K1 K2 hK1 hK2=>?_;conv=>whnf
   refine cLk h (fun _ h=>?_) (fun _ h=>?_)
   ·refine hK1 ?_
    refine aN ?_
    refine aD dCo rfl fun K hK=>?_;conv=>whnf
    replace h:=dF h
    refine cLk h (fun _ h=>?_) (fun _ h=>?_)<;>(conv=>whnf)
    ·refine hK _ _ _ ?_
     refine bA fun K1 K2 hK1 hK2=>?_;conv=>whnf
     refine hK1 ?_
     replace h:=mN h
     refine aD dCo rfl fun K hK=>?_;conv=>whnf
     refine hK _ _ _ ?_
     refine aG ?_
     refine aR ?_
     refine aR ?_
     replace h:=aF h
     refine aC dCo fun K hK=>?_;conv=>whnf
     refine hK _ ?_
     cases h
     exact Wk.refl _
    refine hK _ _ _ ?_
    refine bA fun K1 K2 hK1 hK2=>?_;conv=>whnf
    refine cLk h (fun _ h=>?_) (fun _ h=>?_)
    ·refine hK1 ?_
     refine aD dCo rfl fun K hK=>?_;conv=>whnf
     refine hK _ _ _ ?_
     refine aG ?_
     refine aR ?_
     refine aR ?_
     replace h:=aF h
     refine aC dCo fun K hK=>?_;conv=>whnf
     refine hK _ ?_
     cases h
     exact Wk.refl _
    refine hK2 ?_
    refine aL ?_
    refine tHn ?_
    refine aD dCo rfl fun K hK=>?_;conv=>whnf
    refine hK _ _ _ ?_
    refine aQ ?_
    replace h:=aS h
    refine fP (body:=bJ _ _) rfl h [3,4,11,12,13,17] [12,17] [] (fun kl kh ids b s=>⟨ofL ([(19,eI s)]++kl),ofH ([]++kh),b+64⟩) ?_;(conv=>whnf);refine And.intro ?_ (fun s m h=>dO ?_)
    ·refine bI ?_;conv=>whnf
     exact And.intro rfl (And.intro (aLc wkI (aLc wkI (aLc wkI (aLc (wkr (lsB _)) (aLc (WkR.ptr (fun _=>rfl)) (aLc (wkr (lsL fun _=>(lsI _ _))) (aLc (WkR.tok (fun _=>rfl) rfl (fun _ _=>Wk.refl _) (fun _=>(lsI _ _))) aLn))))))) (aLc ⟨some _,rfl,bRc rfl (cKc wkI (cKc (wkr (lsL fun _=>(aO _))) cKn))⟩ (aLc ⟨some _,rfl,bRc rfl cKn⟩ aLn)))
    replace h:=aS h;rw [bJ.eq_1] at h
    refine aN ?_
    refine aD dCo rfl fun K hK=>?_;conv=>whnf
    replace h:=dF h
    refine cLk h (fun _ h=>?_) (fun _ h=>?_)<;>(conv=>whnf)
    ·refine hK _ _ _ ?_
     refine bA fun K1 K2 hK1 hK2=>?_;conv=>whnf
     refine cLk h (fun _ h=>?_) (fun _ h=>?_)
     ·refine hK1 ?_
      refine aL ?_
      refine tHn ?_
      refine aN ?_
      refine aQ ?_
      refine mQ dCo cV rfl (by kernel_rfl) fun K hK=>?_;conv=>whnf
      refine eQ h fun _ h=>?_;conv=>whnf
      refine gKo rfl ?_;conv=>whnf
      refine eQ h fun _ h=>?_;conv=>whnf
      refine gKo rfl ?_;conv=>whnf
      refine hK _ _ _ ?_
      refine bA fun K1 K2 hK1 hK2=>?_;conv=>whnf
      refine cLk h (fun _ h=>?_) (fun _ h=>?_)
      ·refine hK1 ?_
       refine aN ?_
       refine mQ dCo cV rfl (by kernel_rfl) fun K hK=>?_;conv=>whnf
       refine eQ h fun _ h=>?_;conv=>whnf
       refine gKo rfl ?_;conv=>whnf
       refine eQ h fun _ h=>?_;conv=>whnf
       refine gKo rfl ?_;conv=>whnf
       refine hK _ _ _ ?_
       refine bA fun K1 K2 hK1 hK2=>?_;conv=>whnf
       refine cLk h (fun _ h=>?_) (fun _ h=>?_)
       ·refine hK1 ?_
        refine aD dCo rfl fun K hK=>?_;conv=>whnf
        refine hK _ _ _ ?_
        refine aG ?_
        refine aR ?_
        refine bB ?_
        refine aR ?_
        refine aR ?_
        refine bB ?_
        refine aR ?_
        replace h:=iJ h
        replace h:=iK h
        replace h:=aF h
        refine aC dCo fun K hK=>?_;conv=>whnf
        refine hK _ ?_
        cases h
        exact Wk.refl _
       refine hK2 ?_
       refine aL ?_
       refine tHn ?_
       refine bK ?_
       refine oN (by decide) ?_
       refine aY ?_
       refine aY ?_
       refine aX ?_
       replace h:=dE h
       replace h:=dB h
       refine tHn ?_
       refine aD dCo rfl fun K hK=>?_;conv=>whnf
       replace h:=aS h
       refine aV h13 h (WkL.refl _) (fun _ h=>?_);conv=>whnf
       refine hK _ _ _ ?_
       refine aD dCo rfl fun K hK=>?_;conv=>whnf
       replace h:=aS h
       refine aV h13 h (WkL.refl _) (fun _ h=>?_);conv=>whnf
       refine hK _ _ _ ?_
       refine aN ?_
       refine aD dCo rfl fun K hK=>?_;conv=>whnf
       refine nlA rfl ?_;conv=>whnf
       refine bKo rfl ?_;conv=>whnf
       refine nlA rfl ?_;conv=>whnf
       replace h:=aS h
       refine bH h27 h (WkL.refl _) (fun _ h=>?_);conv=>whnf
       refine hK _ _ _ ?_
       refine bA fun K1 K2 hK1 hK2=>?_;conv=>whnf
       refine cLk h (fun _ h=>?_) (fun _ h=>?_)
       ·refine hK1 ?_
        refine aD dCo rfl fun K hK=>?_;conv=>whnf
        refine hK _ _ _ ?_
        refine aG ?_
        refine aR ?_
        replace h:=aF h
        refine aC dCo fun K hK=>?_;conv=>whnf
        refine hK _ ?_
        cases h
        exact Wk.refl _
       refine hK2 ?_
       refine aL ?_
       refine tHn ?_
       refine jR (.step 0 (.step 2 (.step 3 (.step 4 (.step 5 (.step 6 (.step 7 (.step 8 (.step 9 (.thr 1 10 12 (.two 10 12 (.step 12 (.step 11 (.step 13 (.nil)))) (.step 10 (.step 11 (.step 13 (.nil))))) (.step 1 (.step 12 (.step 11 (.step 13 (.nil))))) (.two 1 10 (.step 10 (.step 11 (.step 13 (.nil)))) (.step 1 (.step 11 (.step 13 (.nil))))))))))))))) dCo cV rfl (by kernel_rfl) fun K hK=>?_;conv=>whnf
       refine cI (enc:=cB) (d:=default) dCo h rfl rfl rfl ⟨nle rfl,nle rfl,rfl⟩ rfl trivial (fun h=>?_);conv=>whnf
       refine nlA rfl ?_;conv=>whnf
       refine bKo rfl ?_;conv=>whnf
       refine gKo rfl ?_;conv=>whnf
       refine jD (enc:=cB) (d:=default) dCo h rfl rfl rfl ⟨rfl,nle rfl,nle rfl,nle rfl,rfl⟩ (fun _=>rfl) (fun h=>?_);conv=>whnf
       refine cI (enc:=cB) (d:=default) dCo h rfl rfl rfl ⟨nle rfl,nle rfl,rfl⟩ rfl ⟨⟨rfl,nle rfl⟩,trivial⟩ (fun h=>?_);conv=>whnf
       refine And.intro ?_ (And.intro ?_ ?_)<;>(conv=>whnf)
       ·refine nlA rfl ?_;conv=>whnf
        refine bKo rfl ?_;conv=>whnf
        refine gKo rfl ?_;conv=>whnf
        refine And.intro ?_ ?_<;>(conv=>whnf)
        ·refine bN (enc:=cB) (d:=default) dCo h (.inl rfl) rfl rfl rfl ⟨rfl,nle rfl,nle rfl,nle rfl,rfl⟩ (fun _=>rfl) (.inr (.inr ⟨_,_,rfl,rfl,rfl⟩)) (fun h=>?_);conv=>whnf
         refine bKo rfl ?_;conv=>whnf
         refine And.intro rfl (And.intro (nle rfl) (And.intro rfl ?_));conv=>whnf
         refine hK _ _ _ ?_
         refine aD dCo rfl fun K hK=>?_;conv=>whnf
         refine nlA rfl ?_;conv=>whnf
         refine bKo rfl ?_;conv=>whnf
         refine nlA rfl ?_;conv=>whnf
         replace h:=aS h
         refine aJ h32 h (aA (aK (aA (Wk.refl _) (aA aH aB))) aB) (fun _ h=>?_);conv=>whnf
         refine hK _ _ _ ?_
         refine aD dCo rfl fun K hK=>?_;conv=>whnf
         replace h:=dF h
         refine cLk h (fun _ h=>?_) (fun _ h=>?_)<;>(conv=>whnf)
         ·refine nlA rfl ?_;conv=>whnf
          refine bKo rfl ?_;conv=>whnf
          refine nlA rfl ?_;conv=>whnf
          replace h:=aS h
          refine aI h34 h (aA (aK (aA (Wk.refl _) (aA aH aB))) aB) (fun _ h=>?_);conv=>whnf
          refine cLk h (fun _ h=>?_) (fun _ h=>?_)<;>(conv=>whnf)
          ·refine nlA rfl ?_;conv=>whnf
           refine bKo rfl ?_;conv=>whnf
           refine nlA rfl ?_;conv=>whnf
           replace h:=aS h
           refine aE h33 h (aA (aK (aA (Wk.refl _) (aA aH aB))) aB) (fun _ h=>?_);conv=>whnf
           refine hK _ _ _ ?_
           refine aG ?_
           replace h:=aF h
           refine aC dCo fun K hK=>?_;conv=>whnf
           refine hK _ ?_
           cases h
           exact Wk.refl _
          refine hK _ _ _ ?_
          refine aG ?_
          replace h:=aF h
          refine aC dCo fun K hK=>?_;conv=>whnf
          refine hK _ ?_
          cases h
          exact Wk.refl _
         refine hK _ _ _ ?_
         refine aG ?_
         replace h:=aF h
         refine aC dCo fun K hK=>?_;conv=>whnf
         refine hK _ ?_
         cases h
         exact Wk.refl _
        refine bN (enc:=cB) (d:=default) dCo h (.inl rfl) rfl rfl rfl ⟨rfl,nle rfl,nle rfl,nle rfl,rfl⟩ (fun _=>rfl) (.inr (.inr ⟨_,_,rfl,rfl,rfl⟩)) (fun h=>?_);conv=>whnf
        refine bKo rfl ?_;conv=>whnf
        refine And.intro rfl (And.intro (nle rfl) (And.intro rfl ?_));conv=>whnf
        refine hK _ _ _ ?_
        refine aD dCo rfl fun K hK=>?_;conv=>whnf
        refine nlA rfl ?_;conv=>whnf
        refine bKo rfl ?_;conv=>whnf
        refine nlA rfl ?_;conv=>whnf
        replace h:=aS h
        refine aJ h32 h (aA (aK (aA (Wk.refl _) (aA aH aB))) aB) (fun _ h=>?_);conv=>whnf
        refine hK _ _ _ ?_
        refine aD dCo rfl fun K hK=>?_;conv=>whnf
        replace h:=dF h
        refine cLk h (fun _ h=>?_) (fun _ h=>?_)<;>(conv=>whnf)
        ·refine nlA rfl ?_;conv=>whnf
         refine bKo rfl ?_;conv=>whnf
         refine nlA rfl ?_;conv=>whnf
         replace h:=aS h
         refine aI h34 h (aA (aK (aA (Wk.refl _) (aA aH aB))) aB) (fun _ h=>?_);conv=>whnf
         refine cLk h (fun _ h=>?_) (fun _ h=>?_)<;>(conv=>whnf)
         ·refine nlA rfl ?_;conv=>whnf
          refine bKo rfl ?_;conv=>whnf
          refine nlA rfl ?_;conv=>whnf
          replace h:=aS h
          refine aE h33 h (aA (aK (aA (Wk.refl _) (aA aH aB))) aB) (fun _ h=>?_);conv=>whnf
          refine hK _ _ _ ?_
          refine aG ?_
          replace h:=aF h
          refine aC dCo fun K hK=>?_;conv=>whnf
          refine hK _ ?_
          cases h
          exact Wk.refl _
         refine hK _ _ _ ?_
         refine aG ?_
         replace h:=aF h
         refine aC dCo fun K hK=>?_;conv=>whnf
         refine hK _ ?_
         cases h
         exact Wk.refl _
        refine hK _ _ _ ?_
        refine aG ?_
        replace h:=aF h
        refine aC dCo fun K hK=>?_;conv=>whnf
        refine hK _ ?_
        cases h
        exact Wk.refl _
       ·refine bN (enc:=cB) (d:=default) dCo h (.inl rfl) rfl rfl rfl ⟨rfl,nle rfl,nle rfl,nle rfl,rfl⟩ (fun _=>rfl) (.inr (.inr ⟨_,_,rfl,rfl,rfl⟩)) (fun h=>?_);conv=>whnf
        refine nlA rfl ?_;conv=>whnf
        refine bKo rfl ?_;conv=>whnf
        refine gKo rfl ?_;conv=>whnf
        refine bKo rfl ?_;conv=>whnf
        refine And.intro rfl (And.intro (nle rfl) (And.intro rfl ?_));conv=>whnf
        refine hK _ _ _ ?_
        refine aD dCo rfl fun K hK=>?_;conv=>whnf
        refine nlA rfl ?_;conv=>whnf
        refine bKo rfl ?_;conv=>whnf
        refine nlA rfl ?_;conv=>whnf
        replace h:=aS h
        refine aJ h32 h (aA (aK (aA (Wk.refl _) (aA aH aB))) aB) (fun _ h=>?_);conv=>whnf
        refine hK _ _ _ ?_
        refine aD dCo rfl fun K hK=>?_;conv=>whnf
        replace h:=dF h
        refine cLk h (fun _ h=>?_) (fun _ h=>?_)<;>(conv=>whnf)
        ·refine nlA rfl ?_;conv=>whnf
         refine bKo rfl ?_;conv=>whnf
         refine nlA rfl ?_;conv=>whnf
         replace h:=aS h
         refine aI h34 h (aA (aK (aA (Wk.refl _) (aA aH aB))) aB) (fun _ h=>?_);conv=>whnf
         refine cLk h (fun _ h=>?_) (fun _ h=>?_)<;>(conv=>whnf)
         ·refine nlA rfl ?_;conv=>whnf
          refine bKo rfl ?_;conv=>whnf
          refine nlA rfl ?_;conv=>whnf
          replace h:=aS h
          refine aE h33 h (aA (aK (aA (Wk.refl _) (aA aH aB))) aB) (fun _ h=>?_);conv=>whnf
          refine hK _ _ _ ?_
          refine aG ?_
          replace h:=aF h
          refine aC dCo fun K hK=>?_;conv=>whnf
          refine hK _ ?_
          cases h
          exact Wk.refl _
         refine hK _ _ _ ?_
         refine aG ?_
         replace h:=aF h
         refine aC dCo fun K hK=>?_;conv=>whnf
         refine hK _ ?_
         cases h
         exact Wk.refl _
        refine hK _ _ _ ?_
        refine aG ?_
        replace h:=aF h
        refine aC dCo fun K hK=>?_;conv=>whnf
        refine hK _ ?_
        cases h
        exact Wk.refl _
       refine And.intro ?_ ?_<;>(conv=>whnf)
       ·refine nlA rfl ?_;conv=>whnf
        refine bKo rfl ?_;conv=>whnf
        refine gKo rfl ?_;conv=>whnf
        refine bN (enc:=cB) (d:=default) dCo h (.inl rfl) rfl rfl rfl ⟨rfl,nle rfl,nle rfl,nle rfl,rfl⟩ (fun _=>rfl) (.inr (.inr ⟨_,_,rfl,rfl,rfl⟩)) (fun h=>?_);conv=>whnf
        refine bKo rfl ?_;conv=>whnf
        refine And.intro rfl (And.intro (nle rfl) (And.intro rfl ?_));conv=>whnf
        refine hK _ _ _ ?_
        refine aD dCo rfl fun K hK=>?_;conv=>whnf
        refine nlA rfl ?_;conv=>whnf
        refine bKo rfl ?_;conv=>whnf
        refine nlA rfl ?_;conv=>whnf
        replace h:=aS h
        refine aJ h32 h (aA (aK (aA (Wk.refl _) (aA aH aB))) aB) (fun _ h=>?_);conv=>whnf
        refine hK _ _ _ ?_
        refine aD dCo rfl fun K hK=>?_;conv=>whnf
        replace h:=dF h
        refine cLk h (fun _ h=>?_) (fun _ h=>?_)<;>(conv=>whnf)
        ·refine nlA rfl ?_;conv=>whnf
         refine bKo rfl ?_;conv=>whnf
         refine nlA rfl ?_;conv=>whnf
         replace h:=aS h
         refine aI h34 h (aA (aK (aA (Wk.refl _) (aA aH aB))) aB) (fun _ h=>?_);conv=>whnf
         refine cLk h (fun _ h=>?_) (fun _ h=>?_)<;>(conv=>whnf)
         ·refine nlA rfl ?_;conv=>whnf
          refine bKo rfl ?_;conv=>whnf
          refine nlA rfl ?_;conv=>whnf
          replace h:=aS h
          refine aE h33 h (aA (aK (aA (Wk.refl _) (aA aH aB))) aB) (fun _ h=>?_);conv=>whnf
          refine hK _ _ _ ?_
          refine aG ?_
          replace h:=aF h
          refine aC dCo fun K hK=>?_;conv=>whnf
          refine hK _ ?_
          cases h
          exact Wk.refl _
         refine hK _ _ _ ?_
         refine aG ?_
         replace h:=aF h
         refine aC dCo fun K hK=>?_;conv=>whnf
         refine hK _ ?_
         cases h
         exact Wk.refl _
        refine hK _ _ _ ?_
        refine aG ?_
        replace h:=aF h
        refine aC dCo fun K hK=>?_;conv=>whnf
        refine hK _ ?_
        cases h
        exact Wk.refl _
       refine bN (enc:=cB) (d:=default) dCo h (.inl rfl) rfl rfl rfl ⟨rfl,nle rfl,nle rfl,nle rfl,rfl⟩ (fun _=>rfl) (.inr (.inr ⟨_,_,rfl,rfl,rfl⟩)) (fun h=>?_);conv=>whnf
       refine nlA rfl ?_;conv=>whnf
       refine bKo rfl ?_;conv=>whnf
       refine gKo rfl ?_;conv=>whnf
       refine bKo rfl ?_;conv=>whnf
       refine And.intro rfl (And.intro (nle rfl) (And.intro rfl ?_));conv=>whnf
       refine hK _ _ _ ?_
       refine aD dCo rfl fun K hK=>?_;conv=>whnf
       refine nlA rfl ?_;conv=>whnf
       refine bKo rfl ?_;conv=>whnf
       refine nlA rfl ?_;conv=>whnf
       replace h:=aS h
       refine aJ h32 h (aA (aK (aA (Wk.refl _) (aA aH aB))) aB) (fun _ h=>?_);conv=>whnf
       refine hK _ _ _ ?_
       refine aD dCo rfl fun K hK=>?_;conv=>whnf
       replace h:=dF h
       refine cLk h (fun _ h=>?_) (fun _ h=>?_)<;>(conv=>whnf)
       ·refine nlA rfl ?_;conv=>whnf
        refine bKo rfl ?_;conv=>whnf
        refine nlA rfl ?_;conv=>whnf
        replace h:=aS h
        refine aI h34 h (aA (aK (aA (Wk.refl _) (aA aH aB))) aB) (fun _ h=>?_);conv=>whnf
        refine cLk h (fun _ h=>?_) (fun _ h=>?_)<;>(conv=>whnf)
        ·refine nlA rfl ?_;conv=>whnf
         refine bKo rfl ?_;conv=>whnf
         refine nlA rfl ?_;conv=>whnf
         replace h:=aS h
         refine aE h33 h (aA (aK (aA (Wk.refl _) (aA aH aB))) aB) (fun _ h=>?_);conv=>whnf
         refine hK _ _ _ ?_
         refine aG ?_
         replace h:=aF h
         refine aC dCo fun K hK=>?_;conv=>whnf
         refine hK _ ?_
         cases h
         exact Wk.refl _
        refine hK _ _ _ ?_
        refine aG ?_
        replace h:=aF h
        refine aC dCo fun K hK=>?_;conv=>whnf
        refine hK _ ?_
        cases h
        exact Wk.refl _
       refine hK _ _ _ ?_
       refine aG ?_
       replace h:=aF h
       refine aC dCo fun K hK=>?_;conv=>whnf
       refine hK _ ?_
       cases h
       exact Wk.refl _
      refine hK2 ?_
      refine aL ?_
      refine iBn ?_
      refine tHn ?_
      refine cX dCo rfl fun K hK=>?_;conv=>whnf
      refine hK _ _ _ ?_
      refine tHn ?_
      replace h:=bX h
      refine ⟨_,h,?_⟩
      refine bI ?_;conv=>whnf
      exact And.intro rfl (And.intro (aLc wkI (aLc wkI (aLc wkI (aLc (wkr (lsB _)) (aLc (WkR.ptr (fun _=>rfl)) (aLc (wkr (lsL fun _=>(lsI _ _))) (aLc (WkR.tok (fun _=>rfl) rfl (fun _ _=>Wk.refl _) (fun _=>(lsI _ _))) aLn))))))) (aLc ⟨some _,rfl,bRc rfl (cKc wkI (cKc (wkr (lsL fun _=>(aO _))) cKn))⟩ (aLc ⟨some _,rfl,bRc rfl cKn⟩ aLn)))
     refine hK2 ?_
     refine bK ?_
     refine aY ?_
     refine aY ?_
     refine aX ?_
     replace h:=dE h
     replace h:=dB h
     refine tHn ?_
     refine aD dCo rfl fun K hK=>?_;conv=>whnf
     replace h:=aS h
     refine aV h13 h (WkL.refl _) (fun _ h=>?_);conv=>whnf
     refine hK _ _ _ ?_
     refine aD dCo rfl fun K hK=>?_;conv=>whnf
     replace h:=aS h
     refine aV h13 h (WkL.refl _) (fun _ h=>?_);conv=>whnf
     refine hK _ _ _ ?_
     refine aN ?_
     refine aD dCo rfl fun K hK=>?_;conv=>whnf
     refine nlA rfl ?_;conv=>whnf
     refine bKo rfl ?_;conv=>whnf
     refine nlA rfl ?_;conv=>whnf
     replace h:=aS h
     refine bH h27 h (WkL.refl _) (fun _ h=>?_);conv=>whnf
     refine hK _ _ _ ?_
     refine bA fun K1 K2 hK1 hK2=>?_;conv=>whnf
     refine cLk h (fun _ h=>?_) (fun _ h=>?_)
     ·refine hK1 ?_
      refine aD dCo rfl fun K hK=>?_;conv=>whnf
      refine hK _ _ _ ?_
      refine aG ?_
      refine aR ?_
      replace h:=aF h
      refine aC dCo fun K hK=>?_;conv=>whnf
      refine hK _ ?_
      cases h
      exact Wk.refl _
     refine hK2 ?_
     refine aL ?_
     refine tHn ?_
     refine jR (.step 0 (.step 2 (.step 3 (.step 4 (.step 5 (.step 6 (.step 7 (.step 8 (.step 9 (.thr 1 10 12 (.two 10 12 (.step 12 (.step 11 (.step 13 (.nil)))) (.step 10 (.step 11 (.step 13 (.nil))))) (.step 1 (.step 12 (.step 11 (.step 13 (.nil))))) (.two 1 10 (.step 10 (.step 11 (.step 13 (.nil)))) (.step 1 (.step 11 (.step 13 (.nil))))))))))))))) dCo cV rfl (by kernel_rfl) fun K hK=>?_;conv=>whnf
     refine cI (enc:=cB) (d:=default) dCo h rfl rfl rfl ⟨nle rfl,nle rfl,rfl⟩ rfl trivial (fun h=>?_);conv=>whnf
     refine nlA rfl ?_;conv=>whnf
     refine bKo rfl ?_;conv=>whnf
     refine gKo rfl ?_;conv=>whnf
     refine jD (enc:=cB) (d:=default) dCo h rfl rfl rfl ⟨rfl,nle rfl,nle rfl,nle rfl,rfl⟩ (fun _=>rfl) (fun h=>?_);conv=>whnf
     refine cI (enc:=cB) (d:=default) dCo h rfl rfl rfl ⟨nle rfl,nle rfl,rfl⟩ rfl ⟨⟨rfl,nle rfl⟩,trivial⟩ (fun h=>?_);conv=>whnf
     refine And.intro ?_ (And.intro ?_ ?_)<;>(conv=>whnf)
     ·refine nlA rfl ?_;conv=>whnf
      refine bKo rfl ?_;conv=>whnf
      refine gKo rfl ?_;conv=>whnf
      refine And.intro ?_ ?_<;>(conv=>whnf)
      ·refine bN (enc:=cB) (d:=default) dCo h (.inl rfl) rfl rfl rfl ⟨rfl,nle rfl,nle rfl,nle rfl,rfl⟩ (fun _=>rfl) (.inr (.inr ⟨_,_,rfl,rfl,rfl⟩)) (fun h=>?_);conv=>whnf
       refine bKo rfl ?_;conv=>whnf
       refine And.intro rfl (And.intro (nle rfl) (And.intro rfl ?_));conv=>whnf
       refine hK _ _ _ ?_
       refine aD dCo rfl fun K hK=>?_;conv=>whnf
       refine nlA rfl ?_;conv=>whnf
       refine bKo rfl ?_;conv=>whnf
       refine nlA rfl ?_;conv=>whnf
       replace h:=aS h
       refine aJ h32 h (aA (aK (aA (Wk.refl _) (aA aH aB))) aB) (fun _ h=>?_);conv=>whnf
       refine hK _ _ _ ?_
       refine aD dCo rfl fun K hK=>?_;conv=>whnf
       replace h:=dF h
       refine cLk h (fun _ h=>?_) (fun _ h=>?_)<;>(conv=>whnf)
       ·refine nlA rfl ?_;conv=>whnf
        refine bKo rfl ?_;conv=>whnf
        refine nlA rfl ?_;conv=>whnf
        replace h:=aS h
        refine aI h34 h (aA (aK (aA (Wk.refl _) (aA aH aB))) aB) (fun _ h=>?_);conv=>whnf
        refine cLk h (fun _ h=>?_) (fun _ h=>?_)<;>(conv=>whnf)
        ·refine nlA rfl ?_;conv=>whnf
         refine bKo rfl ?_;conv=>whnf
         refine nlA rfl ?_;conv=>whnf
         replace h:=aS h
         refine aE h33 h (aA (aK (aA (Wk.refl _) (aA aH aB))) aB) (fun _ h=>?_);conv=>whnf
         refine hK _ _ _ ?_
         refine aG ?_
         replace h:=aF h
         refine aC dCo fun K hK=>?_;conv=>whnf
         refine hK _ ?_
         cases h
         exact Wk.refl _
        refine hK _ _ _ ?_
        refine aG ?_
        replace h:=aF h
        refine aC dCo fun K hK=>?_;conv=>whnf
        refine hK _ ?_
        cases h
        exact Wk.refl _
       refine hK _ _ _ ?_
       refine aG ?_
       replace h:=aF h
       refine aC dCo fun K hK=>?_;conv=>whnf
       refine hK _ ?_
       cases h
       exact Wk.refl _
      refine bN (enc:=cB) (d:=default) dCo h (.inl rfl) rfl rfl rfl ⟨rfl,nle rfl,nle rfl,nle rfl,rfl⟩ (fun _=>rfl) (.inr (.inr ⟨_,_,rfl,rfl,rfl⟩)) (fun h=>?_);conv=>whnf
      refine bKo rfl ?_;conv=>whnf
      refine And.intro rfl (And.intro (nle rfl) (And.intro rfl ?_));conv=>whnf
      refine hK _ _ _ ?_
      refine aD dCo rfl fun K hK=>?_;conv=>whnf
      refine nlA rfl ?_;conv=>whnf
      refine bKo rfl ?_;conv=>whnf
      refine nlA rfl ?_;conv=>whnf
      replace h:=aS h
      refine aJ h32 h (aA (aK (aA (Wk.refl _) (aA aH aB))) aB) (fun _ h=>?_);conv=>whnf
      refine hK _ _ _ ?_
      refine aD dCo rfl fun K hK=>?_;conv=>whnf
      replace h:=dF h
      refine cLk h (fun _ h=>?_) (fun _ h=>?_)<;>(conv=>whnf)
      ·refine nlA rfl ?_;conv=>whnf
       refine bKo rfl ?_;conv=>whnf
       refine nlA rfl ?_;conv=>whnf
       replace h:=aS h
       refine aI h34 h (aA (aK (aA (Wk.refl _) (aA aH aB))) aB) (fun _ h=>?_);conv=>whnf
       refine cLk h (fun _ h=>?_) (fun _ h=>?_)<;>(conv=>whnf)
       ·refine nlA rfl ?_;conv=>whnf
        refine bKo rfl ?_;conv=>whnf
        refine nlA rfl ?_;conv=>whnf
        replace h:=aS h
        refine aE h33 h (aA (aK (aA (Wk.refl _) (aA aH aB))) aB) (fun _ h=>?_);conv=>whnf
        refine hK _ _ _ ?_
        refine aG ?_
        replace h:=aF h
        refine aC dCo fun K hK=>?_;conv=>whnf
        refine hK _ ?_
        cases h
        exact Wk.refl _
       refine hK _ _ _ ?_
       refine aG ?_
       replace h:=aF h
       refine aC dCo fun K hK=>?_;conv=>whnf
       refine hK _ ?_
       cases h
       exact Wk.refl _
      refine hK _ _ _ ?_
      refine aG ?_
      replace h:=aF h
      refine aC dCo fun K hK=>?_;conv=>whnf
      refine hK _ ?_
      cases h
      exact Wk.refl _
     ·refine bN (enc:=cB) (d:=default) dCo h (.inl rfl) rfl rfl rfl ⟨rfl,nle rfl,nle rfl,nle rfl,rfl⟩ (fun _=>rfl) (.inr (.inr ⟨_,_,rfl,rfl,rfl⟩)) (fun h=>?_);conv=>whnf
      refine nlA rfl ?_;conv=>whnf
      refine bKo rfl ?_;conv=>whnf
      refine gKo rfl ?_;conv=>whnf
      refine bKo rfl ?_;conv=>whnf
      refine And.intro rfl (And.intro (nle rfl) (And.intro rfl ?_));conv=>whnf
      refine hK _ _ _ ?_
      refine aD dCo rfl fun K hK=>?_;conv=>whnf
      refine nlA rfl ?_;conv=>whnf
      refine bKo rfl ?_;conv=>whnf
      refine nlA rfl ?_;conv=>whnf
      replace h:=aS h
      refine aJ h32 h (aA (aK (aA (Wk.refl _) (aA aH aB))) aB) (fun _ h=>?_);conv=>whnf
      refine hK _ _ _ ?_
      refine aD dCo rfl fun K hK=>?_;conv=>whnf
      replace h:=dF h
      refine cLk h (fun _ h=>?_) (fun _ h=>?_)<;>(conv=>whnf)
      ·refine nlA rfl ?_;conv=>whnf
       refine bKo rfl ?_;conv=>whnf
       refine nlA rfl ?_;conv=>whnf
       replace h:=aS h
       refine aI h34 h (aA (aK (aA (Wk.refl _) (aA aH aB))) aB) (fun _ h=>?_);conv=>whnf
       refine cLk h (fun _ h=>?_) (fun _ h=>?_)<;>(conv=>whnf)
       ·refine nlA rfl ?_;conv=>whnf
        refine bKo rfl ?_;conv=>whnf
        refine nlA rfl ?_;conv=>whnf
        replace h:=aS h
        refine aE h33 h (aA (aK (aA (Wk.refl _) (aA aH aB))) aB) (fun _ h=>?_);conv=>whnf
        refine hK _ _ _ ?_
        refine aG ?_
        replace h:=aF h
        refine aC dCo fun K hK=>?_;conv=>whnf
        refine hK _ ?_
        cases h
        exact Wk.refl _
       refine hK _ _ _ ?_
       refine aG ?_
       replace h:=aF h
       refine aC dCo fun K hK=>?_;conv=>whnf
       refine hK _ ?_
       cases h
       exact Wk.refl _
      refine hK _ _ _ ?_
      refine aG ?_
      replace h:=aF h
      refine aC dCo fun K hK=>?_;conv=>whnf
      refine hK _ ?_
      cases h
      exact Wk.refl _
     refine And.intro ?_ ?_<;>(conv=>whnf)
     ·refine nlA rfl ?_;conv=>whnf
      refine bKo rfl ?_;conv=>whnf
      refine gKo rfl ?_;conv=>whnf
      refine bN (enc:=cB) (d:=default) dCo h (.inl rfl) rfl rfl rfl ⟨rfl,nle rfl,nle rfl,nle rfl,rfl⟩ (fun _=>rfl) (.inr (.inr ⟨_,_,rfl,rfl,rfl⟩)) (fun h=>?_);conv=>whnf
      refine bKo rfl ?_;conv=>whnf
      refine And.intro rfl (And.intro (nle rfl) (And.intro rfl ?_));conv=>whnf
      refine hK _ _ _ ?_
      refine aD dCo rfl fun K hK=>?_;conv=>whnf
      refine nlA rfl ?_;conv=>whnf
      refine bKo rfl ?_;conv=>whnf
      refine nlA rfl ?_;conv=>whnf
      replace h:=aS h
      refine aJ h32 h (aA (aK (aA (Wk.refl _) (aA aH aB))) aB) (fun _ h=>?_);conv=>whnf
      refine hK _ _ _ ?_
      refine aD dCo rfl fun K hK=>?_;conv=>whnf
      replace h:=dF h
      refine cLk h (fun _ h=>?_) (fun _ h=>?_)<;>(conv=>whnf)
      ·refine nlA rfl ?_;conv=>whnf
       refine bKo rfl ?_;conv=>whnf
       refine nlA rfl ?_;conv=>whnf
       replace h:=aS h
       refine aI h34 h (aA (aK (aA (Wk.refl _) (aA aH aB))) aB) (fun _ h=>?_);conv=>whnf
       refine cLk h (fun _ h=>?_) (fun _ h=>?_)<;>(conv=>whnf)
       ·refine nlA rfl ?_;conv=>whnf
        refine bKo rfl ?_;conv=>whnf
        refine nlA rfl ?_;conv=>whnf
        replace h:=aS h
        refine aE h33 h (aA (aK (aA (Wk.refl _) (aA aH aB))) aB) (fun _ h=>?_);conv=>whnf
        refine hK _ _ _ ?_
        refine aG ?_
        replace h:=aF h
        refine aC dCo fun K hK=>?_;conv=>whnf
        refine hK _ ?_
        cases h
        exact Wk.refl _
       refine hK _ _ _ ?_
       refine aG ?_
       replace h:=aF h
       refine aC dCo fun K hK=>?_;conv=>whnf
       refine hK _ ?_
       cases h
       exact Wk.refl _
      refine hK _ _ _ ?_
      refine aG ?_
      replace h:=aF h
      refine aC dCo fun K hK=>?_;conv=>whnf
      refine hK _ ?_
      cases h
      exact Wk.refl _
     refine bN (enc:=cB) (d:=default) dCo h (.inl rfl) rfl rfl rfl ⟨rfl,nle rfl,nle rfl,nle rfl,rfl⟩ (fun _=>rfl) (.inr (.inr ⟨_,_,rfl,rfl,rfl⟩)) (fun h=>?_);conv=>whnf
     refine nlA rfl ?_;conv=>whnf
     refine bKo rfl ?_;conv=>whnf
     refine gKo rfl ?_;conv=>whnf
     refine bKo rfl ?_;conv=>whnf
     refine And.intro rfl (And.intro (nle rfl) (And.intro rfl ?_));conv=>whnf
     refine hK _ _ _ ?_
     refine aD dCo rfl fun K hK=>?_;conv=>whnf
     refine nlA rfl ?_;conv=>whnf
     refine bKo rfl ?_;conv=>whnf
     refine nlA rfl ?_;conv=>whnf
     replace h:=aS h
     refine aJ h32 h (aA (aK (aA (Wk.refl _) (aA aH aB))) aB) (fun _ h=>?_);conv=>whnf
     refine hK _ _ _ ?_
     refine aD dCo rfl fun K hK=>?_;conv=>whnf
     replace h:=dF h
     refine cLk h (fun _ h=>?_) (fun _ h=>?_)<;>(conv=>whnf)
     ·refine nlA rfl ?_;conv=>whnf
      refine bKo rfl ?_;conv=>whnf
      refine nlA rfl ?_;conv=>whnf
      replace h:=aS h
      refine aI h34 h (aA (aK (aA (Wk.refl _) (aA aH aB))) aB) (fun _ h=>?_);conv=>whnf
      refine cLk h (fun _ h=>?_) (fun _ h=>?_)<;>(conv=>whnf)
      ·refine nlA rfl ?_;conv=>whnf
       refine bKo rfl ?_;conv=>whnf
       refine nlA rfl ?_;conv=>whnf
       replace h:=aS h
       refine aE h33 h (aA (aK (aA (Wk.refl _) (aA aH aB))) aB) (fun _ h=>?_);conv=>whnf
       refine hK _ _ _ ?_
       refine aG ?_
       replace h:=aF h
       refine aC dCo fun K hK=>?_;conv=>whnf
       refine hK _ ?_
       cases h
       exact Wk.refl _
      refine hK _ _ _ ?_
      refine aG ?_
      replace h:=aF h
      refine aC dCo fun K hK=>?_;conv=>whnf
      refine hK _ ?_
      cases h
      exact Wk.refl _
     refine hK _ _ _ ?_
     refine aG ?_
     replace h:=aF h
     refine aC dCo fun K hK=>?_;conv=>whnf
     refine hK _ ?_
     cases h
     exact Wk.refl _
    refine hK _ _ _ ?_
    refine bA fun K1 K2 hK1 hK2=>?_;conv=>whnf
    refine hK2 ?_
    replace h:=pI h
    refine bK ?_
    refine aY ?_
    refine aY ?_
    refine aX ?_
    replace h:=dE h
    replace h:=dB h
    refine tHn ?_
    refine aD dCo rfl fun K hK=>?_;conv=>whnf
    replace h:=aS h
    refine aV h13 h (WkL.refl _) (fun _ h=>?_);conv=>whnf
    refine hK _ _ _ ?_
    refine aD dCo rfl fun K hK=>?_;conv=>whnf
    replace h:=aS h
    refine aV h13 h (WkL.refl _) (fun _ h=>?_);conv=>whnf
    refine hK _ _ _ ?_
    refine aN ?_
    refine aD dCo rfl fun K hK=>?_;conv=>whnf
    refine nlA rfl ?_;conv=>whnf
    refine bKo rfl ?_;conv=>whnf
    refine nlA rfl ?_;conv=>whnf
    replace h:=aS h
    refine bH h27 h (WkL.refl _) (fun _ h=>?_);conv=>whnf
    refine hK _ _ _ ?_
    refine bA fun K1 K2 hK1 hK2=>?_;conv=>whnf
    refine cLk h (fun _ h=>?_) (fun _ h=>?_)
    ·refine hK1 ?_
     refine aD dCo rfl fun K hK=>?_;conv=>whnf
     refine hK _ _ _ ?_
     refine aG ?_
     refine aR ?_
     replace h:=aF h
     refine aC dCo fun K hK=>?_;conv=>whnf
     refine hK _ ?_
     cases h
     exact Wk.refl _
    refine hK2 ?_
    refine aL ?_
    refine tHn ?_
    refine jR (.step 0 (.step 2 (.step 3 (.step 4 (.step 5 (.step 6 (.step 7 (.step 8 (.step 9 (.thr 1 10 12 (.two 10 12 (.step 12 (.step 11 (.step 13 (.nil)))) (.step 10 (.step 11 (.step 13 (.nil))))) (.step 1 (.step 12 (.step 11 (.step 13 (.nil))))) (.two 1 10 (.step 10 (.step 11 (.step 13 (.nil)))) (.step 1 (.step 11 (.step 13 (.nil))))))))))))))) dCo cV rfl (by kernel_rfl) fun K hK=>?_;conv=>whnf
    refine cI (enc:=cB) (d:=default) dCo h rfl rfl rfl ⟨nle rfl,nle rfl,rfl⟩ rfl trivial (fun h=>?_);conv=>whnf
    refine nlA rfl ?_;conv=>whnf
    refine bKo rfl ?_;conv=>whnf
    refine gKo rfl ?_;conv=>whnf
    refine jD (enc:=cB) (d:=default) dCo h rfl rfl rfl ⟨rfl,nle rfl,nle rfl,nle rfl,rfl⟩ (fun _=>rfl) (fun h=>?_);conv=>whnf
    refine cI (enc:=cB) (d:=default) dCo h rfl rfl rfl ⟨nle rfl,nle rfl,rfl⟩ rfl ⟨⟨rfl,nle rfl⟩,trivial⟩ (fun h=>?_);conv=>whnf
    refine And.intro ?_ (And.intro ?_ ?_)<;>(conv=>whnf)
    ·refine nlA rfl ?_;conv=>whnf
     refine bKo rfl ?_;conv=>whnf
     refine gKo rfl ?_;conv=>whnf
     refine And.intro ?_ ?_<;>(conv=>whnf)
     ·refine bN (enc:=cB) (d:=default) dCo h (.inl rfl) rfl rfl rfl ⟨rfl,nle rfl,nle rfl,nle rfl,rfl⟩ (fun _=>rfl) (.inr (.inr ⟨_,_,rfl,rfl,rfl⟩)) (fun h=>?_);conv=>whnf
      refine bKo rfl ?_;conv=>whnf
      refine And.intro rfl (And.intro (nle rfl) (And.intro rfl ?_));conv=>whnf
      refine hK _ _ _ ?_
      refine aD dCo rfl fun K hK=>?_;conv=>whnf
      refine nlA rfl ?_;conv=>whnf
      refine bKo rfl ?_;conv=>whnf
      refine nlA rfl ?_;conv=>whnf
      replace h:=aS h
      refine aJ h32 h (aA (aK (aA (Wk.refl _) (aA aH aB))) aB) (fun _ h=>?_);conv=>whnf
      refine hK _ _ _ ?_
      refine aD dCo rfl fun K hK=>?_;conv=>whnf
      replace h:=dF h
      refine cLk h (fun _ h=>?_) (fun _ h=>?_)<;>(conv=>whnf)
      ·refine nlA rfl ?_;conv=>whnf
       refine bKo rfl ?_;conv=>whnf
       refine nlA rfl ?_;conv=>whnf
       replace h:=aS h
       refine aI h34 h (aA (aK (aA (Wk.refl _) (aA aH aB))) aB) (fun _ h=>?_);conv=>whnf
       refine cLk h (fun _ h=>?_) (fun _ h=>?_)<;>(conv=>whnf)
       ·refine nlA rfl ?_;conv=>whnf
        refine bKo rfl ?_;conv=>whnf
        refine nlA rfl ?_;conv=>whnf
        replace h:=aS h
        refine aE h33 h (aA (aK (aA (Wk.refl _) (aA aH aB))) aB) (fun _ h=>?_);conv=>whnf
        refine hK _ _ _ ?_
        refine aG ?_
        replace h:=aF h
        refine aC dCo fun K hK=>?_;conv=>whnf
        refine hK _ ?_
        cases h
        exact Wk.refl _
       refine hK _ _ _ ?_
       refine aG ?_
       replace h:=aF h
       refine aC dCo fun K hK=>?_;conv=>whnf
       refine hK _ ?_
       cases h
       exact Wk.refl _
      refine hK _ _ _ ?_
      refine aG ?_
      replace h:=aF h
      refine aC dCo fun K hK=>?_;conv=>whnf
      refine hK _ ?_
      cases h
      exact Wk.refl _
     refine bN (enc:=cB) (d:=default) dCo h (.inl rfl) rfl rfl rfl ⟨rfl,nle rfl,nle rfl,nle rfl,rfl⟩ (fun _=>rfl) (.inr (.inr ⟨_,_,rfl,rfl,rfl⟩)) (fun h=>?_);conv=>whnf
     refine bKo rfl ?_;conv=>whnf
     refine And.intro rfl (And.intro (nle rfl) (And.intro rfl ?_));conv=>whnf
     refine hK _ _ _ ?_
     refine aD dCo rfl fun K hK=>?_;conv=>whnf
     refine nlA rfl ?_;conv=>whnf
     refine bKo rfl ?_;conv=>whnf
     refine nlA rfl ?_;conv=>whnf
     replace h:=aS h
     refine aJ h32 h (aA (aK (aA (Wk.refl _) (aA aH aB))) aB) (fun _ h=>?_);conv=>whnf
     refine hK _ _ _ ?_
     refine aD dCo rfl fun K hK=>?_;conv=>whnf
     replace h:=dF h
     refine cLk h (fun _ h=>?_) (fun _ h=>?_)<;>(conv=>whnf)
     ·refine nlA rfl ?_;conv=>whnf
      refine bKo rfl ?_;conv=>whnf
      refine nlA rfl ?_;conv=>whnf
      replace h:=aS h
      refine aI h34 h (aA (aK (aA (Wk.refl _) (aA aH aB))) aB) (fun _ h=>?_);conv=>whnf
      refine cLk h (fun _ h=>?_) (fun _ h=>?_)<;>(conv=>whnf)
      ·refine nlA rfl ?_;conv=>whnf
       refine bKo rfl ?_;conv=>whnf
       refine nlA rfl ?_;conv=>whnf
       replace h:=aS h
       refine aE h33 h (aA (aK (aA (Wk.refl _) (aA aH aB))) aB) (fun _ h=>?_);conv=>whnf
       refine hK _ _ _ ?_
       refine aG ?_
       replace h:=aF h
       refine aC dCo fun K hK=>?_;conv=>whnf
       refine hK _ ?_
       cases h
       exact Wk.refl _
      refine hK _ _ _ ?_
      refine aG ?_
      replace h:=aF h
      refine aC dCo fun K hK=>?_;conv=>whnf
      refine hK _ ?_
      cases h
      exact Wk.refl _
     refine hK _ _ _ ?_
     refine aG ?_
     replace h:=aF h
     refine aC dCo fun K hK=>?_;conv=>whnf
     refine hK _ ?_
     cases h
     exact Wk.refl _
    ·refine bN (enc:=cB) (d:=default) dCo h (.inl rfl) rfl rfl rfl ⟨rfl,nle rfl,nle rfl,nle rfl,rfl⟩ (fun _=>rfl) (.inr (.inr ⟨_,_,rfl,rfl,rfl⟩)) (fun h=>?_);conv=>whnf
     refine nlA rfl ?_;conv=>whnf
     refine bKo rfl ?_;conv=>whnf
     refine gKo rfl ?_;conv=>whnf
     refine bKo rfl ?_;conv=>whnf
     refine And.intro rfl (And.intro (nle rfl) (And.intro rfl ?_));conv=>whnf
     refine hK _ _ _ ?_
     refine aD dCo rfl fun K hK=>?_;conv=>whnf
     refine nlA rfl ?_;conv=>whnf
     refine bKo rfl ?_;conv=>whnf
     refine nlA rfl ?_;conv=>whnf
     replace h:=aS h
     refine aJ h32 h (aA (aK (aA (Wk.refl _) (aA aH aB))) aB) (fun _ h=>?_);conv=>whnf
     refine hK _ _ _ ?_
     refine aD dCo rfl fun K hK=>?_;conv=>whnf
     replace h:=dF h
     refine cLk h (fun _ h=>?_) (fun _ h=>?_)<;>(conv=>whnf)
     ·refine nlA rfl ?_;conv=>whnf
      refine bKo rfl ?_;conv=>whnf
      refine nlA rfl ?_;conv=>whnf
      replace h:=aS h
      refine aI h34 h (aA (aK (aA (Wk.refl _) (aA aH aB))) aB) (fun _ h=>?_);conv=>whnf
      refine cLk h (fun _ h=>?_) (fun _ h=>?_)<;>(conv=>whnf)
      ·refine nlA rfl ?_;conv=>whnf
       refine bKo rfl ?_;conv=>whnf
       refine nlA rfl ?_;conv=>whnf
       replace h:=aS h
       refine aE h33 h (aA (aK (aA (Wk.refl _) (aA aH aB))) aB) (fun _ h=>?_);conv=>whnf
       refine hK _ _ _ ?_
       refine aG ?_
       replace h:=aF h
       refine aC dCo fun K hK=>?_;conv=>whnf
       refine hK _ ?_
       cases h
       exact Wk.refl _
      refine hK _ _ _ ?_
      refine aG ?_
      replace h:=aF h
      refine aC dCo fun K hK=>?_;conv=>whnf
      refine hK _ ?_
      cases h
      exact Wk.refl _
     refine hK _ _ _ ?_
     refine aG ?_
     replace h:=aF h
     refine aC dCo fun K hK=>?_;conv=>whnf
     refine hK _ ?_
     cases h
     exact Wk.refl _
    refine And.intro ?_ ?_<;>(conv=>whnf)
    ·refine nlA rfl ?_;conv=>whnf
     refine bKo rfl ?_;conv=>whnf
     refine gKo rfl ?_;conv=>whnf
     refine bN (enc:=cB) (d:=default) dCo h (.inl rfl) rfl rfl rfl ⟨rfl,nle rfl,nle rfl,nle rfl,rfl⟩ (fun _=>rfl) (.inr (.inr ⟨_,_,rfl,rfl,rfl⟩)) (fun h=>?_);conv=>whnf
     refine bKo rfl ?_;conv=>whnf
     refine And.intro rfl (And.intro (nle rfl) (And.intro rfl ?_));conv=>whnf
     refine hK _ _ _ ?_
     refine aD dCo rfl fun K hK=>?_;conv=>whnf
     refine nlA rfl ?_;conv=>whnf
     refine bKo rfl ?_;conv=>whnf
     refine nlA rfl ?_;conv=>whnf
     replace h:=aS h
     refine aJ h32 h (aA (aK (aA (Wk.refl _) (aA aH aB))) aB) (fun _ h=>?_);conv=>whnf
     refine hK _ _ _ ?_
     refine aD dCo rfl fun K hK=>?_;conv=>whnf
     replace h:=dF h
     refine cLk h (fun _ h=>?_) (fun _ h=>?_)<;>(conv=>whnf)
     ·refine nlA rfl ?_;conv=>whnf
      refine bKo rfl ?_;conv=>whnf
      refine nlA rfl ?_;conv=>whnf
      replace h:=aS h
      refine aI h34 h (aA (aK (aA (Wk.refl _) (aA aH aB))) aB) (fun _ h=>?_);conv=>whnf
      refine cLk h (fun _ h=>?_) (fun _ h=>?_)<;>(conv=>whnf)
      ·refine nlA rfl ?_;conv=>whnf
       refine bKo rfl ?_;conv=>whnf
       refine nlA rfl ?_;conv=>whnf
       replace h:=aS h
       refine aE h33 h (aA (aK (aA (Wk.refl _) (aA aH aB))) aB) (fun _ h=>?_);conv=>whnf
       refine hK _ _ _ ?_
       refine aG ?_
       replace h:=aF h
       refine aC dCo fun K hK=>?_;conv=>whnf
       refine hK _ ?_
       cases h
       exact Wk.refl _
      refine hK _ _ _ ?_
      refine aG ?_
      replace h:=aF h
      refine aC dCo fun K hK=>?_;conv=>whnf
      refine hK _ ?_
      cases h
      exact Wk.refl _
     refine hK _ _ _ ?_
     refine aG ?_
     replace h:=aF h
     refine aC dCo fun K hK=>?_;conv=>whnf
     refine hK _ ?_
     cases h
     exact Wk.refl _
    refine bN (enc:=cB) (d:=default) dCo h (.inl rfl) rfl rfl rfl ⟨rfl,nle rfl,nle rfl,nle rfl,rfl⟩ (fun _=>rfl) (.inr (.inr ⟨_,_,rfl,rfl,rfl⟩)) (fun h=>?_);conv=>whnf
    refine nlA rfl ?_;conv=>whnf
    refine bKo rfl ?_;conv=>whnf
    refine gKo rfl ?_;conv=>whnf
    refine bKo rfl ?_;conv=>whnf
    refine And.intro rfl (And.intro (nle rfl) (And.intro rfl ?_));conv=>whnf
    refine hK _ _ _ ?_
    refine aD dCo rfl fun K hK=>?_;conv=>whnf
    refine nlA rfl ?_;conv=>whnf
    refine bKo rfl ?_;conv=>whnf
    refine nlA rfl ?_;conv=>whnf
    replace h:=aS h
    refine aJ h32 h (aA (aK (aA (Wk.refl _) (aA aH aB))) aB) (fun _ h=>?_);conv=>whnf
    refine hK _ _ _ ?_
    refine aD dCo rfl fun K hK=>?_;conv=>whnf
    replace h:=dF h
    refine cLk h (fun _ h=>?_) (fun _ h=>?_)<;>(conv=>whnf)
    ·refine nlA rfl ?_;conv=>whnf
     refine bKo rfl ?_;conv=>whnf
     refine nlA rfl ?_;conv=>whnf
     replace h:=aS h
     refine aI h34 h (aA (aK (aA (Wk.refl _) (aA aH aB))) aB) (fun _ h=>?_);conv=>whnf
     refine cLk h (fun _ h=>?_) (fun _ h=>?_)<;>(conv=>whnf)
     ·refine nlA rfl ?_;conv=>whnf
      refine bKo rfl ?_;conv=>whnf
      refine nlA rfl ?_;conv=>whnf
      replace h:=aS h
      refine aE h33 h (aA (aK (aA (Wk.refl _) (aA aH aB))) aB) (fun _ h=>?_);conv=>whnf
      refine hK _ _ _ ?_
      refine aG ?_
      replace h:=aF h
      refine aC dCo fun K hK=>?_;conv=>whnf
      refine hK _ ?_
      cases h
      exact Wk.refl _
     refine hK _ _ _ ?_
     refine aG ?_
     replace h:=aF h
     refine aC dCo fun K hK=>?_;conv=>whnf
     refine hK _ ?_
     cases h
     exact Wk.refl _
    refine hK _ _ _ ?_
    refine aG ?_
    replace h:=aF h
    refine aC dCo fun K hK=>?_;conv=>whnf
    refine hK _ ?_
    cases h
    exact Wk.refl _
   refine hK2 ?_
   refine aL ?_
   refine tHn ?_
   refine aD dCo rfl fun K hK=>?_;conv=>whnf
   replace h:=aS h
   refine aV h13 h (WkL.refl _) (fun _ h=>?_);conv=>whnf
   refine hK _ _ _ ?_
   refine aD dCo rfl fun K hK=>?_;conv=>whnf
   replace h:=aS h
   refine aV h13 h (WkL.refl _) (fun _ h=>?_);conv=>whnf
   refine hK _ _ _ ?_
   refine aN ?_
   refine aD dCo rfl fun K hK=>?_;conv=>whnf
   refine nlA rfl ?_;conv=>whnf
   refine bKo rfl ?_;conv=>whnf
   refine nlA rfl ?_;conv=>whnf
   replace h:=aS h
   refine bH h27 h (WkL.refl _) (fun _ h=>?_);conv=>whnf
   refine hK _ _ _ ?_
   refine bA fun K1 K2 hK1 hK2=>?_;conv=>whnf
   refine cLk h (fun _ h=>?_) (fun _ h=>?_)
   ·refine hK1 ?_
    refine aD dCo rfl fun K hK=>?_;conv=>whnf
    refine hK _ _ _ ?_
    refine aG ?_
    refine aR ?_
    replace h:=aF h
    refine aC dCo fun K hK=>?_;conv=>whnf
    refine hK _ ?_
    cases h
    exact Wk.refl _
   refine hK2 ?_
   refine aL ?_
   refine tHn ?_
   refine jR (.step 0 (.step 2 (.step 3 (.step 4 (.step 5 (.step 6 (.step 7 (.step 8 (.step 9 (.thr 1 10 12 (.two 10 12 (.step 12 (.step 11 (.step 13 (.nil)))) (.step 10 (.step 11 (.step 13 (.nil))))) (.step 1 (.step 12 (.step 11 (.step 13 (.nil))))) (.two 1 10 (.step 10 (.step 11 (.step 13 (.nil)))) (.step 1 (.step 11 (.step 13 (.nil))))))))))))))) dCo cV rfl (by kernel_rfl) fun K hK=>?_;conv=>whnf
   refine cI (enc:=cB) (d:=default) dCo h rfl rfl rfl ⟨nle rfl,nle rfl,rfl⟩ rfl trivial (fun h=>?_);conv=>whnf
   refine nlA rfl ?_;conv=>whnf
   refine bKo rfl ?_;conv=>whnf
   refine gKo rfl ?_;conv=>whnf
   refine jD (enc:=cB) (d:=default) dCo h rfl rfl rfl ⟨rfl,nle rfl,nle rfl,nle rfl,rfl⟩ (fun _=>rfl) (fun h=>?_);conv=>whnf
   refine cI (enc:=cB) (d:=default) dCo h rfl rfl rfl ⟨nle rfl,nle rfl,rfl⟩ rfl ⟨⟨rfl,nle rfl⟩,trivial⟩ (fun h=>?_);conv=>whnf
   refine And.intro ?_ (And.intro ?_ ?_)<;>(conv=>whnf)
   ·refine nlA rfl ?_;conv=>whnf
    refine bKo rfl ?_;conv=>whnf
    refine gKo rfl ?_;conv=>whnf
    refine And.intro ?_ ?_<;>(conv=>whnf)
    ·refine bN (enc:=cB) (d:=default) dCo h (.inl rfl) rfl rfl rfl ⟨rfl,nle rfl,nle rfl,nle rfl,rfl⟩ (fun _=>rfl) (.inr (.inr ⟨_,_,rfl,rfl,rfl⟩)) (fun h=>?_);conv=>whnf
     refine bKo rfl ?_;conv=>whnf
     refine And.intro rfl (And.intro (nle rfl) (And.intro rfl ?_));conv=>whnf
     refine hK _ _ _ ?_
     refine aD dCo rfl fun K hK=>?_;conv=>whnf
     refine nlA rfl ?_;conv=>whnf
     refine bKo rfl ?_;conv=>whnf
     refine nlA rfl ?_;conv=>whnf
     replace h:=aS h
     refine aJ h32 h (aA (aK (aA (Wk.refl _) (aA aH aB))) aB) (fun _ h=>?_);conv=>whnf
     refine hK _ _ _ ?_
     refine aD dCo rfl fun K hK=>?_;conv=>whnf
     replace h:=dF h
     refine cLk h (fun _ h=>?_) (fun _ h=>?_)<;>(conv=>whnf)
     ·refine nlA rfl ?_;conv=>whnf
      refine bKo rfl ?_;conv=>whnf
      refine nlA rfl ?_;conv=>whnf
      replace h:=aS h
      refine aI h34 h (aA (aK (aA (Wk.refl _) (aA aH aB))) aB) (fun _ h=>?_);conv=>whnf
      refine cLk h (fun _ h=>?_) (fun _ h=>?_)<;>(conv=>whnf)
      ·refine nlA rfl ?_;conv=>whnf
       refine bKo rfl ?_;conv=>whnf
       refine nlA rfl ?_;conv=>whnf
       replace h:=aS h
       refine aE h33 h (aA (aK (aA (Wk.refl _) (aA aH aB))) aB) (fun _ h=>?_);conv=>whnf
       refine hK _ _ _ ?_
       refine aG ?_
       replace h:=aF h
       refine aC dCo fun K hK=>?_;conv=>whnf
       refine hK _ ?_
       cases h
       exact Wk.refl _
      refine hK _ _ _ ?_
      refine aG ?_
      replace h:=aF h
      refine aC dCo fun K hK=>?_;conv=>whnf
      refine hK _ ?_
      cases h
      exact Wk.refl _
     refine hK _ _ _ ?_
     refine aG ?_
     replace h:=aF h
     refine aC dCo fun K hK=>?_;conv=>whnf
     refine hK _ ?_
     cases h
     exact Wk.refl _
    refine bN (enc:=cB) (d:=default) dCo h (.inl rfl) rfl rfl rfl ⟨rfl,nle rfl,nle rfl,nle rfl,rfl⟩ (fun _=>rfl) (.inr (.inr ⟨_,_,rfl,rfl,rfl⟩)) (fun h=>?_);conv=>whnf
    refine bKo rfl ?_;conv=>whnf
    refine And.intro rfl (And.intro (nle rfl) (And.intro rfl ?_));conv=>whnf
    refine hK _ _ _ ?_
    refine aD dCo rfl fun K hK=>?_;conv=>whnf
    refine nlA rfl ?_;conv=>whnf
    refine bKo rfl ?_;conv=>whnf
    refine nlA rfl ?_;conv=>whnf
    replace h:=aS h
    refine aJ h32 h (aA (aK (aA (Wk.refl _) (aA aH aB))) aB) (fun _ h=>?_);conv=>whnf
    refine hK _ _ _ ?_
    refine aD dCo rfl fun K hK=>?_;conv=>whnf
    replace h:=dF h
    refine cLk h (fun _ h=>?_) (fun _ h=>?_)<;>(conv=>whnf)
    ·refine nlA rfl ?_;conv=>whnf
     refine bKo rfl ?_;conv=>whnf
     refine nlA rfl ?_;conv=>whnf
     replace h:=aS h
     refine aI h34 h (aA (aK (aA (Wk.refl _) (aA aH aB))) aB) (fun _ h=>?_);conv=>whnf
     refine cLk h (fun _ h=>?_) (fun _ h=>?_)<;>(conv=>whnf)
     ·refine nlA rfl ?_;conv=>whnf
      refine bKo rfl ?_;conv=>whnf
      refine nlA rfl ?_;conv=>whnf
      replace h:=aS h
      refine aE h33 h (aA (aK (aA (Wk.refl _) (aA aH aB))) aB) (fun _ h=>?_);conv=>whnf
      refine hK _ _ _ ?_
      refine aG ?_
      replace h:=aF h
      refine aC dCo fun K hK=>?_;conv=>whnf
      refine hK _ ?_
      cases h
      exact Wk.refl _
     refine hK _ _ _ ?_
     refine aG ?_
     replace h:=aF h
     refine aC dCo fun K hK=>?_;conv=>whnf
     refine hK _ ?_
     cases h
     exact Wk.refl _
    refine hK _ _ _ ?_
    refine aG ?_
    replace h:=aF h
    refine aC dCo fun K hK=>?_;conv=>whnf
    refine hK _ ?_
    cases h
    exact Wk.refl _
   ·refine bN (enc:=cB) (d:=default) dCo h (.inl rfl) rfl rfl rfl ⟨rfl,nle rfl,nle rfl,nle rfl,rfl⟩ (fun _=>rfl) (.inr (.inr ⟨_,_,rfl,rfl,rfl⟩)) (fun h=>?_);conv=>whnf
    refine nlA rfl ?_;conv=>whnf
    refine bKo rfl ?_;conv=>whnf
    refine gKo rfl ?_;conv=>whnf
    refine bKo rfl ?_;conv=>whnf
    refine And.intro rfl (And.intro (nle rfl) (And.intro rfl ?_));conv=>whnf
    refine hK _ _ _ ?_
    refine aD dCo rfl fun K hK=>?_;conv=>whnf
    refine nlA rfl ?_;conv=>whnf
    refine bKo rfl ?_;conv=>whnf
    refine nlA rfl ?_;conv=>whnf
    replace h:=aS h
    refine aJ h32 h (aA (aK (aA (Wk.refl _) (aA aH aB))) aB) (fun _ h=>?_);conv=>whnf
    refine hK _ _ _ ?_
    refine aD dCo rfl fun K hK=>?_;conv=>whnf
    replace h:=dF h
    refine cLk h (fun _ h=>?_) (fun _ h=>?_)<;>(conv=>whnf)
    ·refine nlA rfl ?_;conv=>whnf
     refine bKo rfl ?_;conv=>whnf
     refine nlA rfl ?_;conv=>whnf
     replace h:=aS h
     refine aI h34 h (aA (aK (aA (Wk.refl _) (aA aH aB))) aB) (fun _ h=>?_);conv=>whnf
     refine cLk h (fun _ h=>?_) (fun _ h=>?_)<;>(conv=>whnf)
     ·refine nlA rfl ?_;conv=>whnf
      refine bKo rfl ?_;conv=>whnf
      refine nlA rfl ?_;conv=>whnf
      replace h:=aS h
      refine aE h33 h (aA (aK (aA (Wk.refl _) (aA aH aB))) aB) (fun _ h=>?_);conv=>whnf
      refine hK _ _ _ ?_
      refine aG ?_
      replace h:=aF h
      refine aC dCo fun K hK=>?_;conv=>whnf
      refine hK _ ?_
      cases h
      exact Wk.refl _
     refine hK _ _ _ ?_
     refine aG ?_
     replace h:=aF h
     refine aC dCo fun K hK=>?_;conv=>whnf
     refine hK _ ?_
     cases h
     exact Wk.refl _
    refine hK _ _ _ ?_
    refine aG ?_
    replace h:=aF h
    refine aC dCo fun K hK=>?_;conv=>whnf
    refine hK _ ?_
    cases h
    exact Wk.refl _
   refine And.intro ?_ ?_<;>(conv=>whnf)
   ·refine nlA rfl ?_;conv=>whnf
    refine bKo rfl ?_;conv=>whnf
    refine gKo rfl ?_;conv=>whnf
    refine bN (enc:=cB) (d:=default) dCo h (.inl rfl) rfl rfl rfl ⟨rfl,nle rfl,nle rfl,nle rfl,rfl⟩ (fun _=>rfl) (.inr (.inr ⟨_,_,rfl,rfl,rfl⟩)) (fun h=>?_);conv=>whnf
    refine bKo rfl ?_;conv=>whnf
    refine And.intro rfl (And.intro (nle rfl) (And.intro rfl ?_));conv=>whnf
    refine hK _ _ _ ?_
    refine aD dCo rfl fun K hK=>?_;conv=>whnf
    refine nlA rfl ?_;conv=>whnf
    refine bKo rfl ?_;conv=>whnf
    refine nlA rfl ?_;conv=>whnf
    replace h:=aS h
    refine aJ h32 h (aA (aK (aA (Wk.refl _) (aA aH aB))) aB) (fun _ h=>?_);conv=>whnf
    refine hK _ _ _ ?_
    refine aD dCo rfl fun K hK=>?_;conv=>whnf
    replace h:=dF h
    refine cLk h (fun _ h=>?_) (fun _ h=>?_)<;>(conv=>whnf)
    ·refine nlA rfl ?_;conv=>whnf
     refine bKo rfl ?_;conv=>whnf
     refine nlA rfl ?_;conv=>whnf
     replace h:=aS h
     refine aI h34 h (aA (aK (aA (Wk.refl _) (aA aH aB))) aB) (fun _ h=>?_);conv=>whnf
     refine cLk h (fun _ h=>?_) (fun _ h=>?_)<;>(conv=>whnf)
     ·refine nlA rfl ?_;conv=>whnf
      refine bKo rfl ?_;conv=>whnf
      refine nlA rfl ?_;conv=>whnf
      replace h:=aS h
      refine aE h33 h (aA (aK (aA (Wk.refl _) (aA aH aB))) aB) (fun _ h=>?_);conv=>whnf
      refine hK _ _ _ ?_
      refine aG ?_
      replace h:=aF h
      refine aC dCo fun K hK=>?_;conv=>whnf
      refine hK _ ?_
      cases h
      exact Wk.refl _
     refine hK _ _ _ ?_
     refine aG ?_
     replace h:=aF h
     refine aC dCo fun K hK=>?_;conv=>whnf
     refine hK _ ?_
     cases h
     exact Wk.refl _
    refine hK _ _ _ ?_
    refine aG ?_
    replace h:=aF h
    refine aC dCo fun K hK=>?_;conv=>whnf
    refine hK _ ?_
    cases h
    exact Wk.refl _
   refine bN (enc:=cB) (d:=default) dCo h (.inl rfl) rfl rfl rfl ⟨rfl,nle rfl,nle rfl,nle rfl,rfl⟩ (fun _=>rfl) (.inr (.inr ⟨_,_,rfl,rfl,rfl⟩)) (fun h=>?_);conv=>whnf
   refine nlA rfl ?_;conv=>whnf
   refine bKo rfl ?_;conv=>whnf
   refine gKo rfl ?_;conv=>whnf
   refine bKo rfl ?_;conv=>whnf
   refine And.intro rfl (And.intro (nle rfl) (And.intro rfl ?_));conv=>whnf
   refine hK _ _ _ ?_
   refine aD dCo rfl fun K hK=>?_;conv=>whnf
   refine nlA rfl ?_;conv=>whnf
   refine bKo rfl ?_;conv=>whnf
   refine nlA rfl ?_;conv=>whnf
   replace h:=aS h
   refine aJ h32 h (aA (aK (aA (Wk.refl _) (aA aH aB))) aB) (fun _ h=>?_);conv=>whnf
   refine hK _ _ _ ?_
   refine aD dCo rfl fun K hK=>?_;conv=>whnf
   replace h:=dF h
   refine cLk h (fun _ h=>?_) (fun _ h=>?_)<;>(conv=>whnf)
   ·refine nlA rfl ?_;conv=>whnf
    refine bKo rfl ?_;conv=>whnf
    refine nlA rfl ?_;conv=>whnf
    replace h:=aS h
    refine aI h34 h (aA (aK (aA (Wk.refl _) (aA aH aB))) aB) (fun _ h=>?_);conv=>whnf
    refine cLk h (fun _ h=>?_) (fun _ h=>?_)<;>(conv=>whnf)
    ·refine nlA rfl ?_;conv=>whnf
     refine bKo rfl ?_;conv=>whnf
     refine nlA rfl ?_;conv=>whnf
     replace h:=aS h
     refine aE h33 h (aA (aK (aA (Wk.refl _) (aA aH aB))) aB) (fun _ h=>?_);conv=>whnf
     refine hK _ _ _ ?_
     refine aG ?_
     replace h:=aF h
     refine aC dCo fun K hK=>?_;conv=>whnf
     refine hK _ ?_
     cases h
     exact Wk.refl _
    refine hK _ _ _ ?_
    refine aG ?_
    replace h:=aF h
    refine aC dCo fun K hK=>?_;conv=>whnf
    refine hK _ ?_
    cases h
    exact Wk.refl _
   refine hK _ _ _ ?_
   refine aG ?_
   replace h:=aF h
   refine aC dCo fun K hK=>?_;conv=>whnf
   refine hK _ ?_
   cases h
   exact Wk.refl _
  refine hK _ _ _ ?_
  refine bA fun K1 K2 hK1 hK2=>?_;conv=>whnf
  refine hK2 ?_
  replace h:=pI h
  refine bK ?_
  refine aY ?_
  refine aY ?_
  refine aX ?_
  replace h:=dE h
  replace h:=dB h
  refine tHn ?_
  refine aN ?_
  refine aD dCo rfl fun K hK=>?_;conv=>whnf
  refine nlA rfl ?_;conv=>whnf
  refine bKo rfl ?_;conv=>whnf
  refine nlA rfl ?_;conv=>whnf
  replace h:=aS h
  refine fN h35 h (aA (Wk.refl _) (aA aH aB)) (fun _ h=>?_);conv=>whnf
  refine hK _ _ _ ?_
  replace h:=dF h
  refine bA fun K1 K2 hK1 hK2=>?_;conv=>whnf
  refine cLk h (fun _ h=>?_) (fun _ h=>?_)
  ·refine hK1 ?_
   refine aN ?_
   refine aD dCo rfl fun K hK=>?_;conv=>whnf
   replace h:=dF h
   refine cLk h (fun _ h=>?_) (fun _ h=>?_)<;>(conv=>whnf)
   ·refine hK _ _ _ ?_
    refine bA fun K1 K2 hK1 hK2=>?_;conv=>whnf
    refine hK1 ?_
    replace h:=mN h
    refine aD dCo rfl fun K hK=>?_;conv=>whnf
    refine hK _ _ _ ?_
    refine aG ?_
    refine aR ?_
    refine aR ?_
    replace h:=aF h
    refine aC dCo fun K hK=>?_;conv=>whnf
    refine hK _ ?_
    cases h
    exact Wk.refl _
   refine hK _ _ _ ?_
   refine bA fun K1 K2 hK1 hK2=>?_;conv=>whnf
   refine cLk h (fun _ h=>?_) (fun _ h=>?_)
   ·refine hK1 ?_
    refine aD dCo rfl fun K hK=>?_;conv=>whnf
    refine hK _ _ _ ?_
    refine aG ?_
    refine aR ?_
    refine aR ?_
    replace h:=aF h
    refine aC dCo fun K hK=>?_;conv=>whnf
    refine hK _ ?_
    cases h
    exact Wk.refl _
   refine hK2 ?_
   refine aL ?_
   refine tHn ?_
   refine aD dCo rfl fun K hK=>?_;conv=>whnf
   refine hK _ _ _ ?_
   refine aQ ?_
   replace h:=aS h
   refine fP (body:=bJ _ _) rfl h [3,4,11,12,13,17] [12,17] [] (fun kl kh ids b s=>⟨ofL ([(19,eI s)]++kl),ofH ([]++kh),b+64⟩) ?_;(conv=>whnf);refine And.intro ?_ (fun s m h=>dO ?_)
   ·refine bI ?_;conv=>whnf
    exact And.intro rfl (And.intro (aLc wkI (aLc wkI (aLc wkI (aLc (wkr (lsB _)) (aLc (WkR.ptr (fun _=>rfl)) (aLc (wkr (lsL fun _=>(lsI _ _))) (aLc (WkR.tok (fun _=>rfl) rfl (fun _ _=>Wk.refl _) (fun _=>(lsI _ _))) aLn))))))) (aLc ⟨some _,rfl,bRc rfl (cKc wkI (cKc (wkr (lsL fun _=>(aO _))) cKn))⟩ (aLc ⟨some _,rfl,bRc rfl cKn⟩ aLn)))
   replace h:=aS h;rw [bJ.eq_1] at h
   refine aN ?_
   refine aD dCo rfl fun K hK=>?_;conv=>whnf
   replace h:=dF h
   refine cLk h (fun _ h=>?_) (fun _ h=>?_)<;>(conv=>whnf)
   ·refine hK _ _ _ ?_
    refine bA fun K1 K2 hK1 hK2=>?_;conv=>whnf
    refine cLk h (fun _ h=>?_) (fun _ h=>?_)
    ·refine hK1 ?_
     refine aL ?_
     refine tHn ?_
     refine aN ?_
     refine aQ ?_
     refine mQ dCo cV rfl (by kernel_rfl) fun K hK=>?_;conv=>whnf
     refine eQ h fun _ h=>?_;conv=>whnf
     refine gKo rfl ?_;conv=>whnf
     refine eQ h fun _ h=>?_;conv=>whnf
     refine gKo rfl ?_;conv=>whnf
     refine hK _ _ _ ?_
     refine bA fun K1 K2 hK1 hK2=>?_;conv=>whnf
     refine cLk h (fun _ h=>?_) (fun _ h=>?_)
     ·refine hK1 ?_
      refine aN ?_
      refine mQ dCo cV rfl (by kernel_rfl) fun K hK=>?_;conv=>whnf
      refine eQ h fun _ h=>?_;conv=>whnf
      refine gKo rfl ?_;conv=>whnf
      refine eQ h fun _ h=>?_;conv=>whnf
      refine gKo rfl ?_;conv=>whnf
      refine hK _ _ _ ?_
      refine bA fun K1 K2 hK1 hK2=>?_;conv=>whnf
      refine cLk h (fun _ h=>?_) (fun _ h=>?_)
      ·refine hK1 ?_
       refine aD dCo rfl fun K hK=>?_;conv=>whnf
       refine hK _ _ _ ?_
       refine aG ?_
       refine aR ?_
       refine bB ?_
       refine aR ?_
       refine aR ?_
       refine bB ?_
       refine aR ?_
       replace h:=iJ h
       replace h:=iK h
       replace h:=aF h
       refine aC dCo fun K hK=>?_;conv=>whnf
       refine hK _ ?_
       cases h
       exact Wk.refl _
      refine hK2 ?_
      refine aL ?_
      refine tHn ?_
      refine bK ?_
      refine oN (by decide) ?_
      refine aY ?_
      refine aY ?_
      refine aX ?_
      replace h:=dE h
      replace h:=dB h
      refine tHn ?_
      refine aD dCo rfl fun K hK=>?_;conv=>whnf
      replace h:=aS h
      refine aV h13 h (WkL.refl _) (fun _ h=>?_);conv=>whnf
      refine hK _ _ _ ?_
      refine aD dCo rfl fun K hK=>?_;conv=>whnf
      replace h:=aS h
      refine aV h13 h (WkL.refl _) (fun _ h=>?_);conv=>whnf
      refine hK _ _ _ ?_
      refine aN ?_
      refine aD dCo rfl fun K hK=>?_;conv=>whnf
      refine nlA rfl ?_;conv=>whnf
      refine bKo rfl ?_;conv=>whnf
      refine nlA rfl ?_;conv=>whnf
      replace h:=aS h
      refine bH h27 h (WkL.refl _) (fun _ h=>?_);conv=>whnf
      refine hK _ _ _ ?_
      refine bA fun K1 K2 hK1 hK2=>?_;conv=>whnf
      refine cLk h (fun _ h=>?_) (fun _ h=>?_)
      ·refine hK1 ?_
       refine aD dCo rfl fun K hK=>?_;conv=>whnf
       refine hK _ _ _ ?_
       refine aG ?_
       refine aR ?_
       replace h:=aF h
       refine aC dCo fun K hK=>?_;conv=>whnf
       refine hK _ ?_
       cases h
       exact Wk.refl _
      refine hK2 ?_
      refine aL ?_
      refine tHn ?_
      refine jR (.step 0 (.step 2 (.step 3 (.step 4 (.step 5 (.step 6 (.step 7 (.step 8 (.step 9 (.thr 1 10 12 (.two 10 12 (.step 12 (.step 11 (.step 13 (.nil)))) (.step 10 (.step 11 (.step 13 (.nil))))) (.step 1 (.step 12 (.step 11 (.step 13 (.nil))))) (.two 1 10 (.step 10 (.step 11 (.step 13 (.nil)))) (.step 1 (.step 11 (.step 13 (.nil))))))))))))))) dCo cV rfl (by kernel_rfl) fun K hK=>?_;conv=>whnf
      refine cI (enc:=cB) (d:=default) dCo h rfl rfl rfl ⟨nle rfl,nle rfl,rfl⟩ rfl trivial (fun h=>?_);conv=>whnf
      refine nlA rfl ?_;conv=>whnf
      refine bKo rfl ?_;conv=>whnf
      refine gKo rfl ?_;conv=>whnf
      refine jD (enc:=cB) (d:=default) dCo h rfl rfl rfl ⟨rfl,nle rfl,nle rfl,nle rfl,rfl⟩ (fun _=>rfl) (fun h=>?_);conv=>whnf
      refine cI (enc:=cB) (d:=default) dCo h rfl rfl rfl ⟨nle rfl,nle rfl,rfl⟩ rfl ⟨⟨rfl,nle rfl⟩,trivial⟩ (fun h=>?_);conv=>whnf
      refine And.intro ?_ (And.intro ?_ ?_)<;>(conv=>whnf)
      ·refine nlA rfl ?_;conv=>whnf
       refine bKo rfl ?_;conv=>whnf
       refine gKo rfl ?_;conv=>whnf
       refine And.intro ?_ ?_<;>(conv=>whnf)
       ·refine bN (enc:=cB) (d:=default) dCo h (.inl rfl) rfl rfl rfl ⟨rfl,nle rfl,nle rfl,nle rfl,rfl⟩ (fun _=>rfl) (.inr (.inr ⟨_,_,rfl,rfl,rfl⟩)) (fun h=>?_);conv=>whnf
        refine bKo rfl ?_;conv=>whnf
        refine And.intro rfl (And.intro (nle rfl) (And.intro rfl ?_));conv=>whnf
        refine hK _ _ _ ?_
        refine aD dCo rfl fun K hK=>?_;conv=>whnf
        refine nlA rfl ?_;conv=>whnf
        refine bKo rfl ?_;conv=>whnf
        refine nlA rfl ?_;conv=>whnf
        replace h:=aS h
        refine aJ h32 h (aA (aK (aA (Wk.refl _) (aA aH aB))) aB) (fun _ h=>?_);conv=>whnf
        refine hK _ _ _ ?_
        refine aD dCo rfl fun K hK=>?_;conv=>whnf
        replace h:=dF h
        refine cLk h (fun _ h=>?_) (fun _ h=>?_)<;>(conv=>whnf)
        ·refine nlA rfl ?_;conv=>whnf
         refine bKo rfl ?_;conv=>whnf
         refine nlA rfl ?_;conv=>whnf
         replace h:=aS h
         refine aI h34 h (aA (aK (aA (Wk.refl _) (aA aH aB))) aB) (fun _ h=>?_);conv=>whnf
         refine cLk h (fun _ h=>?_) (fun _ h=>?_)<;>(conv=>whnf)
         ·refine nlA rfl ?_;conv=>whnf
          refine bKo rfl ?_;conv=>whnf
          refine nlA rfl ?_;conv=>whnf
          replace h:=aS h
          refine aE h33 h (aA (aK (aA (Wk.refl _) (aA aH aB))) aB) (fun _ h=>?_);conv=>whnf
          refine hK _ _ _ ?_
          refine aG ?_
          replace h:=aF h
          refine aC dCo fun K hK=>?_;conv=>whnf
          refine hK _ ?_
          cases h
          exact Wk.refl _
         refine hK _ _ _ ?_
         refine aG ?_
         replace h:=aF h
         refine aC dCo fun K hK=>?_;conv=>whnf
         refine hK _ ?_
         cases h
         exact Wk.refl _
        refine hK _ _ _ ?_
        refine aG ?_
        replace h:=aF h
        refine aC dCo fun K hK=>?_;conv=>whnf
        refine hK _ ?_
        cases h
        exact Wk.refl _
       refine bN (enc:=cB) (d:=default) dCo h (.inl rfl) rfl rfl rfl ⟨rfl,nle rfl,nle rfl,nle rfl,rfl⟩ (fun _=>rfl) (.inr (.inr ⟨_,_,rfl,rfl,rfl⟩)) (fun h=>?_);conv=>whnf
       refine bKo rfl ?_;conv=>whnf
       refine And.intro rfl (And.intro (nle rfl) (And.intro rfl ?_));conv=>whnf
       refine hK _ _ _ ?_
       refine aD dCo rfl fun K hK=>?_;conv=>whnf
       refine nlA rfl ?_;conv=>whnf
       refine bKo rfl ?_;conv=>whnf
       refine nlA rfl ?_;conv=>whnf
       replace h:=aS h
       refine aJ h32 h (aA (aK (aA (Wk.refl _) (aA aH aB))) aB) (fun _ h=>?_);conv=>whnf
       refine hK _ _ _ ?_
       refine aD dCo rfl fun K hK=>?_;conv=>whnf
       replace h:=dF h
       refine cLk h (fun _ h=>?_) (fun _ h=>?_)<;>(conv=>whnf)
       ·refine nlA rfl ?_;conv=>whnf
        refine bKo rfl ?_;conv=>whnf
        refine nlA rfl ?_;conv=>whnf
        replace h:=aS h
        refine aI h34 h (aA (aK (aA (Wk.refl _) (aA aH aB))) aB) (fun _ h=>?_);conv=>whnf
        refine cLk h (fun _ h=>?_) (fun _ h=>?_)<;>(conv=>whnf)
        ·refine nlA rfl ?_;conv=>whnf
         refine bKo rfl ?_;conv=>whnf
         refine nlA rfl ?_;conv=>whnf
         replace h:=aS h
         refine aE h33 h (aA (aK (aA (Wk.refl _) (aA aH aB))) aB) (fun _ h=>?_);conv=>whnf
         refine hK _ _ _ ?_
         refine aG ?_
         replace h:=aF h
         refine aC dCo fun K hK=>?_;conv=>whnf
         refine hK _ ?_
         cases h
         exact Wk.refl _
        refine hK _ _ _ ?_
        refine aG ?_
        replace h:=aF h
        refine aC dCo fun K hK=>?_;conv=>whnf
        refine hK _ ?_
        cases h
        exact Wk.refl _
       refine hK _ _ _ ?_
       refine aG ?_
       replace h:=aF h
       refine aC dCo fun K hK=>?_;conv=>whnf
       refine hK _ ?_
       cases h
       exact Wk.refl _
      ·refine bN (enc:=cB) (d:=default) dCo h (.inl rfl) rfl rfl rfl ⟨rfl,nle rfl,nle rfl,nle rfl,rfl⟩ (fun _=>rfl) (.inr (.inr ⟨_,_,rfl,rfl,rfl⟩)) (fun h=>?_);conv=>whnf
       refine nlA rfl ?_;conv=>whnf
       refine bKo rfl ?_;conv=>whnf
       refine gKo rfl ?_;conv=>whnf
       refine bKo rfl ?_;conv=>whnf
       refine And.intro rfl (And.intro (nle rfl) (And.intro rfl ?_));conv=>whnf
       refine hK _ _ _ ?_
       refine aD dCo rfl fun K hK=>?_;conv=>whnf
       refine nlA rfl ?_;conv=>whnf
       refine bKo rfl ?_;conv=>whnf
       refine nlA rfl ?_;conv=>whnf
       replace h:=aS h
       refine aJ h32 h (aA (aK (aA (Wk.refl _) (aA aH aB))) aB) (fun _ h=>?_);conv=>whnf
       refine hK _ _ _ ?_
       refine aD dCo rfl fun K hK=>?_;conv=>whnf
       replace h:=dF h
       refine cLk h (fun _ h=>?_) (fun _ h=>?_)<;>(conv=>whnf)
       ·refine nlA rfl ?_;conv=>whnf
        refine bKo rfl ?_;conv=>whnf
        refine nlA rfl ?_;conv=>whnf
        replace h:=aS h
        refine aI h34 h (aA (aK (aA (Wk.refl _) (aA aH aB))) aB) (fun _ h=>?_);conv=>whnf
        refine cLk h (fun _ h=>?_) (fun _ h=>?_)<;>(conv=>whnf)
        ·refine nlA rfl ?_;conv=>whnf
         refine bKo rfl ?_;conv=>whnf
         refine nlA rfl ?_;conv=>whnf
         replace h:=aS h
         refine aE h33 h (aA (aK (aA (Wk.refl _) (aA aH aB))) aB) (fun _ h=>?_);conv=>whnf
         refine hK _ _ _ ?_
         refine aG ?_
         replace h:=aF h
         refine aC dCo fun K hK=>?_;conv=>whnf
         refine hK _ ?_
         cases h
         exact Wk.refl _
        refine hK _ _ _ ?_
        refine aG ?_
        replace h:=aF h
        refine aC dCo fun K hK=>?_;conv=>whnf
        refine hK _ ?_
        cases h
        exact Wk.refl _
       refine hK _ _ _ ?_
       refine aG ?_
       replace h:=aF h
       refine aC dCo fun K hK=>?_;conv=>whnf
       refine hK _ ?_
       cases h
       exact Wk.refl _
      refine And.intro ?_ ?_<;>(conv=>whnf)
      ·refine nlA rfl ?_;conv=>whnf
       refine bKo rfl ?_;conv=>whnf
       refine gKo rfl ?_;conv=>whnf
       refine bN (enc:=cB) (d:=default) dCo h (.inl rfl) rfl rfl rfl ⟨rfl,nle rfl,nle rfl,nle rfl,rfl⟩ (fun _=>rfl) (.inr (.inr ⟨_,_,rfl,rfl,rfl⟩)) (fun h=>?_);conv=>whnf
       refine bKo rfl ?_;conv=>whnf
       refine And.intro rfl (And.intro (nle rfl) (And.intro rfl ?_));conv=>whnf
       refine hK _ _ _ ?_
       refine aD dCo rfl fun K hK=>?_;conv=>whnf
       refine nlA rfl ?_;conv=>whnf
       refine bKo rfl ?_;conv=>whnf
       refine nlA rfl ?_;conv=>whnf
       replace h:=aS h
       refine aJ h32 h (aA (aK (aA (Wk.refl _) (aA aH aB))) aB) (fun _ h=>?_);conv=>whnf
       refine hK _ _ _ ?_
       refine aD dCo rfl fun K hK=>?_;conv=>whnf
       replace h:=dF h
       refine cLk h (fun _ h=>?_) (fun _ h=>?_)<;>(conv=>whnf)
       ·refine nlA rfl ?_;conv=>whnf
        refine bKo rfl ?_;conv=>whnf
        refine nlA rfl ?_;conv=>whnf
        replace h:=aS h
        refine aI h34 h (aA (aK (aA (Wk.refl _) (aA aH aB))) aB) (fun _ h=>?_);conv=>whnf
        refine cLk h (fun _ h=>?_) (fun _ h=>?_)<;>(conv=>whnf)
        ·refine nlA rfl ?_;conv=>whnf
         refine bKo rfl ?_;conv=>whnf
         refine nlA rfl ?_;conv=>whnf
         replace h:=aS h
         refine aE h33 h (aA (aK (aA (Wk.refl _) (aA aH aB))) aB) (fun _ h=>?_);conv=>whnf
         refine hK _ _ _ ?_
         refine aG ?_
         replace h:=aF h
         refine aC dCo fun K hK=>?_;conv=>whnf
         refine hK _ ?_
         cases h
         exact Wk.refl _
        refine hK _ _ _ ?_
        refine aG ?_
        replace h:=aF h
        refine aC dCo fun K hK=>?_;conv=>whnf
        refine hK _ ?_
        cases h
        exact Wk.refl _
       refine hK _ _ _ ?_
       refine aG ?_
       replace h:=aF h
       refine aC dCo fun K hK=>?_;conv=>whnf
       refine hK _ ?_
       cases h
       exact Wk.refl _
      refine bN (enc:=cB) (d:=default) dCo h (.inl rfl) rfl rfl rfl ⟨rfl,nle rfl,nle rfl,nle rfl,rfl⟩ (fun _=>rfl) (.inr (.inr ⟨_,_,rfl,rfl,rfl⟩)) (fun h=>?_);conv=>whnf
      refine nlA rfl ?_;conv=>whnf
      refine bKo rfl ?_;conv=>whnf
      refine gKo rfl ?_;conv=>whnf
      refine bKo rfl ?_;conv=>whnf
      refine And.intro rfl (And.intro (nle rfl) (And.intro rfl ?_));conv=>whnf
      refine hK _ _ _ ?_
      refine aD dCo rfl fun K hK=>?_;conv=>whnf
      refine nlA rfl ?_;conv=>whnf
      refine bKo rfl ?_;conv=>whnf
      refine nlA rfl ?_;conv=>whnf
      replace h:=aS h
      refine aJ h32 h (aA (aK (aA (Wk.refl _) (aA aH aB))) aB) (fun _ h=>?_);conv=>whnf
      refine hK _ _ _ ?_
      refine aD dCo rfl fun K hK=>?_;conv=>whnf
      replace h:=dF h
      refine cLk h (fun _ h=>?_) (fun _ h=>?_)<;>(conv=>whnf)
      ·refine nlA rfl ?_;conv=>whnf
       refine bKo rfl ?_;conv=>whnf
       refine nlA rfl ?_;conv=>whnf
       replace h:=aS h
       refine aI h34 h (aA (aK (aA (Wk.refl _) (aA aH aB))) aB) (fun _ h=>?_);conv=>whnf
       refine cLk h (fun _ h=>?_) (fun _ h=>?_)<;>(conv=>whnf)
       ·refine nlA rfl ?_;conv=>whnf
        refine bKo rfl ?_;conv=>whnf
        refine nlA rfl ?_;conv=>whnf
        replace h:=aS h
        refine aE h33 h (aA (aK (aA (Wk.refl _) (aA aH aB))) aB) (fun _ h=>?_);conv=>whnf
        refine hK _ _ _ ?_
        refine aG ?_
        replace h:=aF h
        refine aC dCo fun K hK=>?_;conv=>whnf
        refine hK _ ?_
        cases h
        exact Wk.refl _
       refine hK _ _ _ ?_
       refine aG ?_
       replace h:=aF h
       refine aC dCo fun K hK=>?_;conv=>whnf
       refine hK _ ?_
       cases h
       exact Wk.refl _
      refine hK _ _ _ ?_
      refine aG ?_
      replace h:=aF h
      refine aC dCo fun K hK=>?_;conv=>whnf
      refine hK _ ?_
      cases h
      exact Wk.refl _
     refine hK2 ?_
     refine aL ?_
     refine iBn ?_
     refine tHn ?_
     refine cX dCo rfl fun K hK=>?_;conv=>whnf
     refine hK _ _ _ ?_
     refine tHn ?_
     replace h:=bX h
     refine ⟨_,h,?_⟩
     refine bI ?_;conv=>whnf
     exact And.intro rfl (And.intro (aLc wkI (aLc wkI (aLc wkI (aLc (wkr (lsB _)) (aLc (WkR.ptr (fun _=>rfl)) (aLc (wkr (lsL fun _=>(lsI _ _))) (aLc (WkR.tok (fun _=>rfl) rfl (fun _ _=>Wk.refl _) (fun _=>(lsI _ _))) aLn))))))) (aLc ⟨some _,rfl,bRc rfl (cKc wkI (cKc (wkr (lsL fun _=>(aO _))) cKn))⟩ (aLc ⟨some _,rfl,bRc rfl cKn⟩ aLn)))
    refine hK2 ?_
    refine bK ?_
    refine aY ?_
    refine aY ?_
    refine aX ?_
    replace h:=dE h
    replace h:=dB h
    refine tHn ?_
    refine aD dCo rfl fun K hK=>?_;conv=>whnf
    replace h:=aS h
    refine aV h13 h (WkL.refl _) (fun _ h=>?_);conv=>whnf
    refine hK _ _ _ ?_
    refine aD dCo rfl fun K hK=>?_;conv=>whnf
    replace h:=aS h
    refine aV h13 h (WkL.refl _) (fun _ h=>?_);conv=>whnf
    refine hK _ _ _ ?_
    refine aN ?_
    refine aD dCo rfl fun K hK=>?_;conv=>whnf
    refine nlA rfl ?_;conv=>whnf
    refine bKo rfl ?_;conv=>whnf
    refine nlA rfl ?_;conv=>whnf
    replace h:=aS h
    refine bH h27 h (WkL.refl _) (fun _ h=>?_);conv=>whnf
    refine hK _ _ _ ?_
    refine bA fun K1 K2 hK1 hK2=>?_;conv=>whnf
    refine cLk h (fun _ h=>?_) (fun _ h=>?_)
    ·refine hK1 ?_
     refine aD dCo rfl fun K hK=>?_;conv=>whnf
     refine hK _ _ _ ?_
     refine aG ?_
     refine aR ?_
     replace h:=aF h
     refine aC dCo fun K hK=>?_;conv=>whnf
     refine hK _ ?_
     cases h
     exact Wk.refl _
    refine hK2 ?_
    refine aL ?_
    refine tHn ?_
    refine jR (.step 0 (.step 2 (.step 3 (.step 4 (.step 5 (.step 6 (.step 7 (.step 8 (.step 9 (.thr 1 10 12 (.two 10 12 (.step 12 (.step 11 (.step 13 (.nil)))) (.step 10 (.step 11 (.step 13 (.nil))))) (.step 1 (.step 12 (.step 11 (.step 13 (.nil))))) (.two 1 10 (.step 10 (.step 11 (.step 13 (.nil)))) (.step 1 (.step 11 (.step 13 (.nil))))))))))))))) dCo cV rfl (by kernel_rfl) fun K hK=>?_;conv=>whnf
    refine cI (enc:=cB) (d:=default) dCo h rfl rfl rfl ⟨nle rfl,nle rfl,rfl⟩ rfl trivial (fun h=>?_);conv=>whnf
    refine nlA rfl ?_;conv=>whnf
    refine bKo rfl ?_;conv=>whnf
    refine gKo rfl ?_;conv=>whnf
    refine jD (enc:=cB) (d:=default) dCo h rfl rfl rfl ⟨rfl,nle rfl,nle rfl,nle rfl,rfl⟩ (fun _=>rfl) (fun h=>?_);conv=>whnf
    refine cI (enc:=cB) (d:=default) dCo h rfl rfl rfl ⟨nle rfl,nle rfl,rfl⟩ rfl ⟨⟨rfl,nle rfl⟩,trivial⟩ (fun h=>?_);conv=>whnf
    refine And.intro ?_ (And.intro ?_ ?_)<;>(conv=>whnf)
    ·refine nlA rfl ?_;conv=>whnf
     refine bKo rfl ?_;conv=>whnf
     refine gKo rfl ?_;conv=>whnf
     refine And.intro ?_ ?_<;>(conv=>whnf)
     ·refine bN (enc:=cB) (d:=default) dCo h (.inl rfl) rfl rfl rfl ⟨rfl,nle rfl,nle rfl,nle rfl,rfl⟩ (fun _=>rfl) (.inr (.inr ⟨_,_,rfl,rfl,rfl⟩)) (fun h=>?_);conv=>whnf
      refine bKo rfl ?_;conv=>whnf
      refine And.intro rfl (And.intro (nle rfl) (And.intro rfl ?_));conv=>whnf
      refine hK _ _ _ ?_
      refine aD dCo rfl fun K hK=>?_;conv=>whnf
      refine nlA rfl ?_;conv=>whnf
      refine bKo rfl ?_;conv=>whnf
      refine nlA rfl ?_;conv=>whnf
      replace h:=aS h
      refine aJ h32 h (aA (aK (aA (Wk.refl _) (aA aH aB))) aB) (fun _ h=>?_);conv=>whnf
      refine hK _ _ _ ?_
      refine aD dCo rfl fun K hK=>?_;conv=>whnf
      replace h:=dF h
      refine cLk h (fun _ h=>?_) (fun _ h=>?_)<;>(conv=>whnf)
      ·refine nlA rfl ?_;conv=>whnf
       refine bKo rfl ?_;conv=>whnf
       refine nlA rfl ?_;conv=>whnf
       replace h:=aS h
       refine aI h34 h (aA (aK (aA (Wk.refl _) (aA aH aB))) aB) (fun _ h=>?_);conv=>whnf
       refine cLk h (fun _ h=>?_) (fun _ h=>?_)<;>(conv=>whnf)
       ·refine nlA rfl ?_;conv=>whnf
        refine bKo rfl ?_;conv=>whnf
        refine nlA rfl ?_;conv=>whnf
        replace h:=aS h
        refine aE h33 h (aA (aK (aA (Wk.refl _) (aA aH aB))) aB) (fun _ h=>?_);conv=>whnf
        refine hK _ _ _ ?_
        refine aG ?_
        replace h:=aF h
        refine aC dCo fun K hK=>?_;conv=>whnf
        refine hK _ ?_
        cases h
        exact Wk.refl _
       refine hK _ _ _ ?_
       refine aG ?_
       replace h:=aF h
       refine aC dCo fun K hK=>?_;conv=>whnf
       refine hK _ ?_
       cases h
       exact Wk.refl _
      refine hK _ _ _ ?_
      refine aG ?_
      replace h:=aF h
      refine aC dCo fun K hK=>?_;conv=>whnf
      refine hK _ ?_
      cases h
      exact Wk.refl _
     refine bN (enc:=cB) (d:=default) dCo h (.inl rfl) rfl rfl rfl ⟨rfl,nle rfl,nle rfl,nle rfl,rfl⟩ (fun _=>rfl) (.inr (.inr ⟨_,_,rfl,rfl,rfl⟩)) (fun h=>?_);conv=>whnf
     refine bKo rfl ?_;conv=>whnf
     refine And.intro rfl (And.intro (nle rfl) (And.intro rfl ?_));conv=>whnf
     refine hK _ _ _ ?_
     refine aD dCo rfl fun K hK=>?_;conv=>whnf
     refine nlA rfl ?_;conv=>whnf
     refine bKo rfl ?_;conv=>whnf
     refine nlA rfl ?_;conv=>whnf
     replace h:=aS h
     refine aJ h32 h (aA (aK (aA (Wk.refl _) (aA aH aB))) aB) (fun _ h=>?_);conv=>whnf
     refine hK _ _ _ ?_
     refine aD dCo rfl fun K hK=>?_;conv=>whnf
     replace h:=dF h
     refine cLk h (fun _ h=>?_) (fun _ h=>?_)<;>(conv=>whnf)
     ·refine nlA rfl ?_;conv=>whnf
      refine bKo rfl ?_;conv=>whnf
      refine nlA rfl ?_;conv=>whnf
      replace h:=aS h
      refine aI h34 h (aA (aK (aA (Wk.refl _) (aA aH aB))) aB) (fun _ h=>?_);conv=>whnf
      refine cLk h (fun _ h=>?_) (fun _ h=>?_)<;>(conv=>whnf)
      ·refine nlA rfl ?_;conv=>whnf
       refine bKo rfl ?_;conv=>whnf
       refine nlA rfl ?_;conv=>whnf
       replace h:=aS h
       refine aE h33 h (aA (aK (aA (Wk.refl _) (aA aH aB))) aB) (fun _ h=>?_);conv=>whnf
       refine hK _ _ _ ?_
       refine aG ?_
       replace h:=aF h
       refine aC dCo fun K hK=>?_;conv=>whnf
       refine hK _ ?_
       cases h
       exact Wk.refl _
      refine hK _ _ _ ?_
      refine aG ?_
      replace h:=aF h
      refine aC dCo fun K hK=>?_;conv=>whnf
      refine hK _ ?_
      cases h
      exact Wk.refl _
     refine hK _ _ _ ?_
     refine aG ?_
     replace h:=aF h
     refine aC dCo fun K hK=>?_;conv=>whnf
     refine hK _ ?_
     cases h
     exact Wk.refl _
    ·refine bN (enc:=cB) (d:=default) dCo h (.inl rfl) rfl rfl rfl ⟨rfl,nle rfl,nle rfl,nle rfl,rfl⟩ (fun _=>rfl) (.inr (.inr ⟨_,_,rfl,rfl,rfl⟩)) (fun h=>?_);conv=>whnf
     refine nlA rfl ?_;conv=>whnf
     refine bKo rfl ?_;conv=>whnf
     refine gKo rfl ?_;conv=>whnf
     refine bKo rfl ?_;conv=>whnf
     refine And.intro rfl (And.intro (nle rfl) (And.intro rfl ?_));conv=>whnf
     refine hK _ _ _ ?_
     refine aD dCo rfl fun K hK=>?_;conv=>whnf
     refine nlA rfl ?_;conv=>whnf
     refine bKo rfl ?_;conv=>whnf
     refine nlA rfl ?_;conv=>whnf
     replace h:=aS h
     refine aJ h32 h (aA (aK (aA (Wk.refl _) (aA aH aB))) aB) (fun _ h=>?_);conv=>whnf
     refine hK _ _ _ ?_
     refine aD dCo rfl fun K hK=>?_;conv=>whnf
     replace h:=dF h
     refine cLk h (fun _ h=>?_) (fun _ h=>?_)<;>(conv=>whnf)
     ·refine nlA rfl ?_;conv=>whnf
      refine bKo rfl ?_;conv=>whnf
      refine nlA rfl ?_;conv=>whnf
      replace h:=aS h
      refine aI h34 h (aA (aK (aA (Wk.refl _) (aA aH aB))) aB) (fun _ h=>?_);conv=>whnf
      refine cLk h (fun _ h=>?_) (fun _ h=>?_)<;>(conv=>whnf)
      ·refine nlA rfl ?_;conv=>whnf
       refine bKo rfl ?_;conv=>whnf
       refine nlA rfl ?_;conv=>whnf
       replace h:=aS h
       refine aE h33 h (aA (aK (aA (Wk.refl _) (aA aH aB))) aB) (fun _ h=>?_);conv=>whnf
       refine hK _ _ _ ?_
       refine aG ?_
       replace h:=aF h
       refine aC dCo fun K hK=>?_;conv=>whnf
       refine hK _ ?_
       cases h
       exact Wk.refl _
      refine hK _ _ _ ?_
      refine aG ?_
      replace h:=aF h
      refine aC dCo fun K hK=>?_;conv=>whnf
      refine hK _ ?_
      cases h
      exact Wk.refl _
     refine hK _ _ _ ?_
     refine aG ?_
     replace h:=aF h
     refine aC dCo fun K hK=>?_;conv=>whnf
     refine hK _ ?_
     cases h
     exact Wk.refl _
    refine And.intro ?_ ?_<;>(conv=>whnf)
    ·refine nlA rfl ?_;conv=>whnf
     refine bKo rfl ?_;conv=>whnf
     refine gKo rfl ?_;conv=>whnf
     refine bN (enc:=cB) (d:=default) dCo h (.inl rfl) rfl rfl rfl ⟨rfl,nle rfl,nle rfl,nle rfl,rfl⟩ (fun _=>rfl) (.inr (.inr ⟨_,_,rfl,rfl,rfl⟩)) (fun h=>?_);conv=>whnf
     refine bKo rfl ?_;conv=>whnf
     refine And.intro rfl (And.intro (nle rfl) (And.intro rfl ?_));conv=>whnf
     refine hK _ _ _ ?_
     refine aD dCo rfl fun K hK=>?_;conv=>whnf
     refine nlA rfl ?_;conv=>whnf
     refine bKo rfl ?_;conv=>whnf
     refine nlA rfl ?_;conv=>whnf
     replace h:=aS h
     refine aJ h32 h (aA (aK (aA (Wk.refl _) (aA aH aB))) aB) (fun _ h=>?_);conv=>whnf
     refine hK _ _ _ ?_
     refine aD dCo rfl fun K hK=>?_;conv=>whnf
     replace h:=dF h
     refine cLk h (fun _ h=>?_) (fun _ h=>?_)<;>(conv=>whnf)
     ·refine nlA rfl ?_;conv=>whnf
      refine bKo rfl ?_;conv=>whnf
      refine nlA rfl ?_;conv=>whnf
      replace h:=aS h
      refine aI h34 h (aA (aK (aA (Wk.refl _) (aA aH aB))) aB) (fun _ h=>?_);conv=>whnf
      refine cLk h (fun _ h=>?_) (fun _ h=>?_)<;>(conv=>whnf)
      ·refine nlA rfl ?_;conv=>whnf
       refine bKo rfl ?_;conv=>whnf
       refine nlA rfl ?_;conv=>whnf
       replace h:=aS h
       refine aE h33 h (aA (aK (aA (Wk.refl _) (aA aH aB))) aB) (fun _ h=>?_);conv=>whnf
       refine hK _ _ _ ?_
       refine aG ?_
       replace h:=aF h
       refine aC dCo fun K hK=>?_;conv=>whnf
       refine hK _ ?_
       cases h
       exact Wk.refl _
      refine hK _ _ _ ?_
      refine aG ?_
      replace h:=aF h
      refine aC dCo fun K hK=>?_;conv=>whnf
      refine hK _ ?_
      cases h
      exact Wk.refl _
     refine hK _ _ _ ?_
     refine aG ?_
     replace h:=aF h
     refine aC dCo fun K hK=>?_;conv=>whnf
     refine hK _ ?_
     cases h
     exact Wk.refl _
    refine bN (enc:=cB) (d:=default) dCo h (.inl rfl) rfl rfl rfl ⟨rfl,nle rfl,nle rfl,nle rfl,rfl⟩ (fun _=>rfl) (.inr (.inr ⟨_,_,rfl,rfl,rfl⟩)) (fun h=>?_);conv=>whnf
    refine nlA rfl ?_;conv=>whnf
    refine bKo rfl ?_;conv=>whnf
    refine gKo rfl ?_;conv=>whnf
    refine bKo rfl ?_;conv=>whnf
    refine And.intro rfl (And.intro (nle rfl) (And.intro rfl ?_));conv=>whnf
    refine hK _ _ _ ?_
    refine aD dCo rfl fun K hK=>?_;conv=>whnf
    refine nlA rfl ?_;conv=>whnf
    refine bKo rfl ?_;conv=>whnf
    refine nlA rfl ?_;conv=>whnf
    replace h:=aS h
    refine aJ h32 h (aA (aK (aA (Wk.refl _) (aA aH aB))) aB) (fun _ h=>?_);conv=>whnf
    refine hK _ _ _ ?_
    refine aD dCo rfl fun K hK=>?_;conv=>whnf
    replace h:=dF h
    refine cLk h (fun _ h=>?_) (fun _ h=>?_)<;>(conv=>whnf)
    ·refine nlA rfl ?_;conv=>whnf
     refine bKo rfl ?_;conv=>whnf
     refine nlA rfl ?_;conv=>whnf
     replace h:=aS h
     refine aI h34 h (aA (aK (aA (Wk.refl _) (aA aH aB))) aB) (fun _ h=>?_);conv=>whnf
     refine cLk h (fun _ h=>?_) (fun _ h=>?_)<;>(conv=>whnf)
     ·refine nlA rfl ?_;conv=>whnf
      refine bKo rfl ?_;conv=>whnf
      refine nlA rfl ?_;conv=>whnf
      replace h:=aS h
      refine aE h33 h (aA (aK (aA (Wk.refl _) (aA aH aB))) aB) (fun _ h=>?_);conv=>whnf
      refine hK _ _ _ ?_
      refine aG ?_
      replace h:=aF h
      refine aC dCo fun K hK=>?_;conv=>whnf
      refine hK _ ?_
      cases h
      exact Wk.refl _
     refine hK _ _ _ ?_
     refine aG ?_
     replace h:=aF h
     refine aC dCo fun K hK=>?_;conv=>whnf
     refine hK _ ?_
     cases h
     exact Wk.refl _
    refine hK _ _ _ ?_
    refine aG ?_
    replace h:=aF h
    refine aC dCo fun K hK=>?_;conv=>whnf
    refine hK _ ?_
    cases h
    exact Wk.refl _
   refine hK _ _ _ ?_
   refine bA fun K1 K2 hK1 hK2=>?_;conv=>whnf
   refine hK2 ?_
   replace h:=pI h
   refine bK ?_
   refine aY ?_
   refine aY ?_
   refine aX ?_
   replace h:=dE h
   replace h:=dB h
   refine tHn ?_
   refine aD dCo rfl fun K hK=>?_;conv=>whnf
   replace h:=aS h
   refine aV h13 h (WkL.refl _) (fun _ h=>?_);conv=>whnf
   refine hK _ _ _ ?_
   refine aD dCo rfl fun K hK=>?_;conv=>whnf
   replace h:=aS h
   refine aV h13 h (WkL.refl _) (fun _ h=>?_);conv=>whnf
   refine hK _ _ _ ?_
   refine aN ?_
   refine aD dCo rfl fun K hK=>?_;conv=>whnf
   refine nlA rfl ?_;conv=>whnf
   refine bKo rfl ?_;conv=>whnf
   refine nlA rfl ?_;conv=>whnf
   replace h:=aS h
   refine bH h27 h (WkL.refl _) (fun _ h=>?_);conv=>whnf
   refine hK _ _ _ ?_
   refine bA fun K1 K2 hK1 hK2=>?_;conv=>whnf
   refine cLk h (fun _ h=>?_) (fun _ h=>?_)
   ·refine hK1 ?_
    refine aD dCo rfl fun K hK=>?_;conv=>whnf
    refine hK _ _ _ ?_
    refine aG ?_
    refine aR ?_
    replace h:=aF h
    refine aC dCo fun K hK=>?_;conv=>whnf
    refine hK _ ?_
    cases h
    exact Wk.refl _
   refine hK2 ?_
   refine aL ?_
   refine tHn ?_
   refine jR (.step 0 (.step 2 (.step 3 (.step 4 (.step 5 (.step 6 (.step 7 (.step 8 (.step 9 (.thr 1 10 12 (.two 10 12 (.step 12 (.step 11 (.step 13 (.nil)))) (.step 10 (.step 11 (.step 13 (.nil))))) (.step 1 (.step 12 (.step 11 (.step 13 (.nil))))) (.two 1 10 (.step 10 (.step 11 (.step 13 (.nil)))) (.step 1 (.step 11 (.step 13 (.nil))))))))))))))) dCo cV rfl (by kernel_rfl) fun K hK=>?_;conv=>whnf
   refine cI (enc:=cB) (d:=default) dCo h rfl rfl rfl ⟨nle rfl,nle rfl,rfl⟩ rfl trivial (fun h=>?_);conv=>whnf
   refine nlA rfl ?_;conv=>whnf
   refine bKo rfl ?_;conv=>whnf
   refine gKo rfl ?_;conv=>whnf
   refine jD (enc:=cB) (d:=default) dCo h rfl rfl rfl ⟨rfl,nle rfl,nle rfl,nle rfl,rfl⟩ (fun _=>rfl) (fun h=>?_);conv=>whnf
   refine cI (enc:=cB) (d:=default) dCo h rfl rfl rfl ⟨nle rfl,nle rfl,rfl⟩ rfl ⟨⟨rfl,nle rfl⟩,trivial⟩ (fun h=>?_);conv=>whnf
   refine And.intro ?_ (And.intro ?_ ?_)<;>(conv=>whnf)
   ·refine nlA rfl ?_;conv=>whnf
    refine bKo rfl ?_;conv=>whnf
    refine gKo rfl ?_;conv=>whnf
    refine And.intro ?_ ?_<;>(conv=>whnf)
    ·refine bN (enc:=cB) (d:=default) dCo h (.inl rfl) rfl rfl rfl ⟨rfl,nle rfl,nle rfl,nle rfl,rfl⟩ (fun _=>rfl) (.inr (.inr ⟨_,_,rfl,rfl,rfl⟩)) (fun h=>?_);conv=>whnf
     refine bKo rfl ?_;conv=>whnf
     refine And.intro rfl (And.intro (nle rfl) (And.intro rfl ?_));conv=>whnf
     refine hK _ _ _ ?_
     refine aD dCo rfl fun K hK=>?_;conv=>whnf
     refine nlA rfl ?_;conv=>whnf
     refine bKo rfl ?_;conv=>whnf
     refine nlA rfl ?_;conv=>whnf
     replace h:=aS h
     refine aJ h32 h (aA (aK (aA (Wk.refl _) (aA aH aB))) aB) (fun _ h=>?_);conv=>whnf
     refine hK _ _ _ ?_
     refine aD dCo rfl fun K hK=>?_;conv=>whnf
     replace h:=dF h
     refine cLk h (fun _ h=>?_) (fun _ h=>?_)<;>(conv=>whnf)
     ·refine nlA rfl ?_;conv=>whnf
      refine bKo rfl ?_;conv=>whnf
      refine nlA rfl ?_;conv=>whnf
      replace h:=aS h
      refine aI h34 h (aA (aK (aA (Wk.refl _) (aA aH aB))) aB) (fun _ h=>?_);conv=>whnf
      refine cLk h (fun _ h=>?_) (fun _ h=>?_)<;>(conv=>whnf)
      ·refine nlA rfl ?_;conv=>whnf
       refine bKo rfl ?_;conv=>whnf
       refine nlA rfl ?_;conv=>whnf
       replace h:=aS h
       refine aE h33 h (aA (aK (aA (Wk.refl _) (aA aH aB))) aB) (fun _ h=>?_);conv=>whnf
       refine hK _ _ _ ?_
       refine aG ?_
       replace h:=aF h
       refine aC dCo fun K hK=>?_;conv=>whnf
       refine hK _ ?_
       cases h
       exact Wk.refl _
      refine hK _ _ _ ?_
      refine aG ?_
      replace h:=aF h
      refine aC dCo fun K hK=>?_;conv=>whnf
      refine hK _ ?_
      cases h
      exact Wk.refl _
     refine hK _ _ _ ?_
     refine aG ?_
     replace h:=aF h
     refine aC dCo fun K hK=>?_;conv=>whnf
     refine hK _ ?_
     cases h
     exact Wk.refl _
    refine bN (enc:=cB) (d:=default) dCo h (.inl rfl) rfl rfl rfl ⟨rfl,nle rfl,nle rfl,nle rfl,rfl⟩ (fun _=>rfl) (.inr (.inr ⟨_,_,rfl,rfl,rfl⟩)) (fun h=>?_);conv=>whnf
    refine bKo rfl ?_;conv=>whnf
    refine And.intro rfl (And.intro (nle rfl) (And.intro rfl ?_));conv=>whnf
    refine hK _ _ _ ?_
    refine aD dCo rfl fun K hK=>?_;conv=>whnf
    refine nlA rfl ?_;conv=>whnf
    refine bKo rfl ?_;conv=>whnf
    refine nlA rfl ?_;conv=>whnf
    replace h:=aS h
    refine aJ h32 h (aA (aK (aA (Wk.refl _) (aA aH aB))) aB) (fun _ h=>?_);conv=>whnf
    refine hK _ _ _ ?_
    refine aD dCo rfl fun K hK=>?_;conv=>whnf
    replace h:=dF h
    refine cLk h (fun _ h=>?_) (fun _ h=>?_)<;>(conv=>whnf)
    ·refine nlA rfl ?_;conv=>whnf
     refine bKo rfl ?_;conv=>whnf
     refine nlA rfl ?_;conv=>whnf
     replace h:=aS h
     refine aI h34 h (aA (aK (aA (Wk.refl _) (aA aH aB))) aB) (fun _ h=>?_);conv=>whnf
     refine cLk h (fun _ h=>?_) (fun _ h=>?_)<;>(conv=>whnf)
     ·refine nlA rfl ?_;conv=>whnf
      refine bKo rfl ?_;conv=>whnf
      refine nlA rfl ?_;conv=>whnf
      replace h:=aS h
      refine aE h33 h (aA (aK (aA (Wk.refl _) (aA aH aB))) aB) (fun _ h=>?_);conv=>whnf
      refine hK _ _ _ ?_
      refine aG ?_
      replace h:=aF h
      refine aC dCo fun K hK=>?_;conv=>whnf
      refine hK _ ?_
      cases h
      exact Wk.refl _
     refine hK _ _ _ ?_
     refine aG ?_
     replace h:=aF h
     refine aC dCo fun K hK=>?_;conv=>whnf
     refine hK _ ?_
     cases h
     exact Wk.refl _
    refine hK _ _ _ ?_
    refine aG ?_
    replace h:=aF h
    refine aC dCo fun K hK=>?_;conv=>whnf
    refine hK _ ?_
    cases h
    exact Wk.refl _
   ·refine bN (enc:=cB) (d:=default) dCo h (.inl rfl) rfl rfl rfl ⟨rfl,nle rfl,nle rfl,nle rfl,rfl⟩ (fun _=>rfl) (.inr (.inr ⟨_,_,rfl,rfl,rfl⟩)) (fun h=>?_);conv=>whnf
    refine nlA rfl ?_;conv=>whnf
    refine bKo rfl ?_;conv=>whnf
    refine gKo rfl ?_;conv=>whnf
    refine bKo rfl ?_;conv=>whnf
    refine And.intro rfl (And.intro (nle rfl) (And.intro rfl ?_));conv=>whnf
    refine hK _ _ _ ?_
    refine aD dCo rfl fun K hK=>?_;conv=>whnf
    refine nlA rfl ?_;conv=>whnf
    refine bKo rfl ?_;conv=>whnf
    refine nlA rfl ?_;conv=>whnf
    replace h:=aS h
    refine aJ h32 h (aA (aK (aA (Wk.refl _) (aA aH aB))) aB) (fun _ h=>?_);conv=>whnf
    refine hK _ _ _ ?_
    refine aD dCo rfl fun K hK=>?_;conv=>whnf
    replace h:=dF h
    refine cLk h (fun _ h=>?_) (fun _ h=>?_)<;>(conv=>whnf)
    ·refine nlA rfl ?_;conv=>whnf
     refine bKo rfl ?_;conv=>whnf
     refine nlA rfl ?_;conv=>whnf
     replace h:=aS h
     refine aI h34 h (aA (aK (aA (Wk.refl _) (aA aH aB))) aB) (fun _ h=>?_);conv=>whnf
     refine cLk h (fun _ h=>?_) (fun _ h=>?_)<;>(conv=>whnf)
     ·refine nlA rfl ?_;conv=>whnf
      refine bKo rfl ?_;conv=>whnf
      refine nlA rfl ?_;conv=>whnf
      replace h:=aS h
      refine aE h33 h (aA (aK (aA (Wk.refl _) (aA aH aB))) aB) (fun _ h=>?_);conv=>whnf
      refine hK _ _ _ ?_
      refine aG ?_
      replace h:=aF h
      refine aC dCo fun K hK=>?_;conv=>whnf
      refine hK _ ?_
      cases h
      exact Wk.refl _
     refine hK _ _ _ ?_
     refine aG ?_
     replace h:=aF h
     refine aC dCo fun K hK=>?_;conv=>whnf
     refine hK _ ?_
     cases h
     exact Wk.refl _
    refine hK _ _ _ ?_
    refine aG ?_
    replace h:=aF h
    refine aC dCo fun K hK=>?_;conv=>whnf
    refine hK _ ?_
    cases h
    exact Wk.refl _
   refine And.intro ?_ ?_<;>(conv=>whnf)
   ·refine nlA rfl ?_;conv=>whnf
    refine bKo rfl ?_;conv=>whnf
    refine gKo rfl ?_;conv=>whnf
    refine bN (enc:=cB) (d:=default) dCo h (.inl rfl) rfl rfl rfl ⟨rfl,nle rfl,nle rfl,nle rfl,rfl⟩ (fun _=>rfl) (.inr (.inr ⟨_,_,rfl,rfl,rfl⟩)) (fun h=>?_);conv=>whnf
    refine bKo rfl ?_;conv=>whnf
    refine And.intro rfl (And.intro (nle rfl) (And.intro rfl ?_));conv=>whnf
    refine hK _ _ _ ?_
    refine aD dCo rfl fun K hK=>?_;conv=>whnf
    refine nlA rfl ?_;conv=>whnf
    refine bKo rfl ?_;conv=>whnf
    refine nlA rfl ?_;conv=>whnf
    replace h:=aS h
    refine aJ h32 h (aA (aK (aA (Wk.refl _) (aA aH aB))) aB) (fun _ h=>?_);conv=>whnf
    refine hK _ _ _ ?_
    refine aD dCo rfl fun K hK=>?_;conv=>whnf
    replace h:=dF h
    refine cLk h (fun _ h=>?_) (fun _ h=>?_)<;>(conv=>whnf)
    ·refine nlA rfl ?_;conv=>whnf
     refine bKo rfl ?_;conv=>whnf
     refine nlA rfl ?_;conv=>whnf
     replace h:=aS h
     refine aI h34 h (aA (aK (aA (Wk.refl _) (aA aH aB))) aB) (fun _ h=>?_);conv=>whnf
     refine cLk h (fun _ h=>?_) (fun _ h=>?_)<;>(conv=>whnf)
     ·refine nlA rfl ?_;conv=>whnf
      refine bKo rfl ?_;conv=>whnf
      refine nlA rfl ?_;conv=>whnf
      replace h:=aS h
      refine aE h33 h (aA (aK (aA (Wk.refl _) (aA aH aB))) aB) (fun _ h=>?_);conv=>whnf
      refine hK _ _ _ ?_
      refine aG ?_
      replace h:=aF h
      refine aC dCo fun K hK=>?_;conv=>whnf
      refine hK _ ?_
      cases h
      exact Wk.refl _
     refine hK _ _ _ ?_
     refine aG ?_
     replace h:=aF h
     refine aC dCo fun K hK=>?_;conv=>whnf
     refine hK _ ?_
     cases h
     exact Wk.refl _
    refine hK _ _ _ ?_
    refine aG ?_
    replace h:=aF h
    refine aC dCo fun K hK=>?_;conv=>whnf
    refine hK _ ?_
    cases h
    exact Wk.refl _
   refine bN (enc:=cB) (d:=default) dCo h (.inl rfl) rfl rfl rfl ⟨rfl,nle rfl,nle rfl,nle rfl,rfl⟩ (fun _=>rfl) (.inr (.inr ⟨_,_,rfl,rfl,rfl⟩)) (fun h=>?_);conv=>whnf
   refine nlA rfl ?_;conv=>whnf
   refine bKo rfl ?_;conv=>whnf
   refine gKo rfl ?_;conv=>whnf
   refine bKo rfl ?_;conv=>whnf
   refine And.intro rfl (And.intro (nle rfl) (And.intro rfl ?_));conv=>whnf
   refine hK _ _ _ ?_
   refine aD dCo rfl fun K hK=>?_;conv=>whnf
   refine nlA rfl ?_;conv=>whnf
   refine bKo rfl ?_;conv=>whnf
   refine nlA rfl ?_;conv=>whnf
   replace h:=aS h
   refine aJ h32 h (aA (aK (aA (Wk.refl _) (aA aH aB))) aB) (fun _ h=>?_);conv=>whnf
   refine hK _ _ _ ?_
   refine aD dCo rfl fun K hK=>?_;conv=>whnf
   replace h:=dF h
   refine cLk h (fun _ h=>?_) (fun _ h=>?_)<;>(conv=>whnf)
   ·refine nlA rfl ?_;conv=>whnf
    refine bKo rfl ?_;conv=>whnf
    refine nlA rfl ?_;conv=>whnf
    replace h:=aS h
    refine aI h34 h (aA (aK (aA (Wk.refl _) (aA aH aB))) aB) (fun _ h=>?_);conv=>whnf
    refine cLk h (fun _ h=>?_) (fun _ h=>?_)<;>(conv=>whnf)
    ·refine nlA rfl ?_;conv=>whnf
     refine bKo rfl ?_;conv=>whnf
     refine nlA rfl ?_;conv=>whnf
     replace h:=aS h
     refine aE h33 h (aA (aK (aA (Wk.refl _) (aA aH aB))) aB) (fun _ h=>?_);conv=>whnf
     refine hK _ _ _ ?_
     refine aG ?_
     replace h:=aF h
     refine aC dCo fun K hK=>?_;conv=>whnf
     refine hK _ ?_
     cases h
     exact Wk.refl _
    refine hK _ _ _ ?_
    refine aG ?_
    replace h:=aF h
    refine aC dCo fun K hK=>?_;conv=>whnf
    refine hK _ ?_
    cases h
    exact Wk.refl _
   refine hK _ _ _ ?_
   refine aG ?_
   replace h:=aF h
   refine aC dCo fun K hK=>?_;conv=>whnf
   refine hK _ ?_
   cases h
   exact Wk.refl _
  refine hK2 ?_
  refine aL ?_
  refine tHn ?_
  refine aD dCo rfl fun K hK=>?_;conv=>whnf
  replace h:=aS h
  refine aV h13 h (WkL.refl _) (fun _ h=>?_);conv=>whnf
  refine hK _ _ _ ?_
  refine aD dCo rfl fun K hK=>?_;conv=>whnf
  replace h:=aS h
  refine aV h13 h (WkL.refl _) (fun _ h=>?_);conv=>whnf
  refine hK _ _ _ ?_
  refine aN ?_
  refine aD dCo rfl fun K hK=>?_;conv=>whnf
  refine nlA rfl ?_;conv=>whnf
  refine bKo rfl ?_;conv=>whnf
  refine nlA rfl ?_;conv=>whnf
  replace h:=aS h
  refine bH h27 h (WkL.refl _) (fun _ h=>?_);conv=>whnf
  refine hK _ _ _ ?_
  refine bA fun K1 K2 hK1 hK2=>?_;conv=>whnf
  refine cLk h (fun _ h=>?_) (fun _ h=>?_)
  ·refine hK1 ?_
   refine aD dCo rfl fun K hK=>?_;conv=>whnf
   refine hK _ _ _ ?_
   refine aG ?_
   refine aR ?_
   replace h:=aF h
   refine aC dCo fun K hK=>?_;conv=>whnf
   refine hK _ ?_
   cases h
   exact Wk.refl _
  refine hK2 ?_
  refine aL ?_
  refine tHn ?_
  refine jR (.step 0 (.step 2 (.step 3 (.step 4 (.step 5 (.step 6 (.step 7 (.step 8 (.step 9 (.thr 1 10 12 (.two 10 12 (.step 12 (.step 11 (.step 13 (.nil)))) (.step 10 (.step 11 (.step 13 (.nil))))) (.step 1 (.step 12 (.step 11 (.step 13 (.nil))))) (.two 1 10 (.step 10 (.step 11 (.step 13 (.nil)))) (.step 1 (.step 11 (.step 13 (.nil))))))))))))))) dCo cV rfl (by kernel_rfl) fun K hK=>?_;conv=>whnf
  refine cI (enc:=cB) (d:=default) dCo h rfl rfl rfl ⟨nle rfl,nle rfl,rfl⟩ rfl trivial (fun h=>?_);conv=>whnf
  refine nlA rfl ?_;conv=>whnf
  refine bKo rfl ?_;conv=>whnf
  refine gKo rfl ?_;conv=>whnf
  refine jD (enc:=cB) (d:=default) dCo h rfl rfl rfl ⟨rfl,nle rfl,nle rfl,nle rfl,rfl⟩ (fun _=>rfl) (fun h=>?_);conv=>whnf
  refine cI (enc:=cB) (d:=default) dCo h rfl rfl rfl ⟨nle rfl,nle rfl,rfl⟩ rfl ⟨⟨rfl,nle rfl⟩,trivial⟩ (fun h=>?_);conv=>whnf
  refine And.intro ?_ (And.intro ?_ ?_)<;>(conv=>whnf)
  ·refine nlA rfl ?_;conv=>whnf
   refine bKo rfl ?_;conv=>whnf
   refine gKo rfl ?_;conv=>whnf
   refine And.intro ?_ ?_<;>(conv=>whnf)
   ·refine bN (enc:=cB) (d:=default) dCo h (.inl rfl) rfl rfl rfl ⟨rfl,nle rfl,nle rfl,nle rfl,rfl⟩ (fun _=>rfl) (.inr (.inr ⟨_,_,rfl,rfl,rfl⟩)) (fun h=>?_);conv=>whnf
    refine bKo rfl ?_;conv=>whnf
    refine And.intro rfl (And.intro (nle rfl) (And.intro rfl ?_));conv=>whnf
    refine hK _ _ _ ?_
    refine aD dCo rfl fun K hK=>?_;conv=>whnf
    refine nlA rfl ?_;conv=>whnf
    refine bKo rfl ?_;conv=>whnf
    refine nlA rfl ?_;conv=>whnf
    replace h:=aS h
    refine aJ h32 h (aA (aK (aA (Wk.refl _) (aA aH aB))) aB) (fun _ h=>?_);conv=>whnf
    refine hK _ _ _ ?_
    refine aD dCo rfl fun K hK=>?_;conv=>whnf
    replace h:=dF h
    refine cLk h (fun _ h=>?_) (fun _ h=>?_)<;>(conv=>whnf)
    ·refine nlA rfl ?_;conv=>whnf
     refine bKo rfl ?_;conv=>whnf
     refine nlA rfl ?_;conv=>whnf
     replace h:=aS h
     refine aI h34 h (aA (aK (aA (Wk.refl _) (aA aH aB))) aB) (fun _ h=>?_);conv=>whnf
     refine cLk h (fun _ h=>?_) (fun _ h=>?_)<;>(conv=>whnf)
     ·refine nlA rfl ?_;conv=>whnf
      refine bKo rfl ?_;conv=>whnf
      refine nlA rfl ?_;conv=>whnf
      replace h:=aS h
      refine aE h33 h (aA (aK (aA (Wk.refl _) (aA aH aB))) aB) (fun _ h=>?_);conv=>whnf
      refine hK _ _ _ ?_
      refine aG ?_
      replace h:=aF h
      refine aC dCo fun K hK=>?_;conv=>whnf
      refine hK _ ?_
      cases h
      exact Wk.refl _
     refine hK _ _ _ ?_
     refine aG ?_
     replace h:=aF h
     refine aC dCo fun K hK=>?_;conv=>whnf
     refine hK _ ?_
     cases h
     exact Wk.refl _
    refine hK _ _ _ ?_
    refine aG ?_
    replace h:=aF h
    refine aC dCo fun K hK=>?_;conv=>whnf
    refine hK _ ?_
    cases h
    exact Wk.refl _
   refine bN (enc:=cB) (d:=default) dCo h (.inl rfl) rfl rfl rfl ⟨rfl,nle rfl,nle rfl,nle rfl,rfl⟩ (fun _=>rfl) (.inr (.inr ⟨_,_,rfl,rfl,rfl⟩)) (fun h=>?_);conv=>whnf
   refine bKo rfl ?_;conv=>whnf
   refine And.intro rfl (And.intro (nle rfl) (And.intro rfl ?_));conv=>whnf
   refine hK _ _ _ ?_
   refine aD dCo rfl fun K hK=>?_;conv=>whnf
   refine nlA rfl ?_;conv=>whnf
   refine bKo rfl ?_;conv=>whnf
   refine nlA rfl ?_;conv=>whnf
   replace h:=aS h
   refine aJ h32 h (aA (aK (aA (Wk.refl _) (aA aH aB))) aB) (fun _ h=>?_);conv=>whnf
   refine hK _ _ _ ?_
   refine aD dCo rfl fun K hK=>?_;conv=>whnf
   replace h:=dF h
   refine cLk h (fun _ h=>?_) (fun _ h=>?_)<;>(conv=>whnf)
   ·refine nlA rfl ?_;conv=>whnf
    refine bKo rfl ?_;conv=>whnf
    refine nlA rfl ?_;conv=>whnf
    replace h:=aS h
    refine aI h34 h (aA (aK (aA (Wk.refl _) (aA aH aB))) aB) (fun _ h=>?_);conv=>whnf
    refine cLk h (fun _ h=>?_) (fun _ h=>?_)<;>(conv=>whnf)
    ·refine nlA rfl ?_;conv=>whnf
     refine bKo rfl ?_;conv=>whnf
     refine nlA rfl ?_;conv=>whnf
     replace h:=aS h
     refine aE h33 h (aA (aK (aA (Wk.refl _) (aA aH aB))) aB) (fun _ h=>?_);conv=>whnf
     refine hK _ _ _ ?_
     refine aG ?_
     replace h:=aF h
     refine aC dCo fun K hK=>?_;conv=>whnf
     refine hK _ ?_
     cases h
     exact Wk.refl _
    refine hK _ _ _ ?_
    refine aG ?_
    replace h:=aF h
    refine aC dCo fun K hK=>?_;conv=>whnf
    refine hK _ ?_
    cases h
    exact Wk.refl _
   refine hK _ _ _ ?_
   refine aG ?_
   replace h:=aF h
   refine aC dCo fun K hK=>?_;conv=>whnf
   refine hK _ ?_
   cases h
   exact Wk.refl _
  ·refine bN (enc:=cB) (d:=default) dCo h (.inl rfl) rfl rfl rfl ⟨rfl,nle rfl,nle rfl,nle rfl,rfl⟩ (fun _=>rfl) (.inr (.inr ⟨_,_,rfl,rfl,rfl⟩)) (fun h=>?_);conv=>whnf
   refine nlA rfl ?_;conv=>whnf
   refine bKo rfl ?_;conv=>whnf
   refine gKo rfl ?_;conv=>whnf
   refine bKo rfl ?_;conv=>whnf
   refine And.intro rfl (And.intro (nle rfl) (And.intro rfl ?_));conv=>whnf
   refine hK _ _ _ ?_
   refine aD dCo rfl fun K hK=>?_;conv=>whnf
   refine nlA rfl ?_;conv=>whnf
   refine bKo rfl ?_;conv=>whnf
   refine nlA rfl ?_;conv=>whnf
   replace h:=aS h
   refine aJ h32 h (aA (aK (aA (Wk.refl _) (aA aH aB))) aB) (fun _ h=>?_);conv=>whnf
   refine hK _ _ _ ?_
   refine aD dCo rfl fun K hK=>?_;conv=>whnf
   replace h:=dF h
   refine cLk h (fun _ h=>?_) (fun _ h=>?_)<;>(conv=>whnf)
   ·refine nlA rfl ?_;conv=>whnf
    refine bKo rfl ?_;conv=>whnf
    refine nlA rfl ?_;conv=>whnf
    replace h:=aS h
    refine aI h34 h (aA (aK (aA (Wk.refl _) (aA aH aB))) aB) (fun _ h=>?_);conv=>whnf
    refine cLk h (fun _ h=>?_) (fun _ h=>?_)<;>(conv=>whnf)
    ·refine nlA rfl ?_;conv=>whnf
     refine bKo rfl ?_;conv=>whnf
     refine nlA rfl ?_;conv=>whnf
     replace h:=aS h
     refine aE h33 h (aA (aK (aA (Wk.refl _) (aA aH aB))) aB) (fun _ h=>?_);conv=>whnf
     refine hK _ _ _ ?_
     refine aG ?_
     replace h:=aF h
     refine aC dCo fun K hK=>?_;conv=>whnf
     refine hK _ ?_
     cases h
     exact Wk.refl _
    refine hK _ _ _ ?_
    refine aG ?_
    replace h:=aF h
    refine aC dCo fun K hK=>?_;conv=>whnf
    refine hK _ ?_
    cases h
    exact Wk.refl _
   refine hK _ _ _ ?_
   refine aG ?_
   replace h:=aF h
   refine aC dCo fun K hK=>?_;conv=>whnf
   refine hK _ ?_
   cases h
   exact Wk.refl _
  refine And.intro ?_ ?_<;>(conv=>whnf)
  ·refine nlA rfl ?_;conv=>whnf
   refine bKo rfl ?_;conv=>whnf
   refine gKo rfl ?_;conv=>whnf
   refine bN (enc:=cB) (d:=default) dCo h (.inl rfl) rfl rfl rfl ⟨rfl,nle rfl,nle rfl,nle rfl,rfl⟩ (fun _=>rfl) (.inr (.inr ⟨_,_,rfl,rfl,rfl⟩)) (fun h=>?_);conv=>whnf
   refine bKo rfl ?_;conv=>whnf
   refine And.intro rfl (And.intro (nle rfl) (And.intro rfl ?_));conv=>whnf
   refine hK _ _ _ ?_
   refine aD dCo rfl fun K hK=>?_;conv=>whnf
   refine nlA rfl ?_;conv=>whnf
   refine bKo rfl ?_;conv=>whnf
   refine nlA rfl ?_;conv=>whnf
   replace h:=aS h
   refine aJ h32 h (aA (aK (aA (Wk.refl _) (aA aH aB))) aB) (fun _ h=>?_);conv=>whnf
   refine hK _ _ _ ?_
   refine aD dCo rfl fun K hK=>?_;conv=>whnf
   replace h:=dF h
   refine cLk h (fun _ h=>?_) (fun _ h=>?_)<;>(conv=>whnf)
   ·refine nlA rfl ?_;conv=>whnf
    refine bKo rfl ?_;conv=>whnf
    refine nlA rfl ?_;conv=>whnf
    replace h:=aS h
    refine aI h34 h (aA (aK (aA (Wk.refl _) (aA aH aB))) aB) (fun _ h=>?_);conv=>whnf
    refine cLk h (fun _ h=>?_) (fun _ h=>?_)<;>(conv=>whnf)
    ·refine nlA rfl ?_;conv=>whnf
     refine bKo rfl ?_;conv=>whnf
     refine nlA rfl ?_;conv=>whnf
     replace h:=aS h
     refine aE h33 h (aA (aK (aA (Wk.refl _) (aA aH aB))) aB) (fun _ h=>?_);conv=>whnf
     refine hK _ _ _ ?_
     refine aG ?_
     replace h:=aF h
     refine aC dCo fun K hK=>?_;conv=>whnf
     refine hK _ ?_
     cases h
     exact Wk.refl _
    refine hK _ _ _ ?_
    refine aG ?_
    replace h:=aF h
    refine aC dCo fun K hK=>?_;conv=>whnf
    refine hK _ ?_
    cases h
    exact Wk.refl _
   refine hK _ _ _ ?_
   refine aG ?_
   replace h:=aF h
   refine aC dCo fun K hK=>?_;conv=>whnf
   refine hK _ ?_
   cases h
   exact Wk.refl _
  refine bN (enc:=cB) (d:=default) dCo h (.inl rfl) rfl rfl rfl ⟨rfl,nle rfl,nle rfl,nle rfl,rfl⟩ (fun _=>rfl) (.inr (.inr ⟨_,_,rfl,rfl,rfl⟩)) (fun h=>?_);conv=>whnf
  refine nlA rfl ?_;conv=>whnf
  refine bKo rfl ?_;conv=>whnf
  refine gKo rfl ?_;conv=>whnf
  refine bKo rfl ?_;conv=>whnf
  refine And.intro rfl (And.intro (nle rfl) (And.intro rfl ?_));conv=>whnf
  refine hK _ _ _ ?_
  refine aD dCo rfl fun K hK=>?_;conv=>whnf
  refine nlA rfl ?_;conv=>whnf
  refine bKo rfl ?_;conv=>whnf
  refine nlA rfl ?_;conv=>whnf
  replace h:=aS h
  refine aJ h32 h (aA (aK (aA (Wk.refl _) (aA aH aB))) aB) (fun _ h=>?_);conv=>whnf
  refine hK _ _ _ ?_
  refine aD dCo rfl fun K hK=>?_;conv=>whnf
  replace h:=dF h
  refine cLk h (fun _ h=>?_) (fun _ h=>?_)<;>(conv=>whnf)
  ·refine nlA rfl ?_;conv=>whnf
   refine bKo rfl ?_;conv=>whnf
   refine nlA rfl ?_;conv=>whnf
   replace h:=aS h
   refine aI h34 h (aA (aK (aA (Wk.refl _) (aA aH aB))) aB) (fun _ h=>?_);conv=>whnf
   refine cLk h (fun _ h=>?_) (fun _ h=>?_)<;>(conv=>whnf)
   ·refine nlA rfl ?_;conv=>whnf
    refine bKo rfl ?_;conv=>whnf
    refine nlA rfl ?_;conv=>whnf
    replace h:=aS h
    refine aE h33 h (aA (aK (aA (Wk.refl _) (aA aH aB))) aB) (fun _ h=>?_);conv=>whnf
    refine hK _ _ _ ?_
    refine aG ?_
    replace h:=aF h
    refine aC dCo fun K hK=>?_;conv=>whnf
    refine hK _ ?_
    cases h
    exact Wk.refl _
   refine hK _ _ _ ?_
   refine aG ?_
   replace h:=aF h
   refine aC dCo fun K hK=>?_;conv=>whnf
   refine hK _ ?_
   cases h
   exact Wk.refl _
  refine hK _ _ _ ?_
  refine aG ?_
  replace h:=aF h
  refine aC dCo fun K hK=>?_;conv=>whnf
  refine hK _ ?_
  cases h
  exact Wk.refl _
 refine hK2 ?_
 refine aL ?_
 refine tHn ?_
 refine aD dCo rfl fun K hK=>?_;conv=>whnf
 refine hK _ _ _ ?_
 refine aN ?_
 refine aD dCo rfl fun K hK=>?_;conv=>whnf
 refine hK _ _ _ ?_
 refine aQ ?_
 replace h:=aS h
 refine fP (body:=cM _) rfl h [2,3,4,11,12,13,14] [12] [] (fun kl kh ids b s=>⟨ofL ([(17,.lst (.tok (b+0)) 1 s.1.length (fun j=>eI (s.1.getD j default))),(18,eI s.2)]++kl),ofH ([(b+0,.cells [])]++kh),b+128⟩) ?_;(conv=>whnf);refine And.intro ?_ (fun s m h=>dO ?_)
 ·refine bI ?_;conv=>whnf
  exact And.intro rfl (And.intro (aLc (WkR.nil (fun _=>rfl)) (aLc wkI (aLc (wkr (lsL fun _=>(lsI _ _))) (aLc wkI (aLc wkI (aLc (wkr (lsB _)) (aLc (WkR.ptr (fun _=>rfl)) (aLc (wkr (lsL fun _=>(lsI _ _))) (aLc (wkr (lsB _)) aLn))))))))) (aLc ⟨none,rfl,qL⟩ (aLc ⟨some _,rfl,bRc rfl (cKc wkI (cKc (wkr (lsL fun _=>(aO _))) cKn))⟩ aLn)))
 replace h:=aS h;rw [cM.eq_1] at h
 refine aN ?_
 refine aD dCo rfl fun K hK=>?_;conv=>whnf
 replace h:=dF h
 refine cLk h (fun _ h=>?_) (fun _ h=>?_)<;>(conv=>whnf)
 ·refine hK _ _ _ ?_
  refine bA fun K1 K2 hK1 hK2=>?_;conv=>whnf
  refine cLk h (fun _ h=>?_) (fun _ h=>?_)
  ·refine hK1 ?_
   refine aL ?_
   refine tHn ?_
   refine aN ?_
   refine aQ ?_
   refine cX dCo rfl fun K hK=>?_;conv=>whnf
   refine eQ h fun _ h=>?_;conv=>whnf
   refine gKo rfl ?_;conv=>whnf
   replace h:=aS h
   refine aV h13 h (WkL.refl _) (fun _ h=>?_);conv=>whnf
   refine cI (enc:=eI) (d:=default) dCo h rfl rfl rfl ⟨nle rfl,nle rfl,rfl⟩ rfl ⟨⟨rfl,rfl,rfl⟩,trivial⟩ (fun h=>?_);conv=>whnf
   refine bN (enc:=eI) (d:=default) dCo h (.inl rfl) rfl rfl rfl ⟨rfl,nle rfl,nle rfl,nle rfl,rfl⟩ (fun _=>rfl) (.inr (.inr ⟨_,_,rfl,rfl,rfl⟩)) (fun h=>?_);conv=>whnf
   refine hK _ _ _ ?_
   refine iBn ?_
   refine tHn ?_
   refine cX dCo rfl fun K hK=>?_;conv=>whnf
   refine hK _ _ _ ?_
   refine tHn ?_
   replace h:=bX h
   refine ⟨_,h,?_⟩
   refine bI ?_;conv=>whnf
   exact And.intro rfl (And.intro (aLc (WkR.tok (fun _=>rfl) rfl (fun _ _=>Wk.refl _) (fun _=>(lsI _ _))) (aLc wkI (aLc (wkr (lsL fun _=>(lsI _ _))) (aLc wkI (aLc wkI (aLc (wkr (lsB _)) (aLc (WkR.ptr (fun _=>rfl)) (aLc (wkr (lsL fun _=>(lsI _ _))) (aLc (wkr (lsB _)) aLn))))))))) (aLc ⟨some _,rfl,bRc rfl cKn⟩ (aLc ⟨some _,rfl,bRc rfl (cKc wkI (cKc (wkr (lsL fun _=>(aO _))) cKn))⟩ aLn)))
  refine hK2 ?_
  refine bK ?_
  refine aY ?_
  refine aY ?_
  refine aX ?_
  replace h:=dE h
  replace h:=dB h
  refine tHn ?_
  refine aN ?_
  refine aD dCo rfl fun K hK=>?_;conv=>whnf
  refine nlA rfl ?_;conv=>whnf
  refine bKo rfl ?_;conv=>whnf
  refine nlA rfl ?_;conv=>whnf
  replace h:=aS h
  refine fN h35 h (aA (Wk.refl _) (aA aH aB)) (fun _ h=>?_);conv=>whnf
  refine hK _ _ _ ?_
  replace h:=dF h
  refine bA fun K1 K2 hK1 hK2=>?_;conv=>whnf
  refine cLk h (fun _ h=>?_) (fun _ h=>?_)
  ·refine hK1 ?_
   refine aN ?_
   refine aD dCo rfl fun K hK=>?_;conv=>whnf
   replace h:=dF h
   refine cLk h (fun _ h=>?_) (fun _ h=>?_)<;>(conv=>whnf)
   ·refine hK _ _ _ ?_
    refine bA fun K1 K2 hK1 hK2=>?_;conv=>whnf
    refine hK1 ?_
    replace h:=mN h
    refine aD dCo rfl fun K hK=>?_;conv=>whnf
    refine hK _ _ _ ?_
    refine aG ?_
    refine aR ?_
    refine aR ?_
    replace h:=aF h
    refine aC dCo fun K hK=>?_;conv=>whnf
    refine hK _ ?_
    cases h
    exact Wk.refl _
   refine hK _ _ _ ?_
   refine bA fun K1 K2 hK1 hK2=>?_;conv=>whnf
   refine cLk h (fun _ h=>?_) (fun _ h=>?_)
   ·refine hK1 ?_
    refine aD dCo rfl fun K hK=>?_;conv=>whnf
    refine hK _ _ _ ?_
    refine aG ?_
    refine aR ?_
    refine aR ?_
    replace h:=aF h
    refine aC dCo fun K hK=>?_;conv=>whnf
    refine hK _ ?_
    cases h
    exact Wk.refl _
   refine hK2 ?_
   refine aL ?_
   refine tHn ?_
   refine aD dCo rfl fun K hK=>?_;conv=>whnf
   refine hK _ _ _ ?_
   refine aQ ?_
   replace h:=aS h
   refine fP (body:=bJ _ _) rfl h [3,4,11,12,13,17] [12,17] [] (fun kl kh ids b s=>⟨ofL ([(19,eI s)]++kl),ofH ([]++kh),b+64⟩) ?_;(conv=>whnf);refine And.intro ?_ (fun s m h=>dO ?_)
   ·refine bI ?_;conv=>whnf
    exact And.intro rfl (And.intro (aLc wkI (aLc wkI (aLc wkI (aLc (wkr (lsB _)) (aLc (WkR.ptr (fun _=>rfl)) (aLc (wkr (lsL fun _=>(lsI _ _))) (aLc (WkR.tok (fun _=>rfl) rfl (fun _ _=>Wk.refl _) (fun _=>(lsI _ _))) aLn))))))) (aLc ⟨some _,rfl,bRc rfl (cKc wkI (cKc (wkr (lsL fun _=>(aO _))) cKn))⟩ (aLc ⟨some _,rfl,bRc rfl cKn⟩ aLn)))
   replace h:=aS h;rw [bJ.eq_1] at h
   refine aN ?_
   refine aD dCo rfl fun K hK=>?_;conv=>whnf
   replace h:=dF h
   refine cLk h (fun _ h=>?_) (fun _ h=>?_)<;>(conv=>whnf)
   ·refine hK _ _ _ ?_
    refine bA fun K1 K2 hK1 hK2=>?_;conv=>whnf
    refine cLk h (fun _ h=>?_) (fun _ h=>?_)
    ·refine hK1 ?_
     refine aL ?_
     refine tHn ?_
     refine aN ?_
     refine aQ ?_
     refine mQ dCo cV rfl (by kernel_rfl) fun K hK=>?_;conv=>whnf
     refine eQ h fun _ h=>?_;conv=>whnf
     refine gKo rfl ?_;conv=>whnf
     refine eQ h fun _ h=>?_;conv=>whnf
     refine gKo rfl ?_;conv=>whnf
     refine hK _ _ _ ?_
     refine bA fun K1 K2 hK1 hK2=>?_;conv=>whnf
     refine cLk h (fun _ h=>?_) (fun _ h=>?_)
     ·refine hK1 ?_
      refine aN ?_
      refine mQ dCo cV rfl (by kernel_rfl) fun K hK=>?_;conv=>whnf
      refine eQ h fun _ h=>?_;conv=>whnf
      refine gKo rfl ?_;conv=>whnf
      refine eQ h fun _ h=>?_;conv=>whnf
      refine gKo rfl ?_;conv=>whnf
      refine hK _ _ _ ?_
      refine bA fun K1 K2 hK1 hK2=>?_;conv=>whnf
      refine cLk h (fun _ h=>?_) (fun _ h=>?_)
      ·refine hK1 ?_
       refine aD dCo rfl fun K hK=>?_;conv=>whnf
       refine hK _ _ _ ?_
       refine aG ?_
       refine aR ?_
       refine bB ?_
       refine aR ?_
       refine aR ?_
       refine bB ?_
       refine aR ?_
       replace h:=iJ h
       replace h:=iK h
       replace h:=aF h
       refine aC dCo fun K hK=>?_;conv=>whnf
       refine hK _ ?_
       cases h
       exact Wk.refl _
      refine hK2 ?_
      refine aL ?_
      refine tHn ?_
      refine bK ?_
      refine oN (by decide) ?_
      refine aY ?_
      refine aY ?_
      refine aX ?_
      replace h:=dE h
      replace h:=dB h
      refine tHn ?_
      refine aD dCo rfl fun K hK=>?_;conv=>whnf
      replace h:=aS h
      refine aV h13 h (WkL.refl _) (fun _ h=>?_);conv=>whnf
      refine hK _ _ _ ?_
      refine aD dCo rfl fun K hK=>?_;conv=>whnf
      replace h:=aS h
      refine aV h13 h (WkL.refl _) (fun _ h=>?_);conv=>whnf
      refine hK _ _ _ ?_
      refine aN ?_
      refine aD dCo rfl fun K hK=>?_;conv=>whnf
      refine nlA rfl ?_;conv=>whnf
      refine bKo rfl ?_;conv=>whnf
      refine nlA rfl ?_;conv=>whnf
      replace h:=aS h
      refine bH h27 h (WkL.refl _) (fun _ h=>?_);conv=>whnf
      refine hK _ _ _ ?_
      refine bA fun K1 K2 hK1 hK2=>?_;conv=>whnf
      refine cLk h (fun _ h=>?_) (fun _ h=>?_)
      ·refine hK1 ?_
       refine aD dCo rfl fun K hK=>?_;conv=>whnf
       refine hK _ _ _ ?_
       refine aG ?_
       refine aR ?_
       replace h:=aF h
       refine aC dCo fun K hK=>?_;conv=>whnf
       refine hK _ ?_
       cases h
       exact Wk.refl _
      refine hK2 ?_
      refine aL ?_
      refine tHn ?_
      refine jR (.step 0 (.step 2 (.step 3 (.step 4 (.step 5 (.step 6 (.step 7 (.step 8 (.step 9 (.thr 1 10 12 (.two 10 12 (.step 12 (.step 11 (.step 13 (.nil)))) (.step 10 (.step 11 (.step 13 (.nil))))) (.step 1 (.step 12 (.step 11 (.step 13 (.nil))))) (.two 1 10 (.step 10 (.step 11 (.step 13 (.nil)))) (.step 1 (.step 11 (.step 13 (.nil))))))))))))))) dCo cV rfl (by kernel_rfl) fun K hK=>?_;conv=>whnf
      refine cI (enc:=cB) (d:=default) dCo h rfl rfl rfl ⟨nle rfl,nle rfl,rfl⟩ rfl trivial (fun h=>?_);conv=>whnf
      refine nlA rfl ?_;conv=>whnf
      refine bKo rfl ?_;conv=>whnf
      refine gKo rfl ?_;conv=>whnf
      refine jD (enc:=cB) (d:=default) dCo h rfl rfl rfl ⟨rfl,nle rfl,nle rfl,nle rfl,rfl⟩ (fun _=>rfl) (fun h=>?_);conv=>whnf
      refine cI (enc:=cB) (d:=default) dCo h rfl rfl rfl ⟨nle rfl,nle rfl,rfl⟩ rfl ⟨⟨rfl,nle rfl⟩,trivial⟩ (fun h=>?_);conv=>whnf
      refine And.intro ?_ (And.intro ?_ ?_)<;>(conv=>whnf)
      ·refine nlA rfl ?_;conv=>whnf
       refine bKo rfl ?_;conv=>whnf
       refine gKo rfl ?_;conv=>whnf
       refine And.intro ?_ ?_<;>(conv=>whnf)
       ·refine bN (enc:=cB) (d:=default) dCo h (.inl rfl) rfl rfl rfl ⟨rfl,nle rfl,nle rfl,nle rfl,rfl⟩ (fun _=>rfl) (.inr (.inr ⟨_,_,rfl,rfl,rfl⟩)) (fun h=>?_);conv=>whnf
        refine bKo rfl ?_;conv=>whnf
        refine And.intro rfl (And.intro (nle rfl) (And.intro rfl ?_));conv=>whnf
        refine hK _ _ _ ?_
        refine aD dCo rfl fun K hK=>?_;conv=>whnf
        refine nlA rfl ?_;conv=>whnf
        refine bKo rfl ?_;conv=>whnf
        refine nlA rfl ?_;conv=>whnf
        replace h:=aS h
        refine aJ h32 h (aA (aK (aA (Wk.refl _) (aA aH aB))) aB) (fun _ h=>?_);conv=>whnf
        refine hK _ _ _ ?_
        refine aD dCo rfl fun K hK=>?_;conv=>whnf
        replace h:=dF h
        refine cLk h (fun _ h=>?_) (fun _ h=>?_)<;>(conv=>whnf)
        ·refine nlA rfl ?_;conv=>whnf
         refine bKo rfl ?_;conv=>whnf
         refine nlA rfl ?_;conv=>whnf
         replace h:=aS h
         refine aI h34 h (aA (aK (aA (Wk.refl _) (aA aH aB))) aB) (fun _ h=>?_);conv=>whnf
         refine cLk h (fun _ h=>?_) (fun _ h=>?_)<;>(conv=>whnf)
         ·refine nlA rfl ?_;conv=>whnf
          refine bKo rfl ?_;conv=>whnf
          refine nlA rfl ?_;conv=>whnf
          replace h:=aS h
          refine aE h33 h (aA (aK (aA (Wk.refl _) (aA aH aB))) aB) (fun _ h=>?_);conv=>whnf
          refine hK _ _ _ ?_
          refine aG ?_
          replace h:=aF h
          refine aC dCo fun K hK=>?_;conv=>whnf
          refine hK _ ?_
          cases h
          exact Wk.refl _
         refine hK _ _ _ ?_
         refine aG ?_
         replace h:=aF h
         refine aC dCo fun K hK=>?_;conv=>whnf
         refine hK _ ?_
         cases h
         exact Wk.refl _
        refine hK _ _ _ ?_
        refine aG ?_
        replace h:=aF h
        refine aC dCo fun K hK=>?_;conv=>whnf
        refine hK _ ?_
        cases h
        exact Wk.refl _
       refine bN (enc:=cB) (d:=default) dCo h (.inl rfl) rfl rfl rfl ⟨rfl,nle rfl,nle rfl,nle rfl,rfl⟩ (fun _=>rfl) (.inr (.inr ⟨_,_,rfl,rfl,rfl⟩)) (fun h=>?_);conv=>whnf
       refine bKo rfl ?_;conv=>whnf
       refine And.intro rfl (And.intro (nle rfl) (And.intro rfl ?_));conv=>whnf
       refine hK _ _ _ ?_
       refine aD dCo rfl fun K hK=>?_;conv=>whnf
       refine nlA rfl ?_;conv=>whnf
       refine bKo rfl ?_;conv=>whnf
       refine nlA rfl ?_;conv=>whnf
       replace h:=aS h
       refine aJ h32 h (aA (aK (aA (Wk.refl _) (aA aH aB))) aB) (fun _ h=>?_);conv=>whnf
       refine hK _ _ _ ?_
       refine aD dCo rfl fun K hK=>?_;conv=>whnf
       replace h:=dF h
       refine cLk h (fun _ h=>?_) (fun _ h=>?_)<;>(conv=>whnf)
       ·refine nlA rfl ?_;conv=>whnf
        refine bKo rfl ?_;conv=>whnf
        refine nlA rfl ?_;conv=>whnf
        replace h:=aS h
        refine aI h34 h (aA (aK (aA (Wk.refl _) (aA aH aB))) aB) (fun _ h=>?_);conv=>whnf
        refine cLk h (fun _ h=>?_) (fun _ h=>?_)<;>(conv=>whnf)
        ·refine nlA rfl ?_;conv=>whnf
         refine bKo rfl ?_;conv=>whnf
         refine nlA rfl ?_;conv=>whnf
         replace h:=aS h
         refine aE h33 h (aA (aK (aA (Wk.refl _) (aA aH aB))) aB) (fun _ h=>?_);conv=>whnf
         refine hK _ _ _ ?_
         refine aG ?_
         replace h:=aF h
         refine aC dCo fun K hK=>?_;conv=>whnf
         refine hK _ ?_
         cases h
         exact Wk.refl _
        refine hK _ _ _ ?_
        refine aG ?_
        replace h:=aF h
        refine aC dCo fun K hK=>?_;conv=>whnf
        refine hK _ ?_
        cases h
        exact Wk.refl _
       refine hK _ _ _ ?_
       refine aG ?_
       replace h:=aF h
       refine aC dCo fun K hK=>?_;conv=>whnf
       refine hK _ ?_
       cases h
       exact Wk.refl _
      ·refine bN (enc:=cB) (d:=default) dCo h (.inl rfl) rfl rfl rfl ⟨rfl,nle rfl,nle rfl,nle rfl,rfl⟩ (fun _=>rfl) (.inr (.inr ⟨_,_,rfl,rfl,rfl⟩)) (fun h=>?_);conv=>whnf
       refine nlA rfl ?_;conv=>whnf
       refine bKo rfl ?_;conv=>whnf
       refine gKo rfl ?_;conv=>whnf
       refine bKo rfl ?_;conv=>whnf
       refine And.intro rfl (And.intro (nle rfl) (And.intro rfl ?_));conv=>whnf
       refine hK _ _ _ ?_
       refine aD dCo rfl fun K hK=>?_;conv=>whnf
       refine nlA rfl ?_;conv=>whnf
       refine bKo rfl ?_;conv=>whnf
       refine nlA rfl ?_;conv=>whnf
       replace h:=aS h
       refine aJ h32 h (aA (aK (aA (Wk.refl _) (aA aH aB))) aB) (fun _ h=>?_);conv=>whnf
       refine hK _ _ _ ?_
       refine aD dCo rfl fun K hK=>?_;conv=>whnf
       replace h:=dF h
       refine cLk h (fun _ h=>?_) (fun _ h=>?_)<;>(conv=>whnf)
       ·refine nlA rfl ?_;conv=>whnf
        refine bKo rfl ?_;conv=>whnf
        refine nlA rfl ?_;conv=>whnf
        replace h:=aS h
        refine aI h34 h (aA (aK (aA (Wk.refl _) (aA aH aB))) aB) (fun _ h=>?_);conv=>whnf
        refine cLk h (fun _ h=>?_) (fun _ h=>?_)<;>(conv=>whnf)
        ·refine nlA rfl ?_;conv=>whnf
         refine bKo rfl ?_;conv=>whnf
         refine nlA rfl ?_;conv=>whnf
         replace h:=aS h
         refine aE h33 h (aA (aK (aA (Wk.refl _) (aA aH aB))) aB) (fun _ h=>?_);conv=>whnf
         refine hK _ _ _ ?_
         refine aG ?_
         replace h:=aF h
         refine aC dCo fun K hK=>?_;conv=>whnf
         refine hK _ ?_
         cases h
         exact Wk.refl _
        refine hK _ _ _ ?_
        refine aG ?_
        replace h:=aF h
        refine aC dCo fun K hK=>?_;conv=>whnf
        refine hK _ ?_
        cases h
        exact Wk.refl _
       refine hK _ _ _ ?_
       refine aG ?_
       replace h:=aF h
       refine aC dCo fun K hK=>?_;conv=>whnf
       refine hK _ ?_
       cases h
       exact Wk.refl _
      refine And.intro ?_ ?_<;>(conv=>whnf)
      ·refine nlA rfl ?_;conv=>whnf
       refine bKo rfl ?_;conv=>whnf
       refine gKo rfl ?_;conv=>whnf
       refine bN (enc:=cB) (d:=default) dCo h (.inl rfl) rfl rfl rfl ⟨rfl,nle rfl,nle rfl,nle rfl,rfl⟩ (fun _=>rfl) (.inr (.inr ⟨_,_,rfl,rfl,rfl⟩)) (fun h=>?_);conv=>whnf
       refine bKo rfl ?_;conv=>whnf
       refine And.intro rfl (And.intro (nle rfl) (And.intro rfl ?_));conv=>whnf
       refine hK _ _ _ ?_
       refine aD dCo rfl fun K hK=>?_;conv=>whnf
       refine nlA rfl ?_;conv=>whnf
       refine bKo rfl ?_;conv=>whnf
       refine nlA rfl ?_;conv=>whnf
       replace h:=aS h
       refine aJ h32 h (aA (aK (aA (Wk.refl _) (aA aH aB))) aB) (fun _ h=>?_);conv=>whnf
       refine hK _ _ _ ?_
       refine aD dCo rfl fun K hK=>?_;conv=>whnf
       replace h:=dF h
       refine cLk h (fun _ h=>?_) (fun _ h=>?_)<;>(conv=>whnf)
       ·refine nlA rfl ?_;conv=>whnf
        refine bKo rfl ?_;conv=>whnf
        refine nlA rfl ?_;conv=>whnf
        replace h:=aS h
        refine aI h34 h (aA (aK (aA (Wk.refl _) (aA aH aB))) aB) (fun _ h=>?_);conv=>whnf
        refine cLk h (fun _ h=>?_) (fun _ h=>?_)<;>(conv=>whnf)
        ·refine nlA rfl ?_;conv=>whnf
         refine bKo rfl ?_;conv=>whnf
         refine nlA rfl ?_;conv=>whnf
         replace h:=aS h
         refine aE h33 h (aA (aK (aA (Wk.refl _) (aA aH aB))) aB) (fun _ h=>?_);conv=>whnf
         refine hK _ _ _ ?_
         refine aG ?_
         replace h:=aF h
         refine aC dCo fun K hK=>?_;conv=>whnf
         refine hK _ ?_
         cases h
         exact Wk.refl _
        refine hK _ _ _ ?_
        refine aG ?_
        replace h:=aF h
        refine aC dCo fun K hK=>?_;conv=>whnf
        refine hK _ ?_
        cases h
        exact Wk.refl _
       refine hK _ _ _ ?_
       refine aG ?_
       replace h:=aF h
       refine aC dCo fun K hK=>?_;conv=>whnf
       refine hK _ ?_
       cases h
       exact Wk.refl _
      refine bN (enc:=cB) (d:=default) dCo h (.inl rfl) rfl rfl rfl ⟨rfl,nle rfl,nle rfl,nle rfl,rfl⟩ (fun _=>rfl) (.inr (.inr ⟨_,_,rfl,rfl,rfl⟩)) (fun h=>?_);conv=>whnf
      refine nlA rfl ?_;conv=>whnf
      refine bKo rfl ?_;conv=>whnf
      refine gKo rfl ?_;conv=>whnf
      refine bKo rfl ?_;conv=>whnf
      refine And.intro rfl (And.intro (nle rfl) (And.intro rfl ?_));conv=>whnf
      refine hK _ _ _ ?_
      refine aD dCo rfl fun K hK=>?_;conv=>whnf
      refine nlA rfl ?_;conv=>whnf
      refine bKo rfl ?_;conv=>whnf
      refine nlA rfl ?_;conv=>whnf
      replace h:=aS h
      refine aJ h32 h (aA (aK (aA (Wk.refl _) (aA aH aB))) aB) (fun _ h=>?_);conv=>whnf
      refine hK _ _ _ ?_
      refine aD dCo rfl fun K hK=>?_;conv=>whnf
      replace h:=dF h
      refine cLk h (fun _ h=>?_) (fun _ h=>?_)<;>(conv=>whnf)
      ·refine nlA rfl ?_;conv=>whnf
       refine bKo rfl ?_;conv=>whnf
       refine nlA rfl ?_;conv=>whnf
       replace h:=aS h
       refine aI h34 h (aA (aK (aA (Wk.refl _) (aA aH aB))) aB) (fun _ h=>?_);conv=>whnf
       refine cLk h (fun _ h=>?_) (fun _ h=>?_)<;>(conv=>whnf)
       ·refine nlA rfl ?_;conv=>whnf
        refine bKo rfl ?_;conv=>whnf
        refine nlA rfl ?_;conv=>whnf
        replace h:=aS h
        refine aE h33 h (aA (aK (aA (Wk.refl _) (aA aH aB))) aB) (fun _ h=>?_);conv=>whnf
        refine hK _ _ _ ?_
        refine aG ?_
        replace h:=aF h
        refine aC dCo fun K hK=>?_;conv=>whnf
        refine hK _ ?_
        cases h
        exact Wk.refl _
       refine hK _ _ _ ?_
       refine aG ?_
       replace h:=aF h
       refine aC dCo fun K hK=>?_;conv=>whnf
       refine hK _ ?_
       cases h
       exact Wk.refl _
      refine hK _ _ _ ?_
      refine aG ?_
      replace h:=aF h
      refine aC dCo fun K hK=>?_;conv=>whnf
      refine hK _ ?_
      cases h
      exact Wk.refl _
     refine hK2 ?_
     refine aL ?_
     refine iBn ?_
     refine tHn ?_
     refine cX dCo rfl fun K hK=>?_;conv=>whnf
     refine hK _ _ _ ?_
     refine tHn ?_
     replace h:=bX h
     refine ⟨_,h,?_⟩
     refine bI ?_;conv=>whnf
     exact And.intro rfl (And.intro (aLc wkI (aLc wkI (aLc wkI (aLc (wkr (lsB _)) (aLc (WkR.ptr (fun _=>rfl)) (aLc (wkr (lsL fun _=>(lsI _ _))) (aLc (WkR.tok (fun _=>rfl) rfl (fun _ _=>Wk.refl _) (fun _=>(lsI _ _))) aLn))))))) (aLc ⟨some _,rfl,bRc rfl (cKc wkI (cKc (wkr (lsL fun _=>(aO _))) cKn))⟩ (aLc ⟨some _,rfl,bRc rfl cKn⟩ aLn)))
    refine hK2 ?_
    refine bK ?_
    refine aY ?_
    refine aY ?_
    refine aX ?_
    replace h:=dE h
    replace h:=dB h
    refine tHn ?_
    refine aD dCo rfl fun K hK=>?_;conv=>whnf
    replace h:=aS h
    refine aV h13 h (WkL.refl _) (fun _ h=>?_);conv=>whnf
    refine hK _ _ _ ?_
    refine aD dCo rfl fun K hK=>?_;conv=>whnf
    replace h:=aS h
    refine aV h13 h (WkL.refl _) (fun _ h=>?_);conv=>whnf
    refine hK _ _ _ ?_
    refine aN ?_
    refine aD dCo rfl fun K hK=>?_;conv=>whnf
    refine nlA rfl ?_;conv=>whnf
    refine bKo rfl ?_;conv=>whnf
    refine nlA rfl ?_;conv=>whnf
    replace h:=aS h
    refine bH h27 h (WkL.refl _) (fun _ h=>?_);conv=>whnf
    refine hK _ _ _ ?_
    refine bA fun K1 K2 hK1 hK2=>?_;conv=>whnf
    refine cLk h (fun _ h=>?_) (fun _ h=>?_)
    ·refine hK1 ?_
     refine aD dCo rfl fun K hK=>?_;conv=>whnf
     refine hK _ _ _ ?_
     refine aG ?_
     refine aR ?_
     replace h:=aF h
     refine aC dCo fun K hK=>?_;conv=>whnf
     refine hK _ ?_
     cases h
     exact Wk.refl _
    refine hK2 ?_
    refine aL ?_
    refine tHn ?_
    refine jR (.step 0 (.step 2 (.step 3 (.step 4 (.step 5 (.step 6 (.step 7 (.step 8 (.step 9 (.thr 1 10 12 (.two 10 12 (.step 12 (.step 11 (.step 13 (.nil)))) (.step 10 (.step 11 (.step 13 (.nil))))) (.step 1 (.step 12 (.step 11 (.step 13 (.nil))))) (.two 1 10 (.step 10 (.step 11 (.step 13 (.nil)))) (.step 1 (.step 11 (.step 13 (.nil))))))))))))))) dCo cV rfl (by kernel_rfl) fun K hK=>?_;conv=>whnf
    refine cI (enc:=cB) (d:=default) dCo h rfl rfl rfl ⟨nle rfl,nle rfl,rfl⟩ rfl trivial (fun h=>?_);conv=>whnf
    refine nlA rfl ?_;conv=>whnf
    refine bKo rfl ?_;conv=>whnf
    refine gKo rfl ?_;conv=>whnf
    refine jD (enc:=cB) (d:=default) dCo h rfl rfl rfl ⟨rfl,nle rfl,nle rfl,nle rfl,rfl⟩ (fun _=>rfl) (fun h=>?_);conv=>whnf
    refine cI (enc:=cB) (d:=default) dCo h rfl rfl rfl ⟨nle rfl,nle rfl,rfl⟩ rfl ⟨⟨rfl,nle rfl⟩,trivial⟩ (fun h=>?_);conv=>whnf
    refine And.intro ?_ (And.intro ?_ ?_)<;>(conv=>whnf)
    ·refine nlA rfl ?_;conv=>whnf
     refine bKo rfl ?_;conv=>whnf
     refine gKo rfl ?_;conv=>whnf
     refine And.intro ?_ ?_<;>(conv=>whnf)
     ·refine bN (enc:=cB) (d:=default) dCo h (.inl rfl) rfl rfl rfl ⟨rfl,nle rfl,nle rfl,nle rfl,rfl⟩ (fun _=>rfl) (.inr (.inr ⟨_,_,rfl,rfl,rfl⟩)) (fun h=>?_);conv=>whnf
      refine bKo rfl ?_;conv=>whnf
      refine And.intro rfl (And.intro (nle rfl) (And.intro rfl ?_));conv=>whnf
      refine hK _ _ _ ?_
      refine aD dCo rfl fun K hK=>?_;conv=>whnf
      refine nlA rfl ?_;conv=>whnf
      refine bKo rfl ?_;conv=>whnf
      refine nlA rfl ?_;conv=>whnf
      replace h:=aS h
      refine aJ h32 h (aA (aK (aA (Wk.refl _) (aA aH aB))) aB) (fun _ h=>?_);conv=>whnf
      refine hK _ _ _ ?_
      refine aD dCo rfl fun K hK=>?_;conv=>whnf
      replace h:=dF h
      refine cLk h (fun _ h=>?_) (fun _ h=>?_)<;>(conv=>whnf)
      ·refine nlA rfl ?_;conv=>whnf
       refine bKo rfl ?_;conv=>whnf
       refine nlA rfl ?_;conv=>whnf
       replace h:=aS h
       refine aI h34 h (aA (aK (aA (Wk.refl _) (aA aH aB))) aB) (fun _ h=>?_);conv=>whnf
       refine cLk h (fun _ h=>?_) (fun _ h=>?_)<;>(conv=>whnf)
       ·refine nlA rfl ?_;conv=>whnf
        refine bKo rfl ?_;conv=>whnf
        refine nlA rfl ?_;conv=>whnf
        replace h:=aS h
        refine aE h33 h (aA (aK (aA (Wk.refl _) (aA aH aB))) aB) (fun _ h=>?_);conv=>whnf
        refine hK _ _ _ ?_
        refine aG ?_
        replace h:=aF h
        refine aC dCo fun K hK=>?_;conv=>whnf
        refine hK _ ?_
        cases h
        exact Wk.refl _
       refine hK _ _ _ ?_
       refine aG ?_
       replace h:=aF h
       refine aC dCo fun K hK=>?_;conv=>whnf
       refine hK _ ?_
       cases h
       exact Wk.refl _
      refine hK _ _ _ ?_
      refine aG ?_
      replace h:=aF h
      refine aC dCo fun K hK=>?_;conv=>whnf
      refine hK _ ?_
      cases h
      exact Wk.refl _
     refine bN (enc:=cB) (d:=default) dCo h (.inl rfl) rfl rfl rfl ⟨rfl,nle rfl,nle rfl,nle rfl,rfl⟩ (fun _=>rfl) (.inr (.inr ⟨_,_,rfl,rfl,rfl⟩)) (fun h=>?_);conv=>whnf
     refine bKo rfl ?_;conv=>whnf
     refine And.intro rfl (And.intro (nle rfl) (And.intro rfl ?_));conv=>whnf
     refine hK _ _ _ ?_
     refine aD dCo rfl fun K hK=>?_;conv=>whnf
     refine nlA rfl ?_;conv=>whnf
     refine bKo rfl ?_;conv=>whnf
     refine nlA rfl ?_;conv=>whnf
     replace h:=aS h
     refine aJ h32 h (aA (aK (aA (Wk.refl _) (aA aH aB))) aB) (fun _ h=>?_);conv=>whnf
     refine hK _ _ _ ?_
     refine aD dCo rfl fun K hK=>?_;conv=>whnf
     replace h:=dF h
     refine cLk h (fun _ h=>?_) (fun _ h=>?_)<;>(conv=>whnf)
     ·refine nlA rfl ?_;conv=>whnf
      refine bKo rfl ?_;conv=>whnf
      refine nlA rfl ?_;conv=>whnf
      replace h:=aS h
      refine aI h34 h (aA (aK (aA (Wk.refl _) (aA aH aB))) aB) (fun _ h=>?_);conv=>whnf
      refine cLk h (fun _ h=>?_) (fun _ h=>?_)<;>(conv=>whnf)
      ·refine nlA rfl ?_;conv=>whnf
       refine bKo rfl ?_;conv=>whnf
       refine nlA rfl ?_;conv=>whnf
       replace h:=aS h
       refine aE h33 h (aA (aK (aA (Wk.refl _) (aA aH aB))) aB) (fun _ h=>?_);conv=>whnf
       refine hK _ _ _ ?_
       refine aG ?_
       replace h:=aF h
       refine aC dCo fun K hK=>?_;conv=>whnf
       refine hK _ ?_
       cases h
       exact Wk.refl _
      refine hK _ _ _ ?_
      refine aG ?_
      replace h:=aF h
      refine aC dCo fun K hK=>?_;conv=>whnf
      refine hK _ ?_
      cases h
      exact Wk.refl _
     refine hK _ _ _ ?_
     refine aG ?_
     replace h:=aF h
     refine aC dCo fun K hK=>?_;conv=>whnf
     refine hK _ ?_
     cases h
     exact Wk.refl _
    ·refine bN (enc:=cB) (d:=default) dCo h (.inl rfl) rfl rfl rfl ⟨rfl,nle rfl,nle rfl,nle rfl,rfl⟩ (fun _=>rfl) (.inr (.inr ⟨_,_,rfl,rfl,rfl⟩)) (fun h=>?_);conv=>whnf
     refine nlA rfl ?_;conv=>whnf
     refine bKo rfl ?_;conv=>whnf
     refine gKo rfl ?_;conv=>whnf
     refine bKo rfl ?_;conv=>whnf
     refine And.intro rfl (And.intro (nle rfl) (And.intro rfl ?_));conv=>whnf
     refine hK _ _ _ ?_
     refine aD dCo rfl fun K hK=>?_;conv=>whnf
     refine nlA rfl ?_;conv=>whnf
     refine bKo rfl ?_;conv=>whnf
     refine nlA rfl ?_;conv=>whnf
     replace h:=aS h
     refine aJ h32 h (aA (aK (aA (Wk.refl _) (aA aH aB))) aB) (fun _ h=>?_);conv=>whnf
     refine hK _ _ _ ?_
     refine aD dCo rfl fun K hK=>?_;conv=>whnf
     replace h:=dF h
     refine cLk h (fun _ h=>?_) (fun _ h=>?_)<;>(conv=>whnf)
     ·refine nlA rfl ?_;conv=>whnf
      refine bKo rfl ?_;conv=>whnf
      refine nlA rfl ?_;conv=>whnf
      replace h:=aS h
      refine aI h34 h (aA (aK (aA (Wk.refl _) (aA aH aB))) aB) (fun _ h=>?_);conv=>whnf
      refine cLk h (fun _ h=>?_) (fun _ h=>?_)<;>(conv=>whnf)
      ·refine nlA rfl ?_;conv=>whnf
       refine bKo rfl ?_;conv=>whnf
       refine nlA rfl ?_;conv=>whnf
       replace h:=aS h
       refine aE h33 h (aA (aK (aA (Wk.refl _) (aA aH aB))) aB) (fun _ h=>?_);conv=>whnf
       refine hK _ _ _ ?_
       refine aG ?_
       replace h:=aF h
       refine aC dCo fun K hK=>?_;conv=>whnf
       refine hK _ ?_
       cases h
       exact Wk.refl _
      refine hK _ _ _ ?_
      refine aG ?_
      replace h:=aF h
      refine aC dCo fun K hK=>?_;conv=>whnf
      refine hK _ ?_
      cases h
      exact Wk.refl _
     refine hK _ _ _ ?_
     refine aG ?_
     replace h:=aF h
     refine aC dCo fun K hK=>?_;conv=>whnf
     refine hK _ ?_
     cases h
     exact Wk.refl _
    refine And.intro ?_ ?_<;>(conv=>whnf)
    ·refine nlA rfl ?_;conv=>whnf
     refine bKo rfl ?_;conv=>whnf
     refine gKo rfl ?_;conv=>whnf
     refine bN (enc:=cB) (d:=default) dCo h (.inl rfl) rfl rfl rfl ⟨rfl,nle rfl,nle rfl,nle rfl,rfl⟩ (fun _=>rfl) (.inr (.inr ⟨_,_,rfl,rfl,rfl⟩)) (fun h=>?_);conv=>whnf
     refine bKo rfl ?_;conv=>whnf
     refine And.intro rfl (And.intro (nle rfl) (And.intro rfl ?_));conv=>whnf
     refine hK _ _ _ ?_
     refine aD dCo rfl fun K hK=>?_;conv=>whnf
     refine nlA rfl ?_;conv=>whnf
     refine bKo rfl ?_;conv=>whnf
     refine nlA rfl ?_;conv=>whnf
     replace h:=aS h
     refine aJ h32 h (aA (aK (aA (Wk.refl _) (aA aH aB))) aB) (fun _ h=>?_);conv=>whnf
     refine hK _ _ _ ?_
     refine aD dCo rfl fun K hK=>?_;conv=>whnf
     replace h:=dF h
     refine cLk h (fun _ h=>?_) (fun _ h=>?_)<;>(conv=>whnf)
     ·refine nlA rfl ?_;conv=>whnf
      refine bKo rfl ?_;conv=>whnf
      refine nlA rfl ?_;conv=>whnf
      replace h:=aS h
      refine aI h34 h (aA (aK (aA (Wk.refl _) (aA aH aB))) aB) (fun _ h=>?_);conv=>whnf
      refine cLk h (fun _ h=>?_) (fun _ h=>?_)<;>(conv=>whnf)
      ·refine nlA rfl ?_;conv=>whnf
       refine bKo rfl ?_;conv=>whnf
       refine nlA rfl ?_;conv=>whnf
       replace h:=aS h
       refine aE h33 h (aA (aK (aA (Wk.refl _) (aA aH aB))) aB) (fun _ h=>?_);conv=>whnf
       refine hK _ _ _ ?_
       refine aG ?_
       replace h:=aF h
       refine aC dCo fun K hK=>?_;conv=>whnf
       refine hK _ ?_
       cases h
       exact Wk.refl _
      refine hK _ _ _ ?_
      refine aG ?_
      replace h:=aF h
      refine aC dCo fun K hK=>?_;conv=>whnf
      refine hK _ ?_
      cases h
      exact Wk.refl _
     refine hK _ _ _ ?_
     refine aG ?_
     replace h:=aF h
     refine aC dCo fun K hK=>?_;conv=>whnf
     refine hK _ ?_
     cases h
     exact Wk.refl _
    refine bN (enc:=cB) (d:=default) dCo h (.inl rfl) rfl rfl rfl ⟨rfl,nle rfl,nle rfl,nle rfl,rfl⟩ (fun _=>rfl) (.inr (.inr ⟨_,_,rfl,rfl,rfl⟩)) (fun h=>?_);conv=>whnf
    refine nlA rfl ?_;conv=>whnf
    refine bKo rfl ?_;conv=>whnf
    refine gKo rfl ?_;conv=>whnf
    refine bKo rfl ?_;conv=>whnf
    refine And.intro rfl (And.intro (nle rfl) (And.intro rfl ?_));conv=>whnf
    refine hK _ _ _ ?_
    refine aD dCo rfl fun K hK=>?_;conv=>whnf
    refine nlA rfl ?_;conv=>whnf
    refine bKo rfl ?_;conv=>whnf
    refine nlA rfl ?_;conv=>whnf
    replace h:=aS h
    refine aJ h32 h (aA (aK (aA (Wk.refl _) (aA aH aB))) aB) (fun _ h=>?_);conv=>whnf
    refine hK _ _ _ ?_
    refine aD dCo rfl fun K hK=>?_;conv=>whnf
    replace h:=dF h
    refine cLk h (fun _ h=>?_) (fun _ h=>?_)<;>(conv=>whnf)
    ·refine nlA rfl ?_;conv=>whnf
     refine bKo rfl ?_;conv=>whnf
     refine nlA rfl ?_;conv=>whnf
     replace h:=aS h
     refine aI h34 h (aA (aK (aA (Wk.refl _) (aA aH aB))) aB) (fun _ h=>?_);conv=>whnf
     refine cLk h (fun _ h=>?_) (fun _ h=>?_)<;>(conv=>whnf)
     ·refine nlA rfl ?_;conv=>whnf
      refine bKo rfl ?_;conv=>whnf
      refine nlA rfl ?_;conv=>whnf
      replace h:=aS h
      refine aE h33 h (aA (aK (aA (Wk.refl _) (aA aH aB))) aB) (fun _ h=>?_);conv=>whnf
      refine hK _ _ _ ?_
      refine aG ?_
      replace h:=aF h
      refine aC dCo fun K hK=>?_;conv=>whnf
      refine hK _ ?_
      cases h
      exact Wk.refl _
     refine hK _ _ _ ?_
     refine aG ?_
     replace h:=aF h
     refine aC dCo fun K hK=>?_;conv=>whnf
     refine hK _ ?_
     cases h
     exact Wk.refl _
    refine hK _ _ _ ?_
    refine aG ?_
    replace h:=aF h
    refine aC dCo fun K hK=>?_;conv=>whnf
    refine hK _ ?_
    cases h
    exact Wk.refl _
   refine hK _ _ _ ?_
   refine bA fun K1 K2 hK1 hK2=>?_;conv=>whnf
   refine hK2 ?_
   replace h:=pI h
   refine bK ?_
   refine aY ?_
   refine aY ?_
   refine aX ?_
   replace h:=dE h
   replace h:=dB h
   refine tHn ?_
   refine aD dCo rfl fun K hK=>?_;conv=>whnf
   replace h:=aS h
   refine aV h13 h (WkL.refl _) (fun _ h=>?_);conv=>whnf
   refine hK _ _ _ ?_
   refine aD dCo rfl fun K hK=>?_;conv=>whnf
   replace h:=aS h
   refine aV h13 h (WkL.refl _) (fun _ h=>?_);conv=>whnf
   refine hK _ _ _ ?_
   refine aN ?_
   refine aD dCo rfl fun K hK=>?_;conv=>whnf
   refine nlA rfl ?_;conv=>whnf
   refine bKo rfl ?_;conv=>whnf
   refine nlA rfl ?_;conv=>whnf
   replace h:=aS h
   refine bH h27 h (WkL.refl _) (fun _ h=>?_);conv=>whnf
   refine hK _ _ _ ?_
   refine bA fun K1 K2 hK1 hK2=>?_;conv=>whnf
   refine cLk h (fun _ h=>?_) (fun _ h=>?_)
   ·refine hK1 ?_
    refine aD dCo rfl fun K hK=>?_;conv=>whnf
    refine hK _ _ _ ?_
    refine aG ?_
    refine aR ?_
    replace h:=aF h
    refine aC dCo fun K hK=>?_;conv=>whnf
    refine hK _ ?_
    cases h
    exact Wk.refl _
   refine hK2 ?_
   refine aL ?_
   refine tHn ?_
   refine jR (.step 0 (.step 2 (.step 3 (.step 4 (.step 5 (.step 6 (.step 7 (.step 8 (.step 9 (.thr 1 10 12 (.two 10 12 (.step 12 (.step 11 (.step 13 (.nil)))) (.step 10 (.step 11 (.step 13 (.nil))))) (.step 1 (.step 12 (.step 11 (.step 13 (.nil))))) (.two 1 10 (.step 10 (.step 11 (.step 13 (.nil)))) (.step 1 (.step 11 (.step 13 (.nil))))))))))))))) dCo cV rfl (by kernel_rfl) fun K hK=>?_;conv=>whnf
   refine cI (enc:=cB) (d:=default) dCo h rfl rfl rfl ⟨nle rfl,nle rfl,rfl⟩ rfl trivial (fun h=>?_);conv=>whnf
   refine nlA rfl ?_;conv=>whnf
   refine bKo rfl ?_;conv=>whnf
   refine gKo rfl ?_;conv=>whnf
   refine jD (enc:=cB) (d:=default) dCo h rfl rfl rfl ⟨rfl,nle rfl,nle rfl,nle rfl,rfl⟩ (fun _=>rfl) (fun h=>?_);conv=>whnf
   refine cI (enc:=cB) (d:=default) dCo h rfl rfl rfl ⟨nle rfl,nle rfl,rfl⟩ rfl ⟨⟨rfl,nle rfl⟩,trivial⟩ (fun h=>?_);conv=>whnf
   refine And.intro ?_ (And.intro ?_ ?_)<;>(conv=>whnf)
   ·refine nlA rfl ?_;conv=>whnf
    refine bKo rfl ?_;conv=>whnf
    refine gKo rfl ?_;conv=>whnf
    refine And.intro ?_ ?_<;>(conv=>whnf)
    ·refine bN (enc:=cB) (d:=default) dCo h (.inl rfl) rfl rfl rfl ⟨rfl,nle rfl,nle rfl,nle rfl,rfl⟩ (fun _=>rfl) (.inr (.inr ⟨_,_,rfl,rfl,rfl⟩)) (fun h=>?_);conv=>whnf
     refine bKo rfl ?_;conv=>whnf
     refine And.intro rfl (And.intro (nle rfl) (And.intro rfl ?_));conv=>whnf
     refine hK _ _ _ ?_
     refine aD dCo rfl fun K hK=>?_;conv=>whnf
     refine nlA rfl ?_;conv=>whnf
     refine bKo rfl ?_;conv=>whnf
     refine nlA rfl ?_;conv=>whnf
     replace h:=aS h
     refine aJ h32 h (aA (aK (aA (Wk.refl _) (aA aH aB))) aB) (fun _ h=>?_);conv=>whnf
     refine hK _ _ _ ?_
     refine aD dCo rfl fun K hK=>?_;conv=>whnf
     replace h:=dF h
     refine cLk h (fun _ h=>?_) (fun _ h=>?_)<;>(conv=>whnf)
     ·refine nlA rfl ?_;conv=>whnf
      refine bKo rfl ?_;conv=>whnf
      refine nlA rfl ?_;conv=>whnf
      replace h:=aS h
      refine aI h34 h (aA (aK (aA (Wk.refl _) (aA aH aB))) aB) (fun _ h=>?_);conv=>whnf
      refine cLk h (fun _ h=>?_) (fun _ h=>?_)<;>(conv=>whnf)
      ·refine nlA rfl ?_;conv=>whnf
       refine bKo rfl ?_;conv=>whnf
       refine nlA rfl ?_;conv=>whnf
       replace h:=aS h
       refine aE h33 h (aA (aK (aA (Wk.refl _) (aA aH aB))) aB) (fun _ h=>?_);conv=>whnf
       refine hK _ _ _ ?_
       refine aG ?_
       replace h:=aF h
       refine aC dCo fun K hK=>?_;conv=>whnf
       refine hK _ ?_
       cases h
       exact Wk.refl _
      refine hK _ _ _ ?_
      refine aG ?_
      replace h:=aF h
      refine aC dCo fun K hK=>?_;conv=>whnf
      refine hK _ ?_
      cases h
      exact Wk.refl _
     refine hK _ _ _ ?_
     refine aG ?_
     replace h:=aF h
     refine aC dCo fun K hK=>?_;conv=>whnf
     refine hK _ ?_
     cases h
     exact Wk.refl _
    refine bN (enc:=cB) (d:=default) dCo h (.inl rfl) rfl rfl rfl ⟨rfl,nle rfl,nle rfl,nle rfl,rfl⟩ (fun _=>rfl) (.inr (.inr ⟨_,_,rfl,rfl,rfl⟩)) (fun h=>?_);conv=>whnf
    refine bKo rfl ?_;conv=>whnf
    refine And.intro rfl (And.intro (nle rfl) (And.intro rfl ?_));conv=>whnf
    refine hK _ _ _ ?_
    refine aD dCo rfl fun K hK=>?_;conv=>whnf
    refine nlA rfl ?_;conv=>whnf
    refine bKo rfl ?_;conv=>whnf
    refine nlA rfl ?_;conv=>whnf
    replace h:=aS h
    refine aJ h32 h (aA (aK (aA (Wk.refl _) (aA aH aB))) aB) (fun _ h=>?_);conv=>whnf
    refine hK _ _ _ ?_
    refine aD dCo rfl fun K hK=>?_;conv=>whnf
    replace h:=dF h
    refine cLk h (fun _ h=>?_) (fun _ h=>?_)<;>(conv=>whnf)
    ·refine nlA rfl ?_;conv=>whnf
     refine bKo rfl ?_;conv=>whnf
     refine nlA rfl ?_;conv=>whnf
     replace h:=aS h
     refine aI h34 h (aA (aK (aA (Wk.refl _) (aA aH aB))) aB) (fun _ h=>?_);conv=>whnf
     refine cLk h (fun _ h=>?_) (fun _ h=>?_)<;>(conv=>whnf)
     ·refine nlA rfl ?_;conv=>whnf
      refine bKo rfl ?_;conv=>whnf
      refine nlA rfl ?_;conv=>whnf
      replace h:=aS h
      refine aE h33 h (aA (aK (aA (Wk.refl _) (aA aH aB))) aB) (fun _ h=>?_);conv=>whnf
      refine hK _ _ _ ?_
      refine aG ?_
      replace h:=aF h
      refine aC dCo fun K hK=>?_;conv=>whnf
      refine hK _ ?_
      cases h
      exact Wk.refl _
     refine hK _ _ _ ?_
     refine aG ?_
     replace h:=aF h
     refine aC dCo fun K hK=>?_;conv=>whnf
     refine hK _ ?_
     cases h
     exact Wk.refl _
    refine hK _ _ _ ?_
    refine aG ?_
    replace h:=aF h
    refine aC dCo fun K hK=>?_;conv=>whnf
    refine hK _ ?_
    cases h
    exact Wk.refl _
   ·refine bN (enc:=cB) (d:=default) dCo h (.inl rfl) rfl rfl rfl ⟨rfl,nle rfl,nle rfl,nle rfl,rfl⟩ (fun _=>rfl) (.inr (.inr ⟨_,_,rfl,rfl,rfl⟩)) (fun h=>?_);conv=>whnf
    refine nlA rfl ?_;conv=>whnf
    refine bKo rfl ?_;conv=>whnf
    refine gKo rfl ?_;conv=>whnf
    refine bKo rfl ?_;conv=>whnf
    refine And.intro rfl (And.intro (nle rfl) (And.intro rfl ?_));conv=>whnf
    refine hK _ _ _ ?_
    refine aD dCo rfl fun K hK=>?_;conv=>whnf
    refine nlA rfl ?_;conv=>whnf
    refine bKo rfl ?_;conv=>whnf
    refine nlA rfl ?_;conv=>whnf
    replace h:=aS h
    refine aJ h32 h (aA (aK (aA (Wk.refl _) (aA aH aB))) aB) (fun _ h=>?_);conv=>whnf
    refine hK _ _ _ ?_
    refine aD dCo rfl fun K hK=>?_;conv=>whnf
    replace h:=dF h
    refine cLk h (fun _ h=>?_) (fun _ h=>?_)<;>(conv=>whnf)
    ·refine nlA rfl ?_;conv=>whnf
     refine bKo rfl ?_;conv=>whnf
     refine nlA rfl ?_;conv=>whnf
     replace h:=aS h
     refine aI h34 h (aA (aK (aA (Wk.refl _) (aA aH aB))) aB) (fun _ h=>?_);conv=>whnf
     refine cLk h (fun _ h=>?_) (fun _ h=>?_)<;>(conv=>whnf)
     ·refine nlA rfl ?_;conv=>whnf
      refine bKo rfl ?_;conv=>whnf
      refine nlA rfl ?_;conv=>whnf
      replace h:=aS h
      refine aE h33 h (aA (aK (aA (Wk.refl _) (aA aH aB))) aB) (fun _ h=>?_);conv=>whnf
      refine hK _ _ _ ?_
      refine aG ?_
      replace h:=aF h
      refine aC dCo fun K hK=>?_;conv=>whnf
      refine hK _ ?_
      cases h
      exact Wk.refl _
     refine hK _ _ _ ?_
     refine aG ?_
     replace h:=aF h
     refine aC dCo fun K hK=>?_;conv=>whnf
     refine hK _ ?_
     cases h
     exact Wk.refl _
    refine hK _ _ _ ?_
    refine aG ?_
    replace h:=aF h
    refine aC dCo fun K hK=>?_;conv=>whnf
    refine hK _ ?_
    cases h
    exact Wk.refl _
   refine And.intro ?_ ?_<;>(conv=>whnf)
   ·refine nlA rfl ?_;conv=>whnf
    refine bKo rfl ?_;conv=>whnf
    refine gKo rfl ?_;conv=>whnf
    refine bN (enc:=cB) (d:=default) dCo h (.inl rfl) rfl rfl rfl ⟨rfl,nle rfl,nle rfl,nle rfl,rfl⟩ (fun _=>rfl) (.inr (.inr ⟨_,_,rfl,rfl,rfl⟩)) (fun h=>?_);conv=>whnf
    refine bKo rfl ?_;conv=>whnf
    refine And.intro rfl (And.intro (nle rfl) (And.intro rfl ?_));conv=>whnf
    refine hK _ _ _ ?_
    refine aD dCo rfl fun K hK=>?_;conv=>whnf
    refine nlA rfl ?_;conv=>whnf
    refine bKo rfl ?_;conv=>whnf
    refine nlA rfl ?_;conv=>whnf
    replace h:=aS h
    refine aJ h32 h (aA (aK (aA (Wk.refl _) (aA aH aB))) aB) (fun _ h=>?_);conv=>whnf
    refine hK _ _ _ ?_
    refine aD dCo rfl fun K hK=>?_;conv=>whnf
    replace h:=dF h
    refine cLk h (fun _ h=>?_) (fun _ h=>?_)<;>(conv=>whnf)
    ·refine nlA rfl ?_;conv=>whnf
     refine bKo rfl ?_;conv=>whnf
     refine nlA rfl ?_;conv=>whnf
     replace h:=aS h
     refine aI h34 h (aA (aK (aA (Wk.refl _) (aA aH aB))) aB) (fun _ h=>?_);conv=>whnf
     refine cLk h (fun _ h=>?_) (fun _ h=>?_)<;>(conv=>whnf)
     ·refine nlA rfl ?_;conv=>whnf
      refine bKo rfl ?_;conv=>whnf
      refine nlA rfl ?_;conv=>whnf
      replace h:=aS h
      refine aE h33 h (aA (aK (aA (Wk.refl _) (aA aH aB))) aB) (fun _ h=>?_);conv=>whnf
      refine hK _ _ _ ?_
      refine aG ?_
      replace h:=aF h
      refine aC dCo fun K hK=>?_;conv=>whnf
      refine hK _ ?_
      cases h
      exact Wk.refl _
     refine hK _ _ _ ?_
     refine aG ?_
     replace h:=aF h
     refine aC dCo fun K hK=>?_;conv=>whnf
     refine hK _ ?_
     cases h
     exact Wk.refl _
    refine hK _ _ _ ?_
    refine aG ?_
    replace h:=aF h
    refine aC dCo fun K hK=>?_;conv=>whnf
    refine hK _ ?_
    cases h
    exact Wk.refl _
   refine bN (enc:=cB) (d:=default) dCo h (.inl rfl) rfl rfl rfl ⟨rfl,nle rfl,nle rfl,nle rfl,rfl⟩ (fun _=>rfl) (.inr (.inr ⟨_,_,rfl,rfl,rfl⟩)) (fun h=>?_);conv=>whnf
   refine nlA rfl ?_;conv=>whnf
   refine bKo rfl ?_;conv=>whnf
   refine gKo rfl ?_;conv=>whnf
   refine bKo rfl ?_;conv=>whnf
   refine And.intro rfl (And.intro (nle rfl) (And.intro rfl ?_));conv=>whnf
   refine hK _ _ _ ?_
   refine aD dCo rfl fun K hK=>?_;conv=>whnf
   refine nlA rfl ?_;conv=>whnf
   refine bKo rfl ?_;conv=>whnf
   refine nlA rfl ?_;conv=>whnf
   replace h:=aS h
   refine aJ h32 h (aA (aK (aA (Wk.refl _) (aA aH aB))) aB) (fun _ h=>?_);conv=>whnf
   refine hK _ _ _ ?_
   refine aD dCo rfl fun K hK=>?_;conv=>whnf
   replace h:=dF h
   refine cLk h (fun _ h=>?_) (fun _ h=>?_)<;>(conv=>whnf)
   ·refine nlA rfl ?_;conv=>whnf
    refine bKo rfl ?_;conv=>whnf
    refine nlA rfl ?_;conv=>whnf
    replace h:=aS h
    refine aI h34 h (aA (aK (aA (Wk.refl _) (aA aH aB))) aB) (fun _ h=>?_);conv=>whnf
    refine cLk h (fun _ h=>?_) (fun _ h=>?_)<;>(conv=>whnf)
    ·refine nlA rfl ?_;conv=>whnf
     refine bKo rfl ?_;conv=>whnf
     refine nlA rfl ?_;conv=>whnf
     replace h:=aS h
     refine aE h33 h (aA (aK (aA (Wk.refl _) (aA aH aB))) aB) (fun _ h=>?_);conv=>whnf
     refine hK _ _ _ ?_
     refine aG ?_
     replace h:=aF h
     refine aC dCo fun K hK=>?_;conv=>whnf
     refine hK _ ?_
     cases h
     exact Wk.refl _
    refine hK _ _ _ ?_
    refine aG ?_
    replace h:=aF h
    refine aC dCo fun K hK=>?_;conv=>whnf
    refine hK _ ?_
    cases h
    exact Wk.refl _
   refine hK _ _ _ ?_
   refine aG ?_
   replace h:=aF h
   refine aC dCo fun K hK=>?_;conv=>whnf
   refine hK _ ?_
   cases h
   exact Wk.refl _
  refine hK2 ?_
  refine aL ?_
  refine tHn ?_
  refine aD dCo rfl fun K hK=>?_;conv=>whnf
  replace h:=aS h
  refine aV h13 h (WkL.refl _) (fun _ h=>?_);conv=>whnf
  refine hK _ _ _ ?_
  refine aD dCo rfl fun K hK=>?_;conv=>whnf
  replace h:=aS h
  refine aV h13 h (WkL.refl _) (fun _ h=>?_);conv=>whnf
  refine hK _ _ _ ?_
  refine aN ?_
  refine aD dCo rfl fun K hK=>?_;conv=>whnf
  refine nlA rfl ?_;conv=>whnf
  refine bKo rfl ?_;conv=>whnf
  refine nlA rfl ?_;conv=>whnf
  replace h:=aS h
  refine bH h27 h (WkL.refl _) (fun _ h=>?_);conv=>whnf
  refine hK _ _ _ ?_
  refine bA fun K1 K2 hK1 hK2=>?_;conv=>whnf
  refine cLk h (fun _ h=>?_) (fun _ h=>?_)
  ·refine hK1 ?_
   refine aD dCo rfl fun K hK=>?_;conv=>whnf
   refine hK _ _ _ ?_
   refine aG ?_
   refine aR ?_
   replace h:=aF h
   refine aC dCo fun K hK=>?_;conv=>whnf
   refine hK _ ?_
   cases h
   exact Wk.refl _
  refine hK2 ?_
  refine aL ?_
  refine tHn ?_
  refine jR (.step 0 (.step 2 (.step 3 (.step 4 (.step 5 (.step 6 (.step 7 (.step 8 (.step 9 (.thr 1 10 12 (.two 10 12 (.step 12 (.step 11 (.step 13 (.nil)))) (.step 10 (.step 11 (.step 13 (.nil))))) (.step 1 (.step 12 (.step 11 (.step 13 (.nil))))) (.two 1 10 (.step 10 (.step 11 (.step 13 (.nil)))) (.step 1 (.step 11 (.step 13 (.nil))))))))))))))) dCo cV rfl (by kernel_rfl) fun K hK=>?_;conv=>whnf
  refine cI (enc:=cB) (d:=default) dCo h rfl rfl rfl ⟨nle rfl,nle rfl,rfl⟩ rfl trivial (fun h=>?_);conv=>whnf
  refine nlA rfl ?_;conv=>whnf
  refine bKo rfl ?_;conv=>whnf
  refine gKo rfl ?_;conv=>whnf
  refine jD (enc:=cB) (d:=default) dCo h rfl rfl rfl ⟨rfl,nle rfl,nle rfl,nle rfl,rfl⟩ (fun _=>rfl) (fun h=>?_);conv=>whnf
  refine cI (enc:=cB) (d:=default) dCo h rfl rfl rfl ⟨nle rfl,nle rfl,rfl⟩ rfl ⟨⟨rfl,nle rfl⟩,trivial⟩ (fun h=>?_);conv=>whnf
  refine And.intro ?_ (And.intro ?_ ?_)<;>(conv=>whnf)
  ·refine nlA rfl ?_;conv=>whnf
   refine bKo rfl ?_;conv=>whnf
   refine gKo rfl ?_;conv=>whnf
   refine And.intro ?_ ?_<;>(conv=>whnf)
   ·refine bN (enc:=cB) (d:=default) dCo h (.inl rfl) rfl rfl rfl ⟨rfl,nle rfl,nle rfl,nle rfl,rfl⟩ (fun _=>rfl) (.inr (.inr ⟨_,_,rfl,rfl,rfl⟩)) (fun h=>?_);conv=>whnf
    refine bKo rfl ?_;conv=>whnf
    refine And.intro rfl (And.intro (nle rfl) (And.intro rfl ?_));conv=>whnf
    refine hK _ _ _ ?_
    refine aD dCo rfl fun K hK=>?_;conv=>whnf
    refine nlA rfl ?_;conv=>whnf
    refine bKo rfl ?_;conv=>whnf
    refine nlA rfl ?_;conv=>whnf
    replace h:=aS h
    refine aJ h32 h (aA (aK (aA (Wk.refl _) (aA aH aB))) aB) (fun _ h=>?_);conv=>whnf
    refine hK _ _ _ ?_
    refine aD dCo rfl fun K hK=>?_;conv=>whnf
    replace h:=dF h
    refine cLk h (fun _ h=>?_) (fun _ h=>?_)<;>(conv=>whnf)
    ·refine nlA rfl ?_;conv=>whnf
     refine bKo rfl ?_;conv=>whnf
     refine nlA rfl ?_;conv=>whnf
     replace h:=aS h
     refine aI h34 h (aA (aK (aA (Wk.refl _) (aA aH aB))) aB) (fun _ h=>?_);conv=>whnf
     refine cLk h (fun _ h=>?_) (fun _ h=>?_)<;>(conv=>whnf)
     ·refine nlA rfl ?_;conv=>whnf
      refine bKo rfl ?_;conv=>whnf
      refine nlA rfl ?_;conv=>whnf
      replace h:=aS h
      refine aE h33 h (aA (aK (aA (Wk.refl _) (aA aH aB))) aB) (fun _ h=>?_);conv=>whnf
      refine hK _ _ _ ?_
      refine aG ?_
      replace h:=aF h
      refine aC dCo fun K hK=>?_;conv=>whnf
      refine hK _ ?_
      cases h
      exact Wk.refl _
     refine hK _ _ _ ?_
     refine aG ?_
     replace h:=aF h
     refine aC dCo fun K hK=>?_;conv=>whnf
     refine hK _ ?_
     cases h
     exact Wk.refl _
    refine hK _ _ _ ?_
    refine aG ?_
    replace h:=aF h
    refine aC dCo fun K hK=>?_;conv=>whnf
    refine hK _ ?_
    cases h
    exact Wk.refl _
   refine bN (enc:=cB) (d:=default) dCo h (.inl rfl) rfl rfl rfl ⟨rfl,nle rfl,nle rfl,nle rfl,rfl⟩ (fun _=>rfl) (.inr (.inr ⟨_,_,rfl,rfl,rfl⟩)) (fun h=>?_);conv=>whnf
   refine bKo rfl ?_;conv=>whnf
   refine And.intro rfl (And.intro (nle rfl) (And.intro rfl ?_));conv=>whnf
   refine hK _ _ _ ?_
   refine aD dCo rfl fun K hK=>?_;conv=>whnf
   refine nlA rfl ?_;conv=>whnf
   refine bKo rfl ?_;conv=>whnf
   refine nlA rfl ?_;conv=>whnf
   replace h:=aS h
   refine aJ h32 h (aA (aK (aA (Wk.refl _) (aA aH aB))) aB) (fun _ h=>?_);conv=>whnf
   refine hK _ _ _ ?_
   refine aD dCo rfl fun K hK=>?_;conv=>whnf
   replace h:=dF h
   refine cLk h (fun _ h=>?_) (fun _ h=>?_)<;>(conv=>whnf)
   ·refine nlA rfl ?_;conv=>whnf
    refine bKo rfl ?_;conv=>whnf
    refine nlA rfl ?_;conv=>whnf
    replace h:=aS h
    refine aI h34 h (aA (aK (aA (Wk.refl _) (aA aH aB))) aB) (fun _ h=>?_);conv=>whnf
    refine cLk h (fun _ h=>?_) (fun _ h=>?_)<;>(conv=>whnf)
    ·refine nlA rfl ?_;conv=>whnf
     refine bKo rfl ?_;conv=>whnf
     refine nlA rfl ?_;conv=>whnf
     replace h:=aS h
     refine aE h33 h (aA (aK (aA (Wk.refl _) (aA aH aB))) aB) (fun _ h=>?_);conv=>whnf
     refine hK _ _ _ ?_
     refine aG ?_
     replace h:=aF h
     refine aC dCo fun K hK=>?_;conv=>whnf
     refine hK _ ?_
     cases h
     exact Wk.refl _
    refine hK _ _ _ ?_
    refine aG ?_
    replace h:=aF h
    refine aC dCo fun K hK=>?_;conv=>whnf
    refine hK _ ?_
    cases h
    exact Wk.refl _
   refine hK _ _ _ ?_
   refine aG ?_
   replace h:=aF h
   refine aC dCo fun K hK=>?_;conv=>whnf
   refine hK _ ?_
   cases h
   exact Wk.refl _
  ·refine bN (enc:=cB) (d:=default) dCo h (.inl rfl) rfl rfl rfl ⟨rfl,nle rfl,nle rfl,nle rfl,rfl⟩ (fun _=>rfl) (.inr (.inr ⟨_,_,rfl,rfl,rfl⟩)) (fun h=>?_);conv=>whnf
   refine nlA rfl ?_;conv=>whnf
   refine bKo rfl ?_;conv=>whnf
   refine gKo rfl ?_;conv=>whnf
   refine bKo rfl ?_;conv=>whnf
   refine And.intro rfl (And.intro (nle rfl) (And.intro rfl ?_));conv=>whnf
   refine hK _ _ _ ?_
   refine aD dCo rfl fun K hK=>?_;conv=>whnf
   refine nlA rfl ?_;conv=>whnf
   refine bKo rfl ?_;conv=>whnf
   refine nlA rfl ?_;conv=>whnf
   replace h:=aS h
   refine aJ h32 h (aA (aK (aA (Wk.refl _) (aA aH aB))) aB) (fun _ h=>?_);conv=>whnf
   refine hK _ _ _ ?_
   refine aD dCo rfl fun K hK=>?_;conv=>whnf
   replace h:=dF h
   refine cLk h (fun _ h=>?_) (fun _ h=>?_)<;>(conv=>whnf)
   ·refine nlA rfl ?_;conv=>whnf
    refine bKo rfl ?_;conv=>whnf
    refine nlA rfl ?_;conv=>whnf
    replace h:=aS h
    refine aI h34 h (aA (aK (aA (Wk.refl _) (aA aH aB))) aB) (fun _ h=>?_);conv=>whnf
    refine cLk h (fun _ h=>?_) (fun _ h=>?_)<;>(conv=>whnf)
    ·refine nlA rfl ?_;conv=>whnf
     refine bKo rfl ?_;conv=>whnf
     refine nlA rfl ?_;conv=>whnf
     replace h:=aS h
     refine aE h33 h (aA (aK (aA (Wk.refl _) (aA aH aB))) aB) (fun _ h=>?_);conv=>whnf
     refine hK _ _ _ ?_
     refine aG ?_
     replace h:=aF h
     refine aC dCo fun K hK=>?_;conv=>whnf
     refine hK _ ?_
     cases h
     exact Wk.refl _
    refine hK _ _ _ ?_
    refine aG ?_
    replace h:=aF h
    refine aC dCo fun K hK=>?_;conv=>whnf
    refine hK _ ?_
    cases h
    exact Wk.refl _
   refine hK _ _ _ ?_
   refine aG ?_
   replace h:=aF h
   refine aC dCo fun K hK=>?_;conv=>whnf
   refine hK _ ?_
   cases h
   exact Wk.refl _
  refine And.intro ?_ ?_<;>(conv=>whnf)
  ·refine nlA rfl ?_;conv=>whnf
   refine bKo rfl ?_;conv=>whnf
   refine gKo rfl ?_;conv=>whnf
   refine bN (enc:=cB) (d:=default) dCo h (.inl rfl) rfl rfl rfl ⟨rfl,nle rfl,nle rfl,nle rfl,rfl⟩ (fun _=>rfl) (.inr (.inr ⟨_,_,rfl,rfl,rfl⟩)) (fun h=>?_);conv=>whnf
   refine bKo rfl ?_;conv=>whnf
   refine And.intro rfl (And.intro (nle rfl) (And.intro rfl ?_));conv=>whnf
   refine hK _ _ _ ?_
   refine aD dCo rfl fun K hK=>?_;conv=>whnf
   refine nlA rfl ?_;conv=>whnf
   refine bKo rfl ?_;conv=>whnf
   refine nlA rfl ?_;conv=>whnf
   replace h:=aS h
   refine aJ h32 h (aA (aK (aA (Wk.refl _) (aA aH aB))) aB) (fun _ h=>?_);conv=>whnf
   refine hK _ _ _ ?_
   refine aD dCo rfl fun K hK=>?_;conv=>whnf
   replace h:=dF h
   refine cLk h (fun _ h=>?_) (fun _ h=>?_)<;>(conv=>whnf)
   ·refine nlA rfl ?_;conv=>whnf
    refine bKo rfl ?_;conv=>whnf
    refine nlA rfl ?_;conv=>whnf
    replace h:=aS h
    refine aI h34 h (aA (aK (aA (Wk.refl _) (aA aH aB))) aB) (fun _ h=>?_);conv=>whnf
    refine cLk h (fun _ h=>?_) (fun _ h=>?_)<;>(conv=>whnf)
    ·refine nlA rfl ?_;conv=>whnf
     refine bKo rfl ?_;conv=>whnf
     refine nlA rfl ?_;conv=>whnf
     replace h:=aS h
     refine aE h33 h (aA (aK (aA (Wk.refl _) (aA aH aB))) aB) (fun _ h=>?_);conv=>whnf
     refine hK _ _ _ ?_
     refine aG ?_
     replace h:=aF h
     refine aC dCo fun K hK=>?_;conv=>whnf
     refine hK _ ?_
     cases h
     exact Wk.refl _
    refine hK _ _ _ ?_
    refine aG ?_
    replace h:=aF h
    refine aC dCo fun K hK=>?_;conv=>whnf
    refine hK _ ?_
    cases h
    exact Wk.refl _
   refine hK _ _ _ ?_
   refine aG ?_
   replace h:=aF h
   refine aC dCo fun K hK=>?_;conv=>whnf
   refine hK _ ?_
   cases h
   exact Wk.refl _
  refine bN (enc:=cB) (d:=default) dCo h (.inl rfl) rfl rfl rfl ⟨rfl,nle rfl,nle rfl,nle rfl,rfl⟩ (fun _=>rfl) (.inr (.inr ⟨_,_,rfl,rfl,rfl⟩)) (fun h=>?_);conv=>whnf
  refine nlA rfl ?_;conv=>whnf
  refine bKo rfl ?_;conv=>whnf
  refine gKo rfl ?_;conv=>whnf
  refine bKo rfl ?_;conv=>whnf
  refine And.intro rfl (And.intro (nle rfl) (And.intro rfl ?_));conv=>whnf
  refine hK _ _ _ ?_
  refine aD dCo rfl fun K hK=>?_;conv=>whnf
  refine nlA rfl ?_;conv=>whnf
  refine bKo rfl ?_;conv=>whnf
  refine nlA rfl ?_;conv=>whnf
  replace h:=aS h
  refine aJ h32 h (aA (aK (aA (Wk.refl _) (aA aH aB))) aB) (fun _ h=>?_);conv=>whnf
  refine hK _ _ _ ?_
  refine aD dCo rfl fun K hK=>?_;conv=>whnf
  replace h:=dF h
  refine cLk h (fun _ h=>?_) (fun _ h=>?_)<;>(conv=>whnf)
  ·refine nlA rfl ?_;conv=>whnf
   refine bKo rfl ?_;conv=>whnf
   refine nlA rfl ?_;conv=>whnf
   replace h:=aS h
   refine aI h34 h (aA (aK (aA (Wk.refl _) (aA aH aB))) aB) (fun _ h=>?_);conv=>whnf
   refine cLk h (fun _ h=>?_) (fun _ h=>?_)<;>(conv=>whnf)
   ·refine nlA rfl ?_;conv=>whnf
    refine bKo rfl ?_;conv=>whnf
    refine nlA rfl ?_;conv=>whnf
    replace h:=aS h
    refine aE h33 h (aA (aK (aA (Wk.refl _) (aA aH aB))) aB) (fun _ h=>?_);conv=>whnf
    refine hK _ _ _ ?_
    refine aG ?_
    replace h:=aF h
    refine aC dCo fun K hK=>?_;conv=>whnf
    refine hK _ ?_
    cases h
    exact Wk.refl _
   refine hK _ _ _ ?_
   refine aG ?_
   replace h:=aF h
   refine aC dCo fun K hK=>?_;conv=>whnf
   refine hK _ ?_
   cases h
   exact Wk.refl _
  refine hK _ _ _ ?_
  refine aG ?_
  replace h:=aF h
  refine aC dCo fun K hK=>?_;conv=>whnf
  refine hK _ ?_
  cases h
  exact Wk.refl _
 refine hK _ _ _ ?_
 refine bA fun K1 K2 hK1 hK2=>?_;conv=>whnf
 refine hK2 ?_
 replace h:=pI h
 refine bK ?_
 refine aY ?_
 refine aY ?_
 refine aX ?_
 replace h:=dE h
 replace h:=dB h
 refine tHn ?_
 refine aN ?_
 refine aD dCo rfl fun K hK=>?_;conv=>whnf
 refine nlA rfl ?_;conv=>whnf
 refine bKo rfl ?_;conv=>whnf
 refine nlA rfl ?_;conv=>whnf
 replace h:=aS h
 refine fN h35 h (aA (Wk.refl _) (aA aH aB)) (fun _ h=>?_);conv=>whnf
 refine hK _ _ _ ?_
 replace h:=dF h
 refine bA fun K1 K2 hK1 hK2=>?_;conv=>whnf
 refine cLk h (fun _ h=>?_) (fun _ h=>?_)
 ·refine hK1 ?_
  refine aN ?_
  refine aD dCo rfl fun K hK=>?_;conv=>whnf
  replace h:=dF h
  refine cLk h (fun _ h=>?_) (fun _ h=>?_)<;>(conv=>whnf)
  ·refine hK _ _ _ ?_
   refine bA fun K1 K2 hK1 hK2=>?_;conv=>whnf
   refine hK1 ?_
   replace h:=mN h
   refine aD dCo rfl fun K hK=>?_;conv=>whnf
   refine hK _ _ _ ?_
   refine aG ?_
   refine aR ?_
   refine aR ?_
   replace h:=aF h
   refine aC dCo fun K hK=>?_;conv=>whnf
   refine hK _ ?_
   cases h
   exact Wk.refl _
  refine hK _ _ _ ?_
  refine bA fun K1 K2 hK1 hK2=>?_;conv=>whnf
  refine cLk h (fun _ h=>?_) (fun _ h=>?_)
  ·refine hK1 ?_
   refine aD dCo rfl fun K hK=>?_;conv=>whnf
   refine hK _ _ _ ?_
   refine aG ?_
   refine aR ?_
   refine aR ?_
   replace h:=aF h
   refine aC dCo fun K hK=>?_;conv=>whnf
   refine hK _ ?_
   cases h
   exact Wk.refl _
  refine hK2 ?_
  refine aL ?_
  refine tHn ?_
  refine aD dCo rfl fun K hK=>?_;conv=>whnf
  refine hK _ _ _ ?_
  refine aQ ?_
  replace h:=aS h
  refine fP (body:=bJ _ _) rfl h [3,4,11,12,13,17] [12,17] [] (fun kl kh ids b s=>⟨ofL ([(19,eI s)]++kl),ofH ([]++kh),b+64⟩) ?_;(conv=>whnf);refine And.intro ?_ (fun s m h=>dO ?_)
  ·refine bI ?_;conv=>whnf
   exact And.intro rfl (And.intro (aLc wkI (aLc wkI (aLc wkI (aLc (wkr (lsB _)) (aLc (WkR.ptr (fun _=>rfl)) (aLc (wkr (lsL fun _=>(lsI _ _))) (aLc (WkR.tok (fun _=>rfl) rfl (fun _ _=>Wk.refl _) (fun _=>(lsI _ _))) aLn))))))) (aLc ⟨some _,rfl,bRc rfl (cKc wkI (cKc (wkr (lsL fun _=>(aO _))) cKn))⟩ (aLc ⟨some _,rfl,bRc rfl cKn⟩ aLn)))
  replace h:=aS h;rw [bJ.eq_1] at h
  refine aN ?_
  refine aD dCo rfl fun K hK=>?_;conv=>whnf
  replace h:=dF h
  refine cLk h (fun _ h=>?_) (fun _ h=>?_)<;>(conv=>whnf)
  ·refine hK _ _ _ ?_
   refine bA fun K1 K2 hK1 hK2=>?_;conv=>whnf
   refine cLk h (fun _ h=>?_) (fun _ h=>?_)
   ·refine hK1 ?_
    refine aL ?_
    refine tHn ?_
    refine aN ?_
    refine aQ ?_
    refine mQ dCo cV rfl (by kernel_rfl) fun K hK=>?_;conv=>whnf
    refine eQ h fun _ h=>?_;conv=>whnf
    refine gKo rfl ?_;conv=>whnf
    refine eQ h fun _ h=>?_;conv=>whnf
    refine gKo rfl ?_;conv=>whnf
    refine hK _ _ _ ?_
    refine bA fun K1 K2 hK1 hK2=>?_;conv=>whnf
    refine cLk h (fun _ h=>?_) (fun _ h=>?_)
    ·refine hK1 ?_
     refine aN ?_
     refine mQ dCo cV rfl (by kernel_rfl) fun K hK=>?_;conv=>whnf
     refine eQ h fun _ h=>?_;conv=>whnf
     refine gKo rfl ?_;conv=>whnf
     refine eQ h fun _ h=>?_;conv=>whnf
     refine gKo rfl ?_;conv=>whnf
     refine hK _ _ _ ?_
     refine bA fun K1 K2 hK1 hK2=>?_;conv=>whnf
     refine cLk h (fun _ h=>?_) (fun _ h=>?_)
     ·refine hK1 ?_
      refine aD dCo rfl fun K hK=>?_;conv=>whnf
      refine hK _ _ _ ?_
      refine aG ?_
      refine aR ?_
      refine bB ?_
      refine aR ?_
      refine aR ?_
      refine bB ?_
      refine aR ?_
      replace h:=iJ h
      replace h:=iK h
      replace h:=aF h
      refine aC dCo fun K hK=>?_;conv=>whnf
      refine hK _ ?_
      cases h
      exact Wk.refl _
     refine hK2 ?_
     refine aL ?_
     refine tHn ?_
     refine bK ?_
     refine oN (by decide) ?_
     refine aY ?_
     refine aY ?_
     refine aX ?_
     replace h:=dE h
     replace h:=dB h
     refine tHn ?_
     refine aD dCo rfl fun K hK=>?_;conv=>whnf
     replace h:=aS h
     refine aV h13 h (WkL.refl _) (fun _ h=>?_);conv=>whnf
     refine hK _ _ _ ?_
     refine aD dCo rfl fun K hK=>?_;conv=>whnf
     replace h:=aS h
     refine aV h13 h (WkL.refl _) (fun _ h=>?_);conv=>whnf
     refine hK _ _ _ ?_
     refine aN ?_
     refine aD dCo rfl fun K hK=>?_;conv=>whnf
     refine nlA rfl ?_;conv=>whnf
     refine bKo rfl ?_;conv=>whnf
     refine nlA rfl ?_;conv=>whnf
     replace h:=aS h
     refine bH h27 h (WkL.refl _) (fun _ h=>?_);conv=>whnf
     refine hK _ _ _ ?_
     refine bA fun K1 K2 hK1 hK2=>?_;conv=>whnf
     refine cLk h (fun _ h=>?_) (fun _ h=>?_)
     ·refine hK1 ?_
      refine aD dCo rfl fun K hK=>?_;conv=>whnf
      refine hK _ _ _ ?_
      refine aG ?_
      refine aR ?_
      replace h:=aF h
      refine aC dCo fun K hK=>?_;conv=>whnf
      refine hK _ ?_
      cases h
      exact Wk.refl _
     refine hK2 ?_
     refine aL ?_
     refine tHn ?_
     refine jR (.step 0 (.step 2 (.step 3 (.step 4 (.step 5 (.step 6 (.step 7 (.step 8 (.step 9 (.thr 1 10 12 (.two 10 12 (.step 12 (.step 11 (.step 13 (.nil)))) (.step 10 (.step 11 (.step 13 (.nil))))) (.step 1 (.step 12 (.step 11 (.step 13 (.nil))))) (.two 1 10 (.step 10 (.step 11 (.step 13 (.nil)))) (.step 1 (.step 11 (.step 13 (.nil))))))))))))))) dCo cV rfl (by kernel_rfl) fun K hK=>?_;conv=>whnf
     refine cI (enc:=cB) (d:=default) dCo h rfl rfl rfl ⟨nle rfl,nle rfl,rfl⟩ rfl trivial (fun h=>?_);conv=>whnf
     refine nlA rfl ?_;conv=>whnf
     refine bKo rfl ?_;conv=>whnf
     refine gKo rfl ?_;conv=>whnf
     refine jD (enc:=cB) (d:=default) dCo h rfl rfl rfl ⟨rfl,nle rfl,nle rfl,nle rfl,rfl⟩ (fun _=>rfl) (fun h=>?_);conv=>whnf
     refine cI (enc:=cB) (d:=default) dCo h rfl rfl rfl ⟨nle rfl,nle rfl,rfl⟩ rfl ⟨⟨rfl,nle rfl⟩,trivial⟩ (fun h=>?_);conv=>whnf
     refine And.intro ?_ (And.intro ?_ ?_)<;>(conv=>whnf)
     ·refine nlA rfl ?_;conv=>whnf
      refine bKo rfl ?_;conv=>whnf
      refine gKo rfl ?_;conv=>whnf
      refine And.intro ?_ ?_<;>(conv=>whnf)
      ·refine bN (enc:=cB) (d:=default) dCo h (.inl rfl) rfl rfl rfl ⟨rfl,nle rfl,nle rfl,nle rfl,rfl⟩ (fun _=>rfl) (.inr (.inr ⟨_,_,rfl,rfl,rfl⟩)) (fun h=>?_);conv=>whnf
       refine bKo rfl ?_;conv=>whnf
       refine And.intro rfl (And.intro (nle rfl) (And.intro rfl ?_));conv=>whnf
       refine hK _ _ _ ?_
       refine aD dCo rfl fun K hK=>?_;conv=>whnf
       refine nlA rfl ?_;conv=>whnf
       refine bKo rfl ?_;conv=>whnf
       refine nlA rfl ?_;conv=>whnf
       replace h:=aS h
       refine aJ h32 h (aA (aK (aA (Wk.refl _) (aA aH aB))) aB) (fun _ h=>?_);conv=>whnf
       refine hK _ _ _ ?_
       refine aD dCo rfl fun K hK=>?_;conv=>whnf
       replace h:=dF h
       refine cLk h (fun _ h=>?_) (fun _ h=>?_)<;>(conv=>whnf)
       ·refine nlA rfl ?_;conv=>whnf
        refine bKo rfl ?_;conv=>whnf
        refine nlA rfl ?_;conv=>whnf
        replace h:=aS h
        refine aI h34 h (aA (aK (aA (Wk.refl _) (aA aH aB))) aB) (fun _ h=>?_);conv=>whnf
        refine cLk h (fun _ h=>?_) (fun _ h=>?_)<;>(conv=>whnf)
        ·refine nlA rfl ?_;conv=>whnf
         refine bKo rfl ?_;conv=>whnf
         refine nlA rfl ?_;conv=>whnf
         replace h:=aS h
         refine aE h33 h (aA (aK (aA (Wk.refl _) (aA aH aB))) aB) (fun _ h=>?_);conv=>whnf
         refine hK _ _ _ ?_
         refine aG ?_
         replace h:=aF h
         refine aC dCo fun K hK=>?_;conv=>whnf
         refine hK _ ?_
         cases h
         exact Wk.refl _
        refine hK _ _ _ ?_
        refine aG ?_
        replace h:=aF h
        refine aC dCo fun K hK=>?_;conv=>whnf
        refine hK _ ?_
        cases h
        exact Wk.refl _
       refine hK _ _ _ ?_
       refine aG ?_
       replace h:=aF h
       refine aC dCo fun K hK=>?_;conv=>whnf
       refine hK _ ?_
       cases h
       exact Wk.refl _
      refine bN (enc:=cB) (d:=default) dCo h (.inl rfl) rfl rfl rfl ⟨rfl,nle rfl,nle rfl,nle rfl,rfl⟩ (fun _=>rfl) (.inr (.inr ⟨_,_,rfl,rfl,rfl⟩)) (fun h=>?_);conv=>whnf
      refine bKo rfl ?_;conv=>whnf
      refine And.intro rfl (And.intro (nle rfl) (And.intro rfl ?_));conv=>whnf
      refine hK _ _ _ ?_
      refine aD dCo rfl fun K hK=>?_;conv=>whnf
      refine nlA rfl ?_;conv=>whnf
      refine bKo rfl ?_;conv=>whnf
      refine nlA rfl ?_;conv=>whnf
      replace h:=aS h
      refine aJ h32 h (aA (aK (aA (Wk.refl _) (aA aH aB))) aB) (fun _ h=>?_);conv=>whnf
      refine hK _ _ _ ?_
      refine aD dCo rfl fun K hK=>?_;conv=>whnf
      replace h:=dF h
      refine cLk h (fun _ h=>?_) (fun _ h=>?_)<;>(conv=>whnf)
      ·refine nlA rfl ?_;conv=>whnf
       refine bKo rfl ?_;conv=>whnf
       refine nlA rfl ?_;conv=>whnf
       replace h:=aS h
       refine aI h34 h (aA (aK (aA (Wk.refl _) (aA aH aB))) aB) (fun _ h=>?_);conv=>whnf
       refine cLk h (fun _ h=>?_) (fun _ h=>?_)<;>(conv=>whnf)
       ·refine nlA rfl ?_;conv=>whnf
        refine bKo rfl ?_;conv=>whnf
        refine nlA rfl ?_;conv=>whnf
        replace h:=aS h
        refine aE h33 h (aA (aK (aA (Wk.refl _) (aA aH aB))) aB) (fun _ h=>?_);conv=>whnf
        refine hK _ _ _ ?_
        refine aG ?_
        replace h:=aF h
        refine aC dCo fun K hK=>?_;conv=>whnf
        refine hK _ ?_
        cases h
        exact Wk.refl _
       refine hK _ _ _ ?_
       refine aG ?_
       replace h:=aF h
       refine aC dCo fun K hK=>?_;conv=>whnf
       refine hK _ ?_
       cases h
       exact Wk.refl _
      refine hK _ _ _ ?_
      refine aG ?_
      replace h:=aF h
      refine aC dCo fun K hK=>?_;conv=>whnf
      refine hK _ ?_
      cases h
      exact Wk.refl _
     ·refine bN (enc:=cB) (d:=default) dCo h (.inl rfl) rfl rfl rfl ⟨rfl,nle rfl,nle rfl,nle rfl,rfl⟩ (fun _=>rfl) (.inr (.inr ⟨_,_,rfl,rfl,rfl⟩)) (fun h=>?_);conv=>whnf
      refine nlA rfl ?_;conv=>whnf
      refine bKo rfl ?_;conv=>whnf
      refine gKo rfl ?_;conv=>whnf
      refine bKo rfl ?_;conv=>whnf
      refine And.intro rfl (And.intro (nle rfl) (And.intro rfl ?_));conv=>whnf
      refine hK _ _ _ ?_
      refine aD dCo rfl fun K hK=>?_;conv=>whnf
      refine nlA rfl ?_;conv=>whnf
      refine bKo rfl ?_;conv=>whnf
      refine nlA rfl ?_;conv=>whnf
      replace h:=aS h
      refine aJ h32 h (aA (aK (aA (Wk.refl _) (aA aH aB))) aB) (fun _ h=>?_);conv=>whnf
      refine hK _ _ _ ?_
      refine aD dCo rfl fun K hK=>?_;conv=>whnf
      replace h:=dF h
      refine cLk h (fun _ h=>?_) (fun _ h=>?_)<;>(conv=>whnf)
      ·refine nlA rfl ?_;conv=>whnf
       refine bKo rfl ?_;conv=>whnf
       refine nlA rfl ?_;conv=>whnf
       replace h:=aS h
       refine aI h34 h (aA (aK (aA (Wk.refl _) (aA aH aB))) aB) (fun _ h=>?_);conv=>whnf
       refine cLk h (fun _ h=>?_) (fun _ h=>?_)<;>(conv=>whnf)
       ·refine nlA rfl ?_;conv=>whnf
        refine bKo rfl ?_;conv=>whnf
        refine nlA rfl ?_;conv=>whnf
        replace h:=aS h
        refine aE h33 h (aA (aK (aA (Wk.refl _) (aA aH aB))) aB) (fun _ h=>?_);conv=>whnf
        refine hK _ _ _ ?_
        refine aG ?_
        replace h:=aF h
        refine aC dCo fun K hK=>?_;conv=>whnf
        refine hK _ ?_
        cases h
        exact Wk.refl _
       refine hK _ _ _ ?_
       refine aG ?_
       replace h:=aF h
       refine aC dCo fun K hK=>?_;conv=>whnf
       refine hK _ ?_
       cases h
       exact Wk.refl _
      refine hK _ _ _ ?_
      refine aG ?_
      replace h:=aF h
      refine aC dCo fun K hK=>?_;conv=>whnf
      refine hK _ ?_
      cases h
      exact Wk.refl _
     refine And.intro ?_ ?_<;>(conv=>whnf)
     ·refine nlA rfl ?_;conv=>whnf
      refine bKo rfl ?_;conv=>whnf
      refine gKo rfl ?_;conv=>whnf
      refine bN (enc:=cB) (d:=default) dCo h (.inl rfl) rfl rfl rfl ⟨rfl,nle rfl,nle rfl,nle rfl,rfl⟩ (fun _=>rfl) (.inr (.inr ⟨_,_,rfl,rfl,rfl⟩)) (fun h=>?_);conv=>whnf
      refine bKo rfl ?_;conv=>whnf
      refine And.intro rfl (And.intro (nle rfl) (And.intro rfl ?_));conv=>whnf
      refine hK _ _ _ ?_
      refine aD dCo rfl fun K hK=>?_;conv=>whnf
      refine nlA rfl ?_;conv=>whnf
      refine bKo rfl ?_;conv=>whnf
      refine nlA rfl ?_;conv=>whnf
      replace h:=aS h
      refine aJ h32 h (aA (aK (aA (Wk.refl _) (aA aH aB))) aB) (fun _ h=>?_);conv=>whnf
      refine hK _ _ _ ?_
      refine aD dCo rfl fun K hK=>?_;conv=>whnf
      replace h:=dF h
      refine cLk h (fun _ h=>?_) (fun _ h=>?_)<;>(conv=>whnf)
      ·refine nlA rfl ?_;conv=>whnf
       refine bKo rfl ?_;conv=>whnf
       refine nlA rfl ?_;conv=>whnf
       replace h:=aS h
       refine aI h34 h (aA (aK (aA (Wk.refl _) (aA aH aB))) aB) (fun _ h=>?_);conv=>whnf
       refine cLk h (fun _ h=>?_) (fun _ h=>?_)<;>(conv=>whnf)
       ·refine nlA rfl ?_;conv=>whnf
        refine bKo rfl ?_;conv=>whnf
        refine nlA rfl ?_;conv=>whnf
        replace h:=aS h
        refine aE h33 h (aA (aK (aA (Wk.refl _) (aA aH aB))) aB) (fun _ h=>?_);conv=>whnf
        refine hK _ _ _ ?_
        refine aG ?_
        replace h:=aF h
        refine aC dCo fun K hK=>?_;conv=>whnf
        refine hK _ ?_
        cases h
        exact Wk.refl _
       refine hK _ _ _ ?_
       refine aG ?_
       replace h:=aF h
       refine aC dCo fun K hK=>?_;conv=>whnf
       refine hK _ ?_
       cases h
       exact Wk.refl _
      refine hK _ _ _ ?_
      refine aG ?_
      replace h:=aF h
      refine aC dCo fun K hK=>?_;conv=>whnf
      refine hK _ ?_
      cases h
      exact Wk.refl _
     refine bN (enc:=cB) (d:=default) dCo h (.inl rfl) rfl rfl rfl ⟨rfl,nle rfl,nle rfl,nle rfl,rfl⟩ (fun _=>rfl) (.inr (.inr ⟨_,_,rfl,rfl,rfl⟩)) (fun h=>?_);conv=>whnf
     refine nlA rfl ?_;conv=>whnf
     refine bKo rfl ?_;conv=>whnf
     refine gKo rfl ?_;conv=>whnf
     refine bKo rfl ?_;conv=>whnf
     refine And.intro rfl (And.intro (nle rfl) (And.intro rfl ?_));conv=>whnf
     refine hK _ _ _ ?_
     refine aD dCo rfl fun K hK=>?_;conv=>whnf
     refine nlA rfl ?_;conv=>whnf
     refine bKo rfl ?_;conv=>whnf
     refine nlA rfl ?_;conv=>whnf
     replace h:=aS h
     refine aJ h32 h (aA (aK (aA (Wk.refl _) (aA aH aB))) aB) (fun _ h=>?_);conv=>whnf
     refine hK _ _ _ ?_
     refine aD dCo rfl fun K hK=>?_;conv=>whnf
     replace h:=dF h
     refine cLk h (fun _ h=>?_) (fun _ h=>?_)<;>(conv=>whnf)
     ·refine nlA rfl ?_;conv=>whnf
      refine bKo rfl ?_;conv=>whnf
      refine nlA rfl ?_;conv=>whnf
      replace h:=aS h
      refine aI h34 h (aA (aK (aA (Wk.refl _) (aA aH aB))) aB) (fun _ h=>?_);conv=>whnf
      refine cLk h (fun _ h=>?_) (fun _ h=>?_)<;>(conv=>whnf)
      ·refine nlA rfl ?_;conv=>whnf
       refine bKo rfl ?_;conv=>whnf
       refine nlA rfl ?_;conv=>whnf
       replace h:=aS h
       refine aE h33 h (aA (aK (aA (Wk.refl _) (aA aH aB))) aB) (fun _ h=>?_);conv=>whnf
       refine hK _ _ _ ?_
       refine aG ?_
       replace h:=aF h
       refine aC dCo fun K hK=>?_;conv=>whnf
       refine hK _ ?_
       cases h
       exact Wk.refl _
      refine hK _ _ _ ?_
      refine aG ?_
      replace h:=aF h
      refine aC dCo fun K hK=>?_;conv=>whnf
      refine hK _ ?_
      cases h
      exact Wk.refl _
     refine hK _ _ _ ?_
     refine aG ?_
     replace h:=aF h
     refine aC dCo fun K hK=>?_;conv=>whnf
     refine hK _ ?_
     cases h
     exact Wk.refl _
    refine hK2 ?_
    refine aL ?_
    refine iBn ?_
    refine tHn ?_
    refine cX dCo rfl fun K hK=>?_;conv=>whnf
    refine hK _ _ _ ?_
    refine tHn ?_
    replace h:=bX h
    refine ⟨_,h,?_⟩
    refine bI ?_;conv=>whnf
    exact And.intro rfl (And.intro (aLc wkI (aLc wkI (aLc wkI (aLc (wkr (lsB _)) (aLc (WkR.ptr (fun _=>rfl)) (aLc (wkr (lsL fun _=>(lsI _ _))) (aLc (WkR.tok (fun _=>rfl) rfl (fun _ _=>Wk.refl _) (fun _=>(lsI _ _))) aLn))))))) (aLc ⟨some _,rfl,bRc rfl (cKc wkI (cKc (wkr (lsL fun _=>(aO _))) cKn))⟩ (aLc ⟨some _,rfl,bRc rfl cKn⟩ aLn)))
   refine hK2 ?_
   refine bK ?_
   refine aY ?_
   refine aY ?_
   refine aX ?_
   replace h:=dE h
   replace h:=dB h
   refine tHn ?_
   refine aD dCo rfl fun K hK=>?_;conv=>whnf
   replace h:=aS h
   refine aV h13 h (WkL.refl _) (fun _ h=>?_);conv=>whnf
   refine hK _ _ _ ?_
   refine aD dCo rfl fun K hK=>?_;conv=>whnf
   replace h:=aS h
   refine aV h13 h (WkL.refl _) (fun _ h=>?_);conv=>whnf
   refine hK _ _ _ ?_
   refine aN ?_
   refine aD dCo rfl fun K hK=>?_;conv=>whnf
   refine nlA rfl ?_;conv=>whnf
   refine bKo rfl ?_;conv=>whnf
   refine nlA rfl ?_;conv=>whnf
   replace h:=aS h
   refine bH h27 h (WkL.refl _) (fun _ h=>?_);conv=>whnf
   refine hK _ _ _ ?_
   refine bA fun K1 K2 hK1 hK2=>?_;conv=>whnf
   refine cLk h (fun _ h=>?_) (fun _ h=>?_)
   ·refine hK1 ?_
    refine aD dCo rfl fun K hK=>?_;conv=>whnf
    refine hK _ _ _ ?_
    refine aG ?_
    refine aR ?_
    replace h:=aF h
    refine aC dCo fun K hK=>?_;conv=>whnf
    refine hK _ ?_
    cases h
    exact Wk.refl _
   refine hK2 ?_
   refine aL ?_
   refine tHn ?_
   refine jR (.step 0 (.step 2 (.step 3 (.step 4 (.step 5 (.step 6 (.step 7 (.step 8 (.step 9 (.thr 1 10 12 (.two 10 12 (.step 12 (.step 11 (.step 13 (.nil)))) (.step 10 (.step 11 (.step 13 (.nil))))) (.step 1 (.step 12 (.step 11 (.step 13 (.nil))))) (.two 1 10 (.step 10 (.step 11 (.step 13 (.nil)))) (.step 1 (.step 11 (.step 13 (.nil))))))))))))))) dCo cV rfl (by kernel_rfl) fun K hK=>?_;conv=>whnf
   refine cI (enc:=cB) (d:=default) dCo h rfl rfl rfl ⟨nle rfl,nle rfl,rfl⟩ rfl trivial (fun h=>?_);conv=>whnf
   refine nlA rfl ?_;conv=>whnf
   refine bKo rfl ?_;conv=>whnf
   refine gKo rfl ?_;conv=>whnf
   refine jD (enc:=cB) (d:=default) dCo h rfl rfl rfl ⟨rfl,nle rfl,nle rfl,nle rfl,rfl⟩ (fun _=>rfl) (fun h=>?_);conv=>whnf
   refine cI (enc:=cB) (d:=default) dCo h rfl rfl rfl ⟨nle rfl,nle rfl,rfl⟩ rfl ⟨⟨rfl,nle rfl⟩,trivial⟩ (fun h=>?_);conv=>whnf
   refine And.intro ?_ (And.intro ?_ ?_)<;>(conv=>whnf)
   ·refine nlA rfl ?_;conv=>whnf
    refine bKo rfl ?_;conv=>whnf
    refine gKo rfl ?_;conv=>whnf
    refine And.intro ?_ ?_<;>(conv=>whnf)
    ·refine bN (enc:=cB) (d:=default) dCo h (.inl rfl) rfl rfl rfl ⟨rfl,nle rfl,nle rfl,nle rfl,rfl⟩ (fun _=>rfl) (.inr (.inr ⟨_,_,rfl,rfl,rfl⟩)) (fun h=>?_);conv=>whnf
     refine bKo rfl ?_;conv=>whnf
     refine And.intro rfl (And.intro (nle rfl) (And.intro rfl ?_));conv=>whnf
     refine hK _ _ _ ?_
     refine aD dCo rfl fun K hK=>?_;conv=>whnf
     refine nlA rfl ?_;conv=>whnf
     refine bKo rfl ?_;conv=>whnf
     refine nlA rfl ?_;conv=>whnf
     replace h:=aS h
     refine aJ h32 h (aA (aK (aA (Wk.refl _) (aA aH aB))) aB) (fun _ h=>?_);conv=>whnf
     refine hK _ _ _ ?_
     refine aD dCo rfl fun K hK=>?_;conv=>whnf
     replace h:=dF h
     refine cLk h (fun _ h=>?_) (fun _ h=>?_)<;>(conv=>whnf)
     ·refine nlA rfl ?_;conv=>whnf
      refine bKo rfl ?_;conv=>whnf
      refine nlA rfl ?_;conv=>whnf
      replace h:=aS h
      refine aI h34 h (aA (aK (aA (Wk.refl _) (aA aH aB))) aB) (fun _ h=>?_);conv=>whnf
      refine cLk h (fun _ h=>?_) (fun _ h=>?_)<;>(conv=>whnf)
      ·refine nlA rfl ?_;conv=>whnf
       refine bKo rfl ?_;conv=>whnf
       refine nlA rfl ?_;conv=>whnf
       replace h:=aS h
       refine aE h33 h (aA (aK (aA (Wk.refl _) (aA aH aB))) aB) (fun _ h=>?_);conv=>whnf
       refine hK _ _ _ ?_
       refine aG ?_
       replace h:=aF h
       refine aC dCo fun K hK=>?_;conv=>whnf
       refine hK _ ?_
       cases h
       exact Wk.refl _
      refine hK _ _ _ ?_
      refine aG ?_
      replace h:=aF h
      refine aC dCo fun K hK=>?_;conv=>whnf
      refine hK _ ?_
      cases h
      exact Wk.refl _
     refine hK _ _ _ ?_
     refine aG ?_
     replace h:=aF h
     refine aC dCo fun K hK=>?_;conv=>whnf
     refine hK _ ?_
     cases h
     exact Wk.refl _
    refine bN (enc:=cB) (d:=default) dCo h (.inl rfl) rfl rfl rfl ⟨rfl,nle rfl,nle rfl,nle rfl,rfl⟩ (fun _=>rfl) (.inr (.inr ⟨_,_,rfl,rfl,rfl⟩)) (fun h=>?_);conv=>whnf
    refine bKo rfl ?_;conv=>whnf
    refine And.intro rfl (And.intro (nle rfl) (And.intro rfl ?_));conv=>whnf
    refine hK _ _ _ ?_
    refine aD dCo rfl fun K hK=>?_;conv=>whnf
    refine nlA rfl ?_;conv=>whnf
    refine bKo rfl ?_;conv=>whnf
    refine nlA rfl ?_;conv=>whnf
    replace h:=aS h
    refine aJ h32 h (aA (aK (aA (Wk.refl _) (aA aH aB))) aB) (fun _ h=>?_);conv=>whnf
    refine hK _ _ _ ?_
    refine aD dCo rfl fun K hK=>?_;conv=>whnf
    replace h:=dF h
    refine cLk h (fun _ h=>?_) (fun _ h=>?_)<;>(conv=>whnf)
    ·refine nlA rfl ?_;conv=>whnf
     refine bKo rfl ?_;conv=>whnf
     refine nlA rfl ?_;conv=>whnf
     replace h:=aS h
     refine aI h34 h (aA (aK (aA (Wk.refl _) (aA aH aB))) aB) (fun _ h=>?_);conv=>whnf
     refine cLk h (fun _ h=>?_) (fun _ h=>?_)<;>(conv=>whnf)
     ·refine nlA rfl ?_;conv=>whnf
      refine bKo rfl ?_;conv=>whnf
      refine nlA rfl ?_;conv=>whnf
      replace h:=aS h
      refine aE h33 h (aA (aK (aA (Wk.refl _) (aA aH aB))) aB) (fun _ h=>?_);conv=>whnf
      refine hK _ _ _ ?_
      refine aG ?_
      replace h:=aF h
      refine aC dCo fun K hK=>?_;conv=>whnf
      refine hK _ ?_
      cases h
      exact Wk.refl _
     refine hK _ _ _ ?_
     refine aG ?_
     replace h:=aF h
     refine aC dCo fun K hK=>?_;conv=>whnf
     refine hK _ ?_
     cases h
     exact Wk.refl _
    refine hK _ _ _ ?_
    refine aG ?_
    replace h:=aF h
    refine aC dCo fun K hK=>?_;conv=>whnf
    refine hK _ ?_
    cases h
    exact Wk.refl _
   ·refine bN (enc:=cB) (d:=default) dCo h (.inl rfl) rfl rfl rfl ⟨rfl,nle rfl,nle rfl,nle rfl,rfl⟩ (fun _=>rfl) (.inr (.inr ⟨_,_,rfl,rfl,rfl⟩)) (fun h=>?_);conv=>whnf
    refine nlA rfl ?_;conv=>whnf
    refine bKo rfl ?_;conv=>whnf
    refine gKo rfl ?_;conv=>whnf
    refine bKo rfl ?_;conv=>whnf
    refine And.intro rfl (And.intro (nle rfl) (And.intro rfl ?_));conv=>whnf
    refine hK _ _ _ ?_
    refine aD dCo rfl fun K hK=>?_;conv=>whnf
    refine nlA rfl ?_;conv=>whnf
    refine bKo rfl ?_;conv=>whnf
    refine nlA rfl ?_;conv=>whnf
    replace h:=aS h
    refine aJ h32 h (aA (aK (aA (Wk.refl _) (aA aH aB))) aB) (fun _ h=>?_);conv=>whnf
    refine hK _ _ _ ?_
    refine aD dCo rfl fun K hK=>?_;conv=>whnf
    replace h:=dF h
    refine cLk h (fun _ h=>?_) (fun _ h=>?_)<;>(conv=>whnf)
    ·refine nlA rfl ?_;conv=>whnf
     refine bKo rfl ?_;conv=>whnf
     refine nlA rfl ?_;conv=>whnf
     replace h:=aS h
     refine aI h34 h (aA (aK (aA (Wk.refl _) (aA aH aB))) aB) (fun _ h=>?_);conv=>whnf
     refine cLk h (fun _ h=>?_) (fun _ h=>?_)<;>(conv=>whnf)
     ·refine nlA rfl ?_;conv=>whnf
      refine bKo rfl ?_;conv=>whnf
      refine nlA rfl ?_;conv=>whnf
      replace h:=aS h
      refine aE h33 h (aA (aK (aA (Wk.refl _) (aA aH aB))) aB) (fun _ h=>?_);conv=>whnf
      refine hK _ _ _ ?_
      refine aG ?_
      replace h:=aF h
      refine aC dCo fun K hK=>?_;conv=>whnf
      refine hK _ ?_
      cases h
      exact Wk.refl _
     refine hK _ _ _ ?_
     refine aG ?_
     replace h:=aF h
     refine aC dCo fun K hK=>?_;conv=>whnf
     refine hK _ ?_
     cases h
     exact Wk.refl _
    refine hK _ _ _ ?_
    refine aG ?_
    replace h:=aF h
    refine aC dCo fun K hK=>?_;conv=>whnf
    refine hK _ ?_
    cases h
    exact Wk.refl _
   refine And.intro ?_ ?_<;>(conv=>whnf)
   ·refine nlA rfl ?_;conv=>whnf
    refine bKo rfl ?_;conv=>whnf
    refine gKo rfl ?_;conv=>whnf
    refine bN (enc:=cB) (d:=default) dCo h (.inl rfl) rfl rfl rfl ⟨rfl,nle rfl,nle rfl,nle rfl,rfl⟩ (fun _=>rfl) (.inr (.inr ⟨_,_,rfl,rfl,rfl⟩)) (fun h=>?_);conv=>whnf
    refine bKo rfl ?_;conv=>whnf
    refine And.intro rfl (And.intro (nle rfl) (And.intro rfl ?_));conv=>whnf
    refine hK _ _ _ ?_
    refine aD dCo rfl fun K hK=>?_;conv=>whnf
    refine nlA rfl ?_;conv=>whnf
    refine bKo rfl ?_;conv=>whnf
    refine nlA rfl ?_;conv=>whnf
    replace h:=aS h
    refine aJ h32 h (aA (aK (aA (Wk.refl _) (aA aH aB))) aB) (fun _ h=>?_);conv=>whnf
    refine hK _ _ _ ?_
    refine aD dCo rfl fun K hK=>?_;conv=>whnf
    replace h:=dF h
    refine cLk h (fun _ h=>?_) (fun _ h=>?_)<;>(conv=>whnf)
    ·refine nlA rfl ?_;conv=>whnf
     refine bKo rfl ?_;conv=>whnf
     refine nlA rfl ?_;conv=>whnf
     replace h:=aS h
     refine aI h34 h (aA (aK (aA (Wk.refl _) (aA aH aB))) aB) (fun _ h=>?_);conv=>whnf
     refine cLk h (fun _ h=>?_) (fun _ h=>?_)<;>(conv=>whnf)
     ·refine nlA rfl ?_;conv=>whnf
      refine bKo rfl ?_;conv=>whnf
      refine nlA rfl ?_;conv=>whnf
      replace h:=aS h
      refine aE h33 h (aA (aK (aA (Wk.refl _) (aA aH aB))) aB) (fun _ h=>?_);conv=>whnf
      refine hK _ _ _ ?_
      refine aG ?_
      replace h:=aF h
      refine aC dCo fun K hK=>?_;conv=>whnf
      refine hK _ ?_
      cases h
      exact Wk.refl _
     refine hK _ _ _ ?_
     refine aG ?_
     replace h:=aF h
     refine aC dCo fun K hK=>?_;conv=>whnf
     refine hK _ ?_
     cases h
     exact Wk.refl _
    refine hK _ _ _ ?_
    refine aG ?_
    replace h:=aF h
    refine aC dCo fun K hK=>?_;conv=>whnf
    refine hK _ ?_
    cases h
    exact Wk.refl _
   refine bN (enc:=cB) (d:=default) dCo h (.inl rfl) rfl rfl rfl ⟨rfl,nle rfl,nle rfl,nle rfl,rfl⟩ (fun _=>rfl) (.inr (.inr ⟨_,_,rfl,rfl,rfl⟩)) (fun h=>?_);conv=>whnf
   refine nlA rfl ?_;conv=>whnf
   refine bKo rfl ?_;conv=>whnf
   refine gKo rfl ?_;conv=>whnf
   refine bKo rfl ?_;conv=>whnf
   refine And.intro rfl (And.intro (nle rfl) (And.intro rfl ?_));conv=>whnf
   refine hK _ _ _ ?_
   refine aD dCo rfl fun K hK=>?_;conv=>whnf
   refine nlA rfl ?_;conv=>whnf
   refine bKo rfl ?_;conv=>whnf
   refine nlA rfl ?_;conv=>whnf
   replace h:=aS h
   refine aJ h32 h (aA (aK (aA (Wk.refl _) (aA aH aB))) aB) (fun _ h=>?_);conv=>whnf
   refine hK _ _ _ ?_
   refine aD dCo rfl fun K hK=>?_;conv=>whnf
   replace h:=dF h
   refine cLk h (fun _ h=>?_) (fun _ h=>?_)<;>(conv=>whnf)
   ·refine nlA rfl ?_;conv=>whnf
    refine bKo rfl ?_;conv=>whnf
    refine nlA rfl ?_;conv=>whnf
    replace h:=aS h
    refine aI h34 h (aA (aK (aA (Wk.refl _) (aA aH aB))) aB) (fun _ h=>?_);conv=>whnf
    refine cLk h (fun _ h=>?_) (fun _ h=>?_)<;>(conv=>whnf)
    ·refine nlA rfl ?_;conv=>whnf
     refine bKo rfl ?_;conv=>whnf
     refine nlA rfl ?_;conv=>whnf
     replace h:=aS h
     refine aE h33 h (aA (aK (aA (Wk.refl _) (aA aH aB))) aB) (fun _ h=>?_);conv=>whnf
     refine hK _ _ _ ?_
     refine aG ?_
     replace h:=aF h
     refine aC dCo fun K hK=>?_;conv=>whnf
     refine hK _ ?_
     cases h
     exact Wk.refl _
    refine hK _ _ _ ?_
    refine aG ?_
    replace h:=aF h
    refine aC dCo fun K hK=>?_;conv=>whnf
    refine hK _ ?_
    cases h
    exact Wk.refl _
   refine hK _ _ _ ?_
   refine aG ?_
   replace h:=aF h
   refine aC dCo fun K hK=>?_;conv=>whnf
   refine hK _ ?_
   cases h
   exact Wk.refl _
  refine hK _ _ _ ?_
  refine bA fun K1 K2 hK1 hK2=>?_;conv=>whnf
  refine hK2 ?_
  replace h:=pI h
  refine bK ?_
  refine aY ?_
  refine aY ?_
  refine aX ?_
  replace h:=dE h
  replace h:=dB h
  refine tHn ?_
  refine aD dCo rfl fun K hK=>?_;conv=>whnf
  replace h:=aS h
  refine aV h13 h (WkL.refl _) (fun _ h=>?_);conv=>whnf
  refine hK _ _ _ ?_
  refine aD dCo rfl fun K hK=>?_;conv=>whnf
  replace h:=aS h
  refine aV h13 h (WkL.refl _) (fun _ h=>?_);conv=>whnf
  refine hK _ _ _ ?_
  refine aN ?_
  refine aD dCo rfl fun K hK=>?_;conv=>whnf
  refine nlA rfl ?_;conv=>whnf
  refine bKo rfl ?_;conv=>whnf
  refine nlA rfl ?_;conv=>whnf
  replace h:=aS h
  refine bH h27 h (WkL.refl _) (fun _ h=>?_);conv=>whnf
  refine hK _ _ _ ?_
  refine bA fun K1 K2 hK1 hK2=>?_;conv=>whnf
  refine cLk h (fun _ h=>?_) (fun _ h=>?_)
  ·refine hK1 ?_
   refine aD dCo rfl fun K hK=>?_;conv=>whnf
   refine hK _ _ _ ?_
   refine aG ?_
   refine aR ?_
   replace h:=aF h
   refine aC dCo fun K hK=>?_;conv=>whnf
   refine hK _ ?_
   cases h
   exact Wk.refl _
  refine hK2 ?_
  refine aL ?_
  refine tHn ?_
  refine jR (.step 0 (.step 2 (.step 3 (.step 4 (.step 5 (.step 6 (.step 7 (.step 8 (.step 9 (.thr 1 10 12 (.two 10 12 (.step 12 (.step 11 (.step 13 (.nil)))) (.step 10 (.step 11 (.step 13 (.nil))))) (.step 1 (.step 12 (.step 11 (.step 13 (.nil))))) (.two 1 10 (.step 10 (.step 11 (.step 13 (.nil)))) (.step 1 (.step 11 (.step 13 (.nil))))))))))))))) dCo cV rfl (by kernel_rfl) fun K hK=>?_;conv=>whnf
  refine cI (enc:=cB) (d:=default) dCo h rfl rfl rfl ⟨nle rfl,nle rfl,rfl⟩ rfl trivial (fun h=>?_);conv=>whnf
  refine nlA rfl ?_;conv=>whnf
  refine bKo rfl ?_;conv=>whnf
  refine gKo rfl ?_;conv=>whnf
  refine jD (enc:=cB) (d:=default) dCo h rfl rfl rfl ⟨rfl,nle rfl,nle rfl,nle rfl,rfl⟩ (fun _=>rfl) (fun h=>?_);conv=>whnf
  refine cI (enc:=cB) (d:=default) dCo h rfl rfl rfl ⟨nle rfl,nle rfl,rfl⟩ rfl ⟨⟨rfl,nle rfl⟩,trivial⟩ (fun h=>?_);conv=>whnf
  refine And.intro ?_ (And.intro ?_ ?_)<;>(conv=>whnf)
  ·refine nlA rfl ?_;conv=>whnf
   refine bKo rfl ?_;conv=>whnf
   refine gKo rfl ?_;conv=>whnf
   refine And.intro ?_ ?_<;>(conv=>whnf)
   ·refine bN (enc:=cB) (d:=default) dCo h (.inl rfl) rfl rfl rfl ⟨rfl,nle rfl,nle rfl,nle rfl,rfl⟩ (fun _=>rfl) (.inr (.inr ⟨_,_,rfl,rfl,rfl⟩)) (fun h=>?_);conv=>whnf
    refine bKo rfl ?_;conv=>whnf
    refine And.intro rfl (And.intro (nle rfl) (And.intro rfl ?_));conv=>whnf
    refine hK _ _ _ ?_
    refine aD dCo rfl fun K hK=>?_;conv=>whnf
    refine nlA rfl ?_;conv=>whnf
    refine bKo rfl ?_;conv=>whnf
    refine nlA rfl ?_;conv=>whnf
    replace h:=aS h
    refine aJ h32 h (aA (aK (aA (Wk.refl _) (aA aH aB))) aB) (fun _ h=>?_);conv=>whnf
    refine hK _ _ _ ?_
    refine aD dCo rfl fun K hK=>?_;conv=>whnf
    replace h:=dF h
    refine cLk h (fun _ h=>?_) (fun _ h=>?_)<;>(conv=>whnf)
    ·refine nlA rfl ?_;conv=>whnf
     refine bKo rfl ?_;conv=>whnf
     refine nlA rfl ?_;conv=>whnf
     replace h:=aS h
     refine aI h34 h (aA (aK (aA (Wk.refl _) (aA aH aB))) aB) (fun _ h=>?_);conv=>whnf
     refine cLk h (fun _ h=>?_) (fun _ h=>?_)<;>(conv=>whnf)
     ·refine nlA rfl ?_;conv=>whnf
      refine bKo rfl ?_;conv=>whnf
      refine nlA rfl ?_;conv=>whnf
      replace h:=aS h
      refine aE h33 h (aA (aK (aA (Wk.refl _) (aA aH aB))) aB) (fun _ h=>?_);conv=>whnf
      refine hK _ _ _ ?_
      refine aG ?_
      replace h:=aF h
      refine aC dCo fun K hK=>?_;conv=>whnf
      refine hK _ ?_
      cases h
      exact Wk.refl _
     refine hK _ _ _ ?_
     refine aG ?_
     replace h:=aF h
     refine aC dCo fun K hK=>?_;conv=>whnf
     refine hK _ ?_
     cases h
     exact Wk.refl _
    refine hK _ _ _ ?_
    refine aG ?_
    replace h:=aF h
    refine aC dCo fun K hK=>?_;conv=>whnf
    refine hK _ ?_
    cases h
    exact Wk.refl _
   refine bN (enc:=cB) (d:=default) dCo h (.inl rfl) rfl rfl rfl ⟨rfl,nle rfl,nle rfl,nle rfl,rfl⟩ (fun _=>rfl) (.inr (.inr ⟨_,_,rfl,rfl,rfl⟩)) (fun h=>?_);conv=>whnf
   refine bKo rfl ?_;conv=>whnf
   refine And.intro rfl (And.intro (nle rfl) (And.intro rfl ?_));conv=>whnf
   refine hK _ _ _ ?_
   refine aD dCo rfl fun K hK=>?_;conv=>whnf
   refine nlA rfl ?_;conv=>whnf
   refine bKo rfl ?_;conv=>whnf
   refine nlA rfl ?_;conv=>whnf
   replace h:=aS h
   refine aJ h32 h (aA (aK (aA (Wk.refl _) (aA aH aB))) aB) (fun _ h=>?_);conv=>whnf
   refine hK _ _ _ ?_
   refine aD dCo rfl fun K hK=>?_;conv=>whnf
   replace h:=dF h
   refine cLk h (fun _ h=>?_) (fun _ h=>?_)<;>(conv=>whnf)
   ·refine nlA rfl ?_;conv=>whnf
    refine bKo rfl ?_;conv=>whnf
    refine nlA rfl ?_;conv=>whnf
    replace h:=aS h
    refine aI h34 h (aA (aK (aA (Wk.refl _) (aA aH aB))) aB) (fun _ h=>?_);conv=>whnf
    refine cLk h (fun _ h=>?_) (fun _ h=>?_)<;>(conv=>whnf)
    ·refine nlA rfl ?_;conv=>whnf
     refine bKo rfl ?_;conv=>whnf
     refine nlA rfl ?_;conv=>whnf
     replace h:=aS h
     refine aE h33 h (aA (aK (aA (Wk.refl _) (aA aH aB))) aB) (fun _ h=>?_);conv=>whnf
     refine hK _ _ _ ?_
     refine aG ?_
     replace h:=aF h
     refine aC dCo fun K hK=>?_;conv=>whnf
     refine hK _ ?_
     cases h
     exact Wk.refl _
    refine hK _ _ _ ?_
    refine aG ?_
    replace h:=aF h
    refine aC dCo fun K hK=>?_;conv=>whnf
    refine hK _ ?_
    cases h
    exact Wk.refl _
   refine hK _ _ _ ?_
   refine aG ?_
   replace h:=aF h
   refine aC dCo fun K hK=>?_;conv=>whnf
   refine hK _ ?_
   cases h
   exact Wk.refl _
  ·refine bN (enc:=cB) (d:=default) dCo h (.inl rfl) rfl rfl rfl ⟨rfl,nle rfl,nle rfl,nle rfl,rfl⟩ (fun _=>rfl) (.inr (.inr ⟨_,_,rfl,rfl,rfl⟩)) (fun h=>?_);conv=>whnf
   refine nlA rfl ?_;conv=>whnf
   refine bKo rfl ?_;conv=>whnf
   refine gKo rfl ?_;conv=>whnf
   refine bKo rfl ?_;conv=>whnf
   refine And.intro rfl (And.intro (nle rfl) (And.intro rfl ?_));conv=>whnf
   refine hK _ _ _ ?_
   refine aD dCo rfl fun K hK=>?_;conv=>whnf
   refine nlA rfl ?_;conv=>whnf
   refine bKo rfl ?_;conv=>whnf
   refine nlA rfl ?_;conv=>whnf
   replace h:=aS h
   refine aJ h32 h (aA (aK (aA (Wk.refl _) (aA aH aB))) aB) (fun _ h=>?_);conv=>whnf
   refine hK _ _ _ ?_
   refine aD dCo rfl fun K hK=>?_;conv=>whnf
   replace h:=dF h
   refine cLk h (fun _ h=>?_) (fun _ h=>?_)<;>(conv=>whnf)
   ·refine nlA rfl ?_;conv=>whnf
    refine bKo rfl ?_;conv=>whnf
    refine nlA rfl ?_;conv=>whnf
    replace h:=aS h
    refine aI h34 h (aA (aK (aA (Wk.refl _) (aA aH aB))) aB) (fun _ h=>?_);conv=>whnf
    refine cLk h (fun _ h=>?_) (fun _ h=>?_)<;>(conv=>whnf)
    ·refine nlA rfl ?_;conv=>whnf
     refine bKo rfl ?_;conv=>whnf
     refine nlA rfl ?_;conv=>whnf
     replace h:=aS h
     refine aE h33 h (aA (aK (aA (Wk.refl _) (aA aH aB))) aB) (fun _ h=>?_);conv=>whnf
     refine hK _ _ _ ?_
     refine aG ?_
     replace h:=aF h
     refine aC dCo fun K hK=>?_;conv=>whnf
     refine hK _ ?_
     cases h
     exact Wk.refl _
    refine hK _ _ _ ?_
    refine aG ?_
    replace h:=aF h
    refine aC dCo fun K hK=>?_;conv=>whnf
    refine hK _ ?_
    cases h
    exact Wk.refl _
   refine hK _ _ _ ?_
   refine aG ?_
   replace h:=aF h
   refine aC dCo fun K hK=>?_;conv=>whnf
   refine hK _ ?_
   cases h
   exact Wk.refl _
  refine And.intro ?_ ?_<;>(conv=>whnf)
  ·refine nlA rfl ?_;conv=>whnf
   refine bKo rfl ?_;conv=>whnf
   refine gKo rfl ?_;conv=>whnf
   refine bN (enc:=cB) (d:=default) dCo h (.inl rfl) rfl rfl rfl ⟨rfl,nle rfl,nle rfl,nle rfl,rfl⟩ (fun _=>rfl) (.inr (.inr ⟨_,_,rfl,rfl,rfl⟩)) (fun h=>?_);conv=>whnf
   refine bKo rfl ?_;conv=>whnf
   refine And.intro rfl (And.intro (nle rfl) (And.intro rfl ?_));conv=>whnf
   refine hK _ _ _ ?_
   refine aD dCo rfl fun K hK=>?_;conv=>whnf
   refine nlA rfl ?_;conv=>whnf
   refine bKo rfl ?_;conv=>whnf
   refine nlA rfl ?_;conv=>whnf
   replace h:=aS h
   refine aJ h32 h (aA (aK (aA (Wk.refl _) (aA aH aB))) aB) (fun _ h=>?_);conv=>whnf
   refine hK _ _ _ ?_
   refine aD dCo rfl fun K hK=>?_;conv=>whnf
   replace h:=dF h
   refine cLk h (fun _ h=>?_) (fun _ h=>?_)<;>(conv=>whnf)
   ·refine nlA rfl ?_;conv=>whnf
    refine bKo rfl ?_;conv=>whnf
    refine nlA rfl ?_;conv=>whnf
    replace h:=aS h
    refine aI h34 h (aA (aK (aA (Wk.refl _) (aA aH aB))) aB) (fun _ h=>?_);conv=>whnf
    refine cLk h (fun _ h=>?_) (fun _ h=>?_)<;>(conv=>whnf)
    ·refine nlA rfl ?_;conv=>whnf
     refine bKo rfl ?_;conv=>whnf
     refine nlA rfl ?_;conv=>whnf
     replace h:=aS h
     refine aE h33 h (aA (aK (aA (Wk.refl _) (aA aH aB))) aB) (fun _ h=>?_);conv=>whnf
     refine hK _ _ _ ?_
     refine aG ?_
     replace h:=aF h
     refine aC dCo fun K hK=>?_;conv=>whnf
     refine hK _ ?_
     cases h
     exact Wk.refl _
    refine hK _ _ _ ?_
    refine aG ?_
    replace h:=aF h
    refine aC dCo fun K hK=>?_;conv=>whnf
    refine hK _ ?_
    cases h
    exact Wk.refl _
   refine hK _ _ _ ?_
   refine aG ?_
   replace h:=aF h
   refine aC dCo fun K hK=>?_;conv=>whnf
   refine hK _ ?_
   cases h
   exact Wk.refl _
  refine bN (enc:=cB) (d:=default) dCo h (.inl rfl) rfl rfl rfl ⟨rfl,nle rfl,nle rfl,nle rfl,rfl⟩ (fun _=>rfl) (.inr (.inr ⟨_,_,rfl,rfl,rfl⟩)) (fun h=>?_);conv=>whnf
  refine nlA rfl ?_;conv=>whnf
  refine bKo rfl ?_;conv=>whnf
  refine gKo rfl ?_;conv=>whnf
  refine bKo rfl ?_;conv=>whnf
  refine And.intro rfl (And.intro (nle rfl) (And.intro rfl ?_));conv=>whnf
  refine hK _ _ _ ?_
  refine aD dCo rfl fun K hK=>?_;conv=>whnf
  refine nlA rfl ?_;conv=>whnf
  refine bKo rfl ?_;conv=>whnf
  refine nlA rfl ?_;conv=>whnf
  replace h:=aS h
  refine aJ h32 h (aA (aK (aA (Wk.refl _) (aA aH aB))) aB) (fun _ h=>?_);conv=>whnf
  refine hK _ _ _ ?_
  refine aD dCo rfl fun K hK=>?_;conv=>whnf
  replace h:=dF h
  refine cLk h (fun _ h=>?_) (fun _ h=>?_)<;>(conv=>whnf)
  ·refine nlA rfl ?_;conv=>whnf
   refine bKo rfl ?_;conv=>whnf
   refine nlA rfl ?_;conv=>whnf
   replace h:=aS h
   refine aI h34 h (aA (aK (aA (Wk.refl _) (aA aH aB))) aB) (fun _ h=>?_);conv=>whnf
   refine cLk h (fun _ h=>?_) (fun _ h=>?_)<;>(conv=>whnf)
   ·refine nlA rfl ?_;conv=>whnf
    refine bKo rfl ?_;conv=>whnf
    refine nlA rfl ?_;conv=>whnf
    replace h:=aS h
    refine aE h33 h (aA (aK (aA (Wk.refl _) (aA aH aB))) aB) (fun _ h=>?_);conv=>whnf
    refine hK _ _ _ ?_
    refine aG ?_
    replace h:=aF h
    refine aC dCo fun K hK=>?_;conv=>whnf
    refine hK _ ?_
    cases h
    exact Wk.refl _
   refine hK _ _ _ ?_
   refine aG ?_
   replace h:=aF h
   refine aC dCo fun K hK=>?_;conv=>whnf
   refine hK _ ?_
   cases h
   exact Wk.refl _
  refine hK _ _ _ ?_
  refine aG ?_
  replace h:=aF h
  refine aC dCo fun K hK=>?_;conv=>whnf
  refine hK _ ?_
  cases h
  exact Wk.refl _
 refine hK2 ?_
 refine aL ?_
 refine tHn ?_
 refine aD dCo rfl fun K hK=>?_;conv=>whnf
 replace h:=aS h
 refine aV h13 h (WkL.refl _) (fun _ h=>?_);conv=>whnf
 refine hK _ _ _ ?_
 refine aD dCo rfl fun K hK=>?_;conv=>whnf
 replace h:=aS h
 refine aV h13 h (WkL.refl _) (fun _ h=>?_);conv=>whnf
 refine hK _ _ _ ?_
 refine aN ?_
 refine aD dCo rfl fun K hK=>?_;conv=>whnf
 refine nlA rfl ?_;conv=>whnf
 refine bKo rfl ?_;conv=>whnf
 refine nlA rfl ?_;conv=>whnf
 replace h:=aS h
 refine bH h27 h (WkL.refl _) (fun _ h=>?_);conv=>whnf
 refine hK _ _ _ ?_
 refine bA fun K1 K2 hK1 hK2=>?_;conv=>whnf
 refine cLk h (fun _ h=>?_) (fun _ h=>?_)
 ·refine hK1 ?_
  refine aD dCo rfl fun K hK=>?_;conv=>whnf
  refine hK _ _ _ ?_
  refine aG ?_
  refine aR ?_
  replace h:=aF h
  refine aC dCo fun K hK=>?_;conv=>whnf
  refine hK _ ?_
  cases h
  exact Wk.refl _
 refine hK2 ?_
 refine aL ?_
 refine tHn ?_
 refine jR (.step 0 (.step 2 (.step 3 (.step 4 (.step 5 (.step 6 (.step 7 (.step 8 (.step 9 (.thr 1 10 12 (.two 10 12 (.step 12 (.step 11 (.step 13 (.nil)))) (.step 10 (.step 11 (.step 13 (.nil))))) (.step 1 (.step 12 (.step 11 (.step 13 (.nil))))) (.two 1 10 (.step 10 (.step 11 (.step 13 (.nil)))) (.step 1 (.step 11 (.step 13 (.nil))))))))))))))) dCo cV rfl (by kernel_rfl) fun K hK=>?_;conv=>whnf
 refine cI (enc:=cB) (d:=default) dCo h rfl rfl rfl ⟨nle rfl,nle rfl,rfl⟩ rfl trivial (fun h=>?_);conv=>whnf
 refine nlA rfl ?_;conv=>whnf
 refine bKo rfl ?_;conv=>whnf
 refine gKo rfl ?_;conv=>whnf
 refine jD (enc:=cB) (d:=default) dCo h rfl rfl rfl ⟨rfl,nle rfl,nle rfl,nle rfl,rfl⟩ (fun _=>rfl) (fun h=>?_);conv=>whnf
 refine cI (enc:=cB) (d:=default) dCo h rfl rfl rfl ⟨nle rfl,nle rfl,rfl⟩ rfl ⟨⟨rfl,nle rfl⟩,trivial⟩ (fun h=>?_);conv=>whnf
 refine And.intro ?_ (And.intro ?_ ?_)<;>(conv=>whnf)
 ·refine nlA rfl ?_;conv=>whnf
  refine bKo rfl ?_;conv=>whnf
  refine gKo rfl ?_;conv=>whnf
  refine And.intro ?_ ?_<;>(conv=>whnf)
  ·refine bN (enc:=cB) (d:=default) dCo h (.inl rfl) rfl rfl rfl ⟨rfl,nle rfl,nle rfl,nle rfl,rfl⟩ (fun _=>rfl) (.inr (.inr ⟨_,_,rfl,rfl,rfl⟩)) (fun h=>?_);conv=>whnf
   refine bKo rfl ?_;conv=>whnf
   refine And.intro rfl (And.intro (nle rfl) (And.intro rfl ?_));conv=>whnf
   refine hK _ _ _ ?_
   refine aD dCo rfl fun K hK=>?_;conv=>whnf
   refine nlA rfl ?_;conv=>whnf
   refine bKo rfl ?_;conv=>whnf
   refine nlA rfl ?_;conv=>whnf
   replace h:=aS h
   refine aJ h32 h (aA (aK (aA (Wk.refl _) (aA aH aB))) aB) (fun _ h=>?_);conv=>whnf
   refine hK _ _ _ ?_
   refine aD dCo rfl fun K hK=>?_;conv=>whnf
   replace h:=dF h
   refine cLk h (fun _ h=>?_) (fun _ h=>?_)<;>(conv=>whnf)
   ·refine nlA rfl ?_;conv=>whnf
    refine bKo rfl ?_;conv=>whnf
    refine nlA rfl ?_;conv=>whnf
    replace h:=aS h
    refine aI h34 h (aA (aK (aA (Wk.refl _) (aA aH aB))) aB) (fun _ h=>?_);conv=>whnf
    refine cLk h (fun _ h=>?_) (fun _ h=>?_)<;>(conv=>whnf)
    ·refine nlA rfl ?_;conv=>whnf
     refine bKo rfl ?_;conv=>whnf
     refine nlA rfl ?_;conv=>whnf
     replace h:=aS h
     refine aE h33 h (aA (aK (aA (Wk.refl _) (aA aH aB))) aB) (fun _ h=>?_);conv=>whnf
     refine hK _ _ _ ?_
     refine aG ?_
     replace h:=aF h
     refine aC dCo fun K hK=>?_;conv=>whnf
     refine hK _ ?_
     cases h
     exact Wk.refl _
    refine hK _ _ _ ?_
    refine aG ?_
    replace h:=aF h
    refine aC dCo fun K hK=>?_;conv=>whnf
    refine hK _ ?_
    cases h
    exact Wk.refl _
   refine hK _ _ _ ?_
   refine aG ?_
   replace h:=aF h
   refine aC dCo fun K hK=>?_;conv=>whnf
   refine hK _ ?_
   cases h
   exact Wk.refl _
  refine bN (enc:=cB) (d:=default) dCo h (.inl rfl) rfl rfl rfl ⟨rfl,nle rfl,nle rfl,nle rfl,rfl⟩ (fun _=>rfl) (.inr (.inr ⟨_,_,rfl,rfl,rfl⟩)) (fun h=>?_);conv=>whnf
  refine bKo rfl ?_;conv=>whnf
  refine And.intro rfl (And.intro (nle rfl) (And.intro rfl ?_));conv=>whnf
  refine hK _ _ _ ?_
  refine aD dCo rfl fun K hK=>?_;conv=>whnf
  refine nlA rfl ?_;conv=>whnf
  refine bKo rfl ?_;conv=>whnf
  refine nlA rfl ?_;conv=>whnf
  replace h:=aS h
  refine aJ h32 h (aA (aK (aA (Wk.refl _) (aA aH aB))) aB) (fun _ h=>?_);conv=>whnf
  refine hK _ _ _ ?_
  refine aD dCo rfl fun K hK=>?_;conv=>whnf
  replace h:=dF h
  refine cLk h (fun _ h=>?_) (fun _ h=>?_)<;>(conv=>whnf)
  ·refine nlA rfl ?_;conv=>whnf
   refine bKo rfl ?_;conv=>whnf
   refine nlA rfl ?_;conv=>whnf
   replace h:=aS h
   refine aI h34 h (aA (aK (aA (Wk.refl _) (aA aH aB))) aB) (fun _ h=>?_);conv=>whnf
   refine cLk h (fun _ h=>?_) (fun _ h=>?_)<;>(conv=>whnf)
   ·refine nlA rfl ?_;conv=>whnf
    refine bKo rfl ?_;conv=>whnf
    refine nlA rfl ?_;conv=>whnf
    replace h:=aS h
    refine aE h33 h (aA (aK (aA (Wk.refl _) (aA aH aB))) aB) (fun _ h=>?_);conv=>whnf
    refine hK _ _ _ ?_
    refine aG ?_
    replace h:=aF h
    refine aC dCo fun K hK=>?_;conv=>whnf
    refine hK _ ?_
    cases h
    exact Wk.refl _
   refine hK _ _ _ ?_
   refine aG ?_
   replace h:=aF h
   refine aC dCo fun K hK=>?_;conv=>whnf
   refine hK _ ?_
   cases h
   exact Wk.refl _
  refine hK _ _ _ ?_
  refine aG ?_
  replace h:=aF h
  refine aC dCo fun K hK=>?_;conv=>whnf
  refine hK _ ?_
  cases h
  exact Wk.refl _
 ·refine bN (enc:=cB) (d:=default) dCo h (.inl rfl) rfl rfl rfl ⟨rfl,nle rfl,nle rfl,nle rfl,rfl⟩ (fun _=>rfl) (.inr (.inr ⟨_,_,rfl,rfl,rfl⟩)) (fun h=>?_);conv=>whnf
  refine nlA rfl ?_;conv=>whnf
  refine bKo rfl ?_;conv=>whnf
  refine gKo rfl ?_;conv=>whnf
  refine bKo rfl ?_;conv=>whnf
  refine And.intro rfl (And.intro (nle rfl) (And.intro rfl ?_));conv=>whnf
  refine hK _ _ _ ?_
  refine aD dCo rfl fun K hK=>?_;conv=>whnf
  refine nlA rfl ?_;conv=>whnf
  refine bKo rfl ?_;conv=>whnf
  refine nlA rfl ?_;conv=>whnf
  replace h:=aS h
  refine aJ h32 h (aA (aK (aA (Wk.refl _) (aA aH aB))) aB) (fun _ h=>?_);conv=>whnf
  refine hK _ _ _ ?_
  refine aD dCo rfl fun K hK=>?_;conv=>whnf
  replace h:=dF h
  refine cLk h (fun _ h=>?_) (fun _ h=>?_)<;>(conv=>whnf)
  ·refine nlA rfl ?_;conv=>whnf
   refine bKo rfl ?_;conv=>whnf
   refine nlA rfl ?_;conv=>whnf
   replace h:=aS h
   refine aI h34 h (aA (aK (aA (Wk.refl _) (aA aH aB))) aB) (fun _ h=>?_);conv=>whnf
   refine cLk h (fun _ h=>?_) (fun _ h=>?_)<;>(conv=>whnf)
   ·refine nlA rfl ?_;conv=>whnf
    refine bKo rfl ?_;conv=>whnf
    refine nlA rfl ?_;conv=>whnf
    replace h:=aS h
    refine aE h33 h (aA (aK (aA (Wk.refl _) (aA aH aB))) aB) (fun _ h=>?_);conv=>whnf
    refine hK _ _ _ ?_
    refine aG ?_
    replace h:=aF h
    refine aC dCo fun K hK=>?_;conv=>whnf
    refine hK _ ?_
    cases h
    exact Wk.refl _
   refine hK _ _ _ ?_
   refine aG ?_
   replace h:=aF h
   refine aC dCo fun K hK=>?_;conv=>whnf
   refine hK _ ?_
   cases h
   exact Wk.refl _
  refine hK _ _ _ ?_
  refine aG ?_
  replace h:=aF h
  refine aC dCo fun K hK=>?_;conv=>whnf
  refine hK _ ?_
  cases h
  exact Wk.refl _
 refine And.intro ?_ ?_<;>(conv=>whnf)
 ·refine nlA rfl ?_;conv=>whnf
  refine bKo rfl ?_;conv=>whnf
  refine gKo rfl ?_;conv=>whnf
  refine bN (enc:=cB) (d:=default) dCo h (.inl rfl) rfl rfl rfl ⟨rfl,nle rfl,nle rfl,nle rfl,rfl⟩ (fun _=>rfl) (.inr (.inr ⟨_,_,rfl,rfl,rfl⟩)) (fun h=>?_);conv=>whnf
  refine bKo rfl ?_;conv=>whnf
  refine And.intro rfl (And.intro (nle rfl) (And.intro rfl ?_));conv=>whnf
  refine hK _ _ _ ?_
  refine aD dCo rfl fun K hK=>?_;conv=>whnf
  refine nlA rfl ?_;conv=>whnf
  refine bKo rfl ?_;conv=>whnf
  refine nlA rfl ?_;conv=>whnf
  replace h:=aS h
  refine aJ h32 h (aA (aK (aA (Wk.refl _) (aA aH aB))) aB) (fun _ h=>?_);conv=>whnf
  refine hK _ _ _ ?_
  refine aD dCo rfl fun K hK=>?_;conv=>whnf
  replace h:=dF h
  refine cLk h (fun _ h=>?_) (fun _ h=>?_)<;>(conv=>whnf)
  ·refine nlA rfl ?_;conv=>whnf
   refine bKo rfl ?_;conv=>whnf
   refine nlA rfl ?_;conv=>whnf
   replace h:=aS h
   refine aI h34 h (aA (aK (aA (Wk.refl _) (aA aH aB))) aB) (fun _ h=>?_);conv=>whnf
   refine cLk h (fun _ h=>?_) (fun _ h=>?_)<;>(conv=>whnf)
   ·refine nlA rfl ?_;conv=>whnf
    refine bKo rfl ?_;conv=>whnf
    refine nlA rfl ?_;conv=>whnf
    replace h:=aS h
    refine aE h33 h (aA (aK (aA (Wk.refl _) (aA aH aB))) aB) (fun _ h=>?_);conv=>whnf
    refine hK _ _ _ ?_
    refine aG ?_
    replace h:=aF h
    refine aC dCo fun K hK=>?_;conv=>whnf
    refine hK _ ?_
    cases h
    exact Wk.refl _
   refine hK _ _ _ ?_
   refine aG ?_
   replace h:=aF h
   refine aC dCo fun K hK=>?_;conv=>whnf
   refine hK _ ?_
   cases h
   exact Wk.refl _
  refine hK _ _ _ ?_
  refine aG ?_
  replace h:=aF h
  refine aC dCo fun K hK=>?_;conv=>whnf
  refine hK _ ?_
  cases h
  exact Wk.refl _
 refine bN (enc:=cB) (d:=default) dCo h (.inl rfl) rfl rfl rfl ⟨rfl,nle rfl,nle rfl,nle rfl,rfl⟩ (fun _=>rfl) (.inr (.inr ⟨_,_,rfl,rfl,rfl⟩)) (fun h=>?_);conv=>whnf
 refine nlA rfl ?_;conv=>whnf
 refine bKo rfl ?_;conv=>whnf
 refine gKo rfl ?_;conv=>whnf
 refine bKo rfl ?_;conv=>whnf
 refine And.intro rfl (And.intro (nle rfl) (And.intro rfl ?_));conv=>whnf
 refine hK _ _ _ ?_
 refine aD dCo rfl fun K hK=>?_;conv=>whnf
 refine nlA rfl ?_;conv=>whnf
 refine bKo rfl ?_;conv=>whnf
 refine nlA rfl ?_;conv=>whnf
 replace h:=aS h
 refine aJ h32 h (aA (aK (aA (Wk.refl _) (aA aH aB))) aB) (fun _ h=>?_);conv=>whnf
 refine hK _ _ _ ?_
 refine aD dCo rfl fun K hK=>?_;conv=>whnf
 replace h:=dF h
 refine cLk h (fun _ h=>?_) (fun _ h=>?_)<;>(conv=>whnf)
 ·refine nlA rfl ?_;conv=>whnf
  refine bKo rfl ?_;conv=>whnf
  refine nlA rfl ?_;conv=>whnf
  replace h:=aS h
  refine aI h34 h (aA (aK (aA (Wk.refl _) (aA aH aB))) aB) (fun _ h=>?_);conv=>whnf
  refine cLk h (fun _ h=>?_) (fun _ h=>?_)<;>(conv=>whnf)
  ·refine nlA rfl ?_;conv=>whnf
   refine bKo rfl ?_;conv=>whnf
   refine nlA rfl ?_;conv=>whnf
   replace h:=aS h
   refine aE h33 h (aA (aK (aA (Wk.refl _) (aA aH aB))) aB) (fun _ h=>?_);conv=>whnf
   refine hK _ _ _ ?_
   refine aG ?_
   replace h:=aF h
   refine aC dCo fun K hK=>?_;conv=>whnf
   refine hK _ ?_
   cases h
   exact Wk.refl _
  refine hK _ _ _ ?_
  refine aG ?_
  replace h:=aF h
  refine aC dCo fun K hK=>?_;conv=>whnf
  refine hK _ ?_
  cases h
  exact Wk.refl _
 refine hK _ _ _ ?_
 refine aG ?_
 replace h:=aF h
 refine aC dCo fun K hK=>?_;conv=>whnf
 refine hK _ ?_
 cases h
 exact Wk.refl _
end Go.Proofs.YtlmboonbfhkfnaaDoor
