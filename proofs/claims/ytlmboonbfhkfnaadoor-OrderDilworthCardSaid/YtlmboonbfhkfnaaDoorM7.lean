import Derived.Test.YtlmboonbfhkfnaaDoorM5
import Derived.Test.YtlmboonbfhkfnaaDoorM6
set_option linter.unusedVariables false
set_option linter.unusedSimpArgs false
set_option linter.unusedSectionVars false
namespace Go.Proofs.YtlmboonbfhkfnaaDoor
open Go Go.Eng
set_option maxRecDepth 100000
set_option maxHeartbeats 0
set_option maxHeartbeats 0
set_option maxRecDepth 100000
  def bT (s45:Int×Bool×Int) (y2:aG) (y44:Int) (s48:Bool×Int):Option (Ct (Bool×Int) Bool):=cn (decide (s48.2<y2.N)) (jn (fun p49:Bool=>
  some (.nx (p49,(wr (s48.2+1))))) fun k50=>cn s48.1 (gd (0≤s45.2.2) (cn ((Int.tmod (rR .i64 y44 s45.2.2) 2) ==
  1) (gd (0≤s48.2) (cn ((Int.tmod (rR .i64 y44 s48.2) 2)==1) (bd (cE y2 s45.2.2 s48.2) fun y51=>
  k50 (!y51)) (k50 true))) (k50 true))) (k50 false)) (some (.bk (s48.1,s48.2)))
  def cW (y2:aG) (y44:Int) (s45:Int×Bool×Int):Option (Ct (Int×Bool×Int) Bool):=cn (decide (s45.2.2<y2.N)) (gd (0≤s45.2.2) (jn (fun p46:Int=>
  bd (lp (bT s45 y2 y44) FU (s45.2.1,0)) fun c52=>smK c52 (fun s53=>some (.nx (p46,s53.1,(wr (s45.2.2+1))))) (fun r54=>some (.rt r54))) fun k47=>
  cn ((Int.tmod (rR .i64 y44 s45.2.2) 2)==1) (k47 (wr (s45.1+1))) (k47 s45.1))) (some (.bk (s45.1,s45.2.1,s45.2.2)))
  def bO (s29:Int) (y2:aG) (y3:(List Int)×Int) (s34:Int):Option (Ct Int Bool):=cn (decide (s34<(y3.1.length:Int))) (ix y3.1 default s29 fun e35=>
  ix y3.1 default s34 fun e36=>bd (cE y2 e35 e36) fun y37=>cn y37 (some (.rt false)) (some (.nx (wr (s34+1))))) (some (.bk s34))
def cI (y2:aG) (y3:(List Int)×Int) (s29:Int):Option (Ct Int Bool):=cn (decide (s29<(y3.1.length:Int))) (jn (fun p30:Bool=>
  cn p30 (some (.rt false)) (bd (lp (bO s29 y2 y3) FU 0) fun c38=>smK c38 (fun s39=>some (.nx (wr (s29+1)))) (fun r40=>some (.rt r40)))) fun k31=>
  cn (decide (s29>0)) (ix y3.1 default s29 fun e32=>ix y3.1 default (aEf (wr (s29-1)) 0) fun e33=>k31 (decide (e32≤e33))) (k31 false)) (some (.bk s29))
def cG (s23:Int×(Ar 8)) (y2:aG) (s25:Int):Option (Ct Int Bool):=cn (decide (s25<y2.N)) (gd (0≤s25∧s25<(8:Int)) (cn ((s23.2.at1 s25) !=
  1) (some (.rt false)) (some (.nx (wr (s25+1)))))) (some (.bk s25))
def cV (s7:Int×(Ar 8)) (y2:aG) (y4:(List (List Int))×Int) (s9:Int×(Ar 8)):Option (Ct (Int×(Ar 8)) Bool):=ix y4.1 default s7.1 fun e10=>
  cn (decide (s9.1<(e10.length:Int))) (ix y4.1 default s7.1 fun e11=>ix e11 default s9.1 fun e12=>jn (fun p13:Bool=>
  cn p13 (some (.rt false)) (gd (0≤e12∧e12<(8:Int)) (gd (0≤e12∧e12<(8:Int)) (let m18:=s9.2.st1 e12 (wr ((s9.2.at1 e12)+1));
  some (.nx ((wr (s9.1+1)),m18)))))) fun k14=>cn (decide (e12<0)) (k14 true) (cn (decide (e12≥y2.N)) (k14 true) (cn (decide (s9.1>0)) (ix y4.1 default s7.1 fun e15=>
  ix e15 default (aEf (wr (s9.1-1)) 0) fun e16=>bd (cE y2 e16 e12) fun y17=>k14 (!y17)) (k14 false)))) (some (.bk (s9.1,s9.2)))
  def cU (y2:aG) (y4:(List (List Int))×Int) (s7:Int×(Ar 8)):Option (Ct (Int×(Ar 8)) Bool):=cn (decide (s7.1<(y4.1.length:Int))) (ix y4.1 default s7.1 fun e8=>
  cn ((e8.length:Int)==0) (some (.rt false)) (bd (lp (cV s7 y2 y4) FU (0,s7.2)) fun c19=>smK c19 (fun s20=>
  some (.nx ((wr (s7.1+1)),s20.2))) (fun r21=>some (.rt r21)))) (some (.bk (s7.1,s7.2)))
def eP (a0:Int) (a1:List (Int×Int)) (a2:Int) (a3:Int):Option Bool:=bd (kK ) fun y1=>
  cn (!y1) (some false) (bd (iP a0 a1 a2) fun y2=>bd (dN y2) fun y3=>bd (fN y2) fun y4=>jn (fun p5:Bool=>
  cn p5 (some false) (bd (lp (cU y2 y4) FU (0,(Ar.zero 8))) fun c22=>smK c22 (fun s23=>bd (lp (cG s23 y2) FU 0) fun c26=>
  smK c26 (fun s27=>bd (lp (cI y2 y3) FU 0) fun c41=>smK c41 (fun s42=>gd (0≤y2.N) (bd (fH a3 (aDz .i64 1 y2.N)) fun y44=>
  bd (lp (cW y2 y44) FU (0,true,0)) fun c55=>smK c55 (fun s56=>jn (fun p58:Bool=>some p58) fun k59=>
  cn (!s56.2.1) (k59 true) (let v60:=(decide (s56.1≤(y3.1.length:Int)));k59 v60)) (fun r57=>some r57))) (fun r43=>some r43)) (fun r28=>some r28)) (fun r24=>
  some r24))) fun k6=>cn (y3.2 != 0) (k6 true) (cn (y4.2 != 0) (k6 true) (k6 ((y3.1.length:Int) != (y4.1.length:Int)))))
def jZ:List AV→AV→Prop:=fun args r=>∃ a0 a1 a2 a3,args=[eI a0,(eL 2 jW default) a1,eI a2,eI a3]∧W (eP a0 a1 a2 a3) fun y=>r=(eB y)
theorem oX {T:Tbl} (hT:TOk Tryd.prog T) (hpf:cY T PF) (h11:T 11=aK kC) (h12:T 12=aK kD) (h13:T 13=aK iO) (h27:T 27=aK eR) (h30:T 30=aK eE) (h31:T 31=aK gP):FOk Tryd.prog 7 (aK jZ):=by
 refine bG hT hpf Tryd.func7 rfl Tryd.ntmps7 Tryd.results7 (by decide) ?_
 rintro args r ⟨a0,a1,a2,a3,rfl,h⟩
 refine ⟨nle rfl,?_,?_⟩
 ·exact (lsC (lsI _ _) (lsC (lsL fun _=>(aD _)) (lsC (lsI _ _) (lsC (lsI _ _) lsN))))
 rw [eP.eq_1] at h
 refine aA dCo rfl fun K hK=>?_;conv=>whnf
 refine hK _ _ _ ?_
 refine aA dCo rfl fun K hK=>?_;conv=>whnf
 replace h:=bM h
 refine uS h11 h (WkL.refl _) (fun _ h=>?_);conv=>whnf
 refine hK _ _ _ ?_
 refine aE ?_
 refine aA dCo rfl fun K hK=>?_;conv=>whnf
 refine hK _ _ _ ?_
 refine aW fun K1 K2 hK1 hK2=>?_;conv=>whnf
 refine cLk h (fun _ h=>?_) (fun _ h=>?_)
 ·refine hK1 ?_
  refine aA dCo rfl fun K hK=>?_;conv=>whnf
  refine hK _ _ _ ?_
  refine aP ?_
  refine aJ ?_
  replace h:=aO h
  refine aM dCo fun K hK=>?_;conv=>whnf
  refine hK _ ?_
  cases h
  exact Wk.refl _
 refine hK2 ?_
 refine aH ?_
 refine tHn ?_
 refine aA dCo rfl fun K hK=>?_;conv=>whnf
 replace h:=bM h
 refine uL h12 h (WkL.refl _) (fun _ h=>?_);conv=>whnf
 refine bKo rfl ?_;conv=>whnf
 refine And.intro rfl (And.intro (nle rfl) (And.intro rfl ?_));conv=>whnf
 refine hK _ _ _ ?_
 refine aA dCo rfl fun K hK=>?_;conv=>whnf
 refine nlA rfl ?_;conv=>whnf
 refine bKo rfl ?_;conv=>whnf
 refine nlA rfl ?_;conv=>whnf
 replace h:=bM h
 refine kV h30 h (WkL.refl _) (fun _ h=>?_);conv=>whnf
 refine hK _ _ _ ?_
 refine aA dCo rfl fun K hK=>?_;conv=>whnf
 refine nlA rfl ?_;conv=>whnf
 refine bKo rfl ?_;conv=>whnf
 refine nlA rfl ?_;conv=>whnf
 replace h:=bM h
 refine oS h31 h (WkL.refl _) (fun _ h=>?_);conv=>whnf
 refine hK _ _ _ ?_
 refine aE ?_
 refine aA dCo rfl fun K hK=>?_;conv=>whnf
 replace h:=nL h
 refine cLk h (fun _ h=>?_) (fun _ h=>?_)<;>(conv=>whnf)
 ·refine hK _ _ _ ?_
  refine aW fun K1 K2 hK1 hK2=>?_;conv=>whnf
  refine hK1 ?_
  replace h:=oB h
  refine aA dCo rfl fun K hK=>?_;conv=>whnf
  refine hK _ _ _ ?_
  refine aP ?_
  refine aJ ?_
  replace h:=aO h
  refine aM dCo fun K hK=>?_;conv=>whnf
  refine hK _ ?_
  cases h
  exact Wk.refl _
 refine cLk h (fun _ h=>?_) (fun _ h=>?_)<;>(conv=>whnf)
 ·refine hK _ _ _ ?_
  refine aW fun K1 K2 hK1 hK2=>?_;conv=>whnf
  refine hK1 ?_
  replace h:=oB h
  refine aA dCo rfl fun K hK=>?_;conv=>whnf
  refine hK _ _ _ ?_
  refine aP ?_
  refine aJ ?_
  replace h:=aO h
  refine aM dCo fun K hK=>?_;conv=>whnf
  refine hK _ ?_
  cases h
  exact Wk.refl _
 refine hK _ _ _ ?_
 refine aW fun K1 K2 hK1 hK2=>?_;conv=>whnf
 refine cLk h (fun _ h=>?_) (fun _ h=>?_)
 ·refine hK1 ?_
  refine aA dCo rfl fun K hK=>?_;conv=>whnf
  refine hK _ _ _ ?_
  refine aP ?_
  refine aJ ?_
  replace h:=aO h
  refine aM dCo fun K hK=>?_;conv=>whnf
  refine hK _ ?_
  cases h
  exact Wk.refl _
 refine hK2 ?_
 refine aH ?_
 refine tHn ?_
 refine aA dCo rfl fun K hK=>?_;conv=>whnf
 refine hK _ _ _ ?_
 refine aE ?_
 refine aA dCo rfl fun K hK=>?_;conv=>whnf
 refine hK _ _ _ ?_
 refine aF ?_
 replace h:=bM h
 refine gC (body:=cU _ _) rfl h [3,10,11,13,15] [10] [] [15] (fun kl kh kr ids b s=>⟨ofL ([(16,eI s.1)]++kl),ofH (([]++kh)++([(wW ids 0,.cells (cA s.2))]++kr)),b+128⟩) ?_;(conv=>whnf);refine And.intro ?_ (fun s m h=>dG ?_)
 ·refine bE ?_;conv=>whnf
  exact And.intro rfl (And.intro (aLc wkI (aLc wkI (aLc (WkR.ptr (fun _=>rfl)) (aLc (wkr (lsL fun _=>(lsI _ _))) (aLc (wkr (lsL fun _=>(lsL fun _=>(lsI _ _)))) (aLc (WkR.ptr (fun _=>rfl)) aLn)))))) (aLc ⟨some _,rfl,bRc rfl (cKc wkI (cKc (wkr (lsL fun _=>(aD _))) cKn))⟩ (aLc ⟨some _,rfl,aV (x:=(Ar.zero 8)) rfl rfl⟩ aLn)))
 replace h:=bM h;rw [cU.eq_1] at h
 refine aE ?_
 refine aA dCo rfl fun K hK=>?_;conv=>whnf
 refine hK _ _ _ ?_
 refine aW fun K1 K2 hK1 hK2=>?_;conv=>whnf
 refine cLk h (fun _ h=>?_) (fun _ h=>?_)
 ·refine hK1 ?_
  refine aH ?_
  refine tHn ?_
  refine aE ?_
  refine aF ?_
  refine aE ?_
  refine aA dCo rfl fun K hK=>?_;conv=>whnf
  refine gE h fun _ h=>?_;conv=>whnf
  refine gKo rfl ?_;conv=>whnf
  refine hK _ _ _ ?_
  refine aW fun K1 K2 hK1 hK2=>?_;conv=>whnf
  refine cLk h (fun _ h=>?_) (fun _ h=>?_)
  ·refine hK1 ?_
   refine aA dCo rfl fun K hK=>?_;conv=>whnf
   refine hK _ _ _ ?_
   refine aP ?_
   refine aJ ?_
   refine aL ?_
   refine aJ ?_
   refine aJ ?_
   refine aL ?_
   refine aJ ?_
   replace h:=gA h
   replace h:=gB h
   replace h:=aO h
   refine aM dCo fun K hK=>?_;conv=>whnf
   refine hK _ ?_
   cases h
   exact Wk.refl _
  refine hK2 ?_
  refine aH ?_
  refine tHn ?_
  refine aA dCo rfl fun K hK=>?_;conv=>whnf
  refine hK _ _ _ ?_
  refine aF ?_
  replace h:=bM h
  refine gC (body:=cV _ _ _) rfl h [3,10,11,13,15,16] [10] [] [15] (fun kl kh kr ids b s=>⟨ofL ([(17,eI s.1)]++kl),ofH (([]++kh)++([(wW ids 0,.cells (cA s.2))]++kr)),b+128⟩) ?_;(conv=>whnf);refine And.intro ?_ (fun s m h=>dG ?_)
  ·refine bE ?_;conv=>whnf
   exact And.intro rfl (And.intro (aLc wkI (aLc wkI (aLc (WkR.ptr (fun _=>rfl)) (aLc (wkr (lsL fun _=>(lsI _ _))) (aLc (wkr (lsL fun _=>(lsL fun _=>(lsI _ _)))) (aLc (WkR.ptr (fun _=>rfl)) (aLc wkI aLn))))))) (aLc ⟨some _,rfl,bRc rfl (cKc wkI (cKc (wkr (lsL fun _=>(aD _))) cKn))⟩ (aLc ⟨some _,rfl,aV rfl rfl⟩ aLn)))
  replace h:=bM h;rw [cV.eq_1] at h
  refine aE ?_
  refine aA dCo rfl fun K hK=>?_;conv=>whnf
  refine gE h fun _ h=>?_;conv=>whnf
  refine gKo rfl ?_;conv=>whnf
  refine hK _ _ _ ?_
  refine aW fun K1 K2 hK1 hK2=>?_;conv=>whnf
  refine cLk h (fun _ h=>?_) (fun _ h=>?_)
  ·refine hK1 ?_
   refine aH ?_
   refine tHn ?_
   refine aE ?_
   refine aF ?_
   refine aA dCo rfl fun K hK=>?_;conv=>whnf
   refine gE h fun _ h=>?_;conv=>whnf
   refine gKo rfl ?_;conv=>whnf
   refine gE h fun _ h=>?_;conv=>whnf
   refine gKo rfl ?_;conv=>whnf
   refine hK _ _ _ ?_
   refine aE ?_
   refine rB dCo gD rfl (by kernel_rfl) fun K hK=>?_;conv=>whnf
   replace h:=nL h
   refine cLk h (fun _ h=>?_) (fun _ h=>?_)<;>(conv=>whnf)
   ·refine hK _ _ _ ?_
    refine aW fun K1 K2 hK1 hK2=>?_;conv=>whnf
    refine hK1 ?_
    replace h:=oB h
    refine aA dCo rfl fun K hK=>?_;conv=>whnf
    refine hK _ _ _ ?_
    refine aP ?_
    refine aJ ?_
    refine aL ?_
    refine aJ ?_
    refine aJ ?_
    refine aL ?_
    refine aL ?_
    refine aJ ?_
    refine aJ ?_
    refine aL ?_
    refine aJ ?_
    replace h:=gA h
    replace h:=gB h
    replace h:=gA h
    replace h:=gB h
    replace h:=aO h
    refine aM dCo fun K hK=>?_;conv=>whnf
    refine hK _ ?_
    cases h
    exact Wk.refl _
   refine nlA rfl ?_;conv=>whnf
   refine bKo rfl ?_;conv=>whnf
   refine gKo rfl ?_;conv=>whnf
   refine cLk h (fun _ h=>?_) (fun _ h=>?_)<;>(conv=>whnf)
   ·refine hK _ _ _ ?_
    refine aW fun K1 K2 hK1 hK2=>?_;conv=>whnf
    refine hK1 ?_
    replace h:=oB h
    refine aA dCo rfl fun K hK=>?_;conv=>whnf
    refine hK _ _ _ ?_
    refine aP ?_
    refine aJ ?_
    refine aL ?_
    refine aJ ?_
    refine aJ ?_
    refine aL ?_
    refine aL ?_
    refine aJ ?_
    refine aJ ?_
    refine aL ?_
    refine aJ ?_
    replace h:=gA h
    replace h:=gB h
    replace h:=gA h
    replace h:=gB h
    replace h:=aO h
    refine aM dCo fun K hK=>?_;conv=>whnf
    refine hK _ ?_
    cases h
    exact Wk.refl _
   refine cLk h (fun _ h=>?_) (fun _ h=>?_)<;>(conv=>whnf)
   ·refine nlA rfl ?_;conv=>whnf
    refine bKo rfl ?_;conv=>whnf
    refine nlA rfl ?_;conv=>whnf
    refine gE h fun _ h=>?_;conv=>whnf
    refine gKo rfl ?_;conv=>whnf
    refine gE h fun _ h=>?_;conv=>whnf
    refine gKo rfl ?_;conv=>whnf
    replace h:=bM h
    refine cQ h27 h (WkL.refl _) (fun _ h=>?_);conv=>whnf
    refine hK _ _ _ ?_
    refine aW fun K1 K2 hK1 hK2=>?_;conv=>whnf
    refine cLk h (fun _ h=>?_) (fun _ h=>?_)
    ·refine hK1 ?_
     refine aA dCo rfl fun K hK=>?_;conv=>whnf
     refine hK _ _ _ ?_
     refine aP ?_
     refine aJ ?_
     refine aL ?_
     refine aJ ?_
     refine aJ ?_
     refine aL ?_
     refine aL ?_
     refine aJ ?_
     refine aJ ?_
     refine aL ?_
     refine aJ ?_
     replace h:=gA h
     replace h:=gB h
     replace h:=gA h
     replace h:=gB h
     replace h:=aO h
     refine aM dCo fun K hK=>?_;conv=>whnf
     refine hK _ ?_
     cases h
     exact Wk.refl _
    refine hK2 ?_
    refine aH ?_
    refine tHn ?_
    refine cK dCo rfl fun K hK=>?_;conv=>whnf
    refine cH h fun hx135 h=>?_;conv=>whnf
    refine nlA rfl ?_;conv=>whnf
    refine bKo rfl ?_;conv=>whnf
    refine dS rfl hx135 ?_;conv=>whnf
    refine cH h fun hx136 h=>?_;conv=>whnf
    refine bKo rfl ?_;conv=>whnf
    refine tT rfl hx136 rfl rfl ?_;conv=>whnf
    refine hK _ _ _ ?_
    refine iBn ?_
    refine tHn ?_
    refine cK dCo rfl fun K hK=>?_;conv=>whnf
    refine hK _ _ _ ?_
    refine tHn ?_
    replace h:=bF h
    refine ⟨_,h,?_⟩
    refine bE ?_;conv=>whnf
    exact And.intro rfl (And.intro (aLc wkI (aLc wkI (aLc (WkR.ptr (fun _=>rfl)) (aLc (wkr (lsL fun _=>(lsI _ _))) (aLc (wkr (lsL fun _=>(lsL fun _=>(lsI _ _)))) (aLc (WkR.ptr (fun _=>rfl)) (aLc wkI aLn))))))) (aLc ⟨some _,rfl,bRc rfl (cKc wkI (cKc (wkr (lsL fun _=>(aD _))) cKn))⟩ (aLc ⟨some _,rfl,aV rfl rfl⟩ aLn)))
   refine hK _ _ _ ?_
   refine aW fun K1 K2 hK1 hK2=>?_;conv=>whnf
   refine hK2 ?_
   replace h:=sV h
   refine aH ?_
   refine tHn ?_
   refine cK dCo rfl fun K hK=>?_;conv=>whnf
   refine cH h fun hx137 h=>?_;conv=>whnf
   refine nlA rfl ?_;conv=>whnf
   refine bKo rfl ?_;conv=>whnf
   refine dS rfl hx137 ?_;conv=>whnf
   refine cH h fun hx138 h=>?_;conv=>whnf
   refine bKo rfl ?_;conv=>whnf
   refine tT rfl hx138 rfl rfl ?_;conv=>whnf
   refine hK _ _ _ ?_
   refine iBn ?_
   refine tHn ?_
   refine cK dCo rfl fun K hK=>?_;conv=>whnf
   refine hK _ _ _ ?_
   refine tHn ?_
   replace h:=bF h
   refine ⟨_,h,?_⟩
   refine bE ?_;conv=>whnf
   exact And.intro rfl (And.intro (aLc wkI (aLc wkI (aLc (WkR.ptr (fun _=>rfl)) (aLc (wkr (lsL fun _=>(lsI _ _))) (aLc (wkr (lsL fun _=>(lsL fun _=>(lsI _ _)))) (aLc (WkR.ptr (fun _=>rfl)) (aLc wkI aLn))))))) (aLc ⟨some _,rfl,bRc rfl (cKc wkI (cKc (wkr (lsL fun _=>(aD _))) cKn))⟩ (aLc ⟨some _,rfl,aV rfl rfl⟩ aLn)))
  refine hK2 ?_
  refine bD ?_
  refine aT ?_
  refine aT ?_
  refine aS ?_
  replace h:=dI h
  replace h:=dK h
  refine iBn ?_
  refine tHn ?_
  refine cK dCo rfl fun K hK=>?_;conv=>whnf
  refine hK _ _ _ ?_
  refine tHn ?_
  replace h:=bF h
  refine ⟨_,h,?_⟩
  refine bE ?_;conv=>whnf
  exact And.intro rfl (And.intro (aLc wkI (aLc wkI (aLc (WkR.ptr (fun _=>rfl)) (aLc (wkr (lsL fun _=>(lsI _ _))) (aLc (wkr (lsL fun _=>(lsL fun _=>(lsI _ _)))) (aLc (WkR.ptr (fun _=>rfl)) aLn)))))) (aLc ⟨some _,rfl,bRc rfl (cKc wkI (cKc (wkr (lsL fun _=>(aD _))) cKn))⟩ (aLc ⟨some _,rfl,aV rfl rfl⟩ aLn)))
 refine hK2 ?_
 refine bD ?_
 refine aT ?_
 refine aT ?_
 refine aS ?_
 replace h:=dI h
 replace h:=dK h
 refine tHn ?_
 refine aE ?_
 refine aA dCo rfl fun K hK=>?_;conv=>whnf
 refine hK _ _ _ ?_
 refine aF ?_
 replace h:=bM h
 refine gC (body:=cG _ _) rfl h [3,10,11,15] [10] [15] [] (fun kl kh kr ids b s=>⟨ofL ([(19,eI s)]++kl),ofH (([]++kh)++([]++kr)),b+64⟩) ?_;(conv=>whnf);refine And.intro ?_ (fun s m h=>dG ?_)
 ·refine bE ?_;conv=>whnf
  exact And.intro rfl (And.intro (aLc wkI (aLc wkI (aLc (WkR.ptr (fun _=>rfl)) (aLc (wkr (lsL fun _=>(lsI _ _))) (aLc (WkR.ptr (fun _=>rfl)) aLn))))) (aLc ⟨some _,rfl,bRc rfl (cKc wkI (cKc (wkr (lsL fun _=>(aD _))) cKn))⟩ (aLc ⟨some _,rfl,aV rfl rfl⟩ aLn)))
 replace h:=bM h;rw [cG.eq_1] at h
 refine aE ?_
 refine aA dCo rfl fun K hK=>?_;conv=>whnf
 refine nlA rfl ?_;conv=>whnf
 refine bKo rfl ?_;conv=>whnf
 refine gKo rfl ?_;conv=>whnf
 refine hK _ _ _ ?_
 refine aW fun K1 K2 hK1 hK2=>?_;conv=>whnf
 refine cLk h (fun _ h=>?_) (fun _ h=>?_)
 ·refine hK1 ?_
  refine aH ?_
  refine tHn ?_
  refine aE ?_
  refine aF ?_
  refine aA dCo rfl fun K hK=>?_;conv=>whnf
  refine cH h fun hx146 h=>?_;conv=>whnf
  refine nlA rfl ?_;conv=>whnf
  refine bKo rfl ?_;conv=>whnf
  refine dS rfl hx146 ?_;conv=>whnf
  refine hK _ _ _ ?_
  refine aW fun K1 K2 hK1 hK2=>?_;conv=>whnf
  refine cLk h (fun _ h=>?_) (fun _ h=>?_)
  ·refine hK1 ?_
   refine aA dCo rfl fun K hK=>?_;conv=>whnf
   refine hK _ _ _ ?_
   refine aP ?_
   refine aL ?_
   refine aJ ?_
   refine aJ ?_
   refine aL ?_
   refine aJ ?_
   replace h:=gA h
   replace h:=gB h
   replace h:=aO h
   refine aM dCo fun K hK=>?_;conv=>whnf
   refine hK _ ?_
   cases h
   exact Wk.refl _
  refine hK2 ?_
  refine aH ?_
  refine iBn ?_
  refine tHn ?_
  refine cK dCo rfl fun K hK=>?_;conv=>whnf
  refine hK _ _ _ ?_
  refine tHn ?_
  replace h:=bF h
  refine ⟨_,h,?_⟩
  refine bE ?_;conv=>whnf
  exact And.intro rfl (And.intro (aLc wkI (aLc wkI (aLc (WkR.ptr (fun _=>rfl)) (aLc (wkr (lsL fun _=>(lsI _ _))) (aLc (WkR.ptr (fun _=>rfl)) aLn))))) (aLc ⟨some _,rfl,bRc rfl (cKc wkI (cKc (wkr (lsL fun _=>(aD _))) cKn))⟩ (aLc ⟨some _,rfl,aV rfl rfl⟩ aLn)))
 refine hK2 ?_
 refine bD ?_
 refine aT ?_
 refine aT ?_
 refine aS ?_
 replace h:=dI h
 replace h:=dK h
 refine tHn ?_
 refine aE ?_
 refine aA dCo rfl fun K hK=>?_;conv=>whnf
 refine hK _ _ _ ?_
 refine aF ?_
 replace h:=bM h
 refine gJ (body:=cI _ _) rfl h [3,10,11] [10] [] (fun kl kh ids b s=>⟨ofL ([(20,eI s)]++kl),ofH ([]++kh),b+64⟩) ?_;(conv=>whnf);refine And.intro ?_ (fun s m h=>dG ?_)
 ·refine aY ?_;conv=>whnf
  exact And.intro rfl (And.intro (aLc wkI (aLc wkI (aLc (WkR.ptr (fun _=>rfl)) (aLc (wkr (lsL fun _=>(lsI _ _))) aLn)))) (aLc ⟨some _,rfl,bRc rfl (cKc wkI (cKc (wkr (lsL fun _=>(aD _))) cKn))⟩ aLn))
 replace h:=bM h;rw [cI.eq_1] at h
 refine aE ?_
 refine aA dCo rfl fun K hK=>?_;conv=>whnf
 refine hK _ _ _ ?_
 refine aW fun K1 K2 hK1 hK2=>?_;conv=>whnf
 refine cLk h (fun _ h=>?_) (fun _ h=>?_)
 ·refine hK1 ?_
  refine aH ?_
  refine tHn ?_
  refine aE ?_
  refine aF ?_
  refine aE ?_
  refine rB dCo gD rfl (by kernel_rfl) fun K hK=>?_;conv=>whnf
  replace h:=nL h
  refine cLk h (fun _ h=>?_) (fun _ h=>?_)<;>(conv=>whnf)
  ·refine gE h fun _ h=>?_;conv=>whnf
   refine gKo rfl ?_;conv=>whnf
   refine gE h fun _ h=>?_;conv=>whnf
   refine gKo rfl ?_;conv=>whnf
   refine hK _ _ _ ?_
   refine aW fun K1 K2 hK1 hK2=>?_;conv=>whnf
   refine cLk h (fun _ h=>?_) (fun _ h=>?_)
   ·refine hK1 ?_
    refine aA dCo rfl fun K hK=>?_;conv=>whnf
    refine hK _ _ _ ?_
    refine aP ?_
    refine aJ ?_
    refine aL ?_
    refine aJ ?_
    refine aJ ?_
    refine aL ?_
    refine aJ ?_
    replace h:=gA h
    replace h:=gB h
    replace h:=aO h
    refine aM dCo fun K hK=>?_;conv=>whnf
    refine hK _ ?_
    cases h
    exact Wk.refl _
   refine hK2 ?_
   refine aH ?_
   refine tHn ?_
   refine aA dCo rfl fun K hK=>?_;conv=>whnf
   refine hK _ _ _ ?_
   refine aF ?_
   replace h:=bM h
   refine gJ (body:=bO _ _ _) rfl h [3,10,11,20] [10] [] (fun kl kh ids b s=>⟨ofL ([(21,eI s)]++kl),ofH ([]++kh),b+64⟩) ?_;(conv=>whnf);refine And.intro ?_ (fun s m h=>dG ?_)
   ·refine aY ?_;conv=>whnf
    exact And.intro rfl (And.intro (aLc wkI (aLc wkI (aLc (WkR.ptr (fun _=>rfl)) (aLc (wkr (lsL fun _=>(lsI _ _))) (aLc wkI aLn))))) (aLc ⟨some _,rfl,bRc rfl (cKc wkI (cKc (wkr (lsL fun _=>(aD _))) cKn))⟩ aLn))
   replace h:=bM h;rw [bO.eq_1] at h
   refine aE ?_
   refine aA dCo rfl fun K hK=>?_;conv=>whnf
   refine hK _ _ _ ?_
   refine aW fun K1 K2 hK1 hK2=>?_;conv=>whnf
   refine cLk h (fun _ h=>?_) (fun _ h=>?_)
   ·refine hK1 ?_
    refine aH ?_
    refine tHn ?_
    refine aE ?_
    refine aF ?_
    refine rB dCo gD rfl (by kernel_rfl) fun K hK=>?_;conv=>whnf
    refine nlA rfl ?_;conv=>whnf
    refine bKo rfl ?_;conv=>whnf
    refine nlA rfl ?_;conv=>whnf
    refine gE h fun _ h=>?_;conv=>whnf
    refine gKo rfl ?_;conv=>whnf
    refine gE h fun _ h=>?_;conv=>whnf
    refine gKo rfl ?_;conv=>whnf
    replace h:=bM h
    refine cQ h27 h (WkL.refl _) (fun _ h=>?_);conv=>whnf
    refine hK _ _ _ ?_
    refine aW fun K1 K2 hK1 hK2=>?_;conv=>whnf
    refine cLk h (fun _ h=>?_) (fun _ h=>?_)
    ·refine hK1 ?_
     refine aA dCo rfl fun K hK=>?_;conv=>whnf
     refine hK _ _ _ ?_
     refine aP ?_
     refine aL ?_
     refine aJ ?_
     refine aJ ?_
     refine aL ?_
     refine aL ?_
     refine aJ ?_
     refine aJ ?_
     refine aL ?_
     refine aJ ?_
     replace h:=gA h
     replace h:=gB h
     replace h:=gA h
     replace h:=gB h
     replace h:=aO h
     refine aM dCo fun K hK=>?_;conv=>whnf
     refine hK _ ?_
     cases h
     exact Wk.refl _
    refine hK2 ?_
    refine aH ?_
    refine iBn ?_
    refine tHn ?_
    refine cK dCo rfl fun K hK=>?_;conv=>whnf
    refine hK _ _ _ ?_
    refine tHn ?_
    replace h:=bF h
    refine ⟨_,h,?_⟩
    refine aY ?_;conv=>whnf
    exact And.intro rfl (And.intro (aLc wkI (aLc wkI (aLc (WkR.ptr (fun _=>rfl)) (aLc (wkr (lsL fun _=>(lsI _ _))) (aLc wkI aLn))))) (aLc ⟨some _,rfl,bRc rfl (cKc wkI (cKc (wkr (lsL fun _=>(aD _))) cKn))⟩ aLn))
   refine hK2 ?_
   refine bD ?_
   refine aT ?_
   refine aT ?_
   refine aS ?_
   replace h:=dI h
   replace h:=dK h
   refine iBn ?_
   refine tHn ?_
   refine cK dCo rfl fun K hK=>?_;conv=>whnf
   refine hK _ _ _ ?_
   refine tHn ?_
   replace h:=bF h
   refine ⟨_,h,?_⟩
   refine aY ?_;conv=>whnf
   exact And.intro rfl (And.intro (aLc wkI (aLc wkI (aLc (WkR.ptr (fun _=>rfl)) (aLc (wkr (lsL fun _=>(lsI _ _))) aLn)))) (aLc ⟨some _,rfl,bRc rfl (cKc wkI (cKc (wkr (lsL fun _=>(aD _))) cKn))⟩ aLn))
  refine hK _ _ _ ?_
  refine aW fun K1 K2 hK1 hK2=>?_;conv=>whnf
  refine hK2 ?_
  replace h:=sV h
  refine aH ?_
  refine tHn ?_
  refine aA dCo rfl fun K hK=>?_;conv=>whnf
  refine hK _ _ _ ?_
  refine aF ?_
  replace h:=bM h
  refine gJ (body:=bO _ _ _) rfl h [3,10,11,20] [10] [] (fun kl kh ids b s=>⟨ofL ([(21,eI s)]++kl),ofH ([]++kh),b+64⟩) ?_;(conv=>whnf);refine And.intro ?_ (fun s m h=>dG ?_)
  ·refine aY ?_;conv=>whnf
   exact And.intro rfl (And.intro (aLc wkI (aLc wkI (aLc (WkR.ptr (fun _=>rfl)) (aLc (wkr (lsL fun _=>(lsI _ _))) (aLc wkI aLn))))) (aLc ⟨some _,rfl,bRc rfl (cKc wkI (cKc (wkr (lsL fun _=>(aD _))) cKn))⟩ aLn))
  replace h:=bM h;rw [bO.eq_1] at h
  refine aE ?_
  refine aA dCo rfl fun K hK=>?_;conv=>whnf
  refine hK _ _ _ ?_
  refine aW fun K1 K2 hK1 hK2=>?_;conv=>whnf
  refine cLk h (fun _ h=>?_) (fun _ h=>?_)
  ·refine hK1 ?_
   refine aH ?_
   refine tHn ?_
   refine aE ?_
   refine aF ?_
   refine rB dCo gD rfl (by kernel_rfl) fun K hK=>?_;conv=>whnf
   refine nlA rfl ?_;conv=>whnf
   refine bKo rfl ?_;conv=>whnf
   refine nlA rfl ?_;conv=>whnf
   refine gE h fun _ h=>?_;conv=>whnf
   refine gKo rfl ?_;conv=>whnf
   refine gE h fun _ h=>?_;conv=>whnf
   refine gKo rfl ?_;conv=>whnf
   replace h:=bM h
   refine cQ h27 h (WkL.refl _) (fun _ h=>?_);conv=>whnf
   refine hK _ _ _ ?_
   refine aW fun K1 K2 hK1 hK2=>?_;conv=>whnf
   refine cLk h (fun _ h=>?_) (fun _ h=>?_)
   ·refine hK1 ?_
    refine aA dCo rfl fun K hK=>?_;conv=>whnf
    refine hK _ _ _ ?_
    refine aP ?_
    refine aL ?_
    refine aJ ?_
    refine aJ ?_
    refine aL ?_
    refine aL ?_
    refine aJ ?_
    refine aJ ?_
    refine aL ?_
    refine aJ ?_
    replace h:=gA h
    replace h:=gB h
    replace h:=gA h
    replace h:=gB h
    replace h:=aO h
    refine aM dCo fun K hK=>?_;conv=>whnf
    refine hK _ ?_
    cases h
    exact Wk.refl _
   refine hK2 ?_
   refine aH ?_
   refine iBn ?_
   refine tHn ?_
   refine cK dCo rfl fun K hK=>?_;conv=>whnf
   refine hK _ _ _ ?_
   refine tHn ?_
   replace h:=bF h
   refine ⟨_,h,?_⟩
   refine aY ?_;conv=>whnf
   exact And.intro rfl (And.intro (aLc wkI (aLc wkI (aLc (WkR.ptr (fun _=>rfl)) (aLc (wkr (lsL fun _=>(lsI _ _))) (aLc wkI aLn))))) (aLc ⟨some _,rfl,bRc rfl (cKc wkI (cKc (wkr (lsL fun _=>(aD _))) cKn))⟩ aLn))
  refine hK2 ?_
  refine bD ?_
  refine aT ?_
  refine aT ?_
  refine aS ?_
  replace h:=dI h
  replace h:=dK h
  refine iBn ?_
  refine tHn ?_
  refine cK dCo rfl fun K hK=>?_;conv=>whnf
  refine hK _ _ _ ?_
  refine tHn ?_
  replace h:=bF h
  refine ⟨_,h,?_⟩
  refine aY ?_;conv=>whnf
  exact And.intro rfl (And.intro (aLc wkI (aLc wkI (aLc (WkR.ptr (fun _=>rfl)) (aLc (wkr (lsL fun _=>(lsI _ _))) aLn)))) (aLc ⟨some _,rfl,bRc rfl (cKc wkI (cKc (wkr (lsL fun _=>(aD _))) cKn))⟩ aLn))
 refine hK2 ?_
 refine bD ?_
 refine aT ?_
 refine aT ?_
 refine aS ?_
 replace h:=dI h
 replace h:=dK h
 refine tHn ?_
 refine aA dCo rfl fun K hK=>?_;conv=>whnf
 refine nlA rfl ?_;conv=>whnf
 refine bKo rfl ?_;conv=>whnf
 refine gKo rfl ?_;conv=>whnf
 refine cH h fun _ h=>?_;conv=>whnf
 replace h:=bM h
 refine pG h13 h (WkL.refl _) (fun _ h=>?_);conv=>whnf
 refine hK _ _ _ ?_
 refine aA dCo rfl fun K hK=>?_;conv=>whnf
 refine hK _ _ _ ?_
 refine aA dCo rfl fun K hK=>?_;conv=>whnf
 refine hK _ _ _ ?_
 refine aE ?_
 refine aA dCo rfl fun K hK=>?_;conv=>whnf
 refine hK _ _ _ ?_
 refine aF ?_
 replace h:=bM h
 refine gJ (body:=cW _ _) rfl h [10,11,22] [10] [] (fun kl kh ids b s=>⟨ofL ([(23,eI s.1),(24,eB s.2.1),(25,eI s.2.2)]++kl),ofH ([]++kh),b+64⟩) ?_;(conv=>whnf);refine And.intro ?_ (fun s m h=>dG ?_)
 ·refine aY ?_;conv=>whnf
  exact And.intro rfl (And.intro (aLc wkI (aLc (wkr (lsB _)) (aLc wkI (aLc (WkR.ptr (fun _=>rfl)) (aLc (wkr (lsL fun _=>(lsI _ _))) (aLc wkI aLn)))))) (aLc ⟨some _,rfl,bRc rfl (cKc wkI (cKc (wkr (lsL fun _=>(aD _))) cKn))⟩ aLn))
 replace h:=bM h;rw [cW.eq_1] at h
 refine aE ?_
 refine aA dCo rfl fun K hK=>?_;conv=>whnf
 refine nlA rfl ?_;conv=>whnf
 refine bKo rfl ?_;conv=>whnf
 refine gKo rfl ?_;conv=>whnf
 refine hK _ _ _ ?_
 refine aW fun K1 K2 hK1 hK2=>?_;conv=>whnf
 refine cLk h (fun _ h=>?_) (fun _ h=>?_)
 ·refine hK1 ?_
  refine aH ?_
  refine tHn ?_
  refine aE ?_
  refine aF ?_
  refine aE ?_
  refine aA dCo rfl fun K hK=>?_;conv=>whnf
  refine cH h fun _ h=>?_;conv=>whnf
  refine And.intro (by decide) ?_;conv=>whnf
  refine hK _ _ _ ?_
  replace h:=nL h
  refine aW fun K1 K2 hK1 hK2=>?_;conv=>whnf
  refine cLk h (fun _ h=>?_) (fun _ h=>?_)
  ·refine hK1 ?_
   refine cK dCo rfl fun K hK=>?_;conv=>whnf
   refine hK _ _ _ ?_
   refine tHn ?_
   refine aA dCo rfl fun K hK=>?_;conv=>whnf
   refine hK _ _ _ ?_
   refine aF ?_
   replace h:=bM h
   refine gJ (body:=bT _ _ _) rfl h [10,11,22,23,25] [10] [] (fun kl kh ids b s=>⟨ofL ([(24,eB s.1),(26,eI s.2)]++kl),ofH ([]++kh),b+64⟩) ?_;(conv=>whnf);refine And.intro ?_ (fun s m h=>dG ?_)
   ·refine aY ?_;conv=>whnf
    exact And.intro rfl (And.intro (aLc (wkr (lsB _)) (aLc wkI (aLc (WkR.ptr (fun _=>rfl)) (aLc (wkr (lsL fun _=>(lsI _ _))) (aLc wkI (aLc wkI (aLc wkI aLn))))))) (aLc ⟨some _,rfl,bRc rfl (cKc wkI (cKc (wkr (lsL fun _=>(aD _))) cKn))⟩ aLn))
   replace h:=bM h;rw [bT.eq_1] at h
   refine aE ?_
   refine aA dCo rfl fun K hK=>?_;conv=>whnf
   refine nlA rfl ?_;conv=>whnf
   refine bKo rfl ?_;conv=>whnf
   refine gKo rfl ?_;conv=>whnf
   refine hK _ _ _ ?_
   refine aW fun K1 K2 hK1 hK2=>?_;conv=>whnf
   refine cLk h (fun _ h=>?_) (fun _ h=>?_)
   ·refine hK1 ?_
    refine aH ?_
    refine tHn ?_
    refine aE ?_
    refine aF ?_
    refine cK dCo rfl fun K hK=>?_;conv=>whnf
    replace h:=nL h
    refine cLk h (fun _ h=>?_) (fun _ h=>?_)<;>(conv=>whnf)
    ·refine cH h fun _ h=>?_;conv=>whnf
     refine And.intro (by decide) ?_;conv=>whnf
     refine cLk h (fun _ h=>?_) (fun _ h=>?_)<;>(conv=>whnf)
     ·refine cH h fun _ h=>?_;conv=>whnf
      refine And.intro (by decide) ?_;conv=>whnf
      refine cLk h (fun _ h=>?_) (fun _ h=>?_)<;>(conv=>whnf)
      ·refine nlA rfl ?_;conv=>whnf
       refine bKo rfl ?_;conv=>whnf
       refine nlA rfl ?_;conv=>whnf
       replace h:=bM h
       refine cQ h27 h (WkL.refl _) (fun _ h=>?_);conv=>whnf
       refine hK _ _ _ ?_
       refine iBn ?_
       refine tHn ?_
       refine cK dCo rfl fun K hK=>?_;conv=>whnf
       refine hK _ _ _ ?_
       refine tHn ?_
       replace h:=bF h
       refine ⟨_,h,?_⟩
       refine aY ?_;conv=>whnf
       exact And.intro rfl (And.intro (aLc (wkr (lsB _)) (aLc wkI (aLc (WkR.ptr (fun _=>rfl)) (aLc (wkr (lsL fun _=>(lsI _ _))) (aLc wkI (aLc wkI (aLc wkI aLn))))))) (aLc ⟨some _,rfl,bRc rfl (cKc wkI (cKc (wkr (lsL fun _=>(aD _))) cKn))⟩ aLn))
      refine hK _ _ _ ?_
      refine iBn ?_
      refine tHn ?_
      refine cK dCo rfl fun K hK=>?_;conv=>whnf
      refine hK _ _ _ ?_
      refine tHn ?_
      replace h:=bF h
      refine ⟨_,h,?_⟩
      refine aY ?_;conv=>whnf
      exact And.intro rfl (And.intro (aLc (wkr (lsB _)) (aLc wkI (aLc (WkR.ptr (fun _=>rfl)) (aLc (wkr (lsL fun _=>(lsI _ _))) (aLc wkI (aLc wkI (aLc wkI aLn))))))) (aLc ⟨some _,rfl,bRc rfl (cKc wkI (cKc (wkr (lsL fun _=>(aD _))) cKn))⟩ aLn))
     refine hK _ _ _ ?_
     refine iBn ?_
     refine tHn ?_
     refine cK dCo rfl fun K hK=>?_;conv=>whnf
     refine hK _ _ _ ?_
     refine tHn ?_
     replace h:=bF h
     refine ⟨_,h,?_⟩
     refine aY ?_;conv=>whnf
     exact And.intro rfl (And.intro (aLc (wkr (lsB _)) (aLc wkI (aLc (WkR.ptr (fun _=>rfl)) (aLc (wkr (lsL fun _=>(lsI _ _))) (aLc wkI (aLc wkI (aLc wkI aLn))))))) (aLc ⟨some _,rfl,bRc rfl (cKc wkI (cKc (wkr (lsL fun _=>(aD _))) cKn))⟩ aLn))
    refine hK _ _ _ ?_
    refine iBn ?_
    refine tHn ?_
    refine cK dCo rfl fun K hK=>?_;conv=>whnf
    refine hK _ _ _ ?_
    refine tHn ?_
    replace h:=bF h
    refine ⟨_,h,?_⟩
    refine aY ?_;conv=>whnf
    exact And.intro rfl (And.intro (aLc (wkr (lsB _)) (aLc wkI (aLc (WkR.ptr (fun _=>rfl)) (aLc (wkr (lsL fun _=>(lsI _ _))) (aLc wkI (aLc wkI (aLc wkI aLn))))))) (aLc ⟨some _,rfl,bRc rfl (cKc wkI (cKc (wkr (lsL fun _=>(aD _))) cKn))⟩ aLn))
   refine hK2 ?_
   refine bD ?_
   refine aT ?_
   refine aT ?_
   refine aS ?_
   replace h:=dI h
   replace h:=dK h
   refine iBn ?_
   refine tHn ?_
   refine cK dCo rfl fun K hK=>?_;conv=>whnf
   refine hK _ _ _ ?_
   refine tHn ?_
   replace h:=bF h
   refine ⟨_,h,?_⟩
   refine aY ?_;conv=>whnf
   exact And.intro rfl (And.intro (aLc wkI (aLc (wkr (lsB _)) (aLc wkI (aLc (WkR.ptr (fun _=>rfl)) (aLc (wkr (lsL fun _=>(lsI _ _))) (aLc wkI aLn)))))) (aLc ⟨some _,rfl,bRc rfl (cKc wkI (cKc (wkr (lsL fun _=>(aD _))) cKn))⟩ aLn))
  refine hK2 ?_
  refine aH ?_
  refine tHn ?_
  refine aA dCo rfl fun K hK=>?_;conv=>whnf
  refine hK _ _ _ ?_
  refine aF ?_
  replace h:=bM h
  refine gJ (body:=bT _ _ _) rfl h [10,11,22,23,25] [10] [] (fun kl kh ids b s=>⟨ofL ([(24,eB s.1),(26,eI s.2)]++kl),ofH ([]++kh),b+64⟩) ?_;(conv=>whnf);refine And.intro ?_ (fun s m h=>dG ?_)
  ·refine aY ?_;conv=>whnf
   exact And.intro rfl (And.intro (aLc (wkr (lsB _)) (aLc wkI (aLc (WkR.ptr (fun _=>rfl)) (aLc (wkr (lsL fun _=>(lsI _ _))) (aLc wkI (aLc wkI (aLc wkI aLn))))))) (aLc ⟨some _,rfl,bRc rfl (cKc wkI (cKc (wkr (lsL fun _=>(aD _))) cKn))⟩ aLn))
  replace h:=bM h;rw [bT.eq_1] at h
  refine aE ?_
  refine aA dCo rfl fun K hK=>?_;conv=>whnf
  refine nlA rfl ?_;conv=>whnf
  refine bKo rfl ?_;conv=>whnf
  refine gKo rfl ?_;conv=>whnf
  refine hK _ _ _ ?_
  refine aW fun K1 K2 hK1 hK2=>?_;conv=>whnf
  refine cLk h (fun _ h=>?_) (fun _ h=>?_)
  ·refine hK1 ?_
   refine aH ?_
   refine tHn ?_
   refine aE ?_
   refine aF ?_
   refine cK dCo rfl fun K hK=>?_;conv=>whnf
   replace h:=nL h
   refine cLk h (fun _ h=>?_) (fun _ h=>?_)<;>(conv=>whnf)
   ·refine cH h fun _ h=>?_;conv=>whnf
    refine And.intro (by decide) ?_;conv=>whnf
    refine cLk h (fun _ h=>?_) (fun _ h=>?_)<;>(conv=>whnf)
    ·refine cH h fun _ h=>?_;conv=>whnf
     refine And.intro (by decide) ?_;conv=>whnf
     refine cLk h (fun _ h=>?_) (fun _ h=>?_)<;>(conv=>whnf)
     ·refine nlA rfl ?_;conv=>whnf
      refine bKo rfl ?_;conv=>whnf
      refine nlA rfl ?_;conv=>whnf
      replace h:=bM h
      refine cQ h27 h (WkL.refl _) (fun _ h=>?_);conv=>whnf
      refine hK _ _ _ ?_
      refine iBn ?_
      refine tHn ?_
      refine cK dCo rfl fun K hK=>?_;conv=>whnf
      refine hK _ _ _ ?_
      refine tHn ?_
      replace h:=bF h
      refine ⟨_,h,?_⟩
      refine aY ?_;conv=>whnf
      exact And.intro rfl (And.intro (aLc (wkr (lsB _)) (aLc wkI (aLc (WkR.ptr (fun _=>rfl)) (aLc (wkr (lsL fun _=>(lsI _ _))) (aLc wkI (aLc wkI (aLc wkI aLn))))))) (aLc ⟨some _,rfl,bRc rfl (cKc wkI (cKc (wkr (lsL fun _=>(aD _))) cKn))⟩ aLn))
     refine hK _ _ _ ?_
     refine iBn ?_
     refine tHn ?_
     refine cK dCo rfl fun K hK=>?_;conv=>whnf
     refine hK _ _ _ ?_
     refine tHn ?_
     replace h:=bF h
     refine ⟨_,h,?_⟩
     refine aY ?_;conv=>whnf
     exact And.intro rfl (And.intro (aLc (wkr (lsB _)) (aLc wkI (aLc (WkR.ptr (fun _=>rfl)) (aLc (wkr (lsL fun _=>(lsI _ _))) (aLc wkI (aLc wkI (aLc wkI aLn))))))) (aLc ⟨some _,rfl,bRc rfl (cKc wkI (cKc (wkr (lsL fun _=>(aD _))) cKn))⟩ aLn))
    refine hK _ _ _ ?_
    refine iBn ?_
    refine tHn ?_
    refine cK dCo rfl fun K hK=>?_;conv=>whnf
    refine hK _ _ _ ?_
    refine tHn ?_
    replace h:=bF h
    refine ⟨_,h,?_⟩
    refine aY ?_;conv=>whnf
    exact And.intro rfl (And.intro (aLc (wkr (lsB _)) (aLc wkI (aLc (WkR.ptr (fun _=>rfl)) (aLc (wkr (lsL fun _=>(lsI _ _))) (aLc wkI (aLc wkI (aLc wkI aLn))))))) (aLc ⟨some _,rfl,bRc rfl (cKc wkI (cKc (wkr (lsL fun _=>(aD _))) cKn))⟩ aLn))
   refine hK _ _ _ ?_
   refine iBn ?_
   refine tHn ?_
   refine cK dCo rfl fun K hK=>?_;conv=>whnf
   refine hK _ _ _ ?_
   refine tHn ?_
   replace h:=bF h
   refine ⟨_,h,?_⟩
   refine aY ?_;conv=>whnf
   exact And.intro rfl (And.intro (aLc (wkr (lsB _)) (aLc wkI (aLc (WkR.ptr (fun _=>rfl)) (aLc (wkr (lsL fun _=>(lsI _ _))) (aLc wkI (aLc wkI (aLc wkI aLn))))))) (aLc ⟨some _,rfl,bRc rfl (cKc wkI (cKc (wkr (lsL fun _=>(aD _))) cKn))⟩ aLn))
  refine hK2 ?_
  refine bD ?_
  refine aT ?_
  refine aT ?_
  refine aS ?_
  replace h:=dI h
  replace h:=dK h
  refine iBn ?_
  refine tHn ?_
  refine cK dCo rfl fun K hK=>?_;conv=>whnf
  refine hK _ _ _ ?_
  refine tHn ?_
  replace h:=bF h
  refine ⟨_,h,?_⟩
  refine aY ?_;conv=>whnf
  exact And.intro rfl (And.intro (aLc wkI (aLc (wkr (lsB _)) (aLc wkI (aLc (WkR.ptr (fun _=>rfl)) (aLc (wkr (lsL fun _=>(lsI _ _))) (aLc wkI aLn)))))) (aLc ⟨some _,rfl,bRc rfl (cKc wkI (cKc (wkr (lsL fun _=>(aD _))) cKn))⟩ aLn))
 refine hK2 ?_
 refine bD ?_
 refine aT ?_
 refine aT ?_
 refine aS ?_
 replace h:=dI h
 replace h:=dK h
 refine tHn ?_
 refine aA dCo rfl fun K hK=>?_;conv=>whnf
 replace h:=nL h
 refine cLk h (fun _ h=>?_) (fun _ h=>?_)<;>(conv=>whnf)
 ·refine hK _ _ _ ?_
  refine aP ?_
  replace h:=aO h
  refine aM dCo fun K hK=>?_;conv=>whnf
  refine hK _ ?_
  cases h
  exact Wk.refl _
 refine hK _ _ _ ?_
 refine aP ?_
 replace h:=aO h
 refine aM dCo fun K hK=>?_;conv=>whnf
 refine hK _ ?_
 cases h
 exact Wk.refl _
theorem aC0 {l:List Nat} {n:Nat} (hd:l.Nodup) (hl:∀ x,x∈l→x<n):l.length≤n:=by
 have e:=aDC (n:=n) (fun _=>true) l hd hl
 rw [List.countP_true] at e
 rw [e]
 exact vI
theorem aDS {F:List Nat} {n a:Nat} (hd:F.Nodup) (hl:∀ x,x∈F→x<n) (ha:a∈F):F.count a=1:=by
 show F.countP (fun x=>x==a)=1
 rw [aDC (n:=n) _ F hd hl,← aFc (hl a ha)]
 refine eQ fun x _=>?_
 by_cases e:x=a
 ·subst e;rw [decide_eq_true ha,if_pos rfl];simp
 ·rw [show (x==a)=false from beq_false_of_ne e,if_neg e,Bool.and_false];rfl
theorem aDY {C:List (List Nat)} {i:Nat} (hi:i<C.length):(C.take (i+1)).flatten=(C.take i).flatten++C.getD i default:=by
 rw [oZ hi,List.flatten_append];simp
theorem aHl (C:List (List Nat)) (i:Nat):(C.take i).flatten.length≤C.flatten.length:=by
 have:=congrArg (fun l=>l.flatten.length) (List.take_append_drop i C)
 simp only [List.flatten_append,List.length_append] at this
 omega
theorem aJS {r:Nat→Nat→Bool} {l:List Nat} (hp:l.Pairwise fun x y=>r x y=true) {i j:Nat} (hij:i<j) (hj:j<l.length):r (l.getD i default) (l.getD j default)=true:=by
 rw [dU (by omega),dU hj]
 exact List.pairwise_iff_getElem.1 hp i j (by omega) hj hij
section
variable {o:aG} {n:Nat} {t:Ar 8} {r:Nat→Nat→Bool}
theorem dil (h:OV o n t r) {C:List (List Nat)} {m:Nat→Nat} (hC:aLi r n C) (hM:Mat r n m) (hl:C.length=aAX n m):∃ s,s<2 ^ n∧Ant r s∧tI n r (2 ^ n)=cS s∧(cS s).length=C.length∧∀ s',s'<2 ^ n→Ant r s'→pc n s'≤C.length:=by
 have hp:=Nat.two_pow_pos n
 obtain ⟨s,h1,h2,h3⟩:=aFa n r (2 ^ n)
 have hs:s<2 ^ n:=by omega
 have ha:=(zM h.lt).1 h1
 obtain ⟨s',g1,g2,g3⟩:=aHo h hM
 have m1:=aCB n r (2 ^ n) s' g1 ((zM h.lt).2 g2)
 have up:=aCQ hC ha
 rw [vF h.n8 g1,h2,vF h.n8 hs] at m1
 exact ⟨s,hs,ha,h2,by rw [vF h.n8 hs];omega,fun s' _ g=>aCQ hC g⟩
end
theorem aJk (a0:Int) (a1:List (Int×Int)) (a2 a3:Int) (o0:okI a0) (o1:okL aDf a1) (o2:okI a2) (o3:okI a3):eP a0 a1 a2 a3=some true:=by
 obtain ⟨o,n,t,r,e0,h,hol⟩:=aHt a0 a1 a2 o0 o1 o2
 have n8:=h.n8
 have hN:=h.N
 have p8:=nP n8
 obtain ⟨C,m,eC,hC,hM,hCl⟩:=aGh h
 obtain ⟨s,hs,ha,hA,hAl,hmax⟩:=dil h hC hM hCl
 have bl:=tG s
 have flen:C.flatten.length≤n:=by
  have:=aC0 hC.nd fun x hx=>(hC.al x).1 hx
  exact this
 obtain ⟨z,zl,e3⟩:=aJR a3 (n:=2 ^ n) o3 (Nat.two_pow_pos n)
 unfold eP
 rw [aHi,gF,qO,aCs,e0,gF,aBy h,gF,eC,gF,hA]
 simp only [aBK,show ((0:Int) != 0)=false from rfl,aAO,bN,fS]
 rw [hAl,show ((C.length:Int) != (C.length:Int))=false by simp,aAO]
 obtain ⟨q,e4,_,f,g1,g2⟩:=jT (body:=cU o (pM C,0)) (fun i s=>s.1=(i:Int)∧∃ f,RA s.2 f∧∀ x,f x=(C.take i).flatten.count x) C.length (by omega)
  (fun i s hi ⟨hs,f,hf,hq⟩=>by
   obtain ⟨u,X⟩:=s
   simp only at hs hf
   subst hs
   have ft:=aDY hi
   have fl1:=aHl C (i+1)
   rw [ft,List.length_append] at fl1
   have cin:C.getD i default∈C:=iD hi
   have cne:=List.length_pos_iff.2 (hC.ne _ cin)
   have cch:=hC.ch _ cin
   have cal:∀ k,k<(C.getD i default).length→(C.getD i default).getD k default<n:=fun k hk=>(hC.al _).1 (List.mem_flatten.2 ⟨_,cin,iD hk⟩)
   generalize hc:C.getD i default=c at *
   obtain ⟨s,e,_,f',w1,w2⟩:=jT (body:=cV ((i:Int),X) o (pM C,0)) (fun k s=>s.1=(k:Int)∧∃ f,RA s.2 f∧∀ x,f x=((C.take i).flatten++c.take k).count x) c.length (by omega)
    (fun k s hk ⟨hs,f,hf,hq⟩=>by
     obtain ⟨u,Y⟩:=s
     simp only at hs hf
     subst hs
     have ck:=cal k hk
     have ix2:∀ {γ:Type} (f:List Int→Option γ),ix (pM C) default (i:Int) f=f (mK c):=fun f=>by
      rw [aAi (by rw [fS];exact hi),pY hi,hc]
     have fb:f (c.getD k default)≤8:=by
      rw [hq]
      have:=List.count_le_length (a:=c.getD k default) (l:=(C.take i).flatten++c.take k)
      rw [List.length_append,List.length_take] at this;omega
     have tk:=oZ hk
     have upd:RA (Y.st1 ((c.getD k default:Nat):Int) ((f (c.getD k default)+1:Nat):Int)) (upf f (c.getD k default) (f (c.getD k default)+1)):=aFs hf (by omega) _
     have cnt':∀ x,upf f (c.getD k default) (f (c.getD k default)+1) x=((C.take i).flatten++c.take (k+1)).count x:=fun x=>by
      rw [tk,← List.append_assoc,List.count_append (l₂:=[c.getD k default]),← hq]
      by_cases e:x=c.getD k default
      ·rw [e,aDM];simp
      ·rw [yL _ _ e,List.count_singleton,if_neg (by simpa using fun q=>e q.symm),Nat.add_zero]
     unfold cV
     simp only [bY,aBK,ix2,bN]
     rw [if_pos (by omega),aAi (by rw [bN];exact hk),fP hk,if_neg (by omega),if_neg (by omega),kR _ (by omega),kR _ (by omega),hf _ (by omega),fC (x:=(k:Int)+1) (by omega) (by omega),fC (x:=((f (c.getD k default):Nat):Int)+1) (by omega) (by omega),show ((f (c.getD k default):Nat):Int)+1=((f (c.getD k default)+1:Nat):Int) by omega]
     by_cases c0:k=0
     ·rw [if_neg (by omega),aAO]
      exact ⟨_,rfl,by simp only;omega,_,upd,cnt'⟩
     ·have em:aEf (wr ((k:Int)-1)) 0=((k-1:Nat):Int):=by
       rw [fC (by omega) (by omega)];unfold aEf;split<;>omega
      rw [if_pos (by omega),em,aAi (by rw [bN];omega),fP (by omega),zA h,gF,aJS cch (by omega) hk,Bool.not_true,aAO]
      exact ⟨_,rfl,by simp only;omega,_,upd,cnt'⟩) (fun s ⟨hs,_⟩=>by
     unfold cV
     rw [aAi (by rw [fS];exact hi),pY hi,hc]
     simp only [bY,bN]
     rw [if_neg (by omega)]) (0,X) ⟨rfl,f,hf,fun x=>by rw [hq,List.take_zero,List.append_nil]⟩
   unfold cU
   simp only [bY,fS]
   rw [if_pos (by omega),aAi (by rw [fS];exact hi),pY hi,hc,bN,aEx,if_neg (by omega),e,gF,jP,fC (by omega) (by omega)]
   exact ⟨_,rfl,by simp only;omega,f',w1,fun x=>by rw [w2,List.take_length,ft]⟩) (fun s ⟨hs,_⟩=>by
   unfold cU
   simp only [bY,fS]
   rw [if_neg (by omega)]) (0,Ar.zero 8) ⟨rfl,fun _=>0,aDR,fun x=>by simp⟩
 rw [List.take_length] at g2
 rw [e4,gF,jP]
 have e5:lp (cG q o) FU 0=some (.inl ((n:Nat):Int)):=by
  rcases aBX (body:=cG q o) 0 n (Nat.zero_le _) (by omega) (fun _=>false) (fun _=>true) (fun k _ hk _=>by
   unfold cG
   simp only [bY]
   rw [if_pos (by omega),kR _ (by omega),g1 k (by omega),g2,aDS hC.nd (fun x hx=>(hC.al x).1 hx) ((hC.al k).2 hk),fC (by omega) (by omega)]
   rw [aA3,if_pos (show ((1:Nat):Int)=1 from rfl)];rfl) (by
   unfold cG
   simp only [bY]
   rw [if_neg (by omega)]) with ⟨_,e⟩ | ⟨_,_,_,q,_⟩
  ·exact e
  ·cases q
 rw [e5,gF,jP]
 have asc:∀ i j,i<j→j<(cS s).length→(cS s).getD i default<(cS s).getD j default:=fun i j hij hj=>by
  have hp:(cS s).Pairwise (·<·):=List.pairwise_lt_range.filter _
  rw [dU (by omega),dU hj]
  exact List.pairwise_iff_getElem.1 hp i j (by omega) hj hij
 have abit:∀ i,i<(cS s).length→s.testBit ((cS s).getD i default)=true:=fun i hi=>(List.mem_filter.1 (iD hi)).2
 have e6:lp (cI o (mK (cS s),0)) FU 0=some (.inl ((C.length:Nat):Int)):=by
  rcases aBX (body:=cI o (mK (cS s),0)) 0 C.length (Nat.zero_le _) (by omega) (fun _=>false) (fun _=>true) (fun i _ hi _=>by
   have il:i<(mK (cS s)).length:=by rw [bN];omega
   have e7:lp (bO (i:Int) o (mK (cS s),0)) FU 0=some (.inl ((C.length:Nat):Int)):=by
    rcases aBX (body:=bO (i:Int) o (mK (cS s),0)) 0 C.length (Nat.zero_le _) (by omega) (fun _=>false) (fun _=>true) (fun k _ hk _=>by
     unfold bO
     simp only [bY,bN]
     rw [if_pos (by omega),aAi il,fP (by omega),aAi (by rw [bN];omega),fP (by omega),zA h,gF,ha _ _ (abit i (by omega)) (abit k (by omega)),aAO,fC (by omega) (by omega)];rfl) (by
     unfold bO
     simp only [bY,bN]
     rw [if_neg (by omega)]) with ⟨_,e⟩ | ⟨_,_,_,q,_⟩
    ·exact e
    ·cases q
   unfold cI
   simp only [bY,aBK,bN]
   rw [if_pos (by omega),e7,gF,jP,fC (x:=(i:Int)+1) (by omega) (by omega)]
   by_cases c0:i=0
   ·rw [if_neg (by omega),aAO];rfl
   ·have em:aEf (wr ((i:Int)-1)) 0=((i-1:Nat):Int):=by
     rw [fC (by omega) (by omega)];unfold aEf;split<;>omega
    have:=asc (i-1) i (by omega) (by omega)
    rw [if_pos (by omega),em,aAi il,fP (by omega),aAi (by rw [bN];omega),fP (by omega),if_neg (by omega)];rfl) (by
   unfold cI
   simp only [bY,bN]
   rw [if_neg (by omega)]) with ⟨_,e⟩ | ⟨_,_,_,q,_⟩
  ·exact e
  ·cases q
 rw [e6,gF,jP,hN,kR _ (by omega),aII (by omega),e3,gF]
 obtain ⟨q,e8,_,w1,w2⟩:=jT (body:=cW o (z:Int)) (fun a s=>s.2.2=(a:Int)∧s.1=((pc a z:Nat):Int)∧(s.2.1=true↔∀ x,x<a→∀ y,y<n→z.testBit x=true→z.testBit y=true→r x y=false)) n (by omega)
  (fun a s ha ⟨hs,h1,h2⟩=>by
   obtain ⟨u,v,w⟩:=s
   simp only at hs h1 h2
   subst hs h1
   have pa:=aIt a z
   have ps:pc (a+1) z=pc a z+(z.testBit a).toNat:=rfl
   obtain ⟨s,e,_,w1⟩:=jT (body:=bT (((pc a z:Nat):Int),v,(a:Int)) o (z:Int)) (fun b s=>s.2=(b:Int)∧(s.1=true↔v=true∧∀ y,y<b→z.testBit a=true→z.testBit y=true→r a y=false)) n (by omega)
    (fun b s hb ⟨hs,hq⟩=>by
     obtain ⟨u',w'⟩:=s
     simp only at hs hq
     subst hs
     unfold bT
     simp only [bY,aBK]
     rw [if_pos (by omega),tA,fC (by omega) (by omega)]
     have fin:∀ c:Bool,(c=true↔u'=true∧(z.testBit a=true→z.testBit b=true→r a b=false))→(c=true↔v=true∧∀ y,y<b+1→z.testBit a=true→z.testBit y=true→r a y=false):=fun c hc=>by
      rw [hc,hq,and_assoc]
      refine and_congr_right fun _=>⟨fun g y hy=>?_,fun g=>⟨fun y hy=>g y (by omega),g b (by omega)⟩⟩
      by_cases e:y=b
      ·subst e;exact g.2
      ·exact g.1 y (by omega)
     by_cases d:u'=true
     ·rw [if_pos d,kR _ (by omega),aLZ (by omega),tA]
      by_cases za:z.testBit a=true
      ·rw [if_pos za,kR _ (by omega),aLZ (by omega),tA]
       by_cases zb:z.testBit b=true
       ·rw [if_pos zb,zA h,gF]
        refine ⟨_,rfl,by simp only;omega,fin _ ?_⟩
        rw [Bool.not_eq_true']
        exact ⟨fun g=>⟨d,fun _ _=>g⟩,fun g=>g.2 za zb⟩
       ·rw [if_neg zb]
        exact ⟨_,rfl,by simp only;omega,fin _ ⟨fun _=>⟨d,fun _ g=>absurd g zb⟩,fun _=>rfl⟩⟩
      ·rw [if_neg za]
       exact ⟨_,rfl,by simp only;omega,fin _ ⟨fun _=>⟨d,fun g=>absurd g za⟩,fun _=>rfl⟩⟩
     ·rw [if_neg d]
      exact ⟨_,rfl,by simp only;omega,fin _ ⟨fun g=>(by cases g),fun g=>absurd g.1 d⟩⟩) (fun s ⟨hs,_⟩=>by
     unfold bT
     simp only [bY]
     rw [if_neg (by omega)]) (v,0) ⟨rfl,⟨fun g=>⟨g,fun y hy=>absurd hy (Nat.not_lt_zero _)⟩,fun g=>g.1⟩⟩
   unfold cW
   simp only [bY,aBK]
   rw [if_pos (by omega),kR _ (by omega),e,gF,jP,gF,jP,aLZ (by omega),tA,fC (x:=(a:Int)+1) (by omega) (by omega)]
   have fin:s.1=true↔∀ x,x<a+1→∀ y,y<n→z.testBit x=true→z.testBit y=true→r x y=false:=by
    rw [w1,h2]
    refine ⟨fun g x hx=>?_,fun g=>⟨fun x hx=>g x (by omega),g a (by omega)⟩⟩
    by_cases e:x=a
    ·subst e;exact g.2
    ·exact g.1 x (by omega)
   by_cases za:z.testBit a=true
   ·rw [if_pos za,fC (by omega) (by omega)]
    exact ⟨_,rfl,by simp only;omega,by simp only;rw [ps,za];rfl,fin⟩
   ·rw [if_neg za]
    exact ⟨_,rfl,by simp only;omega,by simp only;rw [ps,Bool.eq_false_iff.2 za];rfl,fin⟩) (fun s ⟨hs,_⟩=>by
   unfold cW
   simp only [bY]
   rw [if_neg (by omega)]) (0,true,0) ⟨rfl,rfl,⟨fun _ x hx=>absurd hx (Nat.not_lt_zero _),fun _=>rfl⟩⟩
 rw [e8,gF,jP,qO,tA]
 by_cases d:q.2.1=true
 ·rw [if_pos d,w1,decide_eq_true]
  have:=hmax z zl fun a b ga gb=>w2.1 d a (aHb zl ga) b (aHb zl gb) ga gb
  omega
 ·rw [if_neg d]
end Go.Proofs.YtlmboonbfhkfnaaDoor
