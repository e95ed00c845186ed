import Derived.Test.YtkjccabdpeldhaaGreatM5
set_option linter.unusedVariables false
set_option linter.unusedSimpArgs false
set_option linter.unusedSectionVars false
namespace Go.Proofs.YtkjccabdpeldhaaGreat
open Go Go.Eng
set_option maxRecDepth 100000
set_option maxHeartbeats 0
set_option maxHeartbeats 0
set_option maxRecDepth 100000
  def gM (s26:Int×Int×bI) (y29:Int) (s33:Bool×Int):Option (Ct (Bool×Int) aD):=cn (decide (s33.2<(s26.2.2.Edges.length:Int))) (jn (fun p34:Bool=>
  some (.nx (p34,(wr (s33.2+1))))) fun k35=>cn s33.1 (k35 true) (ix s26.2.2.Edges default s33.2 fun e36=>k35 (e36==y29))) (some (.bk (s33.1,s33.2)))
  def lM (e24:Int×Int×Int×Int) (s21:Int×aD) (s26:Int×Int×bI):Option (Ct (Int×Int×bI) aD):=cn (decide (s26.2.1<3)) (jn (fun p27:Int×bI=>
  some (.nx (p27.1,(wr (s26.2.1+1)),p27.2))) fun k28=>
  gd (0≤s26.2.1∧s26.2.1<(4:Int)) (bd (dX (([e24.1,e24.2.1,e24.2.2.1,e24.2.2.2]:List Int).getD (s26.2.1).toNat default) (s21.2.Net.Edges.length:Int)) fun y29=>
  jn (fun p30:Bool=>cn p30 (k28 (s26.1,s26.2.2)) (bd (lp (gM s26 y29) FU (false,0)) fun c37=>smK c37 (fun s38=>jn (fun p40:Int×bI=>
  k28 (p40.1,p40.2)) fun k41=>cn (!s38.1) (lt ([y29]:List Int) fun l42=>ap s26.2.2.Edges l42 fun l43=>ix s21.2.Net.Edges default y29 fun e44=>
  k41 (e44.To,(⟨l43,s26.2.2.Amount⟩:bI))) (k41 (s26.1,s26.2.2))) (fun r39=>some (.rt r39)))) fun k31=>cn (decide (s26.2.1 >
  0)) (ix s21.2.Net.Edges default y29 fun e32=>k31 (e32.From != s26.1)) (k31 false))) (some (.bk (s26.1,s26.2.1,s26.2.2)))
def nX (a0:qN) (s21:Int×aD):Option (Ct (Int×aD) aD):=jn (fun p22:Bool=>cn p22 (ix a0.Calls default s21.1 fun e24=>
  bd (dX e24.2.2.2 6) fun y25=>bd (lp (lM e24 s21) FU ((-1),0,(⟨[],(wr (1+y25))⟩:bI))) fun c45=>smK c45 (fun s46=>
  lt ([s46.2.2]:List bI) fun l48=>ap s21.2.Calls l48 fun l49=>
  some (.nx ((wr (s21.1+1)),(⟨s21.2.Net,s21.2.Urgent,s21.2.Centres,s21.2.Faults,l49⟩:aD)))) (fun r47=>some (.rt r47))) (some (.bk (s21.1,s21.2)))) fun k23=>
  cn (decide (s21.1<(a0.Calls.length:Int))) (cn (decide (s21.1<5)) (k23 (decide ((s21.2.Net.Edges.length:Int)>0))) (k23 false)) (k23 false)
def nP (a0:qN) (s5:Int×aD):Option (Ct (Int×aD) aD):=cn (decide (s5.1<s5.2.Net.N)) (jn (fun p6:Int=>jn (fun p10:Int=>
  lt ([p6]:List Int) fun l14=>ap s5.2.Urgent l14 fun l15=>lt ([p10]:List Int) fun l16=>ap s5.2.Centres l16 fun l17=>
  some (.nx ((wr (s5.1+1)),(⟨s5.2.Net,l15,l17,s5.2.Faults,s5.2.Calls⟩:aD)))) fun k11=>
  cn (decide (s5.1<(a0.Centres.length:Int))) (ix a0.Centres default s5.1 fun e12=>bd (dX e12 40) fun y13=>k11 y13) (k11 0)) fun k7=>
  cn (decide (s5.1<(a0.Urgent.length:Int))) (ix a0.Urgent default s5.1 fun e8=>bd (dX e8 6) fun y9=>k7 y9) (k7 0)) (some (.bk (s5.1,s5.2)))
def pL (a0:qN):Option aD:=bd (dX a0.Nodes 5) fun y1=>slc a0.Edges 0 (aA9 (a0.Edges.length:Int) 14) fun l2=>
  bd (pS y1 l2) fun y3=>bd (dX a0.Faults 3) fun y4=>bd (lp (nP a0) FU (0,(⟨y3,[],[],y4,[]⟩:aD))) fun c18=>smK c18 (fun s19=>
  bd (lp (nX a0) FU (0,s19.2)) fun c50=>smK c50 (fun s51=>some s51.2) (fun r52=>some r52)) (fun r20=>some r20)
def rO:List AV→AV→Prop:=fun args r=>∃ a0,args=[rS a0]∧W (pL a0) fun y=>r=(bD y)
theorem aD8 {T:Tbl} (hT:TOk Tryz.prog T) (hpf:cI T PF) (h28:T 28=aH rQ) (h29:T 29=aH mT):FOk Tryz.prog 5 (aH rO):=by
 refine bB hT hpf Tryz.func5 rfl Tryz.ntmps5 Tryz.results5 (by decide) ?_
 rintro args r ⟨a0,rfl,h⟩
 refine ⟨nle rfl,?_,?_⟩
 ·exact (lsC (aCq _) lsN)
 rw [pL.eq_1] at h
 refine aB dCo rfl fun K hK=>?_;conv=>whnf
 refine hK _ _ _ ?_
 refine iZ dCo cJ rfl (by kernel_rfl) fun K hK=>?_;conv=>whnf
 refine nlA rfl ?_;conv=>whnf
 refine bKo rfl ?_;conv=>whnf
 refine gKo rfl ?_;conv=>whnf
 replace h:=bE h
 refine dR h29 h (WkL.refl _) (fun _ h=>?_);conv=>whnf
 refine nlA rfl ?_;conv=>whnf
 refine bKo rfl ?_;conv=>whnf
 refine gKo rfl ?_;conv=>whnf
 refine nlA rfl ?_;conv=>whnf
 refine bKo rfl ?_;conv=>whnf
 refine gKo rfl ?_;conv=>whnf
 refine xT h (.inl ⟨rfl,rfl⟩) (.inr ⟨_,rfl⟩) (fun h=>?_);conv=>whnf
 replace h:=bE h
 refine aCo h28 h (WkL.refl _) (fun _ h=>?_);conv=>whnf
 refine nlA rfl ?_;conv=>whnf
 refine bKo rfl ?_;conv=>whnf
 refine gKo rfl ?_;conv=>whnf
 replace h:=bE h
 refine dR h29 h (WkL.refl _) (fun _ h=>?_);conv=>whnf
 refine bKo rfl ?_;conv=>whnf
 refine And.intro rfl (And.intro (nle rfl) (And.intro rfl ?_));conv=>whnf
 refine hK _ _ _ ?_
 refine aL ?_
 refine aB dCo rfl fun K hK=>?_;conv=>whnf
 refine hK _ _ _ ?_
 refine aN ?_
 replace h:=bE h
 refine dS (body:=nP _) rfl h [1,2,3] [1,2] [3] (fun kl kh ids b s=>⟨ofL ([(4,eI s.1)]++kl),ofH ([(aEe ids 0,.cells [eI s.2.Net.N,(eL 3 bM default) s.2.Net.Edges,.lst (.tok (b+0)) 1 s.2.Urgent.length (fun j=>eI (s.2.Urgent.getD j default)),.lst (.tok (b+64)) 1 s.2.Centres.length (fun j=>eI (s.2.Centres.getD j default)),eI s.2.Faults,.lst (.tok (b+128)) 2 s.2.Calls.length (fun j=>bA (s.2.Calls.getD j default))]),(b+0,.cells []),(b+64,.cells []),(b+128,.cells [])]++kh),b+256⟩) ?_;(conv=>whnf);refine And.intro ?_ (fun s m h=>dY ?_)
 ·refine aO ?_;conv=>whnf
  exact And.intro rfl (And.intro (aLc wkI (aLc (WkR.ptr (fun _=>rfl)) (aLc (WkR.ptr (fun _=>rfl)) (aLc (WkR.ptr (fun _=>rfl)) aLn)))) (aLc ⟨some _,rfl,bRc rfl (cKc wkI (cKc (wkr (lsL fun _=>(aC _))) (cKc (WkR.nil (fun _=>rfl)) (cKc (WkR.nil (fun _=>rfl)) (cKc wkI (cKc (WkR.nil (fun _=>rfl)) cKn))))))⟩ (aLc ⟨none,rfl,yM⟩ (aLc ⟨none,rfl,yM⟩ (aLc ⟨none,rfl,yM⟩ (aLc ⟨some _,rfl,bRc rfl (cKc wkI (cKc (wkr (lsL fun _=>(mO _))) (cKc (wkr (lsL fun _=>(lsI _ _))) (cKc (wkr (lsL fun _=>(lsI _ _))) (cKc wkI (cKc (wkr (lsL fun _=>(pH _))) cKn))))))⟩ (aLc ⟨some _,rfl,bRc rfl (cKc wkI (cKc (wkr aG) (cKc (wkr aG) (cKc (wkr aG) (cKc wkI (cKc (wkr aG) cKn))))))⟩ aLn)))))))
 replace h:=bE h;rw [nP.eq_1] at h
 refine aL ?_
 refine aB dCo rfl fun K hK=>?_;conv=>whnf
 refine nlA rfl ?_;conv=>whnf
 refine bKo rfl ?_;conv=>whnf
 refine gKo rfl ?_;conv=>whnf
 refine hK _ _ _ ?_
 refine aT fun K1 K2 hK1 hK2=>?_;conv=>whnf
 refine cLk h (fun _ h=>?_) (fun _ h=>?_)
 ·refine hK1 ?_
  refine aK ?_
  refine tHn ?_
  refine aL ?_
  refine aN ?_
  refine aB dCo rfl fun K hK=>?_;conv=>whnf
  refine hK _ _ _ ?_
  refine aB dCo rfl fun K hK=>?_;conv=>whnf
  refine hK _ _ _ ?_
  refine aL ?_
  refine aB dCo rfl fun K hK=>?_;conv=>whnf
  refine nlA rfl ?_;conv=>whnf
  refine bKo rfl ?_;conv=>whnf
  refine gKo rfl ?_;conv=>whnf
  refine hK _ _ _ ?_
  replace h:=eW h
  refine aT fun K1 K2 hK1 hK2=>?_;conv=>whnf
  refine cLk h (fun _ h=>?_) (fun _ h=>?_)
  ·refine hK1 ?_
   refine cK dCo rfl fun K hK=>?_;conv=>whnf
   refine nlA rfl ?_;conv=>whnf
   refine bKo rfl ?_;conv=>whnf
   refine gKo rfl ?_;conv=>whnf
   refine cA h fun _ h=>?_;conv=>whnf
   refine gKo rfl ?_;conv=>whnf
   replace h:=bE h
   refine dR h29 h (WkL.refl _) (fun _ h=>?_);conv=>whnf
   refine hK _ _ _ ?_
   refine tHn ?_
   refine aL ?_
   refine aB dCo rfl fun K hK=>?_;conv=>whnf
   refine nlA rfl ?_;conv=>whnf
   refine bKo rfl ?_;conv=>whnf
   refine gKo rfl ?_;conv=>whnf
   refine hK _ _ _ ?_
   replace h:=eW h
   refine aT fun K1 K2 hK1 hK2=>?_;conv=>whnf
   refine cLk h (fun _ h=>?_) (fun _ h=>?_)
   ·refine hK1 ?_
    refine cK dCo rfl fun K hK=>?_;conv=>whnf
    refine nlA rfl ?_;conv=>whnf
    refine bKo rfl ?_;conv=>whnf
    refine gKo rfl ?_;conv=>whnf
    refine cA h fun _ h=>?_;conv=>whnf
    refine gKo rfl ?_;conv=>whnf
    replace h:=bE h
    refine dR h29 h (WkL.refl _) (fun _ h=>?_);conv=>whnf
    refine hK _ _ _ ?_
    refine tHn ?_
    refine aB dCo rfl fun K hK=>?_;conv=>whnf
    refine nlA rfl ?_;conv=>whnf
    refine bKo rfl ?_;conv=>whnf
    refine gKo rfl ?_;conv=>whnf
    refine hZ (enc:=eI) (d:=default) dCo h rfl rfl rfl ⟨nle rfl,nle rfl,rfl⟩ rfl ⟨⟨rfl,rfl,rfl⟩,trivial⟩ (fun h=>?_);conv=>whnf
    refine sV (enc:=eI) (d:=default) dCo h (.inl rfl) rfl rfl rfl ⟨rfl,nle rfl,nle rfl,nle rfl,rfl⟩ (fun _=>rfl) (.inr (.inr ⟨_,_,rfl,rfl,rfl⟩)) (fun h=>?_);conv=>whnf
    refine bKo rfl ?_;conv=>whnf
    refine And.intro rfl (And.intro (nle rfl) (And.intro rfl ?_));conv=>whnf
    refine hK _ _ _ ?_
    refine cK dCo rfl fun K hK=>?_;conv=>whnf
    refine nlA rfl ?_;conv=>whnf
    refine bKo rfl ?_;conv=>whnf
    refine gKo rfl ?_;conv=>whnf
    refine hZ (enc:=eI) (d:=default) dCo h rfl rfl rfl ⟨nle rfl,nle rfl,rfl⟩ rfl ⟨⟨rfl,rfl,rfl⟩,trivial⟩ (fun h=>?_);conv=>whnf
    refine sV (enc:=eI) (d:=default) dCo h (.inl rfl) rfl rfl rfl ⟨rfl,nle rfl,nle rfl,nle rfl,rfl⟩ (fun _=>rfl) (.inr (.inr ⟨_,_,rfl,rfl,rfl⟩)) (fun h=>?_);conv=>whnf
    refine bKo rfl ?_;conv=>whnf
    refine And.intro rfl (And.intro (nle rfl) (And.intro rfl ?_));conv=>whnf
    refine hK _ _ _ ?_
    refine iBn ?_
    refine tHn ?_
    refine cK dCo rfl fun K hK=>?_;conv=>whnf
    refine hK _ _ _ ?_
    refine tHn ?_
    replace h:=bY h
    refine ⟨_,h,?_⟩
    refine aO ?_;conv=>whnf
    exact And.intro rfl (And.intro (aLc wkI (aLc (WkR.ptr (fun _=>rfl)) (aLc (WkR.ptr (fun _=>rfl)) (aLc (WkR.ptr (fun _=>rfl)) aLn)))) (aLc ⟨some _,rfl,bRc rfl (cKc wkI (cKc (wkr (lsL fun _=>(aC _))) (cKc (WkR.tok (fun _=>rfl) rfl (fun _ _=>Wk.refl _) (fun _=>(lsI _ _))) (cKc (WkR.tok (fun _=>rfl) rfl (fun _ _=>Wk.refl _) (fun _=>(lsI _ _))) (cKc wkI (cKc (WkR.tok (fun _=>rfl) rfl (fun _ _=>Wk.refl _) (fun _=>(aA _))) cKn))))))⟩ (aLc ⟨some _,rfl,bRc rfl cKn⟩ (aLc ⟨some _,rfl,bRc rfl cKn⟩ (aLc ⟨some _,rfl,bRc rfl cKn⟩ (aLc ⟨some _,rfl,bRc rfl (cKc wkI (cKc (wkr (lsL fun _=>(mO _))) (cKc (wkr (lsL fun _=>(lsI _ _))) (cKc (wkr (lsL fun _=>(lsI _ _))) (cKc wkI (cKc (wkr (lsL fun _=>(pH _))) cKn))))))⟩ (aLc ⟨some _,rfl,bRc rfl (cKc wkI (cKc (wkr aG) (cKc (wkr aG) (cKc (wkr aG) (cKc wkI (cKc (wkr aG) cKn))))))⟩ aLn)))))))
   refine hK2 ?_
   refine aK ?_
   refine tHn ?_
   refine aB dCo rfl fun K hK=>?_;conv=>whnf
   refine nlA rfl ?_;conv=>whnf
   refine bKo rfl ?_;conv=>whnf
   refine gKo rfl ?_;conv=>whnf
   refine hZ (enc:=eI) (d:=default) dCo h rfl rfl rfl ⟨nle rfl,nle rfl,rfl⟩ rfl ⟨⟨rfl,rfl,rfl⟩,trivial⟩ (fun h=>?_);conv=>whnf
   refine sV (enc:=eI) (d:=default) dCo h (.inl rfl) rfl rfl rfl ⟨rfl,nle rfl,nle rfl,nle rfl,rfl⟩ (fun _=>rfl) (.inr (.inr ⟨_,_,rfl,rfl,rfl⟩)) (fun h=>?_);conv=>whnf
   refine bKo rfl ?_;conv=>whnf
   refine And.intro rfl (And.intro (nle rfl) (And.intro rfl ?_));conv=>whnf
   refine hK _ _ _ ?_
   refine cK dCo rfl fun K hK=>?_;conv=>whnf
   refine nlA rfl ?_;conv=>whnf
   refine bKo rfl ?_;conv=>whnf
   refine gKo rfl ?_;conv=>whnf
   refine hZ (enc:=eI) (d:=default) dCo h rfl rfl rfl ⟨nle rfl,nle rfl,rfl⟩ rfl ⟨⟨rfl,rfl,rfl⟩,trivial⟩ (fun h=>?_);conv=>whnf
   refine sV (enc:=eI) (d:=default) dCo h (.inl rfl) rfl rfl rfl ⟨rfl,nle rfl,nle rfl,nle rfl,rfl⟩ (fun _=>rfl) (.inr (.inr ⟨_,_,rfl,rfl,rfl⟩)) (fun h=>?_);conv=>whnf
   refine bKo rfl ?_;conv=>whnf
   refine And.intro rfl (And.intro (nle rfl) (And.intro rfl ?_));conv=>whnf
   refine hK _ _ _ ?_
   refine iBn ?_
   refine tHn ?_
   refine cK dCo rfl fun K hK=>?_;conv=>whnf
   refine hK _ _ _ ?_
   refine tHn ?_
   replace h:=bY h
   refine ⟨_,h,?_⟩
   refine aO ?_;conv=>whnf
   exact And.intro rfl (And.intro (aLc wkI (aLc (WkR.ptr (fun _=>rfl)) (aLc (WkR.ptr (fun _=>rfl)) (aLc (WkR.ptr (fun _=>rfl)) aLn)))) (aLc ⟨some _,rfl,bRc rfl (cKc wkI (cKc (wkr (lsL fun _=>(aC _))) (cKc (WkR.tok (fun _=>rfl) rfl (fun _ _=>Wk.refl _) (fun _=>(lsI _ _))) (cKc (WkR.tok (fun _=>rfl) rfl (fun _ _=>Wk.refl _) (fun _=>(lsI _ _))) (cKc wkI (cKc (WkR.tok (fun _=>rfl) rfl (fun _ _=>Wk.refl _) (fun _=>(aA _))) cKn))))))⟩ (aLc ⟨some _,rfl,bRc rfl cKn⟩ (aLc ⟨some _,rfl,bRc rfl cKn⟩ (aLc ⟨some _,rfl,bRc rfl cKn⟩ (aLc ⟨some _,rfl,bRc rfl (cKc wkI (cKc (wkr (lsL fun _=>(mO _))) (cKc (wkr (lsL fun _=>(lsI _ _))) (cKc (wkr (lsL fun _=>(lsI _ _))) (cKc wkI (cKc (wkr (lsL fun _=>(pH _))) cKn))))))⟩ (aLc ⟨some _,rfl,bRc rfl (cKc wkI (cKc (wkr aG) (cKc (wkr aG) (cKc (wkr aG) (cKc wkI (cKc (wkr aG) cKn))))))⟩ aLn)))))))
  refine hK2 ?_
  refine aK ?_
  refine tHn ?_
  refine aL ?_
  refine aB dCo rfl fun K hK=>?_;conv=>whnf
  refine nlA rfl ?_;conv=>whnf
  refine bKo rfl ?_;conv=>whnf
  refine gKo rfl ?_;conv=>whnf
  refine hK _ _ _ ?_
  replace h:=eW h
  refine aT fun K1 K2 hK1 hK2=>?_;conv=>whnf
  refine cLk h (fun _ h=>?_) (fun _ h=>?_)
  ·refine hK1 ?_
   refine cK dCo rfl fun K hK=>?_;conv=>whnf
   refine nlA rfl ?_;conv=>whnf
   refine bKo rfl ?_;conv=>whnf
   refine gKo rfl ?_;conv=>whnf
   refine cA h fun _ h=>?_;conv=>whnf
   refine gKo rfl ?_;conv=>whnf
   replace h:=bE h
   refine dR h29 h (WkL.refl _) (fun _ h=>?_);conv=>whnf
   refine hK _ _ _ ?_
   refine tHn ?_
   refine aB dCo rfl fun K hK=>?_;conv=>whnf
   refine nlA rfl ?_;conv=>whnf
   refine bKo rfl ?_;conv=>whnf
   refine gKo rfl ?_;conv=>whnf
   refine hZ (enc:=eI) (d:=default) dCo h rfl rfl rfl ⟨nle rfl,nle rfl,rfl⟩ rfl ⟨⟨rfl,rfl,rfl⟩,trivial⟩ (fun h=>?_);conv=>whnf
   refine sV (enc:=eI) (d:=default) dCo h (.inl rfl) rfl rfl rfl ⟨rfl,nle rfl,nle rfl,nle rfl,rfl⟩ (fun _=>rfl) (.inr (.inr ⟨_,_,rfl,rfl,rfl⟩)) (fun h=>?_);conv=>whnf
   refine bKo rfl ?_;conv=>whnf
   refine And.intro rfl (And.intro (nle rfl) (And.intro rfl ?_));conv=>whnf
   refine hK _ _ _ ?_
   refine cK dCo rfl fun K hK=>?_;conv=>whnf
   refine nlA rfl ?_;conv=>whnf
   refine bKo rfl ?_;conv=>whnf
   refine gKo rfl ?_;conv=>whnf
   refine hZ (enc:=eI) (d:=default) dCo h rfl rfl rfl ⟨nle rfl,nle rfl,rfl⟩ rfl ⟨⟨rfl,rfl,rfl⟩,trivial⟩ (fun h=>?_);conv=>whnf
   refine sV (enc:=eI) (d:=default) dCo h (.inl rfl) rfl rfl rfl ⟨rfl,nle rfl,nle rfl,nle rfl,rfl⟩ (fun _=>rfl) (.inr (.inr ⟨_,_,rfl,rfl,rfl⟩)) (fun h=>?_);conv=>whnf
   refine bKo rfl ?_;conv=>whnf
   refine And.intro rfl (And.intro (nle rfl) (And.intro rfl ?_));conv=>whnf
   refine hK _ _ _ ?_
   refine iBn ?_
   refine tHn ?_
   refine cK dCo rfl fun K hK=>?_;conv=>whnf
   refine hK _ _ _ ?_
   refine tHn ?_
   replace h:=bY h
   refine ⟨_,h,?_⟩
   refine aO ?_;conv=>whnf
   exact And.intro rfl (And.intro (aLc wkI (aLc (WkR.ptr (fun _=>rfl)) (aLc (WkR.ptr (fun _=>rfl)) (aLc (WkR.ptr (fun _=>rfl)) aLn)))) (aLc ⟨some _,rfl,bRc rfl (cKc wkI (cKc (wkr (lsL fun _=>(aC _))) (cKc (WkR.tok (fun _=>rfl) rfl (fun _ _=>Wk.refl _) (fun _=>(lsI _ _))) (cKc (WkR.tok (fun _=>rfl) rfl (fun _ _=>Wk.refl _) (fun _=>(lsI _ _))) (cKc wkI (cKc (WkR.tok (fun _=>rfl) rfl (fun _ _=>Wk.refl _) (fun _=>(aA _))) cKn))))))⟩ (aLc ⟨some _,rfl,bRc rfl cKn⟩ (aLc ⟨some _,rfl,bRc rfl cKn⟩ (aLc ⟨some _,rfl,bRc rfl cKn⟩ (aLc ⟨some _,rfl,bRc rfl (cKc wkI (cKc (wkr (lsL fun _=>(mO _))) (cKc (wkr (lsL fun _=>(lsI _ _))) (cKc (wkr (lsL fun _=>(lsI _ _))) (cKc wkI (cKc (wkr (lsL fun _=>(pH _))) cKn))))))⟩ (aLc ⟨some _,rfl,bRc rfl (cKc wkI (cKc (wkr aG) (cKc (wkr aG) (cKc (wkr aG) (cKc wkI (cKc (wkr aG) cKn))))))⟩ aLn)))))))
  refine hK2 ?_
  refine aK ?_
  refine tHn ?_
  refine aB dCo rfl fun K hK=>?_;conv=>whnf
  refine nlA rfl ?_;conv=>whnf
  refine bKo rfl ?_;conv=>whnf
  refine gKo rfl ?_;conv=>whnf
  refine hZ (enc:=eI) (d:=default) dCo h rfl rfl rfl ⟨nle rfl,nle rfl,rfl⟩ rfl ⟨⟨rfl,rfl,rfl⟩,trivial⟩ (fun h=>?_);conv=>whnf
  refine sV (enc:=eI) (d:=default) dCo h (.inl rfl) rfl rfl rfl ⟨rfl,nle rfl,nle rfl,nle rfl,rfl⟩ (fun _=>rfl) (.inr (.inr ⟨_,_,rfl,rfl,rfl⟩)) (fun h=>?_);conv=>whnf
  refine bKo rfl ?_;conv=>whnf
  refine And.intro rfl (And.intro (nle rfl) (And.intro rfl ?_));conv=>whnf
  refine hK _ _ _ ?_
  refine cK dCo rfl fun K hK=>?_;conv=>whnf
  refine nlA rfl ?_;conv=>whnf
  refine bKo rfl ?_;conv=>whnf
  refine gKo rfl ?_;conv=>whnf
  refine hZ (enc:=eI) (d:=default) dCo h rfl rfl rfl ⟨nle rfl,nle rfl,rfl⟩ rfl ⟨⟨rfl,rfl,rfl⟩,trivial⟩ (fun h=>?_);conv=>whnf
  refine sV (enc:=eI) (d:=default) dCo h (.inl rfl) rfl rfl rfl ⟨rfl,nle rfl,nle rfl,nle rfl,rfl⟩ (fun _=>rfl) (.inr (.inr ⟨_,_,rfl,rfl,rfl⟩)) (fun h=>?_);conv=>whnf
  refine bKo rfl ?_;conv=>whnf
  refine And.intro rfl (And.intro (nle rfl) (And.intro rfl ?_));conv=>whnf
  refine hK _ _ _ ?_
  refine iBn ?_
  refine tHn ?_
  refine cK dCo rfl fun K hK=>?_;conv=>whnf
  refine hK _ _ _ ?_
  refine tHn ?_
  replace h:=bY h
  refine ⟨_,h,?_⟩
  refine aO ?_;conv=>whnf
  exact And.intro rfl (And.intro (aLc wkI (aLc (WkR.ptr (fun _=>rfl)) (aLc (WkR.ptr (fun _=>rfl)) (aLc (WkR.ptr (fun _=>rfl)) aLn)))) (aLc ⟨some _,rfl,bRc rfl (cKc wkI (cKc (wkr (lsL fun _=>(aC _))) (cKc (WkR.tok (fun _=>rfl) rfl (fun _ _=>Wk.refl _) (fun _=>(lsI _ _))) (cKc (WkR.tok (fun _=>rfl) rfl (fun _ _=>Wk.refl _) (fun _=>(lsI _ _))) (cKc wkI (cKc (WkR.tok (fun _=>rfl) rfl (fun _ _=>Wk.refl _) (fun _=>(aA _))) cKn))))))⟩ (aLc ⟨some _,rfl,bRc rfl cKn⟩ (aLc ⟨some _,rfl,bRc rfl cKn⟩ (aLc ⟨some _,rfl,bRc rfl cKn⟩ (aLc ⟨some _,rfl,bRc rfl (cKc wkI (cKc (wkr (lsL fun _=>(mO _))) (cKc (wkr (lsL fun _=>(lsI _ _))) (cKc (wkr (lsL fun _=>(lsI _ _))) (cKc wkI (cKc (wkr (lsL fun _=>(pH _))) cKn))))))⟩ (aLc ⟨some _,rfl,bRc rfl (cKc wkI (cKc (wkr aG) (cKc (wkr aG) (cKc (wkr aG) (cKc wkI (cKc (wkr aG) cKn))))))⟩ aLn)))))))
 refine hK2 ?_
 refine bN ?_
 refine aW ?_
 refine aW ?_
 refine aV ?_
 replace h:=eA h
 replace h:=dZ h
 refine tHn ?_
 refine aL ?_
 refine aB dCo rfl fun K hK=>?_;conv=>whnf
 refine hK _ _ _ ?_
 refine aN ?_
 replace h:=bE h
 refine dS (body:=nX _) rfl h [1,2,3] [1,2] [3] (fun kl kh ids b s=>⟨ofL ([(7,eI s.1)]++kl),ofH ([(aEe ids 0,.cells [eI s.2.Net.N,(eL 3 bM default) s.2.Net.Edges,(eL 1 eI default) s.2.Urgent,(eL 1 eI default) s.2.Centres,eI s.2.Faults,.lst (.tok (b+0)) 2 s.2.Calls.length (fun j=>bA (s.2.Calls.getD j default))]),(b+0,.cells [])]++kh),b+128⟩) ?_;(conv=>whnf);refine And.intro ?_ (fun s m h=>dY ?_)
 ·refine aO ?_;conv=>whnf
  exact And.intro rfl (And.intro (aLc wkI (aLc (WkR.ptr (fun _=>rfl)) (aLc (WkR.ptr (fun _=>rfl)) (aLc (WkR.ptr (fun _=>rfl)) aLn)))) (aLc ⟨some _,rfl,bRc rfl (cKc wkI (cKc (wkr (lsL fun _=>(aC _))) (cKc (WkR.wk eD (lsL fun _=>(lsI _ _))) (cKc (WkR.wk eD (lsL fun _=>(lsI _ _))) (cKc wkI (cKc (WkR.tok (fun _=>rfl) rfl (fun _ _=>Wk.refl _) (fun _=>(aA _))) cKn))))))⟩ (aLc ⟨some _,rfl,bRc rfl cKn⟩ (aLc ⟨some _,rfl,bRc rfl (cKc wkI (cKc (wkr (lsL fun _=>(mO _))) (cKc (wkr (lsL fun _=>(lsI _ _))) (cKc (wkr (lsL fun _=>(lsI _ _))) (cKc wkI (cKc (wkr (lsL fun _=>(pH _))) cKn))))))⟩ (aLc ⟨some _,rfl,bRc rfl (cKc wkI (cKc (wkr aG) (cKc (wkr aG) (cKc (wkr aG) (cKc wkI (cKc (wkr aG) cKn))))))⟩ aLn)))))
 replace h:=bE h;rw [nX.eq_1] at h
 refine aL ?_
 refine aB dCo rfl fun K hK=>?_;conv=>whnf
 replace h:=eW h
 refine nlA rfl ?_;conv=>whnf
 refine bKo rfl ?_;conv=>whnf
 refine gKo rfl ?_;conv=>whnf
 refine cLk h (fun _ h=>?_) (fun _ h=>?_)<;>(conv=>whnf)
 ·refine cLk h (fun _ h=>?_) (fun _ h=>?_)<;>(conv=>whnf)
  ·refine nlA rfl ?_;conv=>whnf
   refine bKo rfl ?_;conv=>whnf
   refine gKo rfl ?_;conv=>whnf
   refine hK _ _ _ ?_
   refine aT fun K1 K2 hK1 hK2=>?_;conv=>whnf
   refine cLk h (fun _ h=>?_) (fun _ h=>?_)
   ·refine hK1 ?_
    refine aK ?_
    refine tHn ?_
    refine aL ?_
    refine aN ?_
    refine aB dCo rfl fun K hK=>?_;conv=>whnf
    refine nlA rfl ?_;conv=>whnf
    refine bKo rfl ?_;conv=>whnf
    refine gKo rfl ?_;conv=>whnf
    refine cA h fun _ h=>?_;conv=>whnf
    refine nlA rfl ?_;conv=>whnf
    refine bKo rfl ?_;conv=>whnf
    refine And.intro rfl (And.intro (nle rfl) (And.intro rfl ?_));conv=>whnf
    refine hK _ _ _ ?_
    refine aB dCo rfl fun K hK=>?_;conv=>whnf
    refine And.intro (by decide) ?_;conv=>whnf
    refine nlA rfl ?_;conv=>whnf
    refine bKo rfl ?_;conv=>whnf
    refine gKo rfl ?_;conv=>whnf
    replace h:=bE h
    refine dR h29 h (WkL.refl _) (fun _ h=>?_);conv=>whnf
    refine bKo rfl ?_;conv=>whnf
    refine And.intro rfl (And.intro (nle rfl) (And.intro rfl ?_));conv=>whnf
    refine hK _ _ _ ?_
    refine aB dCo rfl fun K hK=>?_;conv=>whnf
    refine hK _ _ _ ?_
    refine aL ?_
    refine aB dCo rfl fun K hK=>?_;conv=>whnf
    refine hK _ _ _ ?_
    refine aN ?_
    replace h:=bE h
    refine aFY (body:=lM _ _) rfl h [1,2,3,7,8,9] (fun σ=>aAH σ [1,2,3,8]++aFb σ [(3,5)]) [9] (fun kl kh ids b s=>⟨ofL ([(10,eI s.1),(11,eI s.2.1)]++kl),ofH ([(aEe ids 0,.cells [.lst (.tok (b+0)) 1 s.2.2.Edges.length (fun j=>eI (s.2.2.Edges.getD j default)),eI s.2.2.Amount]),(b+0,.cells [])]++kh),b+128⟩) ?_;(conv=>whnf);refine And.intro ?_ (fun s m h=>dY ?_)
    ·refine aO ?_;conv=>whnf
     exact And.intro rfl (And.intro (aLc wkI (aLc wkI (aLc (WkR.ptr (fun _=>rfl)) (aLc (WkR.ptr (fun _=>rfl)) (aLc (WkR.ptr (fun _=>rfl)) (aLc wkI (aLc (WkR.ptr (fun _=>rfl)) (aLc (WkR.ptr (fun _=>rfl)) aLn)))))))) (aLc ⟨some _,rfl,bRc rfl (cKc (WkR.nil (fun _=>rfl)) (cKc wkI cKn))⟩ (aLc ⟨none,rfl,yM⟩ (aLc ⟨some _,rfl,bRc rfl (cKc wkI (cKc (wkr (lsL fun _=>(mO _))) (cKc (wkr (lsL fun _=>(lsI _ _))) (cKc (wkr (lsL fun _=>(lsI _ _))) (cKc wkI (cKc (wkr (lsL fun _=>(pH _))) cKn))))))⟩ (aLc ⟨some _,rfl,bRc rfl (cKc wkI (cKc (wkr aG) (cKc (wkr aG) (cKc (wkr aG) (cKc wkI (cKc (wkr aG) cKn))))))⟩ (aLc ⟨some _,rfl,bRc rfl (cKc wkI (cKc (wkr (lsL fun _=>(aC _))) (cKc (wkr (lsL fun _=>(lsI _ _))) (cKc (wkr (lsL fun _=>(lsI _ _))) (cKc wkI (cKc (WkR.tok (fun _=>rfl) rfl (fun _ _=>Wk.refl _) (fun _=>(aA _))) cKn))))))⟩ (aLc ⟨some _,rfl,bRc rfl (cKc wkI (cKc wkI (cKc wkI (cKc wkI cKn))))⟩ (aLc ⟨some _,rfl,bRc rfl cKn⟩ aLn))))))))
    replace h:=bE h;rw [lM.eq_1] at h
    refine aL ?_
    refine aB dCo rfl fun K hK=>?_;conv=>whnf
    refine hK _ _ _ ?_
    refine aT fun K1 K2 hK1 hK2=>?_;conv=>whnf
    refine cLk h (fun _ h=>?_) (fun _ h=>?_)
    ·refine hK1 ?_
     refine aK ?_
     refine tHn ?_
     refine aL ?_
     replace h:=eW h
     refine aN ?_
     refine iZ dCo cJ rfl (by kernel_rfl) fun K hK=>?_;conv=>whnf
     refine kQ h fun hx195 h=>?_;conv=>whnf
     refine nlA rfl ?_;conv=>whnf
     refine bKo rfl ?_;conv=>whnf
     refine aNC (enc:=eI) (d:=default) (l:=[_,_,_,_]) (pre:=[]) (post:=[]) rfl rfl hx195 ?_;conv=>whnf
     refine nlA rfl ?_;conv=>whnf
     refine bKo rfl ?_;conv=>whnf
     refine gKo rfl ?_;conv=>whnf
     replace h:=bE h
     refine dR h29 h (WkL.refl _) (fun _ h=>?_);conv=>whnf
     refine hK _ _ _ ?_
     refine aL ?_
     refine aB dCo rfl fun K hK=>?_;conv=>whnf
     replace h:=eW h
     refine cLk h (fun _ h=>?_) (fun _ h=>?_)<;>(conv=>whnf)
     ·refine nlA rfl ?_;conv=>whnf
      refine bKo rfl ?_;conv=>whnf
      refine gKo rfl ?_;conv=>whnf
      refine cA h fun _ h=>?_;conv=>whnf
      refine gKo rfl ?_;conv=>whnf
      refine hK _ _ _ ?_
      refine aT fun K1 K2 hK1 hK2=>?_;conv=>whnf
      refine cLk h (fun _ h=>?_) (fun _ h=>?_)
      ·refine hK1 ?_
       refine bN ?_
       refine aW ?_
       refine aV ?_
       refine tHn ?_
       refine cK dCo rfl fun K hK=>?_;conv=>whnf
       refine hK _ _ _ ?_
       refine tHn ?_
       replace h:=bY h
       refine ⟨_,h,?_⟩
       refine aO ?_;conv=>whnf
       exact And.intro rfl (And.intro (aLc wkI (aLc wkI (aLc (WkR.ptr (fun _=>rfl)) (aLc (WkR.ptr (fun _=>rfl)) (aLc (WkR.ptr (fun _=>rfl)) (aLc wkI (aLc (WkR.ptr (fun _=>rfl)) (aLc (WkR.ptr (fun _=>rfl)) aLn)))))))) (aLc ⟨some _,rfl,bRc rfl (cKc (WkR.tok (fun _=>rfl) rfl (fun _ _=>Wk.refl _) (fun _=>(lsI _ _))) (cKc wkI cKn))⟩ (aLc ⟨some _,rfl,bRc rfl cKn⟩ (aLc ⟨some _,rfl,bRc rfl (cKc wkI (cKc (wkr (lsL fun _=>(mO _))) (cKc (wkr (lsL fun _=>(lsI _ _))) (cKc (wkr (lsL fun _=>(lsI _ _))) (cKc wkI (cKc (wkr (lsL fun _=>(pH _))) cKn))))))⟩ (aLc ⟨some _,rfl,bRc rfl (cKc wkI (cKc (wkr aG) (cKc (wkr aG) (cKc (wkr aG) (cKc wkI (cKc (wkr aG) cKn))))))⟩ (aLc ⟨some _,rfl,bRc rfl (cKc wkI (cKc (wkr (lsL fun _=>(aC _))) (cKc (wkr (lsL fun _=>(lsI _ _))) (cKc (wkr (lsL fun _=>(lsI _ _))) (cKc wkI (cKc (WkR.tok (fun _=>rfl) rfl (fun _ _=>Wk.refl _) (fun _=>(aA _))) cKn))))))⟩ (aLc ⟨some _,rfl,bRc rfl (cKc wkI (cKc wkI (cKc wkI (cKc wkI cKn))))⟩ (aLc ⟨some _,rfl,bRc rfl cKn⟩ aLn))))))))
      refine hK2 ?_
      refine aK ?_
      refine tHn ?_
      refine aB dCo rfl fun K hK=>?_;conv=>whnf
      refine hK _ _ _ ?_
      refine aL ?_
      refine aB dCo rfl fun K hK=>?_;conv=>whnf
      refine hK _ _ _ ?_
      refine aN ?_
      replace h:=bE h
      refine aFY (body:=gM _ _) rfl h [1,2,3,7,8,9,10,11,12] (fun σ=>aAH σ [1,2,3,8,9]++aFb σ [(3,5),(9,0)]) [] (fun kl kh ids b s=>⟨ofL ([(13,eB s.1),(14,eI s.2)]++kl),ofH ([]++kh),b+64⟩) ?_;(conv=>whnf);refine And.intro ?_ (fun s m h=>dY ?_)
      ·refine aO ?_;conv=>whnf
       exact And.intro rfl (And.intro (aLc (wkr (lsB _)) (aLc wkI (aLc (WkR.ptr (fun _=>rfl)) (aLc (WkR.ptr (fun _=>rfl)) (aLc (WkR.ptr (fun _=>rfl)) (aLc wkI (aLc (WkR.ptr (fun _=>rfl)) (aLc (WkR.ptr (fun _=>rfl)) (aLc wkI (aLc wkI (aLc wkI aLn))))))))))) (aLc ⟨some _,rfl,bRc rfl (cKc wkI (cKc (wkr (lsL fun _=>(mO _))) (cKc (wkr (lsL fun _=>(lsI _ _))) (cKc (wkr (lsL fun _=>(lsI _ _))) (cKc wkI (cKc (wkr (lsL fun _=>(pH _))) cKn))))))⟩ (aLc ⟨some _,rfl,bRc rfl (cKc wkI (cKc (wkr aG) (cKc (wkr aG) (cKc (wkr aG) (cKc wkI (cKc (wkr aG) cKn))))))⟩ (aLc ⟨some _,rfl,bRc rfl (cKc wkI (cKc (wkr (lsL fun _=>(aC _))) (cKc (wkr (lsL fun _=>(lsI _ _))) (cKc (wkr (lsL fun _=>(lsI _ _))) (cKc wkI (cKc (WkR.tok (fun _=>rfl) rfl (fun _ _=>Wk.refl _) (fun _=>(aA _))) cKn))))))⟩ (aLc ⟨some _,rfl,bRc rfl (cKc wkI (cKc wkI (cKc wkI (cKc wkI cKn))))⟩ (aLc ⟨some _,rfl,bRc rfl (cKc (WkR.tok (fun _=>rfl) rfl (fun _ _=>Wk.refl _) (fun _=>(lsI _ _))) (cKc wkI cKn))⟩ (aLc ⟨some _,rfl,bRc rfl cKn⟩ (aLc ⟨some _,rfl,bRc rfl cKn⟩ aLn))))))))
      replace h:=bE h;rw [gM.eq_1] at h
      refine aL ?_
      refine aB dCo rfl fun K hK=>?_;conv=>whnf
      refine nlA rfl ?_;conv=>whnf
      refine bKo rfl ?_;conv=>whnf
      refine gKo rfl ?_;conv=>whnf
      refine hK _ _ _ ?_
      refine aT fun K1 K2 hK1 hK2=>?_;conv=>whnf
      refine cLk h (fun _ h=>?_) (fun _ h=>?_)
      ·refine hK1 ?_
       refine aK ?_
       refine tHn ?_
       refine aL ?_
       refine aN ?_
       refine cK dCo rfl fun K hK=>?_;conv=>whnf
       replace h:=eW h
       refine cLk h (fun _ h=>?_) (fun _ h=>?_)<;>(conv=>whnf)
       ·refine hK _ _ _ ?_
        refine iBn ?_
        refine tHn ?_
        refine cK dCo rfl fun K hK=>?_;conv=>whnf
        refine hK _ _ _ ?_
        refine tHn ?_
        replace h:=bY h
        refine ⟨_,h,?_⟩
        refine aO ?_;conv=>whnf
        exact And.intro rfl (And.intro (aLc (wkr (lsB _)) (aLc wkI (aLc (WkR.ptr (fun _=>rfl)) (aLc (WkR.ptr (fun _=>rfl)) (aLc (WkR.ptr (fun _=>rfl)) (aLc wkI (aLc (WkR.ptr (fun _=>rfl)) (aLc (WkR.ptr (fun _=>rfl)) (aLc wkI (aLc wkI (aLc wkI aLn))))))))))) (aLc ⟨some _,rfl,bRc rfl (cKc wkI (cKc (wkr (lsL fun _=>(mO _))) (cKc (wkr (lsL fun _=>(lsI _ _))) (cKc (wkr (lsL fun _=>(lsI _ _))) (cKc wkI (cKc (wkr (lsL fun _=>(pH _))) cKn))))))⟩ (aLc ⟨some _,rfl,bRc rfl (cKc wkI (cKc (wkr aG) (cKc (wkr aG) (cKc (wkr aG) (cKc wkI (cKc (wkr aG) cKn))))))⟩ (aLc ⟨some _,rfl,bRc rfl (cKc wkI (cKc (wkr (lsL fun _=>(aC _))) (cKc (wkr (lsL fun _=>(lsI _ _))) (cKc (wkr (lsL fun _=>(lsI _ _))) (cKc wkI (cKc (WkR.tok (fun _=>rfl) rfl (fun _ _=>Wk.refl _) (fun _=>(aA _))) cKn))))))⟩ (aLc ⟨some _,rfl,bRc rfl (cKc wkI (cKc wkI (cKc wkI (cKc wkI cKn))))⟩ (aLc ⟨some _,rfl,bRc rfl (cKc (WkR.tok (fun _=>rfl) rfl (fun _ _=>Wk.refl _) (fun _=>(lsI _ _))) (cKc wkI cKn))⟩ (aLc ⟨some _,rfl,bRc rfl cKn⟩ (aLc ⟨some _,rfl,bRc rfl cKn⟩ aLn))))))))
       refine nlA rfl ?_;conv=>whnf
       refine bKo rfl ?_;conv=>whnf
       refine gKo rfl ?_;conv=>whnf
       refine cA h fun _ h=>?_;conv=>whnf
       refine gKo rfl ?_;conv=>whnf
       refine hK _ _ _ ?_
       refine iBn ?_
       refine tHn ?_
       refine cK dCo rfl fun K hK=>?_;conv=>whnf
       refine hK _ _ _ ?_
       refine tHn ?_
       replace h:=bY h
       refine ⟨_,h,?_⟩
       refine aO ?_;conv=>whnf
       exact And.intro rfl (And.intro (aLc (wkr (lsB _)) (aLc wkI (aLc (WkR.ptr (fun _=>rfl)) (aLc (WkR.ptr (fun _=>rfl)) (aLc (WkR.ptr (fun _=>rfl)) (aLc wkI (aLc (WkR.ptr (fun _=>rfl)) (aLc (WkR.ptr (fun _=>rfl)) (aLc wkI (aLc wkI (aLc wkI aLn))))))))))) (aLc ⟨some _,rfl,bRc rfl (cKc wkI (cKc (wkr (lsL fun _=>(mO _))) (cKc (wkr (lsL fun _=>(lsI _ _))) (cKc (wkr (lsL fun _=>(lsI _ _))) (cKc wkI (cKc (wkr (lsL fun _=>(pH _))) cKn))))))⟩ (aLc ⟨some _,rfl,bRc rfl (cKc wkI (cKc (wkr aG) (cKc (wkr aG) (cKc (wkr aG) (cKc wkI (cKc (wkr aG) cKn))))))⟩ (aLc ⟨some _,rfl,bRc rfl (cKc wkI (cKc (wkr (lsL fun _=>(aC _))) (cKc (wkr (lsL fun _=>(lsI _ _))) (cKc (wkr (lsL fun _=>(lsI _ _))) (cKc wkI (cKc (WkR.tok (fun _=>rfl) rfl (fun _ _=>Wk.refl _) (fun _=>(aA _))) cKn))))))⟩ (aLc ⟨some _,rfl,bRc rfl (cKc wkI (cKc wkI (cKc wkI (cKc wkI cKn))))⟩ (aLc ⟨some _,rfl,bRc rfl (cKc (WkR.tok (fun _=>rfl) rfl (fun _ _=>Wk.refl _) (fun _=>(lsI _ _))) (cKc wkI cKn))⟩ (aLc ⟨some _,rfl,bRc rfl cKn⟩ (aLc ⟨some _,rfl,bRc rfl cKn⟩ aLn))))))))
      refine hK2 ?_
      refine bN ?_
      refine aW ?_
      refine aW ?_
      refine aV ?_
      replace h:=eA h
      replace h:=dZ h
      refine tHn ?_
      refine aB dCo rfl fun K hK=>?_;conv=>whnf
      refine hK _ _ _ ?_
      replace h:=eW h
      refine aT fun K1 K2 hK1 hK2=>?_;conv=>whnf
      refine cLk h (fun _ h=>?_) (fun _ h=>?_)
      ·refine hK1 ?_
       refine aB dCo rfl fun K hK=>?_;conv=>whnf
       refine nlA rfl ?_;conv=>whnf
       refine bKo rfl ?_;conv=>whnf
       refine gKo rfl ?_;conv=>whnf
       refine hZ (enc:=eI) (d:=default) dCo h rfl rfl rfl ⟨nle rfl,nle rfl,rfl⟩ rfl ⟨⟨rfl,rfl,rfl⟩,trivial⟩ (fun h=>?_);conv=>whnf
       refine sV (enc:=eI) (d:=default) dCo h (.inl rfl) rfl rfl rfl ⟨rfl,nle rfl,nle rfl,nle rfl,rfl⟩ (fun _=>rfl) (.inr (.inr ⟨_,_,rfl,rfl,rfl⟩)) (fun h=>?_);conv=>whnf
       refine bKo rfl ?_;conv=>whnf
       refine And.intro rfl (And.intro (nle rfl) (And.intro rfl ?_));conv=>whnf
       refine hK _ _ _ ?_
       refine cK dCo rfl fun K hK=>?_;conv=>whnf
       refine nlA rfl ?_;conv=>whnf
       refine bKo rfl ?_;conv=>whnf
       refine gKo rfl ?_;conv=>whnf
       refine cA h fun _ h=>?_;conv=>whnf
       refine gKo rfl ?_;conv=>whnf
       refine hK _ _ _ ?_
       refine iBn ?_
       refine tHn ?_
       refine cK dCo rfl fun K hK=>?_;conv=>whnf
       refine hK _ _ _ ?_
       refine tHn ?_
       replace h:=bY h
       refine ⟨_,h,?_⟩
       refine aO ?_;conv=>whnf
       exact And.intro rfl (And.intro (aLc wkI (aLc wkI (aLc (WkR.ptr (fun _=>rfl)) (aLc (WkR.ptr (fun _=>rfl)) (aLc (WkR.ptr (fun _=>rfl)) (aLc wkI (aLc (WkR.ptr (fun _=>rfl)) (aLc (WkR.ptr (fun _=>rfl)) aLn)))))))) (aLc ⟨some _,rfl,bRc rfl (cKc (WkR.tok (fun _=>rfl) rfl (fun _ _=>Wk.refl _) (fun _=>(lsI _ _))) (cKc wkI cKn))⟩ (aLc ⟨some _,rfl,bRc rfl cKn⟩ (aLc ⟨some _,rfl,bRc rfl (cKc wkI (cKc (wkr (lsL fun _=>(mO _))) (cKc (wkr (lsL fun _=>(lsI _ _))) (cKc (wkr (lsL fun _=>(lsI _ _))) (cKc wkI (cKc (wkr (lsL fun _=>(pH _))) cKn))))))⟩ (aLc ⟨some _,rfl,bRc rfl (cKc wkI (cKc (wkr aG) (cKc (wkr aG) (cKc (wkr aG) (cKc wkI (cKc (wkr aG) cKn))))))⟩ (aLc ⟨some _,rfl,bRc rfl (cKc wkI (cKc (wkr (lsL fun _=>(aC _))) (cKc (wkr (lsL fun _=>(lsI _ _))) (cKc (wkr (lsL fun _=>(lsI _ _))) (cKc wkI (cKc (WkR.tok (fun _=>rfl) rfl (fun _ _=>Wk.refl _) (fun _=>(aA _))) cKn))))))⟩ (aLc ⟨some _,rfl,bRc rfl (cKc wkI (cKc wkI (cKc wkI (cKc wkI cKn))))⟩ (aLc ⟨some _,rfl,bRc rfl cKn⟩ aLn))))))))
      refine hK2 ?_
      refine aK ?_
      refine iBn ?_
      refine tHn ?_
      refine cK dCo rfl fun K hK=>?_;conv=>whnf
      refine hK _ _ _ ?_
      refine tHn ?_
      replace h:=bY h
      refine ⟨_,h,?_⟩
      refine aO ?_;conv=>whnf
      exact And.intro rfl (And.intro (aLc wkI (aLc wkI (aLc (WkR.ptr (fun _=>rfl)) (aLc (WkR.ptr (fun _=>rfl)) (aLc (WkR.ptr (fun _=>rfl)) (aLc wkI (aLc (WkR.ptr (fun _=>rfl)) (aLc (WkR.ptr (fun _=>rfl)) aLn)))))))) (aLc ⟨some _,rfl,bRc rfl (cKc (WkR.tok (fun _=>rfl) rfl (fun _ _=>Wk.refl _) (fun _=>(lsI _ _))) (cKc wkI cKn))⟩ (aLc ⟨some _,rfl,bRc rfl cKn⟩ (aLc ⟨some _,rfl,bRc rfl (cKc wkI (cKc (wkr (lsL fun _=>(mO _))) (cKc (wkr (lsL fun _=>(lsI _ _))) (cKc (wkr (lsL fun _=>(lsI _ _))) (cKc wkI (cKc (wkr (lsL fun _=>(pH _))) cKn))))))⟩ (aLc ⟨some _,rfl,bRc rfl (cKc wkI (cKc (wkr aG) (cKc (wkr aG) (cKc (wkr aG) (cKc wkI (cKc (wkr aG) cKn))))))⟩ (aLc ⟨some _,rfl,bRc rfl (cKc wkI (cKc (wkr (lsL fun _=>(aC _))) (cKc (wkr (lsL fun _=>(lsI _ _))) (cKc (wkr (lsL fun _=>(lsI _ _))) (cKc wkI (cKc (WkR.tok (fun _=>rfl) rfl (fun _ _=>Wk.refl _) (fun _=>(aA _))) cKn))))))⟩ (aLc ⟨some _,rfl,bRc rfl (cKc wkI (cKc wkI (cKc wkI (cKc wkI cKn))))⟩ (aLc ⟨some _,rfl,bRc rfl cKn⟩ aLn))))))))
     refine hK _ _ _ ?_
     refine aT fun K1 K2 hK1 hK2=>?_;conv=>whnf
     refine hK2 ?_
     replace h:=uF h
     refine aK ?_
     refine tHn ?_
     refine aB dCo rfl fun K hK=>?_;conv=>whnf
     refine hK _ _ _ ?_
     refine aL ?_
     refine aB dCo rfl fun K hK=>?_;conv=>whnf
     refine hK _ _ _ ?_
     refine aN ?_
     replace h:=bE h
     refine aFY (body:=gM _ _) rfl h [1,2,3,7,8,9,10,11,12] (fun σ=>aAH σ [1,2,3,8,9]++aFb σ [(3,5),(9,0)]) [] (fun kl kh ids b s=>⟨ofL ([(13,eB s.1),(14,eI s.2)]++kl),ofH ([]++kh),b+64⟩) ?_;(conv=>whnf);refine And.intro ?_ (fun s m h=>dY ?_)
     ·refine aO ?_;conv=>whnf
      exact And.intro rfl (And.intro (aLc (wkr (lsB _)) (aLc wkI (aLc (WkR.ptr (fun _=>rfl)) (aLc (WkR.ptr (fun _=>rfl)) (aLc (WkR.ptr (fun _=>rfl)) (aLc wkI (aLc (WkR.ptr (fun _=>rfl)) (aLc (WkR.ptr (fun _=>rfl)) (aLc wkI (aLc wkI (aLc wkI aLn))))))))))) (aLc ⟨some _,rfl,bRc rfl (cKc wkI (cKc (wkr (lsL fun _=>(mO _))) (cKc (wkr (lsL fun _=>(lsI _ _))) (cKc (wkr (lsL fun _=>(lsI _ _))) (cKc wkI (cKc (wkr (lsL fun _=>(pH _))) cKn))))))⟩ (aLc ⟨some _,rfl,bRc rfl (cKc wkI (cKc (wkr aG) (cKc (wkr aG) (cKc (wkr aG) (cKc wkI (cKc (wkr aG) cKn))))))⟩ (aLc ⟨some _,rfl,bRc rfl (cKc wkI (cKc (wkr (lsL fun _=>(aC _))) (cKc (wkr (lsL fun _=>(lsI _ _))) (cKc (wkr (lsL fun _=>(lsI _ _))) (cKc wkI (cKc (WkR.tok (fun _=>rfl) rfl (fun _ _=>Wk.refl _) (fun _=>(aA _))) cKn))))))⟩ (aLc ⟨some _,rfl,bRc rfl (cKc wkI (cKc wkI (cKc wkI (cKc wkI cKn))))⟩ (aLc ⟨some _,rfl,bRc rfl (cKc (WkR.tok (fun _=>rfl) rfl (fun _ _=>Wk.refl _) (fun _=>(lsI _ _))) (cKc wkI cKn))⟩ (aLc ⟨some _,rfl,bRc rfl cKn⟩ (aLc ⟨some _,rfl,bRc rfl cKn⟩ aLn))))))))
     replace h:=bE h;rw [gM.eq_1] at h
     refine aL ?_
     refine aB dCo rfl fun K hK=>?_;conv=>whnf
     refine nlA rfl ?_;conv=>whnf
     refine bKo rfl ?_;conv=>whnf
     refine gKo rfl ?_;conv=>whnf
     refine hK _ _ _ ?_
     refine aT fun K1 K2 hK1 hK2=>?_;conv=>whnf
     refine cLk h (fun _ h=>?_) (fun _ h=>?_)
     ·refine hK1 ?_
      refine aK ?_
      refine tHn ?_
      refine aL ?_
      refine aN ?_
      refine cK dCo rfl fun K hK=>?_;conv=>whnf
      replace h:=eW h
      refine cLk h (fun _ h=>?_) (fun _ h=>?_)<;>(conv=>whnf)
      ·refine hK _ _ _ ?_
       refine iBn ?_
       refine tHn ?_
       refine cK dCo rfl fun K hK=>?_;conv=>whnf
       refine hK _ _ _ ?_
       refine tHn ?_
       replace h:=bY h
       refine ⟨_,h,?_⟩
       refine aO ?_;conv=>whnf
       exact And.intro rfl (And.intro (aLc (wkr (lsB _)) (aLc wkI (aLc (WkR.ptr (fun _=>rfl)) (aLc (WkR.ptr (fun _=>rfl)) (aLc (WkR.ptr (fun _=>rfl)) (aLc wkI (aLc (WkR.ptr (fun _=>rfl)) (aLc (WkR.ptr (fun _=>rfl)) (aLc wkI (aLc wkI (aLc wkI aLn))))))))))) (aLc ⟨some _,rfl,bRc rfl (cKc wkI (cKc (wkr (lsL fun _=>(mO _))) (cKc (wkr (lsL fun _=>(lsI _ _))) (cKc (wkr (lsL fun _=>(lsI _ _))) (cKc wkI (cKc (wkr (lsL fun _=>(pH _))) cKn))))))⟩ (aLc ⟨some _,rfl,bRc rfl (cKc wkI (cKc (wkr aG) (cKc (wkr aG) (cKc (wkr aG) (cKc wkI (cKc (wkr aG) cKn))))))⟩ (aLc ⟨some _,rfl,bRc rfl (cKc wkI (cKc (wkr (lsL fun _=>(aC _))) (cKc (wkr (lsL fun _=>(lsI _ _))) (cKc (wkr (lsL fun _=>(lsI _ _))) (cKc wkI (cKc (WkR.tok (fun _=>rfl) rfl (fun _ _=>Wk.refl _) (fun _=>(aA _))) cKn))))))⟩ (aLc ⟨some _,rfl,bRc rfl (cKc wkI (cKc wkI (cKc wkI (cKc wkI cKn))))⟩ (aLc ⟨some _,rfl,bRc rfl (cKc (WkR.tok (fun _=>rfl) rfl (fun _ _=>Wk.refl _) (fun _=>(lsI _ _))) (cKc wkI cKn))⟩ (aLc ⟨some _,rfl,bRc rfl cKn⟩ (aLc ⟨some _,rfl,bRc rfl cKn⟩ aLn))))))))
      refine nlA rfl ?_;conv=>whnf
      refine bKo rfl ?_;conv=>whnf
      refine gKo rfl ?_;conv=>whnf
      refine cA h fun _ h=>?_;conv=>whnf
      refine gKo rfl ?_;conv=>whnf
      refine hK _ _ _ ?_
      refine iBn ?_
      refine tHn ?_
      refine cK dCo rfl fun K hK=>?_;conv=>whnf
      refine hK _ _ _ ?_
      refine tHn ?_
      replace h:=bY h
      refine ⟨_,h,?_⟩
      refine aO ?_;conv=>whnf
      exact And.intro rfl (And.intro (aLc (wkr (lsB _)) (aLc wkI (aLc (WkR.ptr (fun _=>rfl)) (aLc (WkR.ptr (fun _=>rfl)) (aLc (WkR.ptr (fun _=>rfl)) (aLc wkI (aLc (WkR.ptr (fun _=>rfl)) (aLc (WkR.ptr (fun _=>rfl)) (aLc wkI (aLc wkI (aLc wkI aLn))))))))))) (aLc ⟨some _,rfl,bRc rfl (cKc wkI (cKc (wkr (lsL fun _=>(mO _))) (cKc (wkr (lsL fun _=>(lsI _ _))) (cKc (wkr (lsL fun _=>(lsI _ _))) (cKc wkI (cKc (wkr (lsL fun _=>(pH _))) cKn))))))⟩ (aLc ⟨some _,rfl,bRc rfl (cKc wkI (cKc (wkr aG) (cKc (wkr aG) (cKc (wkr aG) (cKc wkI (cKc (wkr aG) cKn))))))⟩ (aLc ⟨some _,rfl,bRc rfl (cKc wkI (cKc (wkr (lsL fun _=>(aC _))) (cKc (wkr (lsL fun _=>(lsI _ _))) (cKc (wkr (lsL fun _=>(lsI _ _))) (cKc wkI (cKc (WkR.tok (fun _=>rfl) rfl (fun _ _=>Wk.refl _) (fun _=>(aA _))) cKn))))))⟩ (aLc ⟨some _,rfl,bRc rfl (cKc wkI (cKc wkI (cKc wkI (cKc wkI cKn))))⟩ (aLc ⟨some _,rfl,bRc rfl (cKc (WkR.tok (fun _=>rfl) rfl (fun _ _=>Wk.refl _) (fun _=>(lsI _ _))) (cKc wkI cKn))⟩ (aLc ⟨some _,rfl,bRc rfl cKn⟩ (aLc ⟨some _,rfl,bRc rfl cKn⟩ aLn))))))))
     refine hK2 ?_
     refine bN ?_
     refine aW ?_
     refine aW ?_
     refine aV ?_
     replace h:=eA h
     replace h:=dZ h
     refine tHn ?_
     refine aB dCo rfl fun K hK=>?_;conv=>whnf
     refine hK _ _ _ ?_
     replace h:=eW h
     refine aT fun K1 K2 hK1 hK2=>?_;conv=>whnf
     refine cLk h (fun _ h=>?_) (fun _ h=>?_)
     ·refine hK1 ?_
      refine aB dCo rfl fun K hK=>?_;conv=>whnf
      refine nlA rfl ?_;conv=>whnf
      refine bKo rfl ?_;conv=>whnf
      refine gKo rfl ?_;conv=>whnf
      refine hZ (enc:=eI) (d:=default) dCo h rfl rfl rfl ⟨nle rfl,nle rfl,rfl⟩ rfl ⟨⟨rfl,rfl,rfl⟩,trivial⟩ (fun h=>?_);conv=>whnf
      refine sV (enc:=eI) (d:=default) dCo h (.inl rfl) rfl rfl rfl ⟨rfl,nle rfl,nle rfl,nle rfl,rfl⟩ (fun _=>rfl) (.inr (.inr ⟨_,_,rfl,rfl,rfl⟩)) (fun h=>?_);conv=>whnf
      refine bKo rfl ?_;conv=>whnf
      refine And.intro rfl (And.intro (nle rfl) (And.intro rfl ?_));conv=>whnf
      refine hK _ _ _ ?_
      refine cK dCo rfl fun K hK=>?_;conv=>whnf
      refine nlA rfl ?_;conv=>whnf
      refine bKo rfl ?_;conv=>whnf
      refine gKo rfl ?_;conv=>whnf
      refine cA h fun _ h=>?_;conv=>whnf
      refine gKo rfl ?_;conv=>whnf
      refine hK _ _ _ ?_
      refine iBn ?_
      refine tHn ?_
      refine cK dCo rfl fun K hK=>?_;conv=>whnf
      refine hK _ _ _ ?_
      refine tHn ?_
      replace h:=bY h
      refine ⟨_,h,?_⟩
      refine aO ?_;conv=>whnf
      exact And.intro rfl (And.intro (aLc wkI (aLc wkI (aLc (WkR.ptr (fun _=>rfl)) (aLc (WkR.ptr (fun _=>rfl)) (aLc (WkR.ptr (fun _=>rfl)) (aLc wkI (aLc (WkR.ptr (fun _=>rfl)) (aLc (WkR.ptr (fun _=>rfl)) aLn)))))))) (aLc ⟨some _,rfl,bRc rfl (cKc (WkR.tok (fun _=>rfl) rfl (fun _ _=>Wk.refl _) (fun _=>(lsI _ _))) (cKc wkI cKn))⟩ (aLc ⟨some _,rfl,bRc rfl cKn⟩ (aLc ⟨some _,rfl,bRc rfl (cKc wkI (cKc (wkr (lsL fun _=>(mO _))) (cKc (wkr (lsL fun _=>(lsI _ _))) (cKc (wkr (lsL fun _=>(lsI _ _))) (cKc wkI (cKc (wkr (lsL fun _=>(pH _))) cKn))))))⟩ (aLc ⟨some _,rfl,bRc rfl (cKc wkI (cKc (wkr aG) (cKc (wkr aG) (cKc (wkr aG) (cKc wkI (cKc (wkr aG) cKn))))))⟩ (aLc ⟨some _,rfl,bRc rfl (cKc wkI (cKc (wkr (lsL fun _=>(aC _))) (cKc (wkr (lsL fun _=>(lsI _ _))) (cKc (wkr (lsL fun _=>(lsI _ _))) (cKc wkI (cKc (WkR.tok (fun _=>rfl) rfl (fun _ _=>Wk.refl _) (fun _=>(aA _))) cKn))))))⟩ (aLc ⟨some _,rfl,bRc rfl (cKc wkI (cKc wkI (cKc wkI (cKc wkI cKn))))⟩ (aLc ⟨some _,rfl,bRc rfl cKn⟩ aLn))))))))
     refine hK2 ?_
     refine aK ?_
     refine iBn ?_
     refine tHn ?_
     refine cK dCo rfl fun K hK=>?_;conv=>whnf
     refine hK _ _ _ ?_
     refine tHn ?_
     replace h:=bY h
     refine ⟨_,h,?_⟩
     refine aO ?_;conv=>whnf
     exact And.intro rfl (And.intro (aLc wkI (aLc wkI (aLc (WkR.ptr (fun _=>rfl)) (aLc (WkR.ptr (fun _=>rfl)) (aLc (WkR.ptr (fun _=>rfl)) (aLc wkI (aLc (WkR.ptr (fun _=>rfl)) (aLc (WkR.ptr (fun _=>rfl)) aLn)))))))) (aLc ⟨some _,rfl,bRc rfl (cKc (WkR.tok (fun _=>rfl) rfl (fun _ _=>Wk.refl _) (fun _=>(lsI _ _))) (cKc wkI cKn))⟩ (aLc ⟨some _,rfl,bRc rfl cKn⟩ (aLc ⟨some _,rfl,bRc rfl (cKc wkI (cKc (wkr (lsL fun _=>(mO _))) (cKc (wkr (lsL fun _=>(lsI _ _))) (cKc (wkr (lsL fun _=>(lsI _ _))) (cKc wkI (cKc (wkr (lsL fun _=>(pH _))) cKn))))))⟩ (aLc ⟨some _,rfl,bRc rfl (cKc wkI (cKc (wkr aG) (cKc (wkr aG) (cKc (wkr aG) (cKc wkI (cKc (wkr aG) cKn))))))⟩ (aLc ⟨some _,rfl,bRc rfl (cKc wkI (cKc (wkr (lsL fun _=>(aC _))) (cKc (wkr (lsL fun _=>(lsI _ _))) (cKc (wkr (lsL fun _=>(lsI _ _))) (cKc wkI (cKc (WkR.tok (fun _=>rfl) rfl (fun _ _=>Wk.refl _) (fun _=>(aA _))) cKn))))))⟩ (aLc ⟨some _,rfl,bRc rfl (cKc wkI (cKc wkI (cKc wkI (cKc wkI cKn))))⟩ (aLc ⟨some _,rfl,bRc rfl cKn⟩ aLn))))))))
    refine hK2 ?_
    refine bN ?_
    refine aW ?_
    refine aW ?_
    refine aV ?_
    replace h:=eA h
    replace h:=dZ h
    refine tHn ?_
    refine cK dCo rfl fun K hK=>?_;conv=>whnf
    refine nlA rfl ?_;conv=>whnf
    refine bKo rfl ?_;conv=>whnf
    refine gKo rfl ?_;conv=>whnf
    refine nlA rfl ?_;conv=>whnf
    refine bKo rfl ?_;conv=>whnf
    refine nlA rfl ?_;conv=>whnf
    refine aHU (enc:=bA) (d:=default) dCo h rfl rfl rfl ⟨nle rfl,nle rfl,rfl⟩ rfl ⟨⟨_,⟨rfl,nle rfl⟩,(fL (aF eD (aF (Wk.refl _) bO)))⟩,trivial⟩ (fun h=>?_);conv=>whnf
    refine sV (enc:=bA) (d:=default) dCo h (.inl rfl) rfl rfl rfl ⟨rfl,nle rfl,nle rfl,nle rfl,rfl⟩ (fun _=>rfl) (.inr (.inr ⟨_,_,rfl,rfl,rfl⟩)) (fun h=>?_);conv=>whnf
    refine bKo rfl ?_;conv=>whnf
    refine And.intro rfl (And.intro (nle rfl) (And.intro rfl ?_));conv=>whnf
    refine hK _ _ _ ?_
    refine iBn ?_
    refine tHn ?_
    refine cK dCo rfl fun K hK=>?_;conv=>whnf
    refine hK _ _ _ ?_
    refine tHn ?_
    replace h:=bY h
    refine ⟨_,h,?_⟩
    refine aO ?_;conv=>whnf
    exact And.intro rfl (And.intro (aLc wkI (aLc (WkR.ptr (fun _=>rfl)) (aLc (WkR.ptr (fun _=>rfl)) (aLc (WkR.ptr (fun _=>rfl)) aLn)))) (aLc ⟨some _,rfl,bRc rfl (cKc wkI (cKc (wkr (lsL fun _=>(aC _))) (cKc (wkr (lsL fun _=>(lsI _ _))) (cKc (wkr (lsL fun _=>(lsI _ _))) (cKc wkI (cKc (WkR.tok (fun _=>rfl) rfl (fun _ _=>Wk.refl _) (fun _=>(aA _))) cKn))))))⟩ (aLc ⟨some _,rfl,bRc rfl cKn⟩ (aLc ⟨some _,rfl,bRc rfl (cKc wkI (cKc (wkr (lsL fun _=>(mO _))) (cKc (wkr (lsL fun _=>(lsI _ _))) (cKc (wkr (lsL fun _=>(lsI _ _))) (cKc wkI (cKc (wkr (lsL fun _=>(pH _))) cKn))))))⟩ (aLc ⟨some _,rfl,bRc rfl (cKc wkI (cKc (wkr aG) (cKc (wkr aG) (cKc (wkr aG) (cKc wkI (cKc (wkr aG) cKn))))))⟩ aLn)))))
   refine hK2 ?_
   refine bN ?_
   refine aW ?_
   refine aW ?_
   refine aV ?_
   replace h:=eA h
   replace h:=dZ h
   refine tHn ?_
   refine aB dCo rfl fun K hK=>?_;conv=>whnf
   refine nlA rfl ?_;conv=>whnf
   refine bKo rfl ?_;conv=>whnf
   refine nlA rfl ?_;conv=>whnf
   refine bKo rfl ?_;conv=>whnf
   refine And.intro rfl (And.intro (nle rfl) (And.intro rfl ?_));conv=>whnf
   refine hK _ _ _ ?_
   refine aJ ?_
   replace h:=aI h
   refine aE dCo fun K hK=>?_;conv=>whnf
   refine nlA rfl ?_;conv=>whnf
   refine bKo rfl ?_;conv=>whnf
   refine nlA rfl ?_;conv=>whnf
   refine hK _ ?_
   cases h
   exact (fL (aF (Wk.refl _) (aF (Wk.refl _) (aF (Wk.refl _) (aF (Wk.refl _) (aF (Wk.refl _) (aF eD bO)))))))
  refine hK _ _ _ ?_
  refine aT fun K1 K2 hK1 hK2=>?_;conv=>whnf
  refine hK2 ?_
  replace h:=uF h
  refine bN ?_
  refine aW ?_
  refine aW ?_
  refine aV ?_
  replace h:=eA h
  replace h:=dZ h
  refine tHn ?_
  refine aB dCo rfl fun K hK=>?_;conv=>whnf
  refine nlA rfl ?_;conv=>whnf
  refine bKo rfl ?_;conv=>whnf
  refine nlA rfl ?_;conv=>whnf
  refine bKo rfl ?_;conv=>whnf
  refine And.intro rfl (And.intro (nle rfl) (And.intro rfl ?_));conv=>whnf
  refine hK _ _ _ ?_
  refine aJ ?_
  replace h:=aI h
  refine aE dCo fun K hK=>?_;conv=>whnf
  refine nlA rfl ?_;conv=>whnf
  refine bKo rfl ?_;conv=>whnf
  refine nlA rfl ?_;conv=>whnf
  refine hK _ ?_
  cases h
  exact (fL (aF (Wk.refl _) (aF (Wk.refl _) (aF (Wk.refl _) (aF (Wk.refl _) (aF (Wk.refl _) (aF eD bO)))))))
 refine hK _ _ _ ?_
 refine aT fun K1 K2 hK1 hK2=>?_;conv=>whnf
 refine hK2 ?_
 replace h:=uF h
 refine bN ?_
 refine aW ?_
 refine aW ?_
 refine aV ?_
 replace h:=eA h
 replace h:=dZ h
 refine tHn ?_
 refine aB dCo rfl fun K hK=>?_;conv=>whnf
 refine nlA rfl ?_;conv=>whnf
 refine bKo rfl ?_;conv=>whnf
 refine nlA rfl ?_;conv=>whnf
 refine bKo rfl ?_;conv=>whnf
 refine And.intro rfl (And.intro (nle rfl) (And.intro rfl ?_));conv=>whnf
 refine hK _ _ _ ?_
 refine aJ ?_
 replace h:=aI h
 refine aE dCo fun K hK=>?_;conv=>whnf
 refine nlA rfl ?_;conv=>whnf
 refine bKo rfl ?_;conv=>whnf
 refine nlA rfl ?_;conv=>whnf
 refine hK _ ?_
 cases h
 exact (fL (aF (Wk.refl _) (aF (Wk.refl _) (aF (Wk.refl _) (aF (Wk.refl _) (aF (Wk.refl _) (aF eD bO)))))))
theorem aBC {T:Tbl} (hT:T 5=aH rO) {args:List AV} {hp:bF} {id:Nat} {k:AV→Prop} {a0:qN} {Φ:aD→Prop} (h:W (pL a0) Φ) (hw:WkL args [rS a0]) (hk:∀ y,Φ y→k (bD y)):bZ T 5 args hp id k:=by
 obtain ⟨y,e,hy⟩:=dL h
 exact aS hT ⟨a0,rfl,kS e rfl⟩ (by exact (aR _)) hw (hk y hy)
def fN (a0:Int) (a1:Int) (a2:Int):Option Bool:=jn (fun p1:Bool=>some p1) fun k2=>cn (decide (a0≥a1)) (k2 (decide (a0≤a2))) (k2 false)
def pK:List AV→AV→Prop:=fun args r=>∃ a0 a1 a2,args=[eI a0,eI a1,eI a2]∧W (fN a0 a1 a2) fun y=>r=(eB y)
theorem aGZ {T:Tbl} (hT:TOk Tryz.prog T) (hpf:cI T PF):FOk Tryz.prog 42 (aH pK):=by
 refine bB hT hpf Tryz.func42 rfl Tryz.ntmps42 Tryz.results42 (by decide) ?_
 rintro args r ⟨a0,a1,a2,rfl,h⟩
 refine ⟨nle rfl,?_,?_⟩
 ·exact (lsC (lsI _ _) (lsC (lsI _ _) (lsC (lsI _ _) lsN)))
 rw [fN.eq_1] at h
 refine aB dCo rfl fun K hK=>?_;conv=>whnf
 refine hK _ _ _ ?_
 refine aB dCo rfl fun K hK=>?_;conv=>whnf
 replace h:=eW h
 refine cLk h (fun _ h=>?_) (fun _ h=>?_)<;>(conv=>whnf)
 ·refine hK _ _ _ ?_
  refine aJ ?_
  replace h:=aI h
  refine aE dCo fun K hK=>?_;conv=>whnf
  refine hK _ ?_
  cases h
  exact Wk.refl _
 refine hK _ _ _ ?_
 refine aJ ?_
 replace h:=aI h
 refine aE dCo fun K hK=>?_;conv=>whnf
 refine hK _ ?_
 cases h
 exact Wk.refl _
theorem fU {T:Tbl} (hT:T 42=aH pK) {args:List AV} {hp:bF} {id:Nat} {k:AV→Prop} {a0:Int} {a1:Int} {a2:Int} {Φ:Bool→Prop} (h:W (fN a0 a1 a2) Φ) (hw:WkL args [eI a0,eI a1,eI a2]) (hk:∀ y,Φ y→k (eB y)):bZ T 42 args hp id k:=by
 obtain ⟨y,e,hy⟩:=dL h
 exact aS hT ⟨a0,a1,a2,rfl,kS e rfl⟩ (by exact (lsB _)) hw (hk y hy)
def jM (a0:Int) (a1:Int):Option Bool:=gd (0≤a1) (let v1:=((Int.tmod (zD .i64 a0 a1) 2)==1);some v1)
def mR:List AV→AV→Prop:=fun args r=>∃ a0 a1,args=[eI a0,eI a1]∧W (jM a0 a1) fun y=>r=(eB y)
theorem aF4 {T:Tbl} (hT:TOk Tryz.prog T) (hpf:cI T PF):FOk Tryz.prog 45 (aH mR):=by
 refine bB hT hpf Tryz.func45 rfl Tryz.ntmps45 Tryz.results45 (by decide) ?_
 rintro args r ⟨a0,a1,rfl,h⟩
 refine ⟨nle rfl,?_,?_⟩
 ·exact (lsC (lsI _ _) (lsC (lsI _ _) lsN))
 rw [jM.eq_1] at h
 refine aB dCo rfl fun K hK=>?_;conv=>whnf
 refine hK _ _ _ ?_
 refine aB dCo rfl fun K hK=>?_;conv=>whnf
 refine kQ h fun _ h=>?_;conv=>whnf
 refine And.intro (by decide) ?_;conv=>whnf
 refine hK _ _ _ ?_
 refine aJ ?_
 replace h:=aI h
 refine aE dCo fun K hK=>?_;conv=>whnf
 refine hK _ ?_
 cases h
 exact Wk.refl _
theorem mF {T:Tbl} (hT:T 45=aH mR) {args:List AV} {hp:bF} {id:Nat} {k:AV→Prop} {a0:Int} {a1:Int} {Φ:Bool→Prop} (h:W (jM a0 a1) Φ) (hw:WkL args [eI a0,eI a1]) (hk:∀ y,Φ y→k (eB y)):bZ T 45 args hp id k:=by
 obtain ⟨y,e,hy⟩:=dL h
 exact aS hT ⟨a0,a1,rfl,kS e rfl⟩ (by exact (lsB _)) hw (hk y hy)
def lO (a0:Int) (a1:Int):Option Bool:=gd (0≤a1) (let v1:=((Int.tmod (zD .i64 a0 a1) 2)==1);some v1)
def pD:List AV→AV→Prop:=fun args r=>∃ a0 a1,args=[eI a0,eI a1]∧W (lO a0 a1) fun y=>r=(eB y)
theorem aGb {T:Tbl} (hT:TOk Tryz.prog T) (hpf:cI T PF):FOk Tryz.prog 68 (aH pD):=by
 refine bB hT hpf Tryz.func68 rfl Tryz.ntmps68 Tryz.results68 (by decide) ?_
 rintro args r ⟨a0,a1,rfl,h⟩
 refine ⟨nle rfl,?_,?_⟩
 ·exact (lsC (lsI _ _) (lsC (lsI _ _) lsN))
 rw [lO.eq_1] at h
 refine aB dCo rfl fun K hK=>?_;conv=>whnf
 refine hK _ _ _ ?_
 refine aB dCo rfl fun K hK=>?_;conv=>whnf
 refine kQ h fun _ h=>?_;conv=>whnf
 refine And.intro (by decide) ?_;conv=>whnf
 refine hK _ _ _ ?_
 refine aJ ?_
 replace h:=aI h
 refine aE dCo fun K hK=>?_;conv=>whnf
 refine hK _ ?_
 cases h
 exact Wk.refl _
theorem rJ {T:Tbl} (hT:T 68=aH pD) {args:List AV} {hp:bF} {id:Nat} {k:AV→Prop} {a0:Int} {a1:Int} {Φ:Bool→Prop} (h:W (lO a0 a1) Φ) (hw:WkL args [eI a0,eI a1]) (hk:∀ y,Φ y→k (eB y)):bZ T 68 args hp id k:=by
 obtain ⟨y,e,hy⟩:=dL h
 exact aS hT ⟨a0,a1,rfl,kS e rfl⟩ (by exact (lsB _)) hw (hk y hy)
def jA (a0:Int) (a1:Int) (a2:Int):Option Bool:=jn (fun p1:Bool=>some p1) fun k2=>cn (decide (a0≥a1)) (k2 (decide (a0≤a2))) (k2 false)
def nQ:List AV→AV→Prop:=fun args r=>∃ a0 a1 a2,args=[eI a0,eI a1,eI a2]∧W (jA a0 a1 a2) fun y=>r=(eB y)
theorem aGK {T:Tbl} (hT:TOk Tryz.prog T) (hpf:cI T PF):FOk Tryz.prog 67 (aH nQ):=by
 refine bB hT hpf Tryz.func67 rfl Tryz.ntmps67 Tryz.results67 (by decide) ?_
 rintro args r ⟨a0,a1,a2,rfl,h⟩
 refine ⟨nle rfl,?_,?_⟩
 ·exact (lsC (lsI _ _) (lsC (lsI _ _) (lsC (lsI _ _) lsN)))
 rw [jA.eq_1] at h
 refine aB dCo rfl fun K hK=>?_;conv=>whnf
 refine hK _ _ _ ?_
 refine aB dCo rfl fun K hK=>?_;conv=>whnf
 replace h:=eW h
 refine cLk h (fun _ h=>?_) (fun _ h=>?_)<;>(conv=>whnf)
 ·refine hK _ _ _ ?_
  refine aJ ?_
  replace h:=aI h
  refine aE dCo fun K hK=>?_;conv=>whnf
  refine hK _ ?_
  cases h
  exact Wk.refl _
 refine hK _ _ _ ?_
 refine aJ ?_
 replace h:=aI h
 refine aE dCo fun K hK=>?_;conv=>whnf
 refine hK _ ?_
 cases h
 exact Wk.refl _
theorem jZ {T:Tbl} (hT:T 67=aH nQ) {args:List AV} {hp:bF} {id:Nat} {k:AV→Prop} {a0:Int} {a1:Int} {a2:Int} {Φ:Bool→Prop} (h:W (jA a0 a1 a2) Φ) (hw:WkL args [eI a0,eI a1,eI a2]) (hk:∀ y,Φ y→k (eB y)):bZ T 67 args hp id k:=by
 obtain ⟨y,e,hy⟩:=dL h
 exact aS hT ⟨a0,a1,a2,rfl,kS e rfl⟩ (by exact (lsB _)) hw (hk y hy)
def nB (a0:aD) (a1:Int) (a2:Int) (s1:Int×Int) (s2:Int×Int):Option (Ct (Int×Int) Int):=ix a0.Calls default s1.2 fun e3=>
  cn (decide (s2.2<(e3.Edges.length:Int))) (jn (fun p4:Bool=>jn (fun p9:Int=>some (.nx (p9,(wr (s2.2+1))))) fun k10=>cn p4 (ix a0.Calls default s1.2 fun e11=>
  k10 (wr (s2.1+e11.Amount))) (k10 s2.1)) fun k5=>bd (jM a1 s1.2) fun y6=>cn y6 (ix a0.Calls default s1.2 fun e7=>ix e7.Edges default s2.2 fun e8=>k5 (e8 ==
  a2)) (k5 false)) (some (.bk (s2.1,s2.2)))
  def pO (a0:aD) (a1:Int) (a2:Int) (s1:Int×Int):Option (Ct (Int×Int) Int):=cn (decide (s1.2<(a0.Calls.length:Int))) (bd (lp (nB a0 a1 a2 s1) FU (s1.1,0)) fun c12=>
  smK c12 (fun s13=>some (.nx (s13.1,(wr (s1.2+1))))) (fun r14=>some (.rt r14))) (some (.bk (s1.1,s1.2)))
def nA (a0:aD) (a1:Int) (a2:Int):Option Int:=bd (lp (pO a0 a1 a2) FU (0,0)) fun c15=>smK c15 (fun s16=>some s16.1) (fun r17=>some r17)
def qY:List AV→AV→Prop:=fun args r=>∃ a0 a1 a2,args=[bD a0,eI a1,eI a2]∧W (nA a0 a1 a2) fun y=>r=(eI y)
theorem aGa {T:Tbl} (hT:TOk Tryz.prog T) (hpf:cI T PF) (h45:T 45=aH mR):FOk Tryz.prog 47 (aH qY):=by
 refine bB hT hpf Tryz.func47 rfl Tryz.ntmps47 Tryz.results47 (by decide) ?_
 rintro args r ⟨a0,a1,a2,rfl,h⟩
 refine ⟨nle rfl,?_,?_⟩
 ·exact (lsC (aR _) (lsC (lsI _ _) (lsC (lsI _ _) lsN)))
 rw [nA.eq_1] at h
 refine aB dCo rfl fun K hK=>?_;conv=>whnf
 refine hK _ _ _ ?_
 refine aB dCo rfl fun K hK=>?_;conv=>whnf
 refine hK _ _ _ ?_
 refine aL ?_
 refine aB dCo rfl fun K hK=>?_;conv=>whnf
 refine hK _ _ _ ?_
 refine aN ?_
 replace h:=bE h
 refine dS (body:=pO _ _ _) rfl h [1,2,3] [3] [] (fun kl kh ids b s=>⟨ofL ([(7,eI s.1),(8,eI s.2)]++kl),ofH ([]++kh),b+64⟩) ?_;(conv=>whnf);refine And.intro ?_ (fun s m h=>dY ?_)
 ·refine aO ?_;conv=>whnf
  exact And.intro rfl (And.intro (aLc wkI (aLc wkI (aLc wkI (aLc wkI (aLc (WkR.ptr (fun _=>rfl)) aLn))))) (aLc ⟨some _,rfl,bRc rfl (cKc wkI (cKc (wkr (lsL fun _=>(aC _))) (cKc (wkr (lsL fun _=>(lsI _ _))) (cKc (wkr (lsL fun _=>(lsI _ _))) (cKc wkI (cKc (wkr (lsL fun _=>(aA _))) cKn))))))⟩ aLn))
 replace h:=bE h;rw [pO.eq_1] at h
 refine aL ?_
 refine aB dCo rfl fun K hK=>?_;conv=>whnf
 refine nlA rfl ?_;conv=>whnf
 refine bKo rfl ?_;conv=>whnf
 refine gKo rfl ?_;conv=>whnf
 refine hK _ _ _ ?_
 refine aT fun K1 K2 hK1 hK2=>?_;conv=>whnf
 refine cLk h (fun _ h=>?_) (fun _ h=>?_)
 ·refine hK1 ?_
  refine aK ?_
  refine tHn ?_
  refine aL ?_
  refine aN ?_
  refine aB dCo rfl fun K hK=>?_;conv=>whnf
  refine hK _ _ _ ?_
  refine aN ?_
  replace h:=bE h
  refine dS (body:=nB _ _ _ _) rfl h [1,2,3,8] [3] [] (fun kl kh ids b s=>⟨ofL ([(7,eI s.1),(9,eI s.2)]++kl),ofH ([]++kh),b+64⟩) ?_;(conv=>whnf);refine And.intro ?_ (fun s m h=>dY ?_)
  ·refine aO ?_;conv=>whnf
   exact And.intro rfl (And.intro (aLc wkI (aLc wkI (aLc wkI (aLc wkI (aLc (WkR.ptr (fun _=>rfl)) (aLc wkI aLn)))))) (aLc ⟨some _,rfl,bRc rfl (cKc wkI (cKc (wkr (lsL fun _=>(aC _))) (cKc (wkr (lsL fun _=>(lsI _ _))) (cKc (wkr (lsL fun _=>(lsI _ _))) (cKc wkI (cKc (wkr (lsL fun _=>(aA _))) cKn))))))⟩ aLn))
  replace h:=bE h;rw [nB.eq_1] at h
  refine aL ?_
  refine aB dCo rfl fun K hK=>?_;conv=>whnf
  refine nlA rfl ?_;conv=>whnf
  refine bKo rfl ?_;conv=>whnf
  refine gKo rfl ?_;conv=>whnf
  refine cA h fun _ h=>?_;conv=>whnf
  refine gKo rfl ?_;conv=>whnf
  refine hK _ _ _ ?_
  refine aT fun K1 K2 hK1 hK2=>?_;conv=>whnf
  refine cLk h (fun _ h=>?_) (fun _ h=>?_)
  ·refine hK1 ?_
   refine aK ?_
   refine tHn ?_
   refine aL ?_
   refine aN ?_
   refine aB dCo rfl fun K hK=>?_;conv=>whnf
   replace h:=eW h
   replace h:=bE h
   refine mF h45 h (WkL.refl _) (fun _ h=>?_);conv=>whnf
   refine cLk h (fun _ h=>?_) (fun _ h=>?_)<;>(conv=>whnf)
   ·refine nlA rfl ?_;conv=>whnf
    refine bKo rfl ?_;conv=>whnf
    refine gKo rfl ?_;conv=>whnf
    refine cA h fun _ h=>?_;conv=>whnf
    refine gKo rfl ?_;conv=>whnf
    refine cA h fun _ h=>?_;conv=>whnf
    refine gKo rfl ?_;conv=>whnf
    refine hK _ _ _ ?_
    replace h:=eW h
    refine aT fun K1 K2 hK1 hK2=>?_;conv=>whnf
    refine cLk h (fun _ h=>?_) (fun _ h=>?_)
    ·refine hK1 ?_
     refine cK dCo rfl fun K hK=>?_;conv=>whnf
     refine nlA rfl ?_;conv=>whnf
     refine bKo rfl ?_;conv=>whnf
     refine gKo rfl ?_;conv=>whnf
     refine cA h fun _ h=>?_;conv=>whnf
     refine gKo rfl ?_;conv=>whnf
     refine hK _ _ _ ?_
     refine iBn ?_
     refine tHn ?_
     refine cK dCo rfl fun K hK=>?_;conv=>whnf
     refine hK _ _ _ ?_
     refine tHn ?_
     replace h:=bY h
     refine ⟨_,h,?_⟩
     refine aO ?_;conv=>whnf
     exact And.intro rfl (And.intro (aLc wkI (aLc wkI (aLc wkI (aLc wkI (aLc (WkR.ptr (fun _=>rfl)) (aLc wkI aLn)))))) (aLc ⟨some _,rfl,bRc rfl (cKc wkI (cKc (wkr (lsL fun _=>(aC _))) (cKc (wkr (lsL fun _=>(lsI _ _))) (cKc (wkr (lsL fun _=>(lsI _ _))) (cKc wkI (cKc (wkr (lsL fun _=>(aA _))) cKn))))))⟩ aLn))
    refine hK2 ?_
    refine aK ?_
    refine iBn ?_
    refine tHn ?_
    refine cK dCo rfl fun K hK=>?_;conv=>whnf
    refine hK _ _ _ ?_
    refine tHn ?_
    replace h:=bY h
    refine ⟨_,h,?_⟩
    refine aO ?_;conv=>whnf
    exact And.intro rfl (And.intro (aLc wkI (aLc wkI (aLc wkI (aLc wkI (aLc (WkR.ptr (fun _=>rfl)) (aLc wkI aLn)))))) (aLc ⟨some _,rfl,bRc rfl (cKc wkI (cKc (wkr (lsL fun _=>(aC _))) (cKc (wkr (lsL fun _=>(lsI _ _))) (cKc (wkr (lsL fun _=>(lsI _ _))) (cKc wkI (cKc (wkr (lsL fun _=>(aA _))) cKn))))))⟩ aLn))
   refine hK _ _ _ ?_
   replace h:=eW h
   refine aT fun K1 K2 hK1 hK2=>?_;conv=>whnf
   refine hK2 ?_
   replace h:=uF h
   refine aK ?_
   refine iBn ?_
   refine tHn ?_
   refine cK dCo rfl fun K hK=>?_;conv=>whnf
   refine hK _ _ _ ?_
   refine tHn ?_
   replace h:=bY h
   refine ⟨_,h,?_⟩
   refine aO ?_;conv=>whnf
   exact And.intro rfl (And.intro (aLc wkI (aLc wkI (aLc wkI (aLc wkI (aLc (WkR.ptr (fun _=>rfl)) (aLc wkI aLn)))))) (aLc ⟨some _,rfl,bRc rfl (cKc wkI (cKc (wkr (lsL fun _=>(aC _))) (cKc (wkr (lsL fun _=>(lsI _ _))) (cKc (wkr (lsL fun _=>(lsI _ _))) (cKc wkI (cKc (wkr (lsL fun _=>(aA _))) cKn))))))⟩ aLn))
  refine hK2 ?_
  refine bN ?_
  refine aW ?_
  refine aW ?_
  refine aV ?_
  replace h:=eA h
  replace h:=dZ h
  refine iBn ?_
  refine tHn ?_
  refine cK dCo rfl fun K hK=>?_;conv=>whnf
  refine hK _ _ _ ?_
  refine tHn ?_
  replace h:=bY h
  refine ⟨_,h,?_⟩
  refine aO ?_;conv=>whnf
  exact And.intro rfl (And.intro (aLc wkI (aLc wkI (aLc wkI (aLc wkI (aLc (WkR.ptr (fun _=>rfl)) aLn))))) (aLc ⟨some _,rfl,bRc rfl (cKc wkI (cKc (wkr (lsL fun _=>(aC _))) (cKc (wkr (lsL fun _=>(lsI _ _))) (cKc (wkr (lsL fun _=>(lsI _ _))) (cKc wkI (cKc (wkr (lsL fun _=>(aA _))) cKn))))))⟩ aLn))
 refine hK2 ?_
 refine bN ?_
 refine aW ?_
 refine aW ?_
 refine aV ?_
 replace h:=eA h
 replace h:=dZ h
 refine tHn ?_
 refine aB dCo rfl fun K hK=>?_;conv=>whnf
 refine hK _ _ _ ?_
 refine aJ ?_
 replace h:=aI h
 refine aE dCo fun K hK=>?_;conv=>whnf
 refine hK _ ?_
 cases h
 exact Wk.refl _
theorem uB {T:Tbl} (hT:T 47=aH qY) {args:List AV} {hp:bF} {id:Nat} {k:AV→Prop} {a0:aD} {a1:Int} {a2:Int} {Φ:Int→Prop} (h:W (nA a0 a1 a2) Φ) (hw:WkL args [bD a0,eI a1,eI a2]) (hk:∀ y,Φ y→k (eI y)):bZ T 47 args hp id k:=by
 obtain ⟨y,e,hy⟩:=dL h
 exact aS hT ⟨a0,a1,a2,rfl,kS e rfl⟩ (by exact (lsI _ _)) hw (hk y hy)
def qH (s1:Int×Int):Option (Ct (Int×Int) Int):=cn (decide (s1.1>0)) (let v2:=(wr (s1.2+(Int.tmod s1.1 2)));
  some (.nx ((wr (Int.tdiv s1.1 2)),v2))) (some (.bk (s1.1,s1.2)))
def mV (a0:Int):Option Int:=bd (lp (qH) FU (a0,0)) fun c3=>smK c3 (fun s4=>some s4.2) (fun r5=>some r5)
def sB:List AV→AV→Prop:=fun args r=>∃ a0,args=[eI a0]∧W (mV a0) fun y=>r=(eI y)
theorem aDZ {T:Tbl} (hT:TOk Tryz.prog T) (hpf:cI T PF):FOk Tryz.prog 50 (aH sB):=by
 refine bB hT hpf Tryz.func50 rfl Tryz.ntmps50 Tryz.results50 (by decide) ?_
 rintro args r ⟨a0,rfl,h⟩
 refine ⟨nle rfl,?_,?_⟩
 ·exact (lsC (lsI _ _) lsN)
 rw [mV.eq_1] at h
 refine aB dCo rfl fun K hK=>?_;conv=>whnf
 refine hK _ _ _ ?_
 refine aB dCo rfl fun K hK=>?_;conv=>whnf
 refine hK _ _ _ ?_
 refine aL ?_
 refine aN ?_
 replace h:=bE h
 refine dS (body:=qH) rfl h [] [] [] (fun kl kh ids b s=>⟨ofL ([(0,eI s.1),(3,eI s.2)]++kl),ofH ([]++kh),b+64⟩) ?_;(conv=>whnf);refine And.intro ?_ (fun s m h=>dY ?_)
 ·refine aO ?_;conv=>whnf
  exact And.intro rfl (And.intro (aLc wkI (aLc wkI aLn)) aLn)
 replace h:=bE h;rw [qH.eq_1] at h
 refine aL ?_
 refine aB dCo rfl fun K hK=>?_;conv=>whnf
 refine hK _ _ _ ?_
 refine aT fun K1 K2 hK1 hK2=>?_;conv=>whnf
 refine cLk h (fun _ h=>?_) (fun _ h=>?_)
 ·refine hK1 ?_
  refine aK ?_
  refine tHn ?_
  refine aN ?_
  refine aB dCo rfl fun K hK=>?_;conv=>whnf
  refine And.intro (by decide) ?_;conv=>whnf
  refine hK _ _ _ ?_
  refine cK dCo rfl fun K hK=>?_;conv=>whnf
  refine And.intro (by decide) ?_;conv=>whnf
  refine hK _ _ _ ?_
  refine iBn ?_
  refine tHn ?_
  replace h:=bY h
  refine ⟨_,h,?_⟩
  refine aO ?_;conv=>whnf
  exact And.intro rfl (And.intro (aLc wkI (aLc wkI aLn)) aLn)
 refine hK2 ?_
 refine bN ?_
 refine aW ?_
 refine aW ?_
 refine aV ?_
 replace h:=eA h
 replace h:=dZ h
 refine tHn ?_
 refine aB dCo rfl fun K hK=>?_;conv=>whnf
 refine hK _ _ _ ?_
 refine aJ ?_
 replace h:=aI h
 refine aE dCo fun K hK=>?_;conv=>whnf
 refine hK _ ?_
 cases h
 exact Wk.refl _
theorem wI {T:Tbl} (hT:T 50=aH sB) {args:List AV} {hp:bF} {id:Nat} {k:AV→Prop} {a0:Int} {Φ:Int→Prop} (h:W (mV a0) Φ) (hw:WkL args [eI a0]) (hk:∀ y,Φ y→k (eI y)):bZ T 50 args hp id k:=by
 obtain ⟨y,e,hy⟩:=dL h
 exact aS hT ⟨a0,rfl,kS e rfl⟩ (by exact (lsI _ _)) hw (hk y hy)
def nT (a0:bG) (a1:bG) (s3:Int):Option (Ct Int Bool):=cn (decide (s3<(a0.Edges.length:Int))) (ix a0.Edges default s3 fun e4=>
  ix a1.Edges default s3 fun e5=>cn (!((e4.From==e5.From)&&((e4.To==e5.To)&&(e4.Capacity ==
  e5.Capacity)))) (some (.rt false)) (some (.nx (wr (s3+1))))) (some (.bk s3))
def pG (a0:bG) (a1:bG):Option Bool:=jn (fun p1:Bool=>cn p1 (some false) (bd (lp (nT a0 a1) FU 0) fun c6=>smK c6 (fun s7=>
  some true) (fun r8=>some r8))) fun k2=>cn (a0.N != a1.N) (k2 true) (k2 ((a0.Edges.length:Int) != (a1.Edges.length:Int)))
def sD:List AV→AV→Prop:=fun args r=>∃ a0 a1,args=[fF a0,fF a1]∧W (pG a0 a1) fun y=>r=(eB y)
theorem aFc {T:Tbl} (hT:TOk Tryz.prog T) (hpf:cI T PF):FOk Tryz.prog 21 (aH sD):=by
 refine bB hT hpf Tryz.func21 rfl Tryz.ntmps21 Tryz.results21 (by decide) ?_
 rintro args r ⟨a0,a1,rfl,h⟩
 refine ⟨nle rfl,?_,?_⟩
 ·exact (lsC (fA _) (lsC (fA _) lsN))
 rw [pG.eq_1] at h
 refine aB dCo rfl fun K hK=>?_;conv=>whnf
 refine hK _ _ _ ?_
 refine aL ?_
 refine aB dCo rfl fun K hK=>?_;conv=>whnf
 replace h:=eW h
 refine nlA rfl ?_;conv=>whnf
 refine bKo rfl ?_;conv=>whnf
 refine gKo rfl ?_;conv=>whnf
 refine nlA rfl ?_;conv=>whnf
 refine bKo rfl ?_;conv=>whnf
 refine gKo rfl ?_;conv=>whnf
 refine cLk h (fun _ h=>?_) (fun _ h=>?_)<;>(conv=>whnf)
 ·refine hK _ _ _ ?_
  refine aT fun K1 K2 hK1 hK2=>?_;conv=>whnf
  refine hK1 ?_
  replace h:=kR h
  refine aB dCo rfl fun K hK=>?_;conv=>whnf
  refine hK _ _ _ ?_
  refine aJ ?_
  refine aM ?_
  replace h:=aI h
  refine aE dCo fun K hK=>?_;conv=>whnf
  refine hK _ ?_
  cases h
  exact Wk.refl _
 refine nlA rfl ?_;conv=>whnf
 refine bKo rfl ?_;conv=>whnf
 refine gKo rfl ?_;conv=>whnf
 refine nlA rfl ?_;conv=>whnf
 refine bKo rfl ?_;conv=>whnf
 refine gKo rfl ?_;conv=>whnf
 refine hK _ _ _ ?_
 refine aT fun K1 K2 hK1 hK2=>?_;conv=>whnf
 refine cLk h (fun _ h=>?_) (fun _ h=>?_)
 ·refine hK1 ?_
  refine aB dCo rfl fun K hK=>?_;conv=>whnf
  refine hK _ _ _ ?_
  refine aJ ?_
  refine aM ?_
  replace h:=aI h
  refine aE dCo fun K hK=>?_;conv=>whnf
  refine hK _ ?_
  cases h
  exact Wk.refl _
 refine hK2 ?_
 refine aK ?_
 refine tHn ?_
 refine aL ?_
 refine aB dCo rfl fun K hK=>?_;conv=>whnf
 refine hK _ _ _ ?_
 refine aN ?_
 replace h:=bE h
 refine dS (body:=nT _ _) rfl h [2,3] [2,3] [] (fun kl kh ids b s=>⟨ofL ([(5,eI s)]++kl),ofH ([]++kh),b+64⟩) ?_;(conv=>whnf);refine And.intro ?_ (fun s m h=>dY ?_)
 ·refine aO ?_;conv=>whnf
  exact And.intro rfl (And.intro (aLc wkI (aLc (WkR.ptr (fun _=>rfl)) (aLc (WkR.ptr (fun _=>rfl)) aLn))) (aLc ⟨some _,rfl,bRc rfl (cKc wkI (cKc (wkr (lsL fun _=>(aC _))) cKn))⟩ (aLc ⟨some _,rfl,bRc rfl (cKc wkI (cKc (wkr (lsL fun _=>(aC _))) cKn))⟩ aLn)))
 replace h:=bE h;rw [nT.eq_1] at h
 refine aL ?_
 refine aB dCo rfl fun K hK=>?_;conv=>whnf
 refine nlA rfl ?_;conv=>whnf
 refine bKo rfl ?_;conv=>whnf
 refine gKo rfl ?_;conv=>whnf
 refine hK _ _ _ ?_
 refine aT fun K1 K2 hK1 hK2=>?_;conv=>whnf
 refine cLk h (fun _ h=>?_) (fun _ h=>?_)
 ·refine hK1 ?_
  refine aK ?_
  refine tHn ?_
  refine aL ?_
  refine aN ?_
  refine iZ dCo cJ rfl (by kernel_rfl) fun K hK=>?_;conv=>whnf
  refine nlA rfl ?_;conv=>whnf
  refine bKo rfl ?_;conv=>whnf
  refine gKo rfl ?_;conv=>whnf
  refine cA h fun _ h=>?_;conv=>whnf
  refine nlA rfl ?_;conv=>whnf
  refine nlA rfl ?_;conv=>whnf
  refine bKo rfl ?_;conv=>whnf
  refine gKo rfl ?_;conv=>whnf
  refine cA h fun _ h=>?_;conv=>whnf
  refine nlA rfl ?_;conv=>whnf
  refine sT (aRY _ _ _ _ _ _) ?_;conv=>whnf
  refine hK _ _ _ ?_
  refine aT fun K1 K2 hK1 hK2=>?_;conv=>whnf
  refine cLk h (fun _ h=>?_) (fun _ h=>?_)
  ·refine hK1 ?_
   refine aB dCo rfl fun K hK=>?_;conv=>whnf
   refine hK _ _ _ ?_
   refine aJ ?_
   refine aP ?_
   refine aM ?_
   refine aM ?_
   refine aP ?_
   refine aM ?_
   replace h:=iG h
   replace h:=iF h
   replace h:=aI h
   refine aE dCo fun K hK=>?_;conv=>whnf
   refine hK _ ?_
   cases h
   exact Wk.refl _
  refine hK2 ?_
  refine aK ?_
  refine iBn ?_
  refine tHn ?_
  refine cK dCo rfl fun K hK=>?_;conv=>whnf
  refine hK _ _ _ ?_
  refine tHn ?_
  replace h:=bY h
  refine ⟨_,h,?_⟩
  refine aO ?_;conv=>whnf
  exact And.intro rfl (And.intro (aLc wkI (aLc (WkR.ptr (fun _=>rfl)) (aLc (WkR.ptr (fun _=>rfl)) aLn))) (aLc ⟨some _,rfl,bRc rfl (cKc wkI (cKc (wkr (lsL fun _=>(aC _))) cKn))⟩ (aLc ⟨some _,rfl,bRc rfl (cKc wkI (cKc (wkr (lsL fun _=>(aC _))) cKn))⟩ aLn)))
 refine hK2 ?_
 refine bN ?_
 refine aW ?_
 refine aW ?_
 refine aV ?_
 replace h:=eA h
 replace h:=dZ h
 refine tHn ?_
 refine aB dCo rfl fun K hK=>?_;conv=>whnf
 refine hK _ _ _ ?_
 refine aJ ?_
 replace h:=aI h
 refine aE dCo fun K hK=>?_;conv=>whnf
 refine hK _ ?_
 cases h
 exact Wk.refl _
theorem aBG {T:Tbl} (hT:T 21=aH sD) {args:List AV} {hp:bF} {id:Nat} {k:AV→Prop} {a0:bG} {a1:bG} {Φ:Bool→Prop} (h:W (pG a0 a1) Φ) (hw:WkL args [fF a0,fF a1]) (hk:∀ y,Φ y→k (eB y)):bZ T 21 args hp id k:=by
 obtain ⟨y,e,hy⟩:=dL h
 exact aS hT ⟨a0,a1,rfl,kS e rfl⟩ (by exact (lsB _)) hw (hk y hy)
def pP (a1:List Int) (s1:Int) (s4:Int):Option (Ct Int Bool):=cn (decide (s4<s1)) (ix a1 default s4 fun e5=>ix a1 default s1 fun e6=>cn (e5 ==
  e6) (some (.rt false)) (some (.nx (wr (s4+1))))) (some (.bk s4))
def pJ (a0:bG) (a1:List Int) (s1:Int):Option (Ct Int Bool):=cn (decide (s1<(a1.length:Int))) (ix a1 default s1 fun e2=>
  bd (fN e2 0 (wr ((a0.Edges.length:Int)-1))) fun y3=>cn (!y3) (some (.rt false)) (bd (lp (pP a1 s1) FU 0) fun c7=>smK c7 (fun s8=>
  jn (fun p10:Bool=>cn p10 (some (.rt false)) (some (.nx (wr (s1+1))))) fun k11=>cn (decide (s1>0)) (ix a1 default (wr (s1-1)) fun e12=>
  ix a0.Edges default e12 fun e13=>ix a1 default s1 fun e14=>ix a0.Edges default e14 fun e15=>k11 (e13.To != e15.From)) (k11 false)) (fun r9=>
  some (.rt r9)))) (some (.bk s1))
def qV (a0:bG) (a1:List Int):Option Bool:=bd (lp (pJ a0 a1) FU 0) fun c16=>smK c16 (fun s17=>bd (fN (a1.length:Int) 1 6) fun y19=>
  some y19) (fun r18=>some r18)
def tF:List AV→AV→Prop:=fun args r=>∃ a0 a1,args=[fF a0,(eL 1 eI default) a1]∧W (qV a0 a1) fun y=>r=(eB y)
theorem aGc {T:Tbl} (hT:TOk Tryz.prog T) (hpf:cI T PF) (h42:T 42=aH pK):FOk Tryz.prog 43 (aH tF):=by
 refine bB hT hpf Tryz.func43 rfl Tryz.ntmps43 Tryz.results43 (by decide) ?_
 rintro args r ⟨a0,a1,rfl,h⟩
 refine ⟨nle rfl,?_,?_⟩
 ·exact (lsC (fA _) (lsC (lsL fun _=>(lsI _ _)) lsN))
 rw [qV.eq_1] at h
 refine aB dCo rfl fun K hK=>?_;conv=>whnf
 refine hK _ _ _ ?_
 refine aL ?_
 refine aB dCo rfl fun K hK=>?_;conv=>whnf
 refine hK _ _ _ ?_
 refine aN ?_
 replace h:=bE h
 refine dS (body:=pJ _ _) rfl h [1,2] [2] [] (fun kl kh ids b s=>⟨ofL ([(5,eI s)]++kl),ofH ([]++kh),b+64⟩) ?_;(conv=>whnf);refine And.intro ?_ (fun s m h=>dY ?_)
 ·refine aO ?_;conv=>whnf
  exact And.intro rfl (And.intro (aLc wkI (aLc (wkr (lsL fun _=>(lsI _ _))) (aLc (WkR.ptr (fun _=>rfl)) aLn))) (aLc ⟨some _,rfl,bRc rfl (cKc wkI (cKc (wkr (lsL fun _=>(aC _))) cKn))⟩ aLn))
 replace h:=bE h;rw [pJ.eq_1] at h
 refine aL ?_
 refine aB dCo rfl fun K hK=>?_;conv=>whnf
 refine hK _ _ _ ?_
 refine aT fun K1 K2 hK1 hK2=>?_;conv=>whnf
 refine cLk h (fun _ h=>?_) (fun _ h=>?_)
 ·refine hK1 ?_
  refine aK ?_
  refine tHn ?_
  refine aL ?_
  refine aN ?_
  refine aL ?_
  refine iZ dCo cJ rfl (by kernel_rfl) fun K hK=>?_;conv=>whnf
  refine cA h fun _ h=>?_;conv=>whnf
  refine gKo rfl ?_;conv=>whnf
  refine nlA rfl ?_;conv=>whnf
  refine bKo rfl ?_;conv=>whnf
  refine gKo rfl ?_;conv=>whnf
  replace h:=bE h
  refine fU h42 h (WkL.refl _) (fun _ h=>?_);conv=>whnf
  refine hK _ _ _ ?_
  refine aT fun K1 K2 hK1 hK2=>?_;conv=>whnf
  refine cLk h (fun _ h=>?_) (fun _ h=>?_)
  ·refine hK1 ?_
   refine aB dCo rfl fun K hK=>?_;conv=>whnf
   refine hK _ _ _ ?_
   refine aJ ?_
   refine aM ?_
   refine aP ?_
   refine aM ?_
   refine aM ?_
   refine aP ?_
   refine aM ?_
   replace h:=iG h
   replace h:=iF h
   replace h:=aI h
   refine aE dCo fun K hK=>?_;conv=>whnf
   refine hK _ ?_
   cases h
   exact Wk.refl _
  refine hK2 ?_
  refine aK ?_
  refine tHn ?_
  refine aL ?_
  refine aB dCo rfl fun K hK=>?_;conv=>whnf
  refine hK _ _ _ ?_
  refine aN ?_
  replace h:=bE h
  refine dS (body:=pP _ _) rfl h [1,2,5] [2] [] (fun kl kh ids b s=>⟨ofL ([(6,eI s)]++kl),ofH ([]++kh),b+64⟩) ?_;(conv=>whnf);refine And.intro ?_ (fun s m h=>dY ?_)
  ·refine aO ?_;conv=>whnf
   exact And.intro rfl (And.intro (aLc wkI (aLc (wkr (lsL fun _=>(lsI _ _))) (aLc (WkR.ptr (fun _=>rfl)) (aLc wkI aLn)))) (aLc ⟨some _,rfl,bRc rfl (cKc wkI (cKc (wkr (lsL fun _=>(aC _))) cKn))⟩ aLn))
  replace h:=bE h;rw [pP.eq_1] at h
  refine aL ?_
  refine aB dCo rfl fun K hK=>?_;conv=>whnf
  refine hK _ _ _ ?_
  refine aT fun K1 K2 hK1 hK2=>?_;conv=>whnf
  refine cLk h (fun _ h=>?_) (fun _ h=>?_)
  ·refine hK1 ?_
   refine aK ?_
   refine tHn ?_
   refine aL ?_
   refine aN ?_
   refine iZ dCo cJ rfl (by kernel_rfl) fun K hK=>?_;conv=>whnf
   refine cA h fun _ h=>?_;conv=>whnf
   refine gKo rfl ?_;conv=>whnf
   refine cA h fun _ h=>?_;conv=>whnf
   refine gKo rfl ?_;conv=>whnf
   refine hK _ _ _ ?_
   refine aT fun K1 K2 hK1 hK2=>?_;conv=>whnf
   refine cLk h (fun _ h=>?_) (fun _ h=>?_)
   ·refine hK1 ?_
    refine aB dCo rfl fun K hK=>?_;conv=>whnf
    refine hK _ _ _ ?_
    refine aJ ?_
    refine aP ?_
    refine aM ?_
    refine aM ?_
    refine aP ?_
    refine aM ?_
    refine aP ?_
    refine aM ?_
    refine aM ?_
    refine aP ?_
    refine aM ?_
    replace h:=iG h
    replace h:=iF h
    replace h:=iG h
    replace h:=iF h
    replace h:=aI h
    refine aE dCo fun K hK=>?_;conv=>whnf
    refine hK _ ?_
    cases h
    exact Wk.refl _
   refine hK2 ?_
   refine aK ?_
   refine iBn ?_
   refine tHn ?_
   refine cK dCo rfl fun K hK=>?_;conv=>whnf
   refine hK _ _ _ ?_
   refine tHn ?_
   replace h:=bY h
   refine ⟨_,h,?_⟩
   refine aO ?_;conv=>whnf
   exact And.intro rfl (And.intro (aLc wkI (aLc (wkr (lsL fun _=>(lsI _ _))) (aLc (WkR.ptr (fun _=>rfl)) (aLc wkI aLn)))) (aLc ⟨some _,rfl,bRc rfl (cKc wkI (cKc (wkr (lsL fun _=>(aC _))) cKn))⟩ aLn))
  refine hK2 ?_
  refine bN ?_
  refine aW ?_
  refine aW ?_
  refine aV ?_
  replace h:=eA h
  replace h:=dZ h
  refine tHn ?_
  refine iZ dCo cJ rfl (by kernel_rfl) fun K hK=>?_;conv=>whnf
  replace h:=eW h
  refine cLk h (fun _ h=>?_) (fun _ h=>?_)<;>(conv=>whnf)
  ·refine nlA rfl ?_;conv=>whnf
   refine bKo rfl ?_;conv=>whnf
   refine gKo rfl ?_;conv=>whnf
   refine cA h fun _ h=>?_;conv=>whnf
   refine gKo rfl ?_;conv=>whnf
   refine cA h fun _ h=>?_;conv=>whnf
   refine gKo rfl ?_;conv=>whnf
   refine nlA rfl ?_;conv=>whnf
   refine bKo rfl ?_;conv=>whnf
   refine gKo rfl ?_;conv=>whnf
   refine cA h fun _ h=>?_;conv=>whnf
   refine gKo rfl ?_;conv=>whnf
   refine cA h fun _ h=>?_;conv=>whnf
   refine gKo rfl ?_;conv=>whnf
   refine hK _ _ _ ?_
   refine aT fun K1 K2 hK1 hK2=>?_;conv=>whnf
   refine cLk h (fun _ h=>?_) (fun _ h=>?_)
   ·refine hK1 ?_
    refine aB dCo rfl fun K hK=>?_;conv=>whnf
    refine hK _ _ _ ?_
    refine aJ ?_
    refine aP ?_
    refine aM ?_
    refine aM ?_
    refine aP ?_
    refine aM ?_
    replace h:=iG h
    replace h:=iF h
    replace h:=aI h
    refine aE dCo fun K hK=>?_;conv=>whnf
    refine hK _ ?_
    cases h
    exact Wk.refl _
   refine hK2 ?_
   refine aK ?_
   refine iBn ?_
   refine tHn ?_
   refine cK dCo rfl fun K hK=>?_;conv=>whnf
   refine hK _ _ _ ?_
   refine tHn ?_
   replace h:=bY h
   refine ⟨_,h,?_⟩
   refine aO ?_;conv=>whnf
   exact And.intro rfl (And.intro (aLc wkI (aLc (wkr (lsL fun _=>(lsI _ _))) (aLc (WkR.ptr (fun _=>rfl)) aLn))) (aLc ⟨some _,rfl,bRc rfl (cKc wkI (cKc (wkr (lsL fun _=>(aC _))) cKn))⟩ aLn))
  refine hK _ _ _ ?_
  refine aT fun K1 K2 hK1 hK2=>?_;conv=>whnf
  refine hK2 ?_
  replace h:=uF h
  refine aK ?_
  refine iBn ?_
  refine tHn ?_
  refine cK dCo rfl fun K hK=>?_;conv=>whnf
  refine hK _ _ _ ?_
  refine tHn ?_
  replace h:=bY h
  refine ⟨_,h,?_⟩
  refine aO ?_;conv=>whnf
  exact And.intro rfl (And.intro (aLc wkI (aLc (wkr (lsL fun _=>(lsI _ _))) (aLc (WkR.ptr (fun _=>rfl)) aLn))) (aLc ⟨some _,rfl,bRc rfl (cKc wkI (cKc (wkr (lsL fun _=>(aC _))) cKn))⟩ aLn))
 refine hK2 ?_
 refine bN ?_
 refine aW ?_
 refine aW ?_
 refine aV ?_
 replace h:=eA h
 replace h:=dZ h
 refine tHn ?_
 refine aB dCo rfl fun K hK=>?_;conv=>whnf
 replace h:=bE h
 refine fU h42 h (WkL.refl _) (fun _ h=>?_);conv=>whnf
 refine hK _ _ _ ?_
 refine aJ ?_
 replace h:=aI h
 refine aE dCo fun K hK=>?_;conv=>whnf
 refine hK _ ?_
 cases h
 exact Wk.refl _
theorem aCF {T:Tbl} (hT:T 43=aH tF) {args:List AV} {hp:bF} {id:Nat} {k:AV→Prop} {a0:bG} {a1:List Int} {Φ:Bool→Prop} (h:W (qV a0 a1) Φ) (hw:WkL args [fF a0,(eL 1 eI default) a1]) (hk:∀ y,Φ y→k (eB y)):bZ T 43 args hp id k:=by
 obtain ⟨y,e,hy⟩:=dL h
 exact aS hT ⟨a0,a1,rfl,kS e rfl⟩ (by exact (lsB _)) hw (hk y hy)
def gC (a0:List Int) (a1:Int) (a2:Int) (a3:Int):Option (List Int):=lt ([]:List Int) fun l1=>gd (a0.length≤1048576) (lt a0 fun l2=>
  cn ((l2.length:Int)==0) (lt ([a2]:List Int) fun l3=>some l3) (bd (fO a3 (l2.length:Int)) fun y4=>bd (fO a1 4) fun y5=>
  jn (fun p6:(List Int)=>some p6) fun k7=>cn (y5==0) (gd ((0:Int)≤y4∧y4<(l2.length:Int)) (st l2 (y4) a2 fun l8=>k7 l8)) (jn (fun p9:(List Int)=>
  k7 p9) fun k10=>cn (y5 ==
  1) (gd ((0:Int)≤y4∧y4<(l2.length:Int)) (gd ((0:Int)≤y4∧y4<(l2.length:Int)) (st l2 (y4) (wr ((l2.getD (y4).toNat default)+1)) fun l11=>
  k10 l11))) (jn (fun p12:(List Int)=>k10 p12) fun k13=>cn (y5 ==
  2) (gd ((0:Int)≤y4∧y4<(l2.length:Int)) (gd ((0:Int)≤y4∧y4<(l2.length:Int)) (st l2 (y4) (wr ((l2.getD (y4).toNat default)-1)) fun l14=>
  k13 l14))) (lt ([a2]:List Int) fun l15=>ap l2 l15 fun l16=>k13 l16)))))
def mC:List AV→AV→Prop:=fun args r=>∃ a0 a1 a2 a3,args=[(eL 1 eI default) a0,eI a1,eI a2,eI a3]∧W (gC a0 a1 a2 a3) fun y=>r=((eL 1 eI default) y)
theorem aAq {T:Tbl} (hT:TOk Tryz.prog T) (hpf:cI T PF) (h60:T 60=aH nN):FOk Tryz.prog 32 (aH mC):=by
 refine bB hT hpf Tryz.func32 rfl Tryz.ntmps32 Tryz.results32 (by decide) ?_
 rintro args r ⟨a0,a1,a2,a3,rfl,h⟩
 refine ⟨nle rfl,?_,?_⟩
 ·exact (lsC (lsL fun _=>(lsI _ _)) (lsC (lsI _ _) (lsC (lsI _ _) (lsC (lsI _ _) lsN))))
 rw [gC.eq_1] at h
 refine aB dCo rfl fun K hK=>?_;conv=>whnf
 refine hK _ _ _ ?_
 refine aB dCo rfl fun K hK=>?_;conv=>whnf
 refine hZ (enc:=eI) (d:=default) dCo h rfl rfl rfl ⟨nle rfl,nle rfl,rfl⟩ rfl trivial (fun h=>?_);conv=>whnf
 refine vF h fun hg h=>?_
 replace h:=aKQ h
 refine xW (enc:=eI) (d:=default) dCo rfl rfl rfl ⟨rfl,nle rfl,nle rfl,nle rfl,rfl⟩ (fun _=>rfl) (fun _=>nofun) hg ?_;conv=>whnf
 refine hK _ _ _ ?_
 refine aL ?_
 refine aB dCo rfl fun K hK=>?_;conv=>whnf
 refine hK _ _ _ ?_
 refine aT fun K1 K2 hK1 hK2=>?_;conv=>whnf
 refine cLk h (fun _ h=>?_) (fun _ h=>?_)
 ·refine hK1 ?_
  refine aB dCo rfl fun K hK=>?_;conv=>whnf
  refine hZ (enc:=eI) (d:=default) dCo h rfl rfl rfl ⟨nle rfl,nle rfl,rfl⟩ rfl ⟨⟨rfl,rfl,rfl⟩,trivial⟩ (fun h=>?_);conv=>whnf
  refine hK _ _ _ ?_
  refine aJ ?_
  refine aM ?_
  replace h:=aI h
  refine aE dCo fun K hK=>?_;conv=>whnf
  refine hK _ ?_
  cases h
  exact eD
 refine hK2 ?_
 refine aK ?_
 refine tHn ?_
 refine aB dCo rfl fun K hK=>?_;conv=>whnf
 replace h:=bE h
 refine fV h60 h (WkL.refl _) (fun _ h=>?_);conv=>whnf
 refine hK _ _ _ ?_
 refine aL ?_
 refine aB dCo rfl fun K hK=>?_;conv=>whnf
 replace h:=bE h
 refine fV h60 h (WkL.refl _) (fun _ h=>?_);conv=>whnf
 refine hK _ _ _ ?_
 refine aN ?_
 refine aB dCo rfl fun K hK=>?_;conv=>whnf
 refine hK _ _ _ ?_
 replace h:=eW h
 refine aT fun K1 K2 hK1 hK2=>?_;conv=>whnf
 refine cLk h (fun _ h=>?_) (fun _ h=>?_)
 ·refine hK1 ?_
  refine cK dCo rfl fun K hK=>?_;conv=>whnf
  refine lD h (rfl) fun hx92 h=>?_;conv=>whnf
  refine bKo rfl ?_;conv=>whnf
  refine yL (enc:=eI) (d:=default) (q:=0) h (fun _=>rfl) (rfl) hx92 rfl (nle rfl) rfl rfl (fun h=>?_);conv=>whnf
  refine hK _ _ _ ?_
  refine iBn ?_
  refine tHn ?_
  refine aB dCo rfl fun K hK=>?_;conv=>whnf
  refine hK _ _ _ ?_
  refine vL 8 (enc:=eI) (e:=3) default (fI dCo rfl rfl rfl (fun _=>⟨rfl,rfl⟩)) ?_;(conv=>whnf);refine ⟨_,_,rfl,(oQ rfl).symm,rfl,?_⟩
  refine aJ ?_
  replace h:=aI h
  refine aE dCo fun K hK=>?_;conv=>whnf
  refine hK _ ?_
  cases h
  exact Wk.refl _
 refine hK2 ?_
 refine aB dCo rfl fun K hK=>?_;conv=>whnf
 refine hK _ _ _ ?_
 replace h:=eW h
 refine aT fun K1 K2 hK1 hK2=>?_;conv=>whnf
 refine cLk h (fun _ h=>?_) (fun _ h=>?_)
 ·refine hK1 ?_
  refine cK dCo rfl fun K hK=>?_;conv=>whnf
  refine lD h (rfl) fun hx99 h=>?_;conv=>whnf
  refine nlA rfl ?_;conv=>whnf
  refine bKo rfl ?_;conv=>whnf
  refine wM (enc:=eI) (d:=default) (q:=0) (fun _=>rfl) (rfl) hx99 (nle rfl) rfl ?_;conv=>whnf
  refine lD h (rfl) fun hx100 h=>?_;conv=>whnf
  refine bKo rfl ?_;conv=>whnf
  refine yL (enc:=eI) (d:=default) (q:=0) h (fun _=>rfl) (rfl) hx100 rfl (nle rfl) rfl rfl (fun h=>?_);conv=>whnf
  refine hK _ _ _ ?_
  refine iBn ?_
  refine tHn ?_
  refine aB dCo rfl fun K hK=>?_;conv=>whnf
  refine hK _ _ _ ?_
  refine vL 8 (enc:=eI) (e:=3) default (fI dCo rfl rfl rfl (fun _=>⟨rfl,rfl⟩)) ?_;(conv=>whnf);refine ⟨_,_,rfl,(oQ rfl).symm,rfl,?_⟩
  refine aJ ?_
  replace h:=aI h
  refine aE dCo fun K hK=>?_;conv=>whnf
  refine hK _ ?_
  cases h
  exact Wk.refl _
 refine hK2 ?_
 refine aB dCo rfl fun K hK=>?_;conv=>whnf
 refine hK _ _ _ ?_
 replace h:=eW h
 refine aT fun K1 K2 hK1 hK2=>?_;conv=>whnf
 refine cLk h (fun _ h=>?_) (fun _ h=>?_)
 ·refine hK1 ?_
  refine cK dCo rfl fun K hK=>?_;conv=>whnf
  refine lD h (rfl) fun hx103 h=>?_;conv=>whnf
  refine nlA rfl ?_;conv=>whnf
  refine bKo rfl ?_;conv=>whnf
  refine wM (enc:=eI) (d:=default) (q:=0) (fun _=>rfl) (rfl) hx103 (nle rfl) rfl ?_;conv=>whnf
  refine lD h (rfl) fun hx104 h=>?_;conv=>whnf
  refine bKo rfl ?_;conv=>whnf
  refine yL (enc:=eI) (d:=default) (q:=0) h (fun _=>rfl) (rfl) hx104 rfl (nle rfl) rfl rfl (fun h=>?_);conv=>whnf
  refine hK _ _ _ ?_
  refine iBn ?_
  refine tHn ?_
  refine aB dCo rfl fun K hK=>?_;conv=>whnf
  refine hK _ _ _ ?_
  refine vL 8 (enc:=eI) (e:=3) default (fI dCo rfl rfl rfl (fun _=>⟨rfl,rfl⟩)) ?_;(conv=>whnf);refine ⟨_,_,rfl,(oQ rfl).symm,rfl,?_⟩
  refine aJ ?_
  replace h:=aI h
  refine aE dCo fun K hK=>?_;conv=>whnf
  refine hK _ ?_
  cases h
  exact Wk.refl _
 refine hK2 ?_
 refine cK dCo rfl fun K hK=>?_;conv=>whnf
 refine hZ (enc:=eI) (d:=default) dCo h rfl rfl rfl ⟨nle rfl,nle rfl,rfl⟩ rfl ⟨⟨rfl,rfl,rfl⟩,trivial⟩ (fun h=>?_);conv=>whnf
 refine aCi (enc:=eI) (d:=default) dCo h rfl rfl rfl ⟨rfl,nle rfl,nle rfl,nle rfl,rfl⟩ (fun _=>rfl) (fun _=>rfl) (fun _=>nofun) rfl (rfl) (fun h=>?_);conv=>whnf
 refine hK _ _ _ ?_
 refine iBn ?_
 refine tHn ?_
 refine aB dCo rfl fun K hK=>?_;conv=>whnf
 refine hK _ _ _ ?_
 refine vL 8 (enc:=eI) (e:=3) default (fI dCo rfl rfl rfl (fun _=>⟨rfl,rfl⟩)) ?_;(conv=>whnf);refine ⟨_,_,rfl,rfl,rfl,?_⟩
 refine aJ ?_
 replace h:=aI h
 refine aE dCo fun K hK=>?_;conv=>whnf
 refine hK _ ?_
 cases h
 exact Wk.refl _
theorem pC {T:Tbl} (hT:T 32=aH mC) {args:List AV} {hp:bF} {id:Nat} {k:AV→Prop} {a0:List Int} {a1:Int} {a2:Int} {a3:Int} {Φ:List Int→Prop} (h:W (gC a0 a1 a2 a3) Φ) (hw:WkL args [(eL 1 eI default) a0,eI a1,eI a2,eI a3]) (hk:∀ y,Φ y→k ((eL 1 eI default) y)):bZ T 32 args hp id k:=by
 obtain ⟨y,e,hy⟩:=dL h
 exact aS hT ⟨a0,a1,a2,a3,rfl,kS e rfl⟩ (by exact (lsL fun _=>(lsI _ _))) hw (hk y hy)
def nZ (a2:Int) (y3:Int) (s16:bG):Option (Ct bG bG):=bd (fO a2 3) fun y17=>
  cn (decide ((s16.Edges.length:Int)<(wr (39+y17)))) (gd ((0:Int)≤y3∧y3<(s16.Edges.length:Int)) (lt ([(s16.Edges.getD (y3).toNat default)]:List dE) fun l18=>
  ap s16.Edges l18 fun l19=>some (.nx (⟨s16.N,l19⟩:bG)))) (some (.bk s16))
def pI (a0:bG) (a1:Int) (a2:Int) (a3:Int):Option bG:=lt ([]:List dE) fun l1=>gd (a0.Edges.length≤1048576) (lt a0.Edges fun l2=>
  cn ((l2.length:Int)==0) (some (⟨a2,l2⟩:bG)) (bd (fO a3 (l2.length:Int)) fun y3=>bd (fO a1 5) fun y4=>jn (fun p5:bG=>
  some (⟨p5.N,p5.Edges⟩:bG)) fun k6=>cn (y4==0) (k6 (⟨a2,l2⟩:bG)) (jn (fun p7:bG=>k6 p7) fun k8=>cn (y4 ==
  1) (gd ((0:Int)≤y3∧y3<(l2.length:Int)) (st l2 (y3) (⟨a2,(l2.getD (y3).toNat default).To,(l2.getD (y3).toNat default).Capacity⟩:dE) fun l9=>
  k8 (⟨a0.N,l9⟩:bG))) (jn (fun p10:bG=>k8 p10) fun k11=>cn (y4 ==
  2) (gd ((0:Int)≤y3∧y3<(l2.length:Int)) (st l2 (y3) (⟨(l2.getD (y3).toNat default).From,a2,(l2.getD (y3).toNat default).Capacity⟩:dE) fun l12=>
  k11 (⟨a0.N,l12⟩:bG))) (jn (fun p13:bG=>k11 p13) fun k14=>cn (y4 ==
  3) (gd ((0:Int)≤y3∧y3<(l2.length:Int)) (st l2 (y3) (⟨(l2.getD (y3).toNat default).From,(l2.getD (y3).toNat default).To,a2⟩:dE) fun l15=>
  k14 (⟨a0.N,l15⟩:bG))) (bd (lp (nZ a2 y3) FU (⟨a0.N,l2⟩:bG)) fun c20=>smK c20 (fun s21=>k14 s21) (fun r22=>some r22)))))))
def rP:List AV→AV→Prop:=fun args r=>∃ a0 a1 a2 a3,args=[fF a0,eI a1,eI a2,eI a3]∧W (pI a0 a1 a2 a3) fun y=>r=(fF y)
theorem aFi {T:Tbl} (hT:TOk Tryz.prog T) (hpf:cI T PF) (h60:T 60=aH nN):FOk Tryz.prog 31 (aH rP):=by
 refine bB hT hpf Tryz.func31 rfl Tryz.ntmps31 Tryz.results31 (by decide) ?_
 rintro args r ⟨a0,a1,a2,a3,rfl,h⟩
 refine ⟨nle rfl,?_,?_⟩
 ·exact (lsC (fA _) (lsC (lsI _ _) (lsC (lsI _ _) (lsC (lsI _ _) lsN))))
 rw [pI.eq_1] at h
 refine aB dCo rfl fun K hK=>?_;conv=>whnf
 refine hK _ _ _ ?_
 refine iZ dCo cJ rfl (by kernel_rfl) fun K hK=>?_;conv=>whnf
 refine nlA rfl ?_;conv=>whnf
 refine bKo rfl ?_;conv=>whnf
 refine gKo rfl ?_;conv=>whnf
 refine hZ (enc:=bM) (d:=default) dCo h rfl rfl rfl ⟨nle rfl,nle rfl,rfl⟩ rfl trivial (fun h=>?_);conv=>whnf
 refine nlA rfl ?_;conv=>whnf
 refine bKo rfl ?_;conv=>whnf
 refine gKo rfl ?_;conv=>whnf
 refine vF h fun hg h=>?_
 replace h:=aKQ h
 refine xW (enc:=bM) (d:=default) dCo rfl rfl rfl ⟨rfl,nle rfl,nle rfl,nle rfl,rfl⟩ (fun _=>rfl) (fun _=>nofun) hg ?_;conv=>whnf
 refine bKo rfl ?_;conv=>whnf
 refine And.intro rfl (And.intro (nle rfl) (And.intro rfl ?_));conv=>whnf
 refine hK _ _ _ ?_
 refine aL ?_
 refine aB dCo rfl fun K hK=>?_;conv=>whnf
 refine nlA rfl ?_;conv=>whnf
 refine bKo rfl ?_;conv=>whnf
 refine gKo rfl ?_;conv=>whnf
 refine hK _ _ _ ?_
 refine aT fun K1 K2 hK1 hK2=>?_;conv=>whnf
 refine cLk h (fun _ h=>?_) (fun _ h=>?_)
 ·refine hK1 ?_
  refine aB dCo rfl fun K hK=>?_;conv=>whnf
  refine bKo rfl ?_;conv=>whnf
  refine And.intro rfl (And.intro (nle rfl) (And.intro rfl ?_));conv=>whnf
  refine hK _ _ _ ?_
  refine cG 9 1 (enc:=bM) (e:=67) default (eV dCo rfl rfl (fun _=>rfl) (fun _=>rfl)) ?_;(conv=>whnf);refine ⟨_,_,_,(Nat.ne_of_beq_eq_false rfl),rfl,rfl,rfl,rfl,?_⟩;conv=>whnf
  refine aB dCo rfl fun K hK=>?_;conv=>whnf
  refine nlA rfl ?_;conv=>whnf
  refine bKo rfl ?_;conv=>whnf
  refine nlA rfl ?_;conv=>whnf
  refine bKo rfl ?_;conv=>whnf
  refine And.intro rfl (And.intro (nle rfl) (And.intro rfl ?_));conv=>whnf
  refine hK _ _ _ ?_
  refine aJ ?_
  refine aM ?_
  replace h:=aI h
  refine aE dCo fun K hK=>?_;conv=>whnf
  refine nlA rfl ?_;conv=>whnf
  refine bKo rfl ?_;conv=>whnf
  refine nlA rfl ?_;conv=>whnf
  refine hK _ ?_
  cases h
  exact Wk.refl _
 refine hK2 ?_
 refine aK ?_
 refine tHn ?_
 refine aB dCo rfl fun K hK=>?_;conv=>whnf
 refine nlA rfl ?_;conv=>whnf
 refine bKo rfl ?_;conv=>whnf
 refine gKo rfl ?_;conv=>whnf
 replace h:=bE h
 refine fV h60 h (WkL.refl _) (fun _ h=>?_);conv=>whnf
 refine hK _ _ _ ?_
 refine aL ?_
 refine aB dCo rfl fun K hK=>?_;conv=>whnf
 replace h:=bE h
 refine fV h60 h (WkL.refl _) (fun _ h=>?_);conv=>whnf
 refine hK _ _ _ ?_
 refine aN ?_
 refine aB dCo rfl fun K hK=>?_;conv=>whnf
 refine hK _ _ _ ?_
 replace h:=eW h
 refine aT fun K1 K2 hK1 hK2=>?_;conv=>whnf
 refine cLk h (fun _ h=>?_) (fun _ h=>?_)
 ·refine hK1 ?_
  refine cK dCo rfl fun K hK=>?_;conv=>whnf
  refine bKo rfl ?_;conv=>whnf
  refine And.intro rfl (And.intro (nle rfl) (And.intro rfl ?_));conv=>whnf
  refine hK _ _ _ ?_
  refine iBn ?_
  refine tHn ?_
  refine cG 9 1 (enc:=bM) (e:=67) default (eV dCo rfl rfl (fun _=>rfl) (fun _=>rfl)) ?_;(conv=>whnf);refine ⟨_,_,_,(Nat.ne_of_beq_eq_false rfl),rfl,rfl,rfl,rfl,?_⟩;conv=>whnf
  refine aB dCo rfl fun K hK=>?_;conv=>whnf
  refine nlA rfl ?_;conv=>whnf
  refine bKo rfl ?_;conv=>whnf
  refine nlA rfl ?_;conv=>whnf
  refine bKo rfl ?_;conv=>whnf
  refine And.intro rfl (And.intro (nle rfl) (And.intro rfl ?_));conv=>whnf
  refine hK _ _ _ ?_
  refine aJ ?_
  replace h:=aI h
  refine aE dCo fun K hK=>?_;conv=>whnf
  refine nlA rfl ?_;conv=>whnf
  refine bKo rfl ?_;conv=>whnf
  refine nlA rfl ?_;conv=>whnf
  refine hK _ ?_
  cases h
  exact Wk.refl _
 refine hK2 ?_
 refine aB dCo rfl fun K hK=>?_;conv=>whnf
 refine hK _ _ _ ?_
 replace h:=eW h
 refine aT fun K1 K2 hK1 hK2=>?_;conv=>whnf
 refine cLk h (fun _ h=>?_) (fun _ h=>?_)
 ·refine hK1 ?_
  refine cK dCo rfl fun K hK=>?_;conv=>whnf
  refine nlA rfl ?_;conv=>whnf
  refine bKo rfl ?_;conv=>whnf
  refine gKo rfl ?_;conv=>whnf
  refine lD h (rfl) fun hx452 h=>?_;conv=>whnf
  refine bKo rfl ?_;conv=>whnf
  refine yL (enc:=bM) (d:=default) (q:=0) h (fun _=>rfl) (rfl) hx452 rfl (nle rfl) rfl rfl (fun h=>?_);conv=>whnf
  refine hK _ _ _ ?_
  refine iBn ?_
  refine tHn ?_
  refine cG 9 1 (enc:=bM) (e:=67) default (eV dCo rfl rfl (fun _=>rfl) (fun _=>rfl)) ?_;(conv=>whnf);refine ⟨_,_,_,(Nat.ne_of_beq_eq_false rfl),rfl,rfl,(oQ rfl).symm,rfl,?_⟩;conv=>whnf
  refine aB dCo rfl fun K hK=>?_;conv=>whnf
  refine nlA rfl ?_;conv=>whnf
  refine bKo rfl ?_;conv=>whnf
  refine nlA rfl ?_;conv=>whnf
  refine bKo rfl ?_;conv=>whnf
  refine And.intro rfl (And.intro (nle rfl) (And.intro rfl ?_));conv=>whnf
  refine hK _ _ _ ?_
  refine aJ ?_
  replace h:=aI h
  refine aE dCo fun K hK=>?_;conv=>whnf
  refine nlA rfl ?_;conv=>whnf
  refine bKo rfl ?_;conv=>whnf
  refine nlA rfl ?_;conv=>whnf
  refine hK _ ?_
  cases h
  exact Wk.refl _
 refine hK2 ?_
 refine aB dCo rfl fun K hK=>?_;conv=>whnf
 refine hK _ _ _ ?_
 replace h:=eW h
 refine aT fun K1 K2 hK1 hK2=>?_;conv=>whnf
 refine cLk h (fun _ h=>?_) (fun _ h=>?_)
 ·refine hK1 ?_
  refine cK dCo rfl fun K hK=>?_;conv=>whnf
  refine nlA rfl ?_;conv=>whnf
  refine bKo rfl ?_;conv=>whnf
  refine gKo rfl ?_;conv=>whnf
  refine lD h (rfl) fun hx464 h=>?_;conv=>whnf
  refine bKo rfl ?_;conv=>whnf
  refine yL (enc:=bM) (d:=default) (q:=1) h (fun _=>rfl) (rfl) hx464 rfl (nle rfl) rfl rfl (fun h=>?_);conv=>whnf
  refine hK _ _ _ ?_
  refine iBn ?_
  refine tHn ?_
  refine cG 9 1 (enc:=bM) (e:=67) default (eV dCo rfl rfl (fun _=>rfl) (fun _=>rfl)) ?_;(conv=>whnf);refine ⟨_,_,_,(Nat.ne_of_beq_eq_false rfl),rfl,rfl,(oQ rfl).symm,rfl,?_⟩;conv=>whnf
  refine aB dCo rfl fun K hK=>?_;conv=>whnf
  refine nlA rfl ?_;conv=>whnf
  refine bKo rfl ?_;conv=>whnf
  refine nlA rfl ?_;conv=>whnf
  refine bKo rfl ?_;conv=>whnf
  refine And.intro rfl (And.intro (nle rfl) (And.intro rfl ?_));conv=>whnf
  refine hK _ _ _ ?_
  refine aJ ?_
  replace h:=aI h
  refine aE dCo fun K hK=>?_;conv=>whnf
  refine nlA rfl ?_;conv=>whnf
  refine bKo rfl ?_;conv=>whnf
  refine nlA rfl ?_;conv=>whnf
  refine hK _ ?_
  cases h
  exact Wk.refl _
 refine hK2 ?_
 refine aB dCo rfl fun K hK=>?_;conv=>whnf
 refine hK _ _ _ ?_
 replace h:=eW h
 refine aT fun K1 K2 hK1 hK2=>?_;conv=>whnf
 refine cLk h (fun _ h=>?_) (fun _ h=>?_)
 ·refine hK1 ?_
  refine cK dCo rfl fun K hK=>?_;conv=>whnf
  refine nlA rfl ?_;conv=>whnf
  refine bKo rfl ?_;conv=>whnf
  refine gKo rfl ?_;conv=>whnf
  refine lD h (rfl) fun hx470 h=>?_;conv=>whnf
  refine bKo rfl ?_;conv=>whnf
  refine yL (enc:=bM) (d:=default) (q:=2) h (fun _=>rfl) (rfl) hx470 rfl (nle rfl) rfl rfl (fun h=>?_);conv=>whnf
  refine hK _ _ _ ?_
  refine iBn ?_
  refine tHn ?_
  refine cG 9 1 (enc:=bM) (e:=67) default (eV dCo rfl rfl (fun _=>rfl) (fun _=>rfl)) ?_;(conv=>whnf);refine ⟨_,_,_,(Nat.ne_of_beq_eq_false rfl),rfl,rfl,(oQ rfl).symm,rfl,?_⟩;conv=>whnf
  refine aB dCo rfl fun K hK=>?_;conv=>whnf
  refine nlA rfl ?_;conv=>whnf
  refine bKo rfl ?_;conv=>whnf
  refine nlA rfl ?_;conv=>whnf
  refine bKo rfl ?_;conv=>whnf
  refine And.intro rfl (And.intro (nle rfl) (And.intro rfl ?_));conv=>whnf
  refine hK _ _ _ ?_
  refine aJ ?_
  replace h:=aI h
  refine aE dCo fun K hK=>?_;conv=>whnf
  refine nlA rfl ?_;conv=>whnf
  refine bKo rfl ?_;conv=>whnf
  refine nlA rfl ?_;conv=>whnf
  refine hK _ ?_
  cases h
  exact Wk.refl _
 refine hK2 ?_
 refine aN ?_
 replace h:=bE h
 refine xO (body:=nZ _ _) rfl h [2,8,9,10] [8] [] [9] (fun kl kh kr ids b s=>⟨ofL ([]++kl),ofH (([(aEe ids 0,.cells [eI s.N,.so (b+0) 0 s.Edges.length 3])]++kh)++([(b+0,.cells (flE (ceE bM) s.Edges))]++kr)),b+128⟩) ?_;(conv=>whnf);refine And.intro ?_ (fun s m h=>dY ?_)
 ·refine gQ ?_;conv=>whnf
  exact And.intro rfl (And.intro (aLc wkI (aLc (WkR.ptr (fun _=>rfl)) (aLc (WkR.ptr (fun _=>rfl)) (aLc wkI aLn)))) (aLc ⟨some _,rfl,bRc rfl (cKc wkI (cKc (WkR.so (fun _=>rfl)) cKn))⟩ (aLc ⟨some _,rfl,bRc rfl (cKc wkI (cKc (wkr aG) cKn))⟩ (aLc ⟨some _,rfl,jP rfl (fun _=>(lsC (lsI _ _) (lsC (lsI _ _) (lsC (lsI _ _) lsN))))⟩ aLn))))
 replace h:=bE h;rw [nZ.eq_1] at h
 refine aL ?_
 refine iZ dCo cJ rfl (by kernel_rfl) fun K hK=>?_;conv=>whnf
 refine nlA rfl ?_;conv=>whnf
 refine bKo rfl ?_;conv=>whnf
 refine gKo rfl ?_;conv=>whnf
 replace h:=bE h
 refine fV h60 h (WkL.refl _) (fun _ h=>?_);conv=>whnf
 refine hK _ _ _ ?_
 refine aT fun K1 K2 hK1 hK2=>?_;conv=>whnf
 refine cLk h (fun _ h=>?_) (fun _ h=>?_)
 ·refine hK1 ?_
  refine aK ?_
  refine tHn ?_
  refine aN ?_
  refine zU dCo cJ rfl (by kernel_rfl) fun K hK=>?_;conv=>whnf
  refine nlA rfl ?_;conv=>whnf
  refine bKo rfl ?_;conv=>whnf
  refine gKo rfl ?_;conv=>whnf
  refine nlA rfl ?_;conv=>whnf
  refine bKo rfl ?_;conv=>whnf
  refine gKo rfl ?_;conv=>whnf
  refine lD h (rfl) fun hx476 h=>?_;conv=>whnf
  refine nlA rfl ?_;conv=>whnf
  refine bKo rfl ?_;conv=>whnf
  refine aHH (enc:=bM) (d:=default) (fun _=>rfl) (rfl) hx476 ?_;conv=>whnf
  refine hZ (enc:=bM) (d:=default) dCo h rfl rfl rfl ⟨nle rfl,nle rfl,rfl⟩ rfl ⟨⟨rfl,nle rfl⟩,trivial⟩ (fun h=>?_);conv=>whnf
  refine aCi (enc:=bM) (d:=default) dCo h rfl rfl rfl ⟨rfl,nle rfl,nle rfl,nle rfl,rfl⟩ (fun _=>rfl) (fun _=>rfl) (fun _=>nofun) rfl (rfl) (fun h=>?_);conv=>whnf
  refine bKo rfl ?_;conv=>whnf
  refine And.intro rfl (And.intro (nle rfl) (And.intro rfl ?_));conv=>whnf
  refine hK _ _ _ ?_
  refine iBn ?_
  refine tHn ?_
  replace h:=bY h
  refine ⟨_,h,?_⟩
  refine gQ ?_;conv=>whnf
  exact And.intro rfl (And.intro (aLc wkI (aLc (WkR.ptr (fun _=>rfl)) (aLc (WkR.ptr (fun _=>rfl)) (aLc wkI aLn)))) (aLc ⟨some _,rfl,bRc rfl (cKc wkI (cKc (WkR.so (fun _=>rfl)) cKn))⟩ (aLc ⟨some _,rfl,bRc rfl (cKc wkI (cKc (wkr aG) cKn))⟩ (aLc ⟨some _,rfl,jP rfl (fun _=>(lsC (lsI _ _) (lsC (lsI _ _) (lsC (lsI _ _) lsN))))⟩ aLn))))
 refine hK2 ?_
 refine bN ?_
 refine aW ?_
 refine aW ?_
 refine aV ?_
 replace h:=eA h
 replace h:=dZ h
 refine iBn ?_
 refine tHn ?_
 refine cG 9 1 (enc:=bM) (e:=67) default (eV dCo rfl rfl (fun _=>rfl) (fun _=>rfl)) ?_;(conv=>whnf);refine ⟨_,_,_,(Nat.ne_of_beq_eq_false rfl),rfl,rfl,rfl,rfl,?_⟩;conv=>whnf
 refine aB dCo rfl fun K hK=>?_;conv=>whnf
 refine nlA rfl ?_;conv=>whnf
 refine bKo rfl ?_;conv=>whnf
 refine nlA rfl ?_;conv=>whnf
 refine bKo rfl ?_;conv=>whnf
 refine And.intro rfl (And.intro (nle rfl) (And.intro rfl ?_));conv=>whnf
 refine hK _ _ _ ?_
 refine aJ ?_
 replace h:=aI h
 refine aE dCo fun K hK=>?_;conv=>whnf
 refine nlA rfl ?_;conv=>whnf
 refine bKo rfl ?_;conv=>whnf
 refine nlA rfl ?_;conv=>whnf
 refine hK _ ?_
 cases h
 exact Wk.refl _
theorem aB1 {T:Tbl} (hT:T 31=aH rP) {args:List AV} {hp:bF} {id:Nat} {k:AV→Prop} {a0:bG} {a1:Int} {a2:Int} {a3:Int} {Φ:bG→Prop} (h:W (pI a0 a1 a2 a3) Φ) (hw:WkL args [fF a0,eI a1,eI a2,eI a3]) (hk:∀ y,Φ y→k (fF y)):bZ T 31 args hp id k:=by
 obtain ⟨y,e,hy⟩:=dL h
 exact aS hT ⟨a0,a1,a2,a3,rfl,kS e rfl⟩ (by exact (fA _)) hw (hk y hy)
def oP (a0:bG) (s4:Int):Option (Ct Int Bool):=cn (decide (s4<(a0.Edges.length:Int))) (ix a0.Edges default s4 fun e5=>jn (fun p6:Bool=>
  cn p6 (some (.rt false)) (some (.nx (wr (s4+1))))) fun k7=>bd (jA e5.From 0 (wr (a0.N-1))) fun y8=>
  cn (!y8) (k7 true) (bd (jA e5.To 0 (wr (a0.N-1))) fun y9=>cn (!y9) (k7 true) (cn (e5.From==e5.To) (k7 true) (bd (jA e5.Capacity 0 10000) fun y10=>
  k7 (!y10))))) (some (.bk s4))
def kD (a0:bG):Option Bool:=jn (fun p1:Bool=>cn p1 (some false) (bd (lp (oP a0) FU 0) fun c11=>smK c11 (fun s12=>some true) (fun r13=>
  some r13))) fun k2=>bd (jA a0.N 0 12) fun y3=>cn (!y3) (k2 true) (k2 (decide ((a0.Edges.length:Int)>40)))
def lR:List AV→AV→Prop:=fun args r=>∃ a0,args=[fF a0]∧W (kD a0) fun y=>r=(eB y)
theorem aCz {T:Tbl} (hT:TOk Tryz.prog T) (hpf:cI T PF) (h67:T 67=aH nQ):FOk Tryz.prog 41 (aH lR):=by
 refine bB hT hpf Tryz.func41 rfl Tryz.ntmps41 Tryz.results41 (by decide) ?_
 rintro args r ⟨a0,rfl,h⟩
 refine ⟨nle rfl,?_,?_⟩
 ·exact (lsC (fA _) lsN)
 rw [kD.eq_1] at h
 refine aB dCo rfl fun K hK=>?_;conv=>whnf
 refine hK _ _ _ ?_
 refine aL ?_
 refine aB dCo rfl fun K hK=>?_;conv=>whnf
 replace h:=eW h
 refine nlA rfl ?_;conv=>whnf
 refine bKo rfl ?_;conv=>whnf
 refine gKo rfl ?_;conv=>whnf
 replace h:=bE h
 refine jZ h67 h (WkL.refl _) (fun _ h=>?_);conv=>whnf
 refine cLk h (fun _ h=>?_) (fun _ h=>?_)<;>(conv=>whnf)
 ·refine hK _ _ _ ?_
  refine aT fun K1 K2 hK1 hK2=>?_;conv=>whnf
  refine hK1 ?_
  replace h:=kR h
  refine aB dCo rfl fun K hK=>?_;conv=>whnf
  refine hK _ _ _ ?_
  refine aJ ?_
  refine aM ?_
  replace h:=aI h
  refine aE dCo fun K hK=>?_;conv=>whnf
  refine hK _ ?_
  cases h
  exact Wk.refl _
 refine nlA rfl ?_;conv=>whnf
 refine bKo rfl ?_;conv=>whnf
 refine gKo rfl ?_;conv=>whnf
 refine hK _ _ _ ?_
 refine aT fun K1 K2 hK1 hK2=>?_;conv=>whnf
 refine cLk h (fun _ h=>?_) (fun _ h=>?_)
 ·refine hK1 ?_
  refine aB dCo rfl fun K hK=>?_;conv=>whnf
  refine hK _ _ _ ?_
  refine aJ ?_
  refine aM ?_
  replace h:=aI h
  refine aE dCo fun K hK=>?_;conv=>whnf
  refine hK _ ?_
  cases h
  exact Wk.refl _
 refine hK2 ?_
 refine aK ?_
 refine tHn ?_
 refine aL ?_
 refine aB dCo rfl fun K hK=>?_;conv=>whnf
 refine hK _ _ _ ?_
 refine aN ?_
 replace h:=bE h
 refine dS (body:=oP _) rfl h [1] [1] [] (fun kl kh ids b s=>⟨ofL ([(3,eI s)]++kl),ofH ([]++kh),b+64⟩) ?_;(conv=>whnf);refine And.intro ?_ (fun s m h=>dY ?_)
 ·refine aO ?_;conv=>whnf
  exact And.intro rfl (And.intro (aLc wkI (aLc (WkR.ptr (fun _=>rfl)) aLn)) (aLc ⟨some _,rfl,bRc rfl (cKc wkI (cKc (wkr (lsL fun _=>(aC _))) cKn))⟩ aLn))
 replace h:=bE h;rw [oP.eq_1] at h
 refine aL ?_
 refine aB dCo rfl fun K hK=>?_;conv=>whnf
 refine nlA rfl ?_;conv=>whnf
 refine bKo rfl ?_;conv=>whnf
 refine gKo rfl ?_;conv=>whnf
 refine hK _ _ _ ?_
 refine aT fun K1 K2 hK1 hK2=>?_;conv=>whnf
 refine cLk h (fun _ h=>?_) (fun _ h=>?_)
 ·refine hK1 ?_
  refine aK ?_
  refine tHn ?_
  refine aL ?_
  refine aN ?_
  refine aB dCo rfl fun K hK=>?_;conv=>whnf
  refine nlA rfl ?_;conv=>whnf
  refine bKo rfl ?_;conv=>whnf
  refine gKo rfl ?_;conv=>whnf
  refine cA h fun _ h=>?_;conv=>whnf
  refine nlA rfl ?_;conv=>whnf
  refine bKo rfl ?_;conv=>whnf
  refine And.intro rfl (And.intro (nle rfl) (And.intro rfl ?_));conv=>whnf
  refine hK _ _ _ ?_
  refine aB dCo rfl fun K hK=>?_;conv=>whnf
  replace h:=eW h
  refine nlA rfl ?_;conv=>whnf
  refine bKo rfl ?_;conv=>whnf
  refine gKo rfl ?_;conv=>whnf
  refine nlA rfl ?_;conv=>whnf
  refine bKo rfl ?_;conv=>whnf
  refine gKo rfl ?_;conv=>whnf
  replace h:=bE h
  refine jZ h67 h (WkL.refl _) (fun _ h=>?_);conv=>whnf
  refine cLk h (fun _ h=>?_) (fun _ h=>?_)<;>(conv=>whnf)
  ·refine hK _ _ _ ?_
   refine aT fun K1 K2 hK1 hK2=>?_;conv=>whnf
   refine hK1 ?_
   replace h:=kR h
   refine aB dCo rfl fun K hK=>?_;conv=>whnf
   refine hK _ _ _ ?_
   refine aJ ?_
   refine aP ?_
   refine aM ?_
   refine aM ?_
   refine aP ?_
   refine aM ?_
   replace h:=iG h
   replace h:=iF h
   replace h:=aI h
   refine aE dCo fun K hK=>?_;conv=>whnf
   refine hK _ ?_
   cases h
   exact Wk.refl _
  refine nlA rfl ?_;conv=>whnf
  refine bKo rfl ?_;conv=>whnf
  refine gKo rfl ?_;conv=>whnf
  refine nlA rfl ?_;conv=>whnf
  refine bKo rfl ?_;conv=>whnf
  refine gKo rfl ?_;conv=>whnf
  replace h:=bE h
  refine jZ h67 h (WkL.refl _) (fun _ h=>?_);conv=>whnf
  refine cLk h (fun _ h=>?_) (fun _ h=>?_)<;>(conv=>whnf)
  ·refine hK _ _ _ ?_
   refine aT fun K1 K2 hK1 hK2=>?_;conv=>whnf
   refine hK1 ?_
   replace h:=kR h
   refine aB dCo rfl fun K hK=>?_;conv=>whnf
   refine hK _ _ _ ?_
   refine aJ ?_
   refine aP ?_
   refine aM ?_
   refine aM ?_
   refine aP ?_
   refine aM ?_
   replace h:=iG h
   replace h:=iF h
   replace h:=aI h
   refine aE dCo fun K hK=>?_;conv=>whnf
   refine hK _ ?_
   cases h
   exact Wk.refl _
  refine nlA rfl ?_;conv=>whnf
  refine bKo rfl ?_;conv=>whnf
  refine gKo rfl ?_;conv=>whnf
  refine nlA rfl ?_;conv=>whnf
  refine bKo rfl ?_;conv=>whnf
  refine gKo rfl ?_;conv=>whnf
  refine cLk h (fun _ h=>?_) (fun _ h=>?_)<;>(conv=>whnf)
  ·refine hK _ _ _ ?_
   refine aT fun K1 K2 hK1 hK2=>?_;conv=>whnf
   refine hK1 ?_
   replace h:=kR h
   refine aB dCo rfl fun K hK=>?_;conv=>whnf
   refine hK _ _ _ ?_
   refine aJ ?_
   refine aP ?_
   refine aM ?_
   refine aM ?_
   refine aP ?_
   refine aM ?_
   replace h:=iG h
   replace h:=iF h
   replace h:=aI h
   refine aE dCo fun K hK=>?_;conv=>whnf
   refine hK _ ?_
   cases h
   exact Wk.refl _
  refine nlA rfl ?_;conv=>whnf
  refine bKo rfl ?_;conv=>whnf
  refine gKo rfl ?_;conv=>whnf
  replace h:=bE h
  refine jZ h67 h (WkL.refl _) (fun _ h=>?_);conv=>whnf
  refine hK _ _ _ ?_
  refine aT fun K1 K2 hK1 hK2=>?_;conv=>whnf
  refine cLk h (fun _ h=>?_) (fun _ h=>?_)
  ·refine hK1 ?_
   refine aB dCo rfl fun K hK=>?_;conv=>whnf
   refine hK _ _ _ ?_
   refine aJ ?_
   refine aP ?_
   refine aM ?_
   refine aM ?_
   refine aP ?_
   refine aM ?_
   replace h:=iG h
   replace h:=iF h
   replace h:=aI h
   refine aE dCo fun K hK=>?_;conv=>whnf
   refine hK _ ?_
   cases h
   exact Wk.refl _
  refine hK2 ?_
  refine aK ?_
  refine iBn ?_
  refine tHn ?_
  refine cK dCo rfl fun K hK=>?_;conv=>whnf
  refine hK _ _ _ ?_
  refine tHn ?_
  replace h:=bY h
  refine ⟨_,h,?_⟩
  refine aO ?_;conv=>whnf
  exact And.intro rfl (And.intro (aLc wkI (aLc (WkR.ptr (fun _=>rfl)) aLn)) (aLc ⟨some _,rfl,bRc rfl (cKc wkI (cKc (wkr (lsL fun _=>(aC _))) cKn))⟩ aLn))
 refine hK2 ?_
 refine bN ?_
 refine aW ?_
 refine aW ?_
 refine aV ?_
 replace h:=eA h
 replace h:=dZ h
 refine tHn ?_
 refine aB dCo rfl fun K hK=>?_;conv=>whnf
 refine hK _ _ _ ?_
 refine aJ ?_
 replace h:=aI h
 refine aE dCo fun K hK=>?_;conv=>whnf
 refine hK _ ?_
 cases h
 exact Wk.refl _
theorem sL {T:Tbl} (hT:T 41=aH lR) {args:List AV} {hp:bF} {id:Nat} {k:AV→Prop} {a0:bG} {Φ:Bool→Prop} (h:W (kD a0) Φ) (hw:WkL args [fF a0]) (hk:∀ y,Φ y→k (eB y)):bZ T 41 args hp id k:=by
 obtain ⟨y,e,hy⟩:=dL h
 exact aS hT ⟨a0,rfl,kS e rfl⟩ (by exact (lsB _)) hw (hk y hy)
  def jR (a0:bG) (a1:Int) (s5:Int×bG):Option (Ct (Int×bG) (bG×Int)):=cn (decide (s5.1<(a0.Edges.length:Int))) (ix a0.Edges default s5.1 fun e6=>
  bd (lO a1 s5.1) fun y7=>jn (fun p8:dE=>lt ([p8]:List dE) fun l10=>ap s5.2.Edges l10 fun l11=>
  some (.nx ((wr (s5.1+1)),(⟨s5.2.N,l11⟩:bG)))) fun k9=>cn y7 (k9 (⟨e6.From,e6.To,0⟩:dE)) (k9 e6)) (some (.bk (s5.1,s5.2)))
def gR (a0:bG) (a1:Int):Option (bG×Int):=jn (fun p1:Bool=>
  cn p1 (some ((⟨0,[]⟩:bG),270)) (bd (lp (jR a0 a1) FU (0,(⟨a0.N,[]⟩:bG))) fun c12=>smK c12 (fun s13=>some (s13.2,0)) (fun r14=>
  some r14))) fun k2=>bd (kD a0) fun y3=>
  cn (!y3) (k2 true) (gd (0≤(a0.Edges.length:Int)) (bd (jA a1 0 (wr ((aAw .i64 1 (a0.Edges.length:Int))-1))) fun y4=>k2 (!y4)))
def nJ:List AV→AV→Prop:=fun args r=>∃ a0 a1,args=[fF a0,eI a1]∧W (gR a0 a1) fun y=>r=(.tup [fF y.1,eI y.2])
theorem aAX {T:Tbl} (hT:TOk Tryz.prog T) (hpf:cI T PF) (h41:T 41=aH lR) (h67:T 67=aH nQ) (h68:T 68=aH pD):FOk Tryz.prog 49 (aH nJ):=by
 refine bB hT hpf Tryz.func49 rfl Tryz.ntmps49 Tryz.results49 (by decide) ?_
 rintro args r ⟨a0,a1,rfl,h⟩
 refine ⟨nle rfl,?_,?_⟩
 ·exact (lsC (fA _) (lsC (lsI _ _) lsN))
 rw [gR.eq_1] at h
 refine aB dCo rfl fun K hK=>?_;conv=>whnf
 refine hK _ _ _ ?_
 refine aL ?_
 refine aB dCo rfl fun K hK=>?_;conv=>whnf
 replace h:=eW h
 refine nlA rfl ?_;conv=>whnf
 refine bKo rfl ?_;conv=>whnf
 refine nlA rfl ?_;conv=>whnf
 replace h:=bE h
 refine sL h41 h (WkL.refl _) (fun _ h=>?_);conv=>whnf
 refine cLk h (fun _ h=>?_) (fun _ h=>?_)<;>(conv=>whnf)
 ·refine hK _ _ _ ?_
  refine aT fun K1 K2 hK1 hK2=>?_;conv=>whnf
  refine hK1 ?_
  replace h:=kR h
  refine aB dCo rfl fun K hK=>?_;conv=>whnf
  refine bKo rfl ?_;conv=>whnf
  refine And.intro rfl (And.intro (nle rfl) (And.intro rfl ?_));conv=>whnf
  refine hK _ _ _ ?_
  refine aJ ?_
  refine aM ?_
  replace h:=aI h
  refine aE dCo fun K hK=>?_;conv=>whnf
  refine nlA rfl ?_;conv=>whnf
  refine bKo rfl ?_;conv=>whnf
  refine nlA rfl ?_;conv=>whnf
  refine hK _ ?_
  cases h
  exact pV (aF (fL (aF (Wk.refl _) (aF jI bO))) (aF (Wk.refl _) bO))
 refine nlA rfl ?_;conv=>whnf
 refine bKo rfl ?_;conv=>whnf
 refine gKo rfl ?_;conv=>whnf
 refine kQ h fun _ h=>?_;conv=>whnf
 replace h:=bE h
 refine jZ h67 h (WkL.refl _) (fun _ h=>?_);conv=>whnf
 refine hK _ _ _ ?_
 refine aT fun K1 K2 hK1 hK2=>?_;conv=>whnf
 refine cLk h (fun _ h=>?_) (fun _ h=>?_)
 ·refine hK1 ?_
  refine aB dCo rfl fun K hK=>?_;conv=>whnf
  refine bKo rfl ?_;conv=>whnf
  refine And.intro rfl (And.intro (nle rfl) (And.intro rfl ?_));conv=>whnf
  refine hK _ _ _ ?_
  refine aJ ?_
  refine aM ?_
  replace h:=aI h
  refine aE dCo fun K hK=>?_;conv=>whnf
  refine nlA rfl ?_;conv=>whnf
  refine bKo rfl ?_;conv=>whnf
  refine nlA rfl ?_;conv=>whnf
  refine hK _ ?_
  cases h
  exact pV (aF (fL (aF (Wk.refl _) (aF jI bO))) (aF (Wk.refl _) bO))
 refine hK2 ?_
 refine aK ?_
 refine tHn ?_
 refine aB dCo rfl fun K hK=>?_;conv=>whnf
 refine nlA rfl ?_;conv=>whnf
 refine bKo rfl ?_;conv=>whnf
 refine gKo rfl ?_;conv=>whnf
 refine bKo rfl ?_;conv=>whnf
 refine And.intro rfl (And.intro (nle rfl) (And.intro rfl ?_));conv=>whnf
 refine hK _ _ _ ?_
 refine aL ?_
 refine aB dCo rfl fun K hK=>?_;conv=>whnf
 refine hK _ _ _ ?_
 refine aN ?_
 replace h:=bE h
 refine dS (body:=jR _ _) rfl h [1,2,4,6] [2,4] [6] (fun kl kh ids b s=>⟨ofL ([(7,eI s.1)]++kl),ofH ([(aEe ids 0,.cells [eI s.2.N,.lst (.tok (b+0)) 3 s.2.Edges.length (fun j=>bM (s.2.Edges.getD j default))]),(b+0,.cells [])]++kh),b+128⟩) ?_;(conv=>whnf);refine And.intro ?_ (fun s m h=>dY ?_)
 ·refine aO ?_;conv=>whnf
  exact And.intro rfl (And.intro (aLc wkI (aLc wkI (aLc (WkR.ptr (fun _=>rfl)) (aLc (WkR.ptr (fun _=>rfl)) (aLc (WkR.ptr (fun _=>rfl)) aLn))))) (aLc ⟨some _,rfl,bRc rfl (cKc wkI (cKc (WkR.nil (fun _=>rfl)) cKn))⟩ (aLc ⟨none,rfl,yM⟩ (aLc ⟨some _,rfl,bRc rfl (cKc wkI (cKc (wkr (lsL fun _=>(aC _))) cKn))⟩ (aLc ⟨some _,rfl,bRc rfl (cKc wkI (cKc (wkr aG) cKn))⟩ aLn)))))
 replace h:=bE h;rw [jR.eq_1] at h
 refine aL ?_
 refine aB dCo rfl fun K hK=>?_;conv=>whnf
 refine nlA rfl ?_;conv=>whnf
 refine bKo rfl ?_;conv=>whnf
 refine gKo rfl ?_;conv=>whnf
 refine hK _ _ _ ?_
 refine aT fun K1 K2 hK1 hK2=>?_;conv=>whnf
 refine cLk h (fun _ h=>?_) (fun _ h=>?_)
 ·refine hK1 ?_
  refine aK ?_
  refine tHn ?_
  refine aL ?_
  refine aN ?_
  refine aB dCo rfl fun K hK=>?_;conv=>whnf
  refine nlA rfl ?_;conv=>whnf
  refine bKo rfl ?_;conv=>whnf
  refine gKo rfl ?_;conv=>whnf
  refine cA h fun _ h=>?_;conv=>whnf
  refine nlA rfl ?_;conv=>whnf
  refine bKo rfl ?_;conv=>whnf
  refine And.intro rfl (And.intro (nle rfl) (And.intro rfl ?_));conv=>whnf
  refine hK _ _ _ ?_
  refine aL ?_
  refine aB dCo rfl fun K hK=>?_;conv=>whnf
  replace h:=bE h
  refine rJ h68 h (WkL.refl _) (fun _ h=>?_);conv=>whnf
  refine hK _ _ _ ?_
  replace h:=eW h
  refine aT fun K1 K2 hK1 hK2=>?_;conv=>whnf
  refine cLk h (fun _ h=>?_) (fun _ h=>?_)
  ·refine hK1 ?_
   refine cK dCo rfl fun K hK=>?_;conv=>whnf
   refine bKo rfl ?_;conv=>whnf
   refine And.intro rfl (And.intro (nle rfl) (And.intro rfl ?_));conv=>whnf
   refine hK _ _ _ ?_
   refine tHn ?_
   refine cK dCo rfl fun K hK=>?_;conv=>whnf
   refine nlA rfl ?_;conv=>whnf
   refine bKo rfl ?_;conv=>whnf
   refine gKo rfl ?_;conv=>whnf
   refine nlA rfl ?_;conv=>whnf
   refine bKo rfl ?_;conv=>whnf
   refine nlA rfl ?_;conv=>whnf
   refine hZ (enc:=bM) (d:=default) dCo h rfl rfl rfl ⟨nle rfl,nle rfl,rfl⟩ rfl ⟨⟨rfl,nle rfl⟩,trivial⟩ (fun h=>?_);conv=>whnf
   refine sV (enc:=bM) (d:=default) dCo h (.inl rfl) rfl rfl rfl ⟨rfl,nle rfl,nle rfl,nle rfl,rfl⟩ (fun _=>rfl) (.inr (.inr ⟨_,_,rfl,rfl,rfl⟩)) (fun h=>?_);conv=>whnf
   refine bKo rfl ?_;conv=>whnf
   refine And.intro rfl (And.intro (nle rfl) (And.intro rfl ?_));conv=>whnf
   refine hK _ _ _ ?_
   refine iBn ?_
   refine tHn ?_
   refine cK dCo rfl fun K hK=>?_;conv=>whnf
   refine hK _ _ _ ?_
   refine tHn ?_
   replace h:=bY h
   refine ⟨_,h,?_⟩
   refine aO ?_;conv=>whnf
   exact And.intro rfl (And.intro (aLc wkI (aLc wkI (aLc (WkR.ptr (fun _=>rfl)) (aLc (WkR.ptr (fun _=>rfl)) (aLc (WkR.ptr (fun _=>rfl)) aLn))))) (aLc ⟨some _,rfl,bRc rfl (cKc wkI (cKc (WkR.tok (fun _=>rfl) rfl (fun _ _=>Wk.refl _) (fun _=>(aC _))) cKn))⟩ (aLc ⟨some _,rfl,bRc rfl cKn⟩ (aLc ⟨some _,rfl,bRc rfl (cKc wkI (cKc (wkr (lsL fun _=>(aC _))) cKn))⟩ (aLc ⟨some _,rfl,bRc rfl (cKc wkI (cKc (wkr aG) cKn))⟩ aLn)))))
  refine hK2 ?_
  refine aK ?_
  refine tHn ?_
  refine cK dCo rfl fun K hK=>?_;conv=>whnf
  refine nlA rfl ?_;conv=>whnf
  refine bKo rfl ?_;conv=>whnf
  refine gKo rfl ?_;conv=>whnf
  refine nlA rfl ?_;conv=>whnf
  refine bKo rfl ?_;conv=>whnf
  refine nlA rfl ?_;conv=>whnf
  refine hZ (enc:=bM) (d:=default) dCo h rfl rfl rfl ⟨nle rfl,nle rfl,rfl⟩ rfl ⟨⟨rfl,nle rfl⟩,trivial⟩ (fun h=>?_);conv=>whnf
  refine sV (enc:=bM) (d:=default) dCo h (.inl rfl) rfl rfl rfl ⟨rfl,nle rfl,nle rfl,nle rfl,rfl⟩ (fun _=>rfl) (.inr (.inr ⟨_,_,rfl,rfl,rfl⟩)) (fun h=>?_);conv=>whnf
  refine bKo rfl ?_;conv=>whnf
  refine And.intro rfl (And.intro (nle rfl) (And.intro rfl ?_));conv=>whnf
  refine hK _ _ _ ?_
  refine iBn ?_
  refine tHn ?_
  refine cK dCo rfl fun K hK=>?_;conv=>whnf
  refine hK _ _ _ ?_
  refine tHn ?_
  replace h:=bY h
  refine ⟨_,h,?_⟩
  refine aO ?_;conv=>whnf
  exact And.intro rfl (And.intro (aLc wkI (aLc wkI (aLc (WkR.ptr (fun _=>rfl)) (aLc (WkR.ptr (fun _=>rfl)) (aLc (WkR.ptr (fun _=>rfl)) aLn))))) (aLc ⟨some _,rfl,bRc rfl (cKc wkI (cKc (WkR.tok (fun _=>rfl) rfl (fun _ _=>Wk.refl _) (fun _=>(aC _))) cKn))⟩ (aLc ⟨some _,rfl,bRc rfl cKn⟩ (aLc ⟨some _,rfl,bRc rfl (cKc wkI (cKc (wkr (lsL fun _=>(aC _))) cKn))⟩ (aLc ⟨some _,rfl,bRc rfl (cKc wkI (cKc (wkr aG) cKn))⟩ aLn)))))
 refine hK2 ?_
 refine bN ?_
 refine aW ?_
 refine aW ?_
 refine aV ?_
 replace h:=eA h
 replace h:=dZ h
 refine tHn ?_
 refine aB dCo rfl fun K hK=>?_;conv=>whnf
 refine nlA rfl ?_;conv=>whnf
 refine bKo rfl ?_;conv=>whnf
 refine nlA rfl ?_;conv=>whnf
 refine bKo rfl ?_;conv=>whnf
 refine And.intro rfl (And.intro (nle rfl) (And.intro rfl ?_));conv=>whnf
 refine hK _ _ _ ?_
 refine aJ ?_
 replace h:=aI h
 refine aE dCo fun K hK=>?_;conv=>whnf
 refine nlA rfl ?_;conv=>whnf
 refine bKo rfl ?_;conv=>whnf
 refine nlA rfl ?_;conv=>whnf
 refine hK _ ?_
 cases h
 exact pV (aF (fL (aF (Wk.refl _) (aF eD bO))) (aF (Wk.refl _) bO))
theorem tW {T:Tbl} (hT:T 49=aH nJ) {args:List AV} {hp:bF} {id:Nat} {k:AV→Prop} {a0:bG} {a1:Int} {Φ:bG×Int→Prop} (h:W (gR a0 a1) Φ) (hw:WkL args [fF a0,eI a1]) (hk:∀ y,Φ y→k (.tup [fF y.1,eI y.2])):bZ T 49 args hp id k:=by
 obtain ⟨y,e,hy⟩:=dL h
 exact aS hT ⟨a0,a1,rfl,kS e rfl⟩ (by exact lH (lsC (fA _) (lsC (lsI _ _) lsN))) hw (hk y hy)
  def mI (a0:bG) (a1:List Int) (a2:Int) (s1:Int×Int):Option (Ct (Int×Int) Int):=cn (decide (s1.2<(a1.length:Int))) (ix a0.Edges default s1.2 fun e2=>
  jn (fun p3:Int=>ix a0.Edges default s1.2 fun e6=>jn (fun p7:Int=>some (.nx (p7,(wr (s1.2+1))))) fun k8=>cn (e6.To==a2) (ix a1 default s1.2 fun e9=>
  k8 (wr (p3-e9))) (k8 p3)) fun k4=>cn (e2.From==a2) (ix a1 default s1.2 fun e5=>k4 (wr (s1.1+e5))) (k4 s1.1)) (some (.bk (s1.1,s1.2)))
def nS (a0:bG) (a1:List Int) (a2:Int):Option Int:=bd (lp (mI a0 a1 a2) FU (0,0)) fun c10=>smK c10 (fun s11=>some s11.1) (fun r12=>some r12)
def qL:List AV→AV→Prop:=fun args r=>∃ a0 a1 a2,args=[fF a0,(eL 1 eI default) a1,eI a2]∧W (nS a0 a1 a2) fun y=>r=(eI y)
theorem aCx {T:Tbl} (hT:TOk Tryz.prog T) (hpf:cI T PF):FOk Tryz.prog 72 (aH qL):=by
 refine bB hT hpf Tryz.func72 rfl Tryz.ntmps72 Tryz.results72 (by decide) ?_
 rintro args r ⟨a0,a1,a2,rfl,h⟩
 refine ⟨nle rfl,?_,?_⟩
 ·exact (lsC (fA _) (lsC (lsL fun _=>(lsI _ _)) (lsC (lsI _ _) lsN)))
 rw [nS.eq_1] at h
 refine aB dCo rfl fun K hK=>?_;conv=>whnf
 refine hK _ _ _ ?_
 refine aB dCo rfl fun K hK=>?_;conv=>whnf
 refine hK _ _ _ ?_
 refine aL ?_
 refine aB dCo rfl fun K hK=>?_;conv=>whnf
 refine hK _ _ _ ?_
 refine aN ?_
 replace h:=bE h
 refine dS (body:=mI _ _ _) rfl h [1,2,3] [3] [] (fun kl kh ids b s=>⟨ofL ([(7,eI s.1),(8,eI s.2)]++kl),ofH ([]++kh),b+64⟩) ?_;(conv=>whnf);refine And.intro ?_ (fun s m h=>dY ?_)
 ·refine aO ?_;conv=>whnf
  exact And.intro rfl (And.intro (aLc wkI (aLc wkI (aLc (wkr (lsL fun _=>(lsI _ _))) (aLc wkI (aLc (WkR.ptr (fun _=>rfl)) aLn))))) (aLc ⟨some _,rfl,bRc rfl (cKc wkI (cKc (wkr (lsL fun _=>(aC _))) cKn))⟩ aLn))
 replace h:=bE h;rw [mI.eq_1] at h
 refine aL ?_
 refine aB dCo rfl fun K hK=>?_;conv=>whnf
 refine hK _ _ _ ?_
 refine aT fun K1 K2 hK1 hK2=>?_;conv=>whnf
 refine cLk h (fun _ h=>?_) (fun _ h=>?_)
 ·refine hK1 ?_
  refine aK ?_
  refine tHn ?_
  refine aL ?_
  refine aN ?_
  refine aL ?_
  refine aB dCo rfl fun K hK=>?_;conv=>whnf
  refine nlA rfl ?_;conv=>whnf
  refine bKo rfl ?_;conv=>whnf
  refine gKo rfl ?_;conv=>whnf
  refine cA h fun _ h=>?_;conv=>whnf
  refine gKo rfl ?_;conv=>whnf
  refine hK _ _ _ ?_
  replace h:=eW h
  refine aT fun K1 K2 hK1 hK2=>?_;conv=>whnf
  refine cLk h (fun _ h=>?_) (fun _ h=>?_)
  ·refine hK1 ?_
   refine cK dCo rfl fun K hK=>?_;conv=>whnf
   refine cA h fun _ h=>?_;conv=>whnf
   refine gKo rfl ?_;conv=>whnf
   refine hK _ _ _ ?_
   refine tHn ?_
   refine aB dCo rfl fun K hK=>?_;conv=>whnf
   refine nlA rfl ?_;conv=>whnf
   refine bKo rfl ?_;conv=>whnf
   refine gKo rfl ?_;conv=>whnf
   refine cA h fun _ h=>?_;conv=>whnf
   refine gKo rfl ?_;conv=>whnf
   refine hK _ _ _ ?_
   replace h:=eW h
   refine aT fun K1 K2 hK1 hK2=>?_;conv=>whnf
   refine cLk h (fun _ h=>?_) (fun _ h=>?_)
   ·refine hK1 ?_
    refine cK dCo rfl fun K hK=>?_;conv=>whnf
    refine cA h fun _ h=>?_;conv=>whnf
    refine gKo rfl ?_;conv=>whnf
    refine hK _ _ _ ?_
    refine iBn ?_
    refine tHn ?_
    refine cK dCo rfl fun K hK=>?_;conv=>whnf
    refine hK _ _ _ ?_
    refine tHn ?_
    replace h:=bY h
    refine ⟨_,h,?_⟩
    refine aO ?_;conv=>whnf
    exact And.intro rfl (And.intro (aLc wkI (aLc wkI (aLc (wkr (lsL fun _=>(lsI _ _))) (aLc wkI (aLc (WkR.ptr (fun _=>rfl)) aLn))))) (aLc ⟨some _,rfl,bRc rfl (cKc wkI (cKc (wkr (lsL fun _=>(aC _))) cKn))⟩ aLn))
   refine hK2 ?_
   refine aK ?_
   refine iBn ?_
   refine tHn ?_
   refine cK dCo rfl fun K hK=>?_;conv=>whnf
   refine hK _ _ _ ?_
   refine tHn ?_
   replace h:=bY h
   refine ⟨_,h,?_⟩
   refine aO ?_;conv=>whnf
   exact And.intro rfl (And.intro (aLc wkI (aLc wkI (aLc (wkr (lsL fun _=>(lsI _ _))) (aLc wkI (aLc (WkR.ptr (fun _=>rfl)) aLn))))) (aLc ⟨some _,rfl,bRc rfl (cKc wkI (cKc (wkr (lsL fun _=>(aC _))) cKn))⟩ aLn))
  refine hK2 ?_
  refine aK ?_
  refine tHn ?_
  refine aB dCo rfl fun K hK=>?_;conv=>whnf
  refine nlA rfl ?_;conv=>whnf
  refine bKo rfl ?_;conv=>whnf
  refine gKo rfl ?_;conv=>whnf
  refine cA h fun _ h=>?_;conv=>whnf
  refine gKo rfl ?_;conv=>whnf
  refine hK _ _ _ ?_
  replace h:=eW h
  refine aT fun K1 K2 hK1 hK2=>?_;conv=>whnf
  refine cLk h (fun _ h=>?_) (fun _ h=>?_)
  ·refine hK1 ?_
   refine cK dCo rfl fun K hK=>?_;conv=>whnf
   refine cA h fun _ h=>?_;conv=>whnf
   refine gKo rfl ?_;conv=>whnf
   refine hK _ _ _ ?_
   refine iBn ?_
   refine tHn ?_
   refine cK dCo rfl fun K hK=>?_;conv=>whnf
   refine hK _ _ _ ?_
   refine tHn ?_
   replace h:=bY h
   refine ⟨_,h,?_⟩
   refine aO ?_;conv=>whnf
   exact And.intro rfl (And.intro (aLc wkI (aLc wkI (aLc (wkr (lsL fun _=>(lsI _ _))) (aLc wkI (aLc (WkR.ptr (fun _=>rfl)) aLn))))) (aLc ⟨some _,rfl,bRc rfl (cKc wkI (cKc (wkr (lsL fun _=>(aC _))) cKn))⟩ aLn))
  refine hK2 ?_
  refine aK ?_
  refine iBn ?_
  refine tHn ?_
  refine cK dCo rfl fun K hK=>?_;conv=>whnf
  refine hK _ _ _ ?_
  refine tHn ?_
  replace h:=bY h
  refine ⟨_,h,?_⟩
  refine aO ?_;conv=>whnf
  exact And.intro rfl (And.intro (aLc wkI (aLc wkI (aLc (wkr (lsL fun _=>(lsI _ _))) (aLc wkI (aLc (WkR.ptr (fun _=>rfl)) aLn))))) (aLc ⟨some _,rfl,bRc rfl (cKc wkI (cKc (wkr (lsL fun _=>(aC _))) cKn))⟩ aLn))
 refine hK2 ?_
 refine bN ?_
 refine aW ?_
 refine aW ?_
 refine aV ?_
 replace h:=eA h
 replace h:=dZ h
 refine tHn ?_
 refine aB dCo rfl fun K hK=>?_;conv=>whnf
 refine hK _ _ _ ?_
 refine aJ ?_
 replace h:=aI h
 refine aE dCo fun K hK=>?_;conv=>whnf
 refine hK _ ?_
 cases h
 exact Wk.refl _
theorem aA5 {T:Tbl} (hT:T 72=aH qL) {args:List AV} {hp:bF} {id:Nat} {k:AV→Prop} {a0:bG} {a1:List Int} {a2:Int} {Φ:Int→Prop} (h:W (nS a0 a1 a2) Φ) (hw:WkL args [fF a0,(eL 1 eI default) a1,eI a2]) (hk:∀ y,Φ y→k (eI y)):bZ T 72 args hp id k:=by
 obtain ⟨y,e,hy⟩:=dL h
 exact aS hT ⟨a0,a1,a2,rfl,kS e rfl⟩ (by exact (lsI _ _)) hw (hk y hy)
def lV (a0:bG) (a1:List Int) (s1:Int):Option (Ct Int Bool):=cn (decide (s1<(a1.length:Int))) (ix a1 default s1 fun e2=>
  ix a0.Edges default s1 fun e3=>bd (jA e2 0 e3.Capacity) fun y4=>cn (!y4) (some (.rt false)) (some (.nx (wr (s1+1))))) (some (.bk s1))
def kZ (a0:bG) (a1:List Int):Option Bool:=cn ((a1.length:Int) != (a0.Edges.length:Int)) (some false) (bd (lp (lV a0 a1) FU 0) fun c5=>
  smK c5 (fun s6=>some true) (fun r7=>some r7))
def nD:List AV→AV→Prop:=fun args r=>∃ a0 a1,args=[fF a0,(eL 1 eI default) a1]∧W (kZ a0 a1) fun y=>r=(eB y)
theorem aAS {T:Tbl} (hT:TOk Tryz.prog T) (hpf:cI T PF) (h67:T 67=aH nQ):FOk Tryz.prog 71 (aH nD):=by
 refine bB hT hpf Tryz.func71 rfl Tryz.ntmps71 Tryz.results71 (by decide) ?_
 rintro args r ⟨a0,a1,rfl,h⟩
 refine ⟨nle rfl,?_,?_⟩
 ·exact (lsC (fA _) (lsC (lsL fun _=>(lsI _ _)) lsN))
 rw [kZ.eq_1] at h
 refine aB dCo rfl fun K hK=>?_;conv=>whnf
 refine hK _ _ _ ?_
 refine aL ?_
 refine aB dCo rfl fun K hK=>?_;conv=>whnf
 refine nlA rfl ?_;conv=>whnf
 refine bKo rfl ?_;conv=>whnf
 refine gKo rfl ?_;conv=>whnf
 refine hK _ _ _ ?_
 refine aT fun K1 K2 hK1 hK2=>?_;conv=>whnf
 refine cLk h (fun _ h=>?_) (fun _ h=>?_)
 ·refine hK1 ?_
  refine aB dCo rfl fun K hK=>?_;conv=>whnf
  refine hK _ _ _ ?_
  refine aJ ?_
  refine aM ?_
  replace h:=aI h
  refine aE dCo fun K hK=>?_;conv=>whnf
  refine hK _ ?_
  cases h
  exact Wk.refl _
 refine hK2 ?_
 refine aK ?_
 refine tHn ?_
 refine aL ?_
 refine aB dCo rfl fun K hK=>?_;conv=>whnf
 refine hK _ _ _ ?_
 refine aN ?_
 replace h:=bE h
 refine dS (body:=lV _ _) rfl h [1,2] [2] [] (fun kl kh ids b s=>⟨ofL ([(5,eI s)]++kl),ofH ([]++kh),b+64⟩) ?_;(conv=>whnf);refine And.intro ?_ (fun s m h=>dY ?_)
 ·refine aO ?_;conv=>whnf
  exact And.intro rfl (And.intro (aLc wkI (aLc (wkr (lsL fun _=>(lsI _ _))) (aLc (WkR.ptr (fun _=>rfl)) aLn))) (aLc ⟨some _,rfl,bRc rfl (cKc wkI (cKc (wkr (lsL fun _=>(aC _))) cKn))⟩ aLn))
 replace h:=bE h;rw [lV.eq_1] at h
 refine aL ?_
 refine aB dCo rfl fun K hK=>?_;conv=>whnf
 refine hK _ _ _ ?_
 refine aT fun K1 K2 hK1 hK2=>?_;conv=>whnf
 refine cLk h (fun _ h=>?_) (fun _ h=>?_)
 ·refine hK1 ?_
  refine aK ?_
  refine tHn ?_
  refine aL ?_
  refine aN ?_
  refine iZ dCo cJ rfl (by kernel_rfl) fun K hK=>?_;conv=>whnf
  refine cA h fun _ h=>?_;conv=>whnf
  refine gKo rfl ?_;conv=>whnf
  refine nlA rfl ?_;conv=>whnf
  refine bKo rfl ?_;conv=>whnf
  refine gKo rfl ?_;conv=>whnf
  refine cA h fun _ h=>?_;conv=>whnf
  refine gKo rfl ?_;conv=>whnf
  replace h:=bE h
  refine jZ h67 h (WkL.refl _) (fun _ h=>?_);conv=>whnf
  refine hK _ _ _ ?_
  refine aT fun K1 K2 hK1 hK2=>?_;conv=>whnf
  refine cLk h (fun _ h=>?_) (fun _ h=>?_)
  ·refine hK1 ?_
   refine aB dCo rfl fun K hK=>?_;conv=>whnf
   refine hK _ _ _ ?_
   refine aJ ?_
   refine aP ?_
   refine aM ?_
   refine aM ?_
   refine aP ?_
   refine aM ?_
   replace h:=iG h
   replace h:=iF h
   replace h:=aI h
   refine aE dCo fun K hK=>?_;conv=>whnf
   refine hK _ ?_
   cases h
   exact Wk.refl _
  refine hK2 ?_
  refine aK ?_
  refine iBn ?_
  refine tHn ?_
  refine cK dCo rfl fun K hK=>?_;conv=>whnf
  refine hK _ _ _ ?_
  refine tHn ?_
  replace h:=bY h
  refine ⟨_,h,?_⟩
  refine aO ?_;conv=>whnf
  exact And.intro rfl (And.intro (aLc wkI (aLc (wkr (lsL fun _=>(lsI _ _))) (aLc (WkR.ptr (fun _=>rfl)) aLn))) (aLc ⟨some _,rfl,bRc rfl (cKc wkI (cKc (wkr (lsL fun _=>(aC _))) cKn))⟩ aLn))
 refine hK2 ?_
 refine bN ?_
 refine aW ?_
 refine aW ?_
 refine aV ?_
 replace h:=eA h
 replace h:=dZ h
 refine tHn ?_
 refine aB dCo rfl fun K hK=>?_;conv=>whnf
 refine hK _ _ _ ?_
 refine aJ ?_
 replace h:=aI h
 refine aE dCo fun K hK=>?_;conv=>whnf
 refine hK _ ?_
 cases h
 exact Wk.refl _
theorem zB {T:Tbl} (hT:T 71=aH nD) {args:List AV} {hp:bF} {id:Nat} {k:AV→Prop} {a0:bG} {a1:List Int} {Φ:Bool→Prop} (h:W (kZ a0 a1) Φ) (hw:WkL args [fF a0,(eL 1 eI default) a1]) (hk:∀ y,Φ y→k (eB y)):bZ T 71 args hp id k:=by
 obtain ⟨y,e,hy⟩:=dL h
 exact aS hT ⟨a0,a1,rfl,kS e rfl⟩ (by exact (lsB _)) hw (hk y hy)
def lC (a0:bG) (a1:Int) (s1:Int×Int):Option (Ct (Int×Int) Int):=cn (decide (s1.2<(a0.Edges.length:Int))) (jn (fun p2:Bool=>jn (fun p8:Int=>
  some (.nx (p8,(wr (s1.2+1))))) fun k9=>cn p2 (ix a0.Edges default s1.2 fun e10=>let v11:=(wr (s1.1+e10.Capacity));k9 v11) (k9 s1.1)) fun k3=>
  ix a0.Edges default s1.2 fun e4=>bd (lO a1 e4.From) fun y5=>cn y5 (ix a0.Edges default s1.2 fun e6=>bd (lO a1 e6.To) fun y7=>
  k3 (!y7)) (k3 false)) (some (.bk (s1.1,s1.2)))
def mH (a0:bG) (a1:Int):Option Int:=bd (lp (lC a0 a1) FU (0,0)) fun c12=>smK c12 (fun s13=>some s13.1) (fun r14=>some r14)
def oT:List AV→AV→Prop:=fun args r=>∃ a0 a1,args=[fF a0,eI a1]∧W (mH a0 a1) fun y=>r=(eI y)
theorem aBO {T:Tbl} (hT:TOk Tryz.prog T) (hpf:cI T PF) (h68:T 68=aH pD):FOk Tryz.prog 85 (aH oT):=by
 refine bB hT hpf Tryz.func85 rfl Tryz.ntmps85 Tryz.results85 (by decide) ?_
 rintro args r ⟨a0,a1,rfl,h⟩
 refine ⟨nle rfl,?_,?_⟩
 ·exact (lsC (fA _) (lsC (lsI _ _) lsN))
 rw [mH.eq_1] at h
 refine aB dCo rfl fun K hK=>?_;conv=>whnf
 refine hK _ _ _ ?_
 refine aB dCo rfl fun K hK=>?_;conv=>whnf
 refine hK _ _ _ ?_
 refine aL ?_
 refine aB dCo rfl fun K hK=>?_;conv=>whnf
 refine hK _ _ _ ?_
 refine aN ?_
 replace h:=bE h
 refine dS (body:=lC _ _) rfl h [1,2] [2] [] (fun kl kh ids b s=>⟨ofL ([(5,eI s.1),(6,eI s.2)]++kl),ofH ([]++kh),b+64⟩) ?_;(conv=>whnf);refine And.intro ?_ (fun s m h=>dY ?_)
 ·refine aO ?_;conv=>whnf
  exact And.intro rfl (And.intro (aLc wkI (aLc wkI (aLc wkI (aLc (WkR.ptr (fun _=>rfl)) aLn)))) (aLc ⟨some _,rfl,bRc rfl (cKc wkI (cKc (wkr (lsL fun _=>(aC _))) cKn))⟩ aLn))
 replace h:=bE h;rw [lC.eq_1] at h
 refine aL ?_
 refine aB dCo rfl fun K hK=>?_;conv=>whnf
 refine nlA rfl ?_;conv=>whnf
 refine bKo rfl ?_;conv=>whnf
 refine gKo rfl ?_;conv=>whnf
 refine hK _ _ _ ?_
 refine aT fun K1 K2 hK1 hK2=>?_;conv=>whnf
 refine cLk h (fun _ h=>?_) (fun _ h=>?_)
 ·refine hK1 ?_
  refine aK ?_
  refine tHn ?_
  refine aL ?_
  refine aN ?_
  refine aB dCo rfl fun K hK=>?_;conv=>whnf
  replace h:=eW h
  refine nlA rfl ?_;conv=>whnf
  refine bKo rfl ?_;conv=>whnf
  refine gKo rfl ?_;conv=>whnf
  refine cA h fun _ h=>?_;conv=>whnf
  refine gKo rfl ?_;conv=>whnf
  replace h:=bE h
  refine rJ h68 h (WkL.refl _) (fun _ h=>?_);conv=>whnf
  refine cLk h (fun _ h=>?_) (fun _ h=>?_)<;>(conv=>whnf)
  ·refine nlA rfl ?_;conv=>whnf
   refine bKo rfl ?_;conv=>whnf
   refine gKo rfl ?_;conv=>whnf
   refine cA h fun _ h=>?_;conv=>whnf
   refine gKo rfl ?_;conv=>whnf
   replace h:=bE h
   refine rJ h68 h (WkL.refl _) (fun _ h=>?_);conv=>whnf
   refine hK _ _ _ ?_
   replace h:=eW h
   refine aT fun K1 K2 hK1 hK2=>?_;conv=>whnf
   refine cLk h (fun _ h=>?_) (fun _ h=>?_)
   ·refine hK1 ?_
    refine cK dCo rfl fun K hK=>?_;conv=>whnf
    refine nlA rfl ?_;conv=>whnf
    refine bKo rfl ?_;conv=>whnf
    refine gKo rfl ?_;conv=>whnf
    refine cA h fun _ h=>?_;conv=>whnf
    refine gKo rfl ?_;conv=>whnf
    refine hK _ _ _ ?_
    refine iBn ?_
    refine tHn ?_
    refine cK dCo rfl fun K hK=>?_;conv=>whnf
    refine hK _ _ _ ?_
    refine tHn ?_
    replace h:=bY h
    refine ⟨_,h,?_⟩
    refine aO ?_;conv=>whnf
    exact And.intro rfl (And.intro (aLc wkI (aLc wkI (aLc wkI (aLc (WkR.ptr (fun _=>rfl)) aLn)))) (aLc ⟨some _,rfl,bRc rfl (cKc wkI (cKc (wkr (lsL fun _=>(aC _))) cKn))⟩ aLn))
   refine hK2 ?_
   refine aK ?_
   refine iBn ?_
   refine tHn ?_
   refine cK dCo rfl fun K hK=>?_;conv=>whnf
   refine hK _ _ _ ?_
   refine tHn ?_
   replace h:=bY h
   refine ⟨_,h,?_⟩
   refine aO ?_;conv=>whnf
   exact And.intro rfl (And.intro (aLc wkI (aLc wkI (aLc wkI (aLc (WkR.ptr (fun _=>rfl)) aLn)))) (aLc ⟨some _,rfl,bRc rfl (cKc wkI (cKc (wkr (lsL fun _=>(aC _))) cKn))⟩ aLn))
  refine hK _ _ _ ?_
  replace h:=eW h
  refine aT fun K1 K2 hK1 hK2=>?_;conv=>whnf
  refine hK2 ?_
  replace h:=uF h
  refine aK ?_
  refine iBn ?_
  refine tHn ?_
  refine cK dCo rfl fun K hK=>?_;conv=>whnf
  refine hK _ _ _ ?_
  refine tHn ?_
  replace h:=bY h
  refine ⟨_,h,?_⟩
  refine aO ?_;conv=>whnf
  exact And.intro rfl (And.intro (aLc wkI (aLc wkI (aLc wkI (aLc (WkR.ptr (fun _=>rfl)) aLn)))) (aLc ⟨some _,rfl,bRc rfl (cKc wkI (cKc (wkr (lsL fun _=>(aC _))) cKn))⟩ aLn))
 refine hK2 ?_
 refine bN ?_
 refine aW ?_
 refine aW ?_
 refine aV ?_
 replace h:=eA h
 replace h:=dZ h
 refine tHn ?_
 refine aB dCo rfl fun K hK=>?_;conv=>whnf
 refine hK _ _ _ ?_
 refine aJ ?_
 replace h:=aI h
 refine aE dCo fun K hK=>?_;conv=>whnf
 refine hK _ ?_
 cases h
 exact Wk.refl _
theorem aAy {T:Tbl} (hT:T 85=aH oT) {args:List AV} {hp:bF} {id:Nat} {k:AV→Prop} {a0:bG} {a1:Int} {Φ:Int→Prop} (h:W (mH a0 a1) Φ) (hw:WkL args [fF a0,eI a1]) (hk:∀ y,Φ y→k (eI y)):bZ T 85 args hp id k:=by
 obtain ⟨y,e,hy⟩:=dL h
 exact aS hT ⟨a0,a1,rfl,kS e rfl⟩ (by exact (lsI _ _)) hw (hk y hy)
def jW (a0:bG) (a1:List Int) (a2:Int) (s1:Int×Int):Option (Ct (Int×Int) Bool):=cn (decide (s1.2<a0.N)) (bd (lO a2 s1.2) fun y2=>
  jn (fun p3:Int=>some (.nx (p3,(wr (s1.2+1))))) fun k4=>cn y2 (ix a1 default s1.2 fun e5=>k4 (wr (s1.1+e5))) (k4 s1.1)) (some (.bk (s1.1,s1.2)))
def lF (a0:bG) (a1:List Int) (a2:Int):Option Bool:=bd (lp (jW a0 a1 a2) FU (0,0)) fun c6=>smK c6 (fun s7=>
  bd (mH a0 a2) fun y9=>some (decide (s7.1>y9))) (fun r8=>some r8)
def nK:List AV→AV→Prop:=fun args r=>∃ a0 a1 a2,args=[fF a0,(eL 1 eI default) a1,eI a2]∧W (lF a0 a1 a2) fun y=>r=(eB y)
theorem aA3 {T:Tbl} (hT:TOk Tryz.prog T) (hpf:cI T PF) (h68:T 68=aH pD) (h85:T 85=aH oT):FOk Tryz.prog 70 (aH nK):=by
 refine bB hT hpf Tryz.func70 rfl Tryz.ntmps70 Tryz.results70 (by decide) ?_
 rintro args r ⟨a0,a1,a2,rfl,h⟩
 refine ⟨nle rfl,?_,?_⟩
 ·exact (lsC (fA _) (lsC (lsL fun _=>(lsI _ _)) (lsC (lsI _ _) lsN)))
 rw [lF.eq_1] at h
 refine aB dCo rfl fun K hK=>?_;conv=>whnf
 refine hK _ _ _ ?_
 refine aB dCo rfl fun K hK=>?_;conv=>whnf
 refine hK _ _ _ ?_
 refine aL ?_
 refine aB dCo rfl fun K hK=>?_;conv=>whnf
 refine hK _ _ _ ?_
 refine aN ?_
 replace h:=bE h
 refine dS (body:=jW _ _ _) rfl h [1,2,3] [3] [] (fun kl kh ids b s=>⟨ofL ([(7,eI s.1),(8,eI s.2)]++kl),ofH ([]++kh),b+64⟩) ?_;(conv=>whnf);refine And.intro ?_ (fun s m h=>dY ?_)
 ·refine aO ?_;conv=>whnf
  exact And.intro rfl (And.intro (aLc wkI (aLc wkI (aLc (wkr (lsL fun _=>(lsI _ _))) (aLc wkI (aLc (WkR.ptr (fun _=>rfl)) aLn))))) (aLc ⟨some _,rfl,bRc rfl (cKc wkI (cKc (wkr (lsL fun _=>(aC _))) cKn))⟩ aLn))
 replace h:=bE h;rw [jW.eq_1] at h
 refine aL ?_
 refine aB dCo rfl fun K hK=>?_;conv=>whnf
 refine nlA rfl ?_;conv=>whnf
 refine bKo rfl ?_;conv=>whnf
 refine gKo rfl ?_;conv=>whnf
 refine hK _ _ _ ?_
 refine aT fun K1 K2 hK1 hK2=>?_;conv=>whnf
 refine cLk h (fun _ h=>?_) (fun _ h=>?_)
 ·refine hK1 ?_
  refine aK ?_
  refine tHn ?_
  refine aL ?_
  refine aN ?_
  refine aB dCo rfl fun K hK=>?_;conv=>whnf
  replace h:=bE h
  refine rJ h68 h (WkL.refl _) (fun _ h=>?_);conv=>whnf
  refine hK _ _ _ ?_
  replace h:=eW h
  refine aT fun K1 K2 hK1 hK2=>?_;conv=>whnf
  refine cLk h (fun _ h=>?_) (fun _ h=>?_)
  ·refine hK1 ?_
   refine cK dCo rfl fun K hK=>?_;conv=>whnf
   refine cA h fun _ h=>?_;conv=>whnf
   refine gKo rfl ?_;conv=>whnf
   refine hK _ _ _ ?_
   refine iBn ?_
   refine tHn ?_
   refine cK dCo rfl fun K hK=>?_;conv=>whnf
   refine hK _ _ _ ?_
   refine tHn ?_
   replace h:=bY h
   refine ⟨_,h,?_⟩
   refine aO ?_;conv=>whnf
   exact And.intro rfl (And.intro (aLc wkI (aLc wkI (aLc (wkr (lsL fun _=>(lsI _ _))) (aLc wkI (aLc (WkR.ptr (fun _=>rfl)) aLn))))) (aLc ⟨some _,rfl,bRc rfl (cKc wkI (cKc (wkr (lsL fun _=>(aC _))) cKn))⟩ aLn))
  refine hK2 ?_
  refine aK ?_
  refine iBn ?_
  refine tHn ?_
  refine cK dCo rfl fun K hK=>?_;conv=>whnf
  refine hK _ _ _ ?_
  refine tHn ?_
  replace h:=bY h
  refine ⟨_,h,?_⟩
  refine aO ?_;conv=>whnf
  exact And.intro rfl (And.intro (aLc wkI (aLc wkI (aLc (wkr (lsL fun _=>(lsI _ _))) (aLc wkI (aLc (WkR.ptr (fun _=>rfl)) aLn))))) (aLc ⟨some _,rfl,bRc rfl (cKc wkI (cKc (wkr (lsL fun _=>(aC _))) cKn))⟩ aLn))
 refine hK2 ?_
 refine bN ?_
 refine aW ?_
 refine aW ?_
 refine aV ?_
 replace h:=eA h
 replace h:=dZ h
 refine tHn ?_
 refine aB dCo rfl fun K hK=>?_;conv=>whnf
 refine nlA rfl ?_;conv=>whnf
 refine bKo rfl ?_;conv=>whnf
 refine nlA rfl ?_;conv=>whnf
 replace h:=bE h
 refine aAy h85 h (WkL.refl _) (fun _ h=>?_);conv=>whnf
 refine hK _ _ _ ?_
 refine aJ ?_
 replace h:=aI h
 refine aE dCo fun K hK=>?_;conv=>whnf
 refine hK _ ?_
 cases h
 exact Wk.refl _
theorem zK {T:Tbl} (hT:T 70=aH nK) {args:List AV} {hp:bF} {id:Nat} {k:AV→Prop} {a0:bG} {a1:List Int} {a2:Int} {Φ:Bool→Prop} (h:W (lF a0 a1 a2) Φ) (hw:WkL args [fF a0,(eL 1 eI default) a1,eI a2]) (hk:∀ y,Φ y→k (eB y)):bZ T 70 args hp id k:=by
 obtain ⟨y,e,hy⟩:=dL h
 exact aS hT ⟨a0,a1,a2,rfl,kS e rfl⟩ (by exact (lsB _)) hw (hk y hy)
def kT (a1:List Int) (s4:Int×Int):Option (Ct (Int×Int) Bool):=cn (decide (s4.2<(a1.length:Int))) (ix a1 default s4.2 fun e5=>
  bd (jA e5 (-100000) 100000) fun y6=>cn (!y6) (some (.rt false)) (ix a1 default s4.2 fun e7=>
  some (.nx ((wr (s4.1+e7)),(wr (s4.2+1)))))) (some (.bk (s4.1,s4.2)))
def jV (a0:bG) (a1:List Int):Option Bool:=jn (fun p1:Bool=>cn p1 (some false) (bd (lp (kT a1) FU (0,0)) fun c8=>smK c8 (fun s9=>
  some (s9.1==0)) (fun r10=>some r10))) fun k2=>bd (kD a0) fun y3=>cn (!y3) (k2 true) (k2 ((a1.length:Int) != a0.N))
def mB:List AV→AV→Prop:=fun args r=>∃ a0 a1,args=[fF a0,(eL 1 eI default) a1]∧W (jV a0 a1) fun y=>r=(eB y)
theorem aAg {T:Tbl} (hT:TOk Tryz.prog T) (hpf:cI T PF) (h41:T 41=aH lR) (h67:T 67=aH nQ):FOk Tryz.prog 69 (aH mB):=by
 refine bB hT hpf Tryz.func69 rfl Tryz.ntmps69 Tryz.results69 (by decide) ?_
 rintro args r ⟨a0,a1,rfl,h⟩
 refine ⟨nle rfl,?_,?_⟩
 ·exact (lsC (fA _) (lsC (lsL fun _=>(lsI _ _)) lsN))
 rw [jV.eq_1] at h
 refine aB dCo rfl fun K hK=>?_;conv=>whnf
 refine hK _ _ _ ?_
 refine aL ?_
 refine aB dCo rfl fun K hK=>?_;conv=>whnf
 replace h:=eW h
 refine nlA rfl ?_;conv=>whnf
 refine bKo rfl ?_;conv=>whnf
 refine nlA rfl ?_;conv=>whnf
 replace h:=bE h
 refine sL h41 h (WkL.refl _) (fun _ h=>?_);conv=>whnf
 refine cLk h (fun _ h=>?_) (fun _ h=>?_)<;>(conv=>whnf)
 ·refine hK _ _ _ ?_
  refine aT fun K1 K2 hK1 hK2=>?_;conv=>whnf
  refine hK1 ?_
  replace h:=kR h
  refine aB dCo rfl fun K hK=>?_;conv=>whnf
  refine hK _ _ _ ?_
  refine aJ ?_
  refine aM ?_
  replace h:=aI h
  refine aE dCo fun K hK=>?_;conv=>whnf
  refine hK _ ?_
  cases h
  exact Wk.refl _
 refine nlA rfl ?_;conv=>whnf
 refine bKo rfl ?_;conv=>whnf
 refine gKo rfl ?_;conv=>whnf
 refine hK _ _ _ ?_
 refine aT fun K1 K2 hK1 hK2=>?_;conv=>whnf
 refine cLk h (fun _ h=>?_) (fun _ h=>?_)
 ·refine hK1 ?_
  refine aB dCo rfl fun K hK=>?_;conv=>whnf
  refine hK _ _ _ ?_
  refine aJ ?_
  refine aM ?_
  replace h:=aI h
  refine aE dCo fun K hK=>?_;conv=>whnf
  refine hK _ ?_
  cases h
  exact Wk.refl _
 refine hK2 ?_
 refine aK ?_
 refine tHn ?_
 refine aB dCo rfl fun K hK=>?_;conv=>whnf
 refine hK _ _ _ ?_
 refine aL ?_
 refine aB dCo rfl fun K hK=>?_;conv=>whnf
 refine hK _ _ _ ?_
 refine aN ?_
 replace h:=bE h
 refine dS (body:=kT _) rfl h [1] [] [] (fun kl kh ids b s=>⟨ofL ([(5,eI s.1),(6,eI s.2)]++kl),ofH ([]++kh),b+64⟩) ?_;(conv=>whnf);refine And.intro ?_ (fun s m h=>dY ?_)
 ·refine aO ?_;conv=>whnf
  exact And.intro rfl (And.intro (aLc wkI (aLc wkI (aLc (wkr (lsL fun _=>(lsI _ _))) aLn))) aLn)
 replace h:=bE h;rw [kT.eq_1] at h
 refine aL ?_
 refine aB dCo rfl fun K hK=>?_;conv=>whnf
 refine hK _ _ _ ?_
 refine aT fun K1 K2 hK1 hK2=>?_;conv=>whnf
 refine cLk h (fun _ h=>?_) (fun _ h=>?_)
 ·refine hK1 ?_
  refine aK ?_
  refine tHn ?_
  refine aL ?_
  refine aN ?_
  refine aL ?_
  refine aB dCo rfl fun K hK=>?_;conv=>whnf
  refine cA h fun _ h=>?_;conv=>whnf
  refine gKo rfl ?_;conv=>whnf
  replace h:=bE h
  refine jZ h67 h (WkL.refl _) (fun _ h=>?_);conv=>whnf
  refine hK _ _ _ ?_
  refine aT fun K1 K2 hK1 hK2=>?_;conv=>whnf
  refine cLk h (fun _ h=>?_) (fun _ h=>?_)
  ·refine hK1 ?_
   refine aB dCo rfl fun K hK=>?_;conv=>whnf
   refine hK _ _ _ ?_
   refine aJ ?_
   refine aM ?_
   refine aP ?_
   refine aM ?_
   refine aM ?_
   refine aP ?_
   refine aM ?_
   replace h:=iG h
   replace h:=iF h
   replace h:=aI h
   refine aE dCo fun K hK=>?_;conv=>whnf
   refine hK _ ?_
   cases h
   exact Wk.refl _
  refine hK2 ?_
  refine aK ?_
  refine tHn ?_
  refine cK dCo rfl fun K hK=>?_;conv=>whnf
  refine cA h fun _ h=>?_;conv=>whnf
  refine gKo rfl ?_;conv=>whnf
  refine hK _ _ _ ?_
  refine iBn ?_
  refine tHn ?_
  refine cK dCo rfl fun K hK=>?_;conv=>whnf
  refine hK _ _ _ ?_
  refine tHn ?_
  replace h:=bY h
  refine ⟨_,h,?_⟩
  refine aO ?_;conv=>whnf
  exact And.intro rfl (And.intro (aLc wkI (aLc wkI (aLc (wkr (lsL fun _=>(lsI _ _))) aLn))) aLn)
 refine hK2 ?_
 refine bN ?_
 refine aW ?_
 refine aW ?_
 refine aV ?_
 replace h:=eA h
 replace h:=dZ h
 refine tHn ?_
 refine aB dCo rfl fun K hK=>?_;conv=>whnf
 refine hK _ _ _ ?_
 refine aJ ?_
 replace h:=aI h
 refine aE dCo fun K hK=>?_;conv=>whnf
 refine hK _ ?_
 cases h
 exact Wk.refl _
theorem yC {T:Tbl} (hT:T 69=aH mB) {args:List AV} {hp:bF} {id:Nat} {k:AV→Prop} {a0:bG} {a1:List Int} {Φ:Bool→Prop} (h:W (jV a0 a1) Φ) (hw:WkL args [fF a0,(eL 1 eI default) a1]) (hk:∀ y,Φ y→k (eB y)):bZ T 69 args hp id k:=by
 obtain ⟨y,e,hy⟩:=dL h
 exact aS hT ⟨a0,a1,rfl,kS e rfl⟩ (by exact (lsB _)) hw (hk y hy)
def kB (a0:bG) (a1:List Int) (a2:lG) (s9:Int):Option (Ct Int Bool):=cn (decide (s9<a0.N)) (bd (nS a0 a2.Amounts s9) fun y10=>
  ix a1 default s9 fun e11=>cn (y10 != e11) (some (.rt false)) (some (.nx (wr (s9+1))))) (some (.bk s9))
def gL (a0:bG) (a1:List Int) (a2:lG):Option Bool:=bd (jV a0 a1) fun y1=>cn (!y1) (some false) (cn (!a2.Met) (jn (fun p2:Bool=>
  some p2) fun k3=>cn ((a2.Amounts.length:Int)==0) (gd (0≤a0.N) (bd (jA a2.Set 0 (wr ((aAw .i64 1 a0.N)-1))) fun y4=>
  cn y4 (bd (lF a0 a1 a2.Set) fun y5=>k3 y5) (k3 false))) (k3 false)) (jn (fun p6:Bool=>
  cn p6 (some false) (bd (lp (kB a0 a1 a2) FU 0) fun c12=>smK c12 (fun s13=>some true) (fun r14=>some r14))) fun k7=>cn (a2.Set !=
  0) (k7 true) (bd (kZ a0 a2.Amounts) fun y8=>k7 (!y8))))
def kU:List AV→AV→Prop:=fun args r=>∃ a0 a1 a2,args=[fF a0,(eL 1 eI default) a1,zV a2]∧W (gL a0 a1 a2) fun y=>r=(eB y)
theorem yR {T:Tbl} (hT:TOk Tryz.prog T) (hpf:cI T PF) (h67:T 67=aH nQ) (h69:T 69=aH mB) (h70:T 70=aH nK) (h71:T 71=aH nD) (h72:T 72=aH qL):FOk Tryz.prog 51 (aH kU):=by
 refine bB hT hpf Tryz.func51 rfl Tryz.ntmps51 Tryz.results51 (by decide) ?_
 rintro args r ⟨a0,a1,a2,rfl,h⟩
 refine ⟨nle rfl,?_,?_⟩
 ·exact (lsC (fA _) (lsC (lsL fun _=>(lsI _ _)) (lsC (aC1 _) lsN)))
 rw [gL.eq_1] at h
 refine aB dCo rfl fun K hK=>?_;conv=>whnf
 refine hK _ _ _ ?_
 refine aL ?_
 refine aB dCo rfl fun K hK=>?_;conv=>whnf
 refine nlA rfl ?_;conv=>whnf
 refine bKo rfl ?_;conv=>whnf
 refine nlA rfl ?_;conv=>whnf
 replace h:=bE h
 refine yC h69 h (WkL.refl _) (fun _ h=>?_);conv=>whnf
 refine hK _ _ _ ?_
 refine aT fun K1 K2 hK1 hK2=>?_;conv=>whnf
 refine cLk h (fun _ h=>?_) (fun _ h=>?_)
 ·refine hK1 ?_
  refine aB dCo rfl fun K hK=>?_;conv=>whnf
  refine hK _ _ _ ?_
  refine aJ ?_
  refine aM ?_
  replace h:=aI h
  refine aE dCo fun K hK=>?_;conv=>whnf
  refine hK _ ?_
  cases h
  exact Wk.refl _
 refine hK2 ?_
 refine aK ?_
 refine tHn ?_
 refine aL ?_
 refine aB dCo rfl fun K hK=>?_;conv=>whnf
 refine nlA rfl ?_;conv=>whnf
 refine bKo rfl ?_;conv=>whnf
 refine gKo rfl ?_;conv=>whnf
 refine hK _ _ _ ?_
 refine aT fun K1 K2 hK1 hK2=>?_;conv=>whnf
 refine cLk h (fun _ h=>?_) (fun _ h=>?_)
 ·refine hK1 ?_
  refine iZ dCo cJ rfl (by kernel_rfl) fun K hK=>?_;conv=>whnf
  replace h:=eW h
  refine nlA rfl ?_;conv=>whnf
  refine bKo rfl ?_;conv=>whnf
  refine gKo rfl ?_;conv=>whnf
  refine cLk h (fun _ h=>?_) (fun _ h=>?_)<;>(conv=>whnf)
  ·refine nlA rfl ?_;conv=>whnf
   refine bKo rfl ?_;conv=>whnf
   refine gKo rfl ?_;conv=>whnf
   refine nlA rfl ?_;conv=>whnf
   refine bKo rfl ?_;conv=>whnf
   refine gKo rfl ?_;conv=>whnf
   refine kQ h fun _ h=>?_;conv=>whnf
   replace h:=bE h
   refine jZ h67 h (WkL.refl _) (fun _ h=>?_);conv=>whnf
   refine cLk h (fun _ h=>?_) (fun _ h=>?_)<;>(conv=>whnf)
   ·refine nlA rfl ?_;conv=>whnf
    refine bKo rfl ?_;conv=>whnf
    refine nlA rfl ?_;conv=>whnf
    refine nlA rfl ?_;conv=>whnf
    refine bKo rfl ?_;conv=>whnf
    refine gKo rfl ?_;conv=>whnf
    replace h:=bE h
    refine zK h70 h (WkL.refl _) (fun _ h=>?_);conv=>whnf
    refine hK _ _ _ ?_
    refine aJ ?_
    refine aM ?_
    replace h:=aI h
    refine aE dCo fun K hK=>?_;conv=>whnf
    refine hK _ ?_
    cases h
    exact Wk.refl _
   refine hK _ _ _ ?_
   refine aJ ?_
   refine aM ?_
   replace h:=aI h
   refine aE dCo fun K hK=>?_;conv=>whnf
   refine hK _ ?_
   cases h
   exact Wk.refl _
  refine hK _ _ _ ?_
  refine aJ ?_
  refine aM ?_
  replace h:=aI h
  refine aE dCo fun K hK=>?_;conv=>whnf
  refine hK _ ?_
  cases h
  exact Wk.refl _
 refine hK2 ?_
 refine aK ?_
 refine tHn ?_
 refine aL ?_
 refine aB dCo rfl fun K hK=>?_;conv=>whnf
 replace h:=eW h
 refine nlA rfl ?_;conv=>whnf
 refine bKo rfl ?_;conv=>whnf
 refine gKo rfl ?_;conv=>whnf
 refine cLk h (fun _ h=>?_) (fun _ h=>?_)<;>(conv=>whnf)
 ·refine hK _ _ _ ?_
  refine aT fun K1 K2 hK1 hK2=>?_;conv=>whnf
  refine hK1 ?_
  replace h:=kR h
  refine aB dCo rfl fun K hK=>?_;conv=>whnf
  refine hK _ _ _ ?_
  refine aJ ?_
  refine aM ?_
  replace h:=aI h
  refine aE dCo fun K hK=>?_;conv=>whnf
  refine hK _ ?_
  cases h
  exact Wk.refl _
 refine nlA rfl ?_;conv=>whnf
 refine bKo rfl ?_;conv=>whnf
 refine nlA rfl ?_;conv=>whnf
 refine nlA rfl ?_;conv=>whnf
 refine bKo rfl ?_;conv=>whnf
 refine gKo rfl ?_;conv=>whnf
 replace h:=bE h
 refine zB h71 h (WkL.refl _) (fun _ h=>?_);conv=>whnf
 refine hK _ _ _ ?_
 refine aT fun K1 K2 hK1 hK2=>?_;conv=>whnf
 refine cLk h (fun _ h=>?_) (fun _ h=>?_)
 ·refine hK1 ?_
  refine aB dCo rfl fun K hK=>?_;conv=>whnf
  refine hK _ _ _ ?_
  refine aJ ?_
  refine aM ?_
  replace h:=aI h
  refine aE dCo fun K hK=>?_;conv=>whnf
  refine hK _ ?_
  cases h
  exact Wk.refl _
 refine hK2 ?_
 refine aK ?_
 refine tHn ?_
 refine aL ?_
 refine aB dCo rfl fun K hK=>?_;conv=>whnf
 refine hK _ _ _ ?_
 refine aN ?_
 replace h:=bE h
 refine dS (body:=kB _ _ _) rfl h [1,3,5] [3,5] [] (fun kl kh ids b s=>⟨ofL ([(7,eI s)]++kl),ofH ([]++kh),b+64⟩) ?_;(conv=>whnf);refine And.intro ?_ (fun s m h=>dY ?_)
 ·refine aO ?_;conv=>whnf
  exact And.intro rfl (And.intro (aLc wkI (aLc (wkr (lsL fun _=>(lsI _ _))) (aLc (WkR.ptr (fun _=>rfl)) (aLc (WkR.ptr (fun _=>rfl)) aLn)))) (aLc ⟨some _,rfl,bRc rfl (cKc wkI (cKc (wkr (lsL fun _=>(aC _))) cKn))⟩ (aLc ⟨some _,rfl,bRc rfl (cKc (wkr (lsB _)) (cKc (wkr (lsL fun _=>(lsI _ _))) (cKc wkI cKn)))⟩ aLn)))
 replace h:=bE h;rw [kB.eq_1] at h
 refine aL ?_
 refine aB dCo rfl fun K hK=>?_;conv=>whnf
 refine nlA rfl ?_;conv=>whnf
 refine bKo rfl ?_;conv=>whnf
 refine gKo rfl ?_;conv=>whnf
 refine hK _ _ _ ?_
 refine aT fun K1 K2 hK1 hK2=>?_;conv=>whnf
 refine cLk h (fun _ h=>?_) (fun _ h=>?_)
 ·refine hK1 ?_
  refine aK ?_
  refine tHn ?_
  refine aL ?_
  refine aN ?_
  refine iZ dCo cJ rfl (by kernel_rfl) fun K hK=>?_;conv=>whnf
  refine nlA rfl ?_;conv=>whnf
  refine bKo rfl ?_;conv=>whnf
  refine nlA rfl ?_;conv=>whnf
  refine nlA rfl ?_;conv=>whnf
  refine bKo rfl ?_;conv=>whnf
  refine gKo rfl ?_;conv=>whnf
  replace h:=bE h
  refine aA5 h72 h (WkL.refl _) (fun _ h=>?_);conv=>whnf
  refine cA h fun _ h=>?_;conv=>whnf
  refine gKo rfl ?_;conv=>whnf
  refine hK _ _ _ ?_
  refine aT fun K1 K2 hK1 hK2=>?_;conv=>whnf
  refine cLk h (fun _ h=>?_) (fun _ h=>?_)
  ·refine hK1 ?_
   refine aB dCo rfl fun K hK=>?_;conv=>whnf
   refine hK _ _ _ ?_
   refine aJ ?_
   refine aP ?_
   refine aM ?_
   refine aM ?_
   refine aP ?_
   refine aM ?_
   replace h:=iG h
   replace h:=iF h
   replace h:=aI h
   refine aE dCo fun K hK=>?_;conv=>whnf
   refine hK _ ?_
   cases h
   exact Wk.refl _
  refine hK2 ?_
  refine aK ?_
  refine iBn ?_
  refine tHn ?_
  refine cK dCo rfl fun K hK=>?_;conv=>whnf
  refine hK _ _ _ ?_
  refine tHn ?_
  replace h:=bY h
  refine ⟨_,h,?_⟩
  refine aO ?_;conv=>whnf
  exact And.intro rfl (And.intro (aLc wkI (aLc (wkr (lsL fun _=>(lsI _ _))) (aLc (WkR.ptr (fun _=>rfl)) (aLc (WkR.ptr (fun _=>rfl)) aLn)))) (aLc ⟨some _,rfl,bRc rfl (cKc wkI (cKc (wkr (lsL fun _=>(aC _))) cKn))⟩ (aLc ⟨some _,rfl,bRc rfl (cKc (wkr (lsB _)) (cKc (wkr (lsL fun _=>(lsI _ _))) (cKc wkI cKn)))⟩ aLn)))
 refine hK2 ?_
 refine bN ?_
 refine aW ?_
 refine aW ?_
 refine aV ?_
 replace h:=eA h
 replace h:=dZ h
 refine tHn ?_
 refine aB dCo rfl fun K hK=>?_;conv=>whnf
 refine hK _ _ _ ?_
 refine aJ ?_
 replace h:=aI h
 refine aE dCo fun K hK=>?_;conv=>whnf
 refine hK _ ?_
 cases h
 exact Wk.refl _
theorem sN {T:Tbl} (hT:T 51=aH kU) {args:List AV} {hp:bF} {id:Nat} {k:AV→Prop} {a0:bG} {a1:List Int} {a2:lG} {Φ:Bool→Prop} (h:W (gL a0 a1 a2) Φ) (hw:WkL args [fF a0,(eL 1 eI default) a1,zV a2]) (hk:∀ y,Φ y→k (eB y)):bZ T 51 args hp id k:=by
 obtain ⟨y,e,hy⟩:=dL h
 exact aS hT ⟨a0,a1,a2,rfl,kS e rfl⟩ (by exact (lsB _)) hw (hk y hy)
end Go.Proofs.YtkjccabdpeldhaaGreat
