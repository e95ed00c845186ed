import Derived.Test.YtlmboonbfhkfnaaDoorM5
import Derived.Test.YtlmboonbfhkfnaaDoorM3
set_option linter.unusedVariables false
set_option linter.unusedSimpArgs false
set_option linter.unusedSectionVars false
namespace Go.Proofs.YtlmboonbfhkfnaaDoor
open Go Go.Eng
set_option maxRecDepth 100000
set_option maxHeartbeats 0
set_option maxHeartbeats 0
set_option maxRecDepth 100000
def gK (a0:aE) (s3:Int):Option (Ct Int Bool):=cn (decide (s3<(a0.Pairs.length:Int))) (ix a0.Pairs default s3 fun e4=>jn (fun p5:Bool=>
  cn p5 (some (.rt false)) (some (.nx (wr (s3+1))))) fun k6=>
  cn (decide (e4.1<0)) (k6 true) (cn (decide (e4.1≥a0.N)) (k6 true) (cn (decide (e4.2<0)) (k6 true) (cn (decide (e4.2≥a0.N)) (k6 true) (k6 (e4.1 ==
  e4.2)))))) (some (.bk s3))
def iF (a0:aE):Option Bool:=jn (fun p1:Bool=>cn p1 (some false) (bd (lp (gK a0) FU 0) fun c7=>smK c7 (fun s8=>some true) (fun r9=>
  some r9))) fun k2=>cn (decide (a0.N<0)) (k2 true) (cn (decide (a0.N>8)) (k2 true) (k2 (decide ((a0.Pairs.length:Int)>28))))
def jD:List AV→AV→Prop:=fun args r=>∃ a0,args=[bF a0]∧W (iF a0) fun y=>r=(eB y)
theorem aBL {T:Tbl} (hT:TOk Tryd.prog T) (hpf:cP T PF):FOk Tryd.prog 42 (aH jD):=by
 refine bM hT hpf Tryd.func42 rfl Tryd.ntmps42 Tryd.results42 (by decide) ?_
 rintro args r ⟨a0,rfl,h⟩
 refine ⟨nle rfl,?_,?_⟩
 ·exact (lsC (bT _) lsN)
 rw [iF.eq_1] at h
 refine aC dCo rfl fun K hK=>?_;conv=>whnf
 refine hK _ _ _ ?_
 refine aF ?_
 refine aC dCo rfl fun K hK=>?_;conv=>whnf
 replace h:=lG h
 refine nlA rfl ?_;conv=>whnf
 refine bKo rfl ?_;conv=>whnf
 refine gKo rfl ?_;conv=>whnf
 refine cLk h (fun _ h=>?_) (fun _ h=>?_)<;>(conv=>whnf)
 ·refine hK _ _ _ ?_
  refine aW fun K1 K2 hK1 hK2=>?_;conv=>whnf
  refine hK1 ?_
  replace h:=rM h
  refine aC dCo rfl fun K hK=>?_;conv=>whnf
  refine hK _ _ _ ?_
  refine aP ?_
  refine aQ ?_
  replace h:=aO h
  refine aK dCo fun K hK=>?_;conv=>whnf
  refine hK _ ?_
  cases h
  exact Wk.refl _
 refine nlA rfl ?_;conv=>whnf
 refine bKo rfl ?_;conv=>whnf
 refine gKo rfl ?_;conv=>whnf
 refine cLk h (fun _ h=>?_) (fun _ h=>?_)<;>(conv=>whnf)
 ·refine hK _ _ _ ?_
  refine aW fun K1 K2 hK1 hK2=>?_;conv=>whnf
  refine hK1 ?_
  replace h:=rM h
  refine aC dCo rfl fun K hK=>?_;conv=>whnf
  refine hK _ _ _ ?_
  refine aP ?_
  refine aQ ?_
  replace h:=aO h
  refine aK dCo fun K hK=>?_;conv=>whnf
  refine hK _ ?_
  cases h
  exact Wk.refl _
 refine nlA rfl ?_;conv=>whnf
 refine bKo rfl ?_;conv=>whnf
 refine gKo rfl ?_;conv=>whnf
 refine hK _ _ _ ?_
 refine aW fun K1 K2 hK1 hK2=>?_;conv=>whnf
 refine cLk h (fun _ h=>?_) (fun _ h=>?_)
 ·refine hK1 ?_
  refine aC dCo rfl fun K hK=>?_;conv=>whnf
  refine hK _ _ _ ?_
  refine aP ?_
  refine aQ ?_
  replace h:=aO h
  refine aK dCo fun K hK=>?_;conv=>whnf
  refine hK _ ?_
  cases h
  exact Wk.refl _
 refine hK2 ?_
 refine aG ?_
 refine tHn ?_
 refine aF ?_
 refine aC dCo rfl fun K hK=>?_;conv=>whnf
 refine hK _ _ _ ?_
 refine aJ ?_
 replace h:=bL h
 refine qU (body:=gK _) rfl h [1] [1] [] (fun kl kh ids b s=>⟨ofL ([(3,eI s)]++kl),ofH ([]++kh),b+64⟩) ?_;(conv=>whnf);refine And.intro ?_ (fun s m h=>cR ?_)
 ·refine bN ?_;conv=>whnf
  exact And.intro rfl (And.intro (aLc wkI (aLc (WkR.ptr (fun _=>rfl)) aLn)) (aLc ⟨some _,rfl,bRc rfl (cKc wkI (cKc (wkr (lsL fun _=>(aI _))) cKn))⟩ aLn))
 replace h:=bL h;rw [gK.eq_1] at h
 refine aF ?_
 refine aC dCo rfl fun K hK=>?_;conv=>whnf
 refine nlA rfl ?_;conv=>whnf
 refine bKo rfl ?_;conv=>whnf
 refine gKo rfl ?_;conv=>whnf
 refine hK _ _ _ ?_
 refine aW fun K1 K2 hK1 hK2=>?_;conv=>whnf
 refine cLk h (fun _ h=>?_) (fun _ h=>?_)
 ·refine hK1 ?_
  refine aG ?_
  refine tHn ?_
  refine aF ?_
  refine aJ ?_
  refine aC dCo rfl fun K hK=>?_;conv=>whnf
  refine nlA rfl ?_;conv=>whnf
  refine bKo rfl ?_;conv=>whnf
  refine gKo rfl ?_;conv=>whnf
  refine dD h fun _ h=>?_;conv=>whnf
  refine nlA rfl ?_;conv=>whnf
  refine bKo rfl ?_;conv=>whnf
  refine And.intro rfl (And.intro (nle rfl) (And.intro rfl ?_));conv=>whnf
  refine hK _ _ _ ?_
  refine aCS rfl h [1,3] [1] [] (fun kl kh ids b s=>⟨ofL ([(59,eB s)]++kl),ofH ([]++kh),b+64⟩) ?_;(conv=>whnf);refine And.intro (fun s h=>cR ?_) (fun k h=>?_)
  ·refine aW fun K1 K2 hK1 hK2=>?_;conv=>whnf
   refine cLk h (fun _ h=>?_) (fun _ h=>?_)
   ·refine hK1 ?_
    refine aC dCo rfl fun K hK=>?_;conv=>whnf
    refine hK _ _ _ ?_
    refine aP ?_
    refine aU ?_
    refine aQ ?_
    refine aQ ?_
    refine aU ?_
    refine aQ ?_
    replace h:=jO h
    replace h:=jN h
    replace h:=aO h
    refine aK dCo fun K hK=>?_;conv=>whnf
    refine hK _ ?_
    cases h
    exact Wk.refl _
   refine hK2 ?_
   refine aG ?_
   refine iBn ?_
   refine tHn ?_
   refine bY dCo rfl fun K hK=>?_;conv=>whnf
   refine hK _ _ _ ?_
   refine tHn ?_
   replace h:=bK h
   refine ⟨_,h,?_⟩
   refine bN ?_;conv=>whnf
   exact And.intro rfl (And.intro (aLc wkI (aLc (WkR.ptr (fun _=>rfl)) aLn)) (aLc ⟨some _,rfl,bRc rfl (cKc wkI (cKc (wkr (lsL fun _=>(aI _))) cKn))⟩ aLn))
  refine bY dCo rfl fun K hK=>?_;conv=>whnf
  refine And.intro (by decide) ?_;conv=>whnf
  refine nlA rfl ?_;conv=>whnf
  refine bKo rfl ?_;conv=>whnf
  refine gKo rfl ?_;conv=>whnf
  refine cLk h (fun _ h=>?_) (fun _ h=>?_)<;>(conv=>whnf)
  ·refine hK _ _ _ ?_
   refine tHn ?_
   refine ⟨_,h,?_⟩
   refine bN ?_;conv=>whnf
   exact And.intro rfl (And.intro (aLc (wkr (lsB _)) (aLc (WkR.ptr (fun _=>rfl)) (aLc wkI aLn))) (aLc ⟨some _,rfl,bRc rfl (cKc wkI (cKc (wkr (lsL fun _=>(aI _))) cKn))⟩ aLn))
  refine And.intro (by decide) ?_;conv=>whnf
  refine nlA rfl ?_;conv=>whnf
  refine bKo rfl ?_;conv=>whnf
  refine gKo rfl ?_;conv=>whnf
  refine nlA rfl ?_;conv=>whnf
  refine bKo rfl ?_;conv=>whnf
  refine gKo rfl ?_;conv=>whnf
  refine cLk h (fun _ h=>?_) (fun _ h=>?_)<;>(conv=>whnf)
  ·refine hK _ _ _ ?_
   refine tHn ?_
   refine ⟨_,h,?_⟩
   refine bN ?_;conv=>whnf
   exact And.intro rfl (And.intro (aLc (wkr (lsB _)) (aLc (WkR.ptr (fun _=>rfl)) (aLc wkI aLn))) (aLc ⟨some _,rfl,bRc rfl (cKc wkI (cKc (wkr (lsL fun _=>(aI _))) cKn))⟩ aLn))
  refine And.intro (by decide) ?_;conv=>whnf
  refine nlA rfl ?_;conv=>whnf
  refine bKo rfl ?_;conv=>whnf
  refine gKo rfl ?_;conv=>whnf
  refine cLk h (fun _ h=>?_) (fun _ h=>?_)<;>(conv=>whnf)
  ·refine hK _ _ _ ?_
   refine tHn ?_
   refine ⟨_,h,?_⟩
   refine bN ?_;conv=>whnf
   exact And.intro rfl (And.intro (aLc (wkr (lsB _)) (aLc (WkR.ptr (fun _=>rfl)) (aLc wkI aLn))) (aLc ⟨some _,rfl,bRc rfl (cKc wkI (cKc (wkr (lsL fun _=>(aI _))) cKn))⟩ aLn))
  refine And.intro (by decide) ?_;conv=>whnf
  refine nlA rfl ?_;conv=>whnf
  refine bKo rfl ?_;conv=>whnf
  refine gKo rfl ?_;conv=>whnf
  refine nlA rfl ?_;conv=>whnf
  refine bKo rfl ?_;conv=>whnf
  refine gKo rfl ?_;conv=>whnf
  refine cLk h (fun _ h=>?_) (fun _ h=>?_)<;>(conv=>whnf)
  ·refine hK _ _ _ ?_
   refine tHn ?_
   refine ⟨_,h,?_⟩
   refine bN ?_;conv=>whnf
   exact And.intro rfl (And.intro (aLc (wkr (lsB _)) (aLc (WkR.ptr (fun _=>rfl)) (aLc wkI aLn))) (aLc ⟨some _,rfl,bRc rfl (cKc wkI (cKc (wkr (lsL fun _=>(aI _))) cKn))⟩ aLn))
  refine And.intro (by decide) ?_;conv=>whnf
  refine nlA rfl ?_;conv=>whnf
  refine bKo rfl ?_;conv=>whnf
  refine gKo rfl ?_;conv=>whnf
  refine And.intro (by decide) ?_;conv=>whnf
  refine nlA rfl ?_;conv=>whnf
  refine bKo rfl ?_;conv=>whnf
  refine gKo rfl ?_;conv=>whnf
  refine hK _ _ _ ?_
  refine tHn ?_
  refine ⟨_,h,?_⟩
  refine bN ?_;conv=>whnf
  exact And.intro rfl (And.intro (aLc (wkr (lsB _)) (aLc (WkR.ptr (fun _=>rfl)) (aLc wkI aLn))) (aLc ⟨some _,rfl,bRc rfl (cKc wkI (cKc (wkr (lsL fun _=>(aI _))) cKn))⟩ aLn))
 refine hK2 ?_
 refine bI ?_
 refine aT ?_
 refine aT ?_
 refine aS ?_
 replace h:=cV h
 replace h:=cU h
 refine tHn ?_
 refine aC dCo rfl fun K hK=>?_;conv=>whnf
 refine hK _ _ _ ?_
 refine aP ?_
 replace h:=aO h
 refine aK dCo fun K hK=>?_;conv=>whnf
 refine hK _ ?_
 cases h
 exact Wk.refl _
theorem qE {T:Tbl} (hT:T 42=aH jD) {args:List AV} {hp:bH} {id:Nat} {k:AV→Prop} {a0:aE} {Φ:Bool→Prop} (h:W (iF a0) Φ) (hw:WkL args [bF a0]) (hk:∀ y,Φ y→k (eB y)):cH T 42 args hp id k:=by
 obtain ⟨y,e,hy⟩:=dY h
 exact aV hT ⟨a0,rfl,lR e rfl⟩ (by exact (lsB _)) hw (hk y hy)
def mF (a0:aE) (s1:Int×(Br 64)):Option (Ct (Int×(Br 64)) (Br 64)):=cn (decide (s1.1<(a0.Pairs.length:Int))) (ix a0.Pairs default s1.1 fun e2=>
  ix a0.Pairs default s1.1 fun e3=>gd (0≤e2.1∧e2.1<(8:Int)) (gd (0≤e3.2∧e3.2<(8:Int)) (let m4:=s1.2.st2 8 e2.1 e3.2 true;
  some (.nx ((wr (s1.1+1)),m4))))) (some (.bk (s1.1,s1.2)))
def lE (a0:aE):Option (Br 64):=bd (lp (mF a0) FU (0,(Br.zero 64))) fun c5=>smK c5 (fun s6=>some s6.2) (fun r7=>some r7)
def mU:List AV→AV→Prop:=fun args r=>∃ a0,args=[bF a0]∧W (lE a0) fun y=>r=(eBr y)
theorem aCf {T:Tbl} (hT:TOk Tryd.prog T) (hpf:cP T PF):FOk Tryd.prog 71 (aH mU):=by
 refine bM hT hpf Tryd.func71 rfl Tryd.ntmps71 Tryd.results71 (by decide) ?_
 rintro args r ⟨a0,rfl,h⟩
 refine ⟨nle rfl,?_,?_⟩
 ·exact (lsC (bT _) lsN)
 rw [lE.eq_1] at h
 refine aC dCo rfl fun K hK=>?_;conv=>whnf
 refine hK _ _ _ ?_
 refine aC dCo rfl fun K hK=>?_;conv=>whnf
 refine hK _ _ _ ?_
 refine aF ?_
 refine aC dCo rfl fun K hK=>?_;conv=>whnf
 refine hK _ _ _ ?_
 refine aJ ?_
 replace h:=bL h
 refine cY (body:=mF _) rfl h [1,2,3] [1] [2] [3] (fun kl kh kr ids b s=>⟨ofL ([(4,eI s.1)]++kl),ofH (([]++kh)++([(xW ids 0,.cells (cB s.2))]++kr)),b+128⟩) ?_;(conv=>whnf);refine And.intro ?_ (fun s m h=>cR ?_)
 ·refine aR ?_;conv=>whnf
  exact And.intro rfl (And.intro (aLc wkI (aLc (WkR.ptr (fun _=>rfl)) (aLc (WkR.ptr (fun _=>rfl)) (aLc (WkR.ptr (fun _=>rfl)) aLn)))) (aLc ⟨some _,rfl,bRc rfl (cKc wkI (cKc (wkr (lsL fun _=>(aI _))) cKn))⟩ (aLc ⟨some _,rfl,aN (x:=(Br.zero 64)) rfl rfl⟩ (aLc ⟨some _,rfl,aN (x:=(Br.zero 64)) rfl rfl⟩ aLn))))
 replace h:=bL h;rw [mF.eq_1] at h
 refine aF ?_
 refine aC dCo rfl fun K hK=>?_;conv=>whnf
 refine nlA rfl ?_;conv=>whnf
 refine bKo rfl ?_;conv=>whnf
 refine gKo rfl ?_;conv=>whnf
 refine hK _ _ _ ?_
 refine aW fun K1 K2 hK1 hK2=>?_;conv=>whnf
 refine cLk h (fun _ h=>?_) (fun _ h=>?_)
 ·refine hK1 ?_
  refine aG ?_
  refine tHn ?_
  refine aF ?_
  refine aJ ?_
  refine nQ dCo cG rfl (by kernel_rfl) fun K hK=>?_;conv=>whnf
  refine nlA rfl ?_;conv=>whnf
  refine bKo rfl ?_;conv=>whnf
  refine gKo rfl ?_;conv=>whnf
  refine dD h fun _ h=>?_;conv=>whnf
  refine And.intro (by decide) ?_;conv=>whnf
  refine gKo rfl ?_;conv=>whnf
  refine nlA rfl ?_;conv=>whnf
  refine bKo rfl ?_;conv=>whnf
  refine gKo rfl ?_;conv=>whnf
  refine dD h fun _ h=>?_;conv=>whnf
  refine And.intro (by decide) ?_;conv=>whnf
  refine gKo rfl ?_;conv=>whnf
  refine bW h fun hx27 h=>?_;conv=>whnf
  refine bW h fun hx28 h=>?_;conv=>whnf
  refine bKo rfl ?_;conv=>whnf
  refine aHr (m:=8) rfl rfl hx27 hx28 rfl rfl ?_;conv=>whnf
  refine hK _ _ _ ?_
  refine iBn ?_
  refine tHn ?_
  refine bY dCo rfl fun K hK=>?_;conv=>whnf
  refine hK _ _ _ ?_
  refine tHn ?_
  replace h:=bK h
  refine ⟨_,h,?_⟩
  refine aR ?_;conv=>whnf
  exact And.intro rfl (And.intro (aLc wkI (aLc (WkR.ptr (fun _=>rfl)) (aLc (WkR.ptr (fun _=>rfl)) (aLc (WkR.ptr (fun _=>rfl)) aLn)))) (aLc ⟨some _,rfl,bRc rfl (cKc wkI (cKc (wkr (lsL fun _=>(aI _))) cKn))⟩ (aLc ⟨some _,rfl,aN rfl rfl⟩ (aLc ⟨some _,rfl,aN (x:=(Br.zero 64)) rfl rfl⟩ aLn))))
 refine hK2 ?_
 refine bI ?_
 refine aT ?_
 refine aT ?_
 refine aS ?_
 replace h:=cV h
 replace h:=cU h
 refine tHn ?_
 refine aC dCo rfl fun K hK=>?_;conv=>whnf
 refine nlA rfl ?_;conv=>whnf
 refine bKo rfl ?_;conv=>whnf
 refine wP rfl ?_;conv=>whnf
 refine bKo rfl ?_;conv=>whnf
 refine aA0 rfl rfl rfl ?_;conv=>whnf
 refine hK _ _ _ ?_
 refine aP ?_
 replace h:=aO h
 refine aK dCo fun K hK=>?_;conv=>whnf
 refine nlA rfl ?_;conv=>whnf
 refine bKo rfl ?_;conv=>whnf
 refine wP rfl ?_;conv=>whnf
 refine hK _ ?_
 cases h
 exact Wk.refl _
theorem uY {T:Tbl} (hT:T 71=aH mU) {args:List AV} {hp:bH} {id:Nat} {k:AV→Prop} {a0:aE} {Φ:Br 64→Prop} (h:W (lE a0) Φ) (hw:WkL args [bF a0]) (hk:∀ y,Φ y→k (eBr y)):cH T 71 args hp id k:=by
 obtain ⟨y,e,hy⟩:=dY h
 exact aV hT ⟨a0,rfl,lR e rfl⟩ (by exact (sK _)) hw (hk y hy)
  def jW (a0:aE) (s2:Int×(Br 64)) (s3:Int×(Br 64)) (s4:Int×(Br 64)):Option (Ct (Int×(Br 64)) (Br 64)):=cn (decide (s4.1<a0.N)) (jn (fun p5:Bool=>
  jn (fun p7:(Br 64)=>some (.nx ((wr (s4.1+1)),p7))) fun k8=>
  cn p5 (gd (0≤s3.1∧s3.1<(8:Int)) (gd (0≤s4.1∧s4.1<(8:Int)) (let m9:=s4.2.st2 8 s3.1 s4.1 true;k8 m9))) (k8 s4.2)) fun k6=>
  gd (0≤s3.1∧s3.1<(8:Int)) (gd (0≤s2.1∧s2.1<(8:Int)) (cn (s4.2.at2 8 s3.1 s2.1) (gd (0≤s2.1∧s2.1<(8:Int)) (gd (0≤s4.1∧s4.1<(8:Int)) (k6 (s4.2.at2 8 s2.1 s4.1)))) (k6 false)))) (some (.bk (s4.1,s4.2)))
  def jY (a0:aE) (s2:Int×(Br 64)) (s3:Int×(Br 64)):Option (Ct (Int×(Br 64)) (Br 64)):=cn (decide (s3.1<a0.N)) (bd (lp (jW a0 s2 s3) FU (0,s3.2)) fun c10=>
  smK c10 (fun s11=>some (.nx ((wr (s3.1+1)),s11.2))) (fun r12=>some (.rt r12))) (some (.bk (s3.1,s3.2)))
def kR (a0:aE) (s2:Int×(Br 64)):Option (Ct (Int×(Br 64)) (Br 64)):=cn (decide (s2.1<a0.N)) (bd (lp (jY a0 s2) FU (0,s2.2)) fun c13=>
  smK c13 (fun s14=>some (.nx ((wr (s2.1+1)),s14.2))) (fun r15=>some (.rt r15))) (some (.bk (s2.1,s2.2)))
def cC (a0:aE):Option (Br 64):=bd (lE a0) fun y1=>bd (lp (kR a0) FU (0,y1)) fun c16=>smK c16 (fun s17=>some s17.2) (fun r18=>
  some r18)
def cI:List AV→AV→Prop:=fun args r=>∃ a0,args=[bF a0]∧W (cC a0) fun y=>r=(eBr y)
theorem aBt {T:Tbl} (hT:TOk Tryd.prog T) (hpf:cP T PF) (h71:T 71=aH mU):FOk Tryd.prog 39 (aH cI):=by
 refine bM hT hpf Tryd.func39 rfl Tryd.ntmps39 Tryd.results39 (by decide) ?_
 rintro args r ⟨a0,rfl,h⟩
 refine ⟨nle rfl,?_,?_⟩
 ·exact (lsC (bT _) lsN)
 rw [cC.eq_1] at h
 refine aC dCo rfl fun K hK=>?_;conv=>whnf
 refine hK _ _ _ ?_
 refine aC dCo rfl fun K hK=>?_;conv=>whnf
 refine nlA rfl ?_;conv=>whnf
 refine bKo rfl ?_;conv=>whnf
 refine nlA rfl ?_;conv=>whnf
 replace h:=bL h
 refine uY h71 h (WkL.refl _) (fun _ h=>?_);conv=>whnf
 refine aL ?_;conv=>whnf
 refine bKo rfl ?_;conv=>whnf
 refine aA0 rfl rfl rfl ?_;conv=>whnf
 refine hK _ _ _ ?_
 refine aF ?_
 refine aC dCo rfl fun K hK=>?_;conv=>whnf
 refine hK _ _ _ ?_
 refine aJ ?_
 replace h:=bL h
 refine cY (body:=kR _) rfl h [1,2,3] [1] [2] [3] (fun kl kh kr ids b s=>⟨ofL ([(4,eI s.1)]++kl),ofH (([]++kh)++([(xW ids 0,.cells (cB s.2))]++kr)),b+128⟩) ?_;(conv=>whnf);refine And.intro ?_ (fun s m h=>cR ?_)
 ·refine aR ?_;conv=>whnf
  exact And.intro rfl (And.intro (aLc wkI (aLc (WkR.ptr (fun _=>rfl)) (aLc (WkR.ptr (fun _=>rfl)) (aLc (WkR.ptr (fun _=>rfl)) aLn)))) (aLc ⟨some _,rfl,bRc rfl (cKc wkI (cKc (wkr (lsL fun _=>(aI _))) cKn))⟩ (aLc ⟨some _,rfl,aN rfl rfl⟩ (aLc ⟨some _,rfl,aN (x:=(Br.zero 64)) rfl rfl⟩ aLn))))
 replace h:=bL h;rw [kR.eq_1] at h
 refine aF ?_
 refine aC dCo rfl fun K hK=>?_;conv=>whnf
 refine nlA rfl ?_;conv=>whnf
 refine bKo rfl ?_;conv=>whnf
 refine gKo rfl ?_;conv=>whnf
 refine hK _ _ _ ?_
 refine aW fun K1 K2 hK1 hK2=>?_;conv=>whnf
 refine cLk h (fun _ h=>?_) (fun _ h=>?_)
 ·refine hK1 ?_
  refine aG ?_
  refine tHn ?_
  refine aF ?_
  refine aJ ?_
  refine aC dCo rfl fun K hK=>?_;conv=>whnf
  refine hK _ _ _ ?_
  refine aJ ?_
  replace h:=bL h
  refine cY (body:=jY _ _) rfl h [1,2,3,4] [1] [2] [3] (fun kl kh kr ids b s=>⟨ofL ([(5,eI s.1)]++kl),ofH (([]++kh)++([(xW ids 0,.cells (cB s.2))]++kr)),b+128⟩) ?_;(conv=>whnf);refine And.intro ?_ (fun s m h=>cR ?_)
  ·refine aR ?_;conv=>whnf
   exact And.intro rfl (And.intro (aLc wkI (aLc (WkR.ptr (fun _=>rfl)) (aLc (WkR.ptr (fun _=>rfl)) (aLc (WkR.ptr (fun _=>rfl)) (aLc wkI aLn))))) (aLc ⟨some _,rfl,bRc rfl (cKc wkI (cKc (wkr (lsL fun _=>(aI _))) cKn))⟩ (aLc ⟨some _,rfl,aN rfl rfl⟩ (aLc ⟨some _,rfl,aN (x:=(Br.zero 64)) rfl rfl⟩ aLn))))
  replace h:=bL h;rw [jY.eq_1] at h
  refine aF ?_
  refine aC dCo rfl fun K hK=>?_;conv=>whnf
  refine nlA rfl ?_;conv=>whnf
  refine bKo rfl ?_;conv=>whnf
  refine gKo rfl ?_;conv=>whnf
  refine hK _ _ _ ?_
  refine aW fun K1 K2 hK1 hK2=>?_;conv=>whnf
  refine cLk h (fun _ h=>?_) (fun _ h=>?_)
  ·refine hK1 ?_
   refine aG ?_
   refine tHn ?_
   refine aF ?_
   refine aJ ?_
   refine aC dCo rfl fun K hK=>?_;conv=>whnf
   refine hK _ _ _ ?_
   refine aJ ?_
   replace h:=bL h
   refine cY (body:=jW _ _ _) rfl h [1,2,3,4,5] [1] [2] [3] (fun kl kh kr ids b s=>⟨ofL ([(6,eI s.1)]++kl),ofH (([]++kh)++([(xW ids 0,.cells (cB s.2))]++kr)),b+128⟩) ?_;(conv=>whnf);refine And.intro ?_ (fun s m h=>cR ?_)
   ·refine aR ?_;conv=>whnf
    exact And.intro rfl (And.intro (aLc wkI (aLc (WkR.ptr (fun _=>rfl)) (aLc (WkR.ptr (fun _=>rfl)) (aLc (WkR.ptr (fun _=>rfl)) (aLc wkI (aLc wkI aLn)))))) (aLc ⟨some _,rfl,bRc rfl (cKc wkI (cKc (wkr (lsL fun _=>(aI _))) cKn))⟩ (aLc ⟨some _,rfl,aN rfl rfl⟩ (aLc ⟨some _,rfl,aN (x:=(Br.zero 64)) rfl rfl⟩ aLn))))
   replace h:=bL h;rw [jW.eq_1] at h
   refine aF ?_
   refine aC dCo rfl fun K hK=>?_;conv=>whnf
   refine nlA rfl ?_;conv=>whnf
   refine bKo rfl ?_;conv=>whnf
   refine gKo rfl ?_;conv=>whnf
   refine hK _ _ _ ?_
   refine aW fun K1 K2 hK1 hK2=>?_;conv=>whnf
   refine cLk h (fun _ h=>?_) (fun _ h=>?_)
   ·refine hK1 ?_
    refine aG ?_
    refine tHn ?_
    refine aF ?_
    refine aJ ?_
    refine aC dCo rfl fun K hK=>?_;conv=>whnf
    replace h:=lG h
    refine bW h fun hx3163 h=>?_;conv=>whnf
    refine bW h fun hx3164 h=>?_;conv=>whnf
    refine nlA rfl ?_;conv=>whnf
    refine bKo rfl ?_;conv=>whnf
    refine lF (m:=8) rfl rfl hx3163 hx3164 ?_;conv=>whnf
    refine cLk h (fun _ h=>?_) (fun _ h=>?_)<;>(conv=>whnf)
    ·refine bW h fun hx3165 h=>?_;conv=>whnf
     refine bW h fun hx3166 h=>?_;conv=>whnf
     refine nlA rfl ?_;conv=>whnf
     refine bKo rfl ?_;conv=>whnf
     refine lF (m:=8) rfl rfl hx3165 hx3166 ?_;conv=>whnf
     refine hK _ _ _ ?_
     replace h:=lG h
     refine aW fun K1 K2 hK1 hK2=>?_;conv=>whnf
     refine cLk h (fun _ h=>?_) (fun _ h=>?_)
     ·refine hK1 ?_
      refine bY dCo rfl fun K hK=>?_;conv=>whnf
      refine bW h fun hx3169 h=>?_;conv=>whnf
      refine bW h fun hx3170 h=>?_;conv=>whnf
      refine bKo rfl ?_;conv=>whnf
      refine aHr (m:=8) rfl rfl hx3169 hx3170 rfl rfl ?_;conv=>whnf
      refine hK _ _ _ ?_
      refine iBn ?_
      refine tHn ?_
      refine bY dCo rfl fun K hK=>?_;conv=>whnf
      refine hK _ _ _ ?_
      refine tHn ?_
      replace h:=bK h
      refine ⟨_,h,?_⟩
      refine aR ?_;conv=>whnf
      exact And.intro rfl (And.intro (aLc wkI (aLc (WkR.ptr (fun _=>rfl)) (aLc (WkR.ptr (fun _=>rfl)) (aLc (WkR.ptr (fun _=>rfl)) (aLc wkI (aLc wkI aLn)))))) (aLc ⟨some _,rfl,bRc rfl (cKc wkI (cKc (wkr (lsL fun _=>(aI _))) cKn))⟩ (aLc ⟨some _,rfl,aN rfl rfl⟩ (aLc ⟨some _,rfl,aN (x:=(Br.zero 64)) rfl rfl⟩ aLn))))
     refine hK2 ?_
     refine aG ?_
     refine iBn ?_
     refine tHn ?_
     refine bY dCo rfl fun K hK=>?_;conv=>whnf
     refine hK _ _ _ ?_
     refine tHn ?_
     replace h:=bK h
     refine ⟨_,h,?_⟩
     refine aR ?_;conv=>whnf
     exact And.intro rfl (And.intro (aLc wkI (aLc (WkR.ptr (fun _=>rfl)) (aLc (WkR.ptr (fun _=>rfl)) (aLc (WkR.ptr (fun _=>rfl)) (aLc wkI (aLc wkI aLn)))))) (aLc ⟨some _,rfl,bRc rfl (cKc wkI (cKc (wkr (lsL fun _=>(aI _))) cKn))⟩ (aLc ⟨some _,rfl,aN rfl rfl⟩ (aLc ⟨some _,rfl,aN (x:=(Br.zero 64)) rfl rfl⟩ aLn))))
    refine hK _ _ _ ?_
    replace h:=lG h
    refine aW fun K1 K2 hK1 hK2=>?_;conv=>whnf
    refine hK2 ?_
    replace h:=rS h
    refine aG ?_
    refine iBn ?_
    refine tHn ?_
    refine bY dCo rfl fun K hK=>?_;conv=>whnf
    refine hK _ _ _ ?_
    refine tHn ?_
    replace h:=bK h
    refine ⟨_,h,?_⟩
    refine aR ?_;conv=>whnf
    exact And.intro rfl (And.intro (aLc wkI (aLc (WkR.ptr (fun _=>rfl)) (aLc (WkR.ptr (fun _=>rfl)) (aLc (WkR.ptr (fun _=>rfl)) (aLc wkI (aLc wkI aLn)))))) (aLc ⟨some _,rfl,bRc rfl (cKc wkI (cKc (wkr (lsL fun _=>(aI _))) cKn))⟩ (aLc ⟨some _,rfl,aN rfl rfl⟩ (aLc ⟨some _,rfl,aN (x:=(Br.zero 64)) rfl rfl⟩ aLn))))
   refine hK2 ?_
   refine bI ?_
   refine aT ?_
   refine aT ?_
   refine aS ?_
   replace h:=cV h
   replace h:=cU h
   refine iBn ?_
   refine tHn ?_
   refine bY dCo rfl fun K hK=>?_;conv=>whnf
   refine hK _ _ _ ?_
   refine tHn ?_
   replace h:=bK h
   refine ⟨_,h,?_⟩
   refine aR ?_;conv=>whnf
   exact And.intro rfl (And.intro (aLc wkI (aLc (WkR.ptr (fun _=>rfl)) (aLc (WkR.ptr (fun _=>rfl)) (aLc (WkR.ptr (fun _=>rfl)) (aLc wkI aLn))))) (aLc ⟨some _,rfl,bRc rfl (cKc wkI (cKc (wkr (lsL fun _=>(aI _))) cKn))⟩ (aLc ⟨some _,rfl,aN rfl rfl⟩ (aLc ⟨some _,rfl,aN (x:=(Br.zero 64)) rfl rfl⟩ aLn))))
  refine hK2 ?_
  refine bI ?_
  refine aT ?_
  refine aT ?_
  refine aS ?_
  replace h:=cV h
  replace h:=cU h
  refine iBn ?_
  refine tHn ?_
  refine bY dCo rfl fun K hK=>?_;conv=>whnf
  refine hK _ _ _ ?_
  refine tHn ?_
  replace h:=bK h
  refine ⟨_,h,?_⟩
  refine aR ?_;conv=>whnf
  exact And.intro rfl (And.intro (aLc wkI (aLc (WkR.ptr (fun _=>rfl)) (aLc (WkR.ptr (fun _=>rfl)) (aLc (WkR.ptr (fun _=>rfl)) aLn)))) (aLc ⟨some _,rfl,bRc rfl (cKc wkI (cKc (wkr (lsL fun _=>(aI _))) cKn))⟩ (aLc ⟨some _,rfl,aN rfl rfl⟩ (aLc ⟨some _,rfl,aN (x:=(Br.zero 64)) rfl rfl⟩ aLn))))
 refine hK2 ?_
 refine bI ?_
 refine aT ?_
 refine aT ?_
 refine aS ?_
 replace h:=cV h
 replace h:=cU h
 refine tHn ?_
 refine aC dCo rfl fun K hK=>?_;conv=>whnf
 refine nlA rfl ?_;conv=>whnf
 refine bKo rfl ?_;conv=>whnf
 refine wP rfl ?_;conv=>whnf
 refine bKo rfl ?_;conv=>whnf
 refine aA0 rfl rfl rfl ?_;conv=>whnf
 refine hK _ _ _ ?_
 refine aP ?_
 replace h:=aO h
 refine aK dCo fun K hK=>?_;conv=>whnf
 refine nlA rfl ?_;conv=>whnf
 refine bKo rfl ?_;conv=>whnf
 refine wP rfl ?_;conv=>whnf
 refine hK _ ?_
 cases h
 exact Wk.refl _
theorem cK {T:Tbl} (hT:T 39=aH cI) {args:List AV} {hp:bH} {id:Nat} {k:AV→Prop} {a0:aE} {Φ:Br 64→Prop} (h:W (cC a0) Φ) (hw:WkL args [bF a0]) (hk:∀ y,Φ y→k (eBr y)):cH T 39 args hp id k:=by
 obtain ⟨y,e,hy⟩:=dY h
 exact aV hT ⟨a0,rfl,lR e rfl⟩ (by exact (sK _)) hw (hk y hy)
  def iB (a0:aE) (y2:Br 64) (s3:Int):Option (Ct Int Bool):=cn (decide (s3<a0.N)) (gd (0≤s3∧s3<(8:Int)) (gd (0≤s3∧s3<(8:Int)) (cn (y2.at2 8 s3 s3) (some (.rt false)) (some (.nx (wr (s3+1))))))) (some (.bk s3))
def bR (a0:aE):Option Bool:=bd (iF a0) fun y1=>cn (!y1) (some false) (bd (cC a0) fun y2=>
  bd (lp (iB a0 y2) FU 0) fun c4=>smK c4 (fun s5=>some true) (fun r6=>some r6))
def dM:List AV→AV→Prop:=fun args r=>∃ a0,args=[bF a0]∧W (bR a0) fun y=>r=(eB y)
theorem aCc {T:Tbl} (hT:TOk Tryd.prog T) (hpf:cP T PF) (h39:T 39=aH cI) (h42:T 42=aH jD):FOk Tryd.prog 38 (aH dM):=by
 refine bM hT hpf Tryd.func38 rfl Tryd.ntmps38 Tryd.results38 (by decide) ?_
 rintro args r ⟨a0,rfl,h⟩
 refine ⟨nle rfl,?_,?_⟩
 ·exact (lsC (bT _) lsN)
 rw [bR.eq_1] at h
 refine aC dCo rfl fun K hK=>?_;conv=>whnf
 refine hK _ _ _ ?_
 refine aF ?_
 refine aC dCo rfl fun K hK=>?_;conv=>whnf
 refine nlA rfl ?_;conv=>whnf
 refine bKo rfl ?_;conv=>whnf
 refine nlA rfl ?_;conv=>whnf
 replace h:=bL h
 refine qE h42 h (WkL.refl _) (fun _ h=>?_);conv=>whnf
 refine hK _ _ _ ?_
 refine aW fun K1 K2 hK1 hK2=>?_;conv=>whnf
 refine cLk h (fun _ h=>?_) (fun _ h=>?_)
 ·refine hK1 ?_
  refine aC dCo rfl fun K hK=>?_;conv=>whnf
  refine hK _ _ _ ?_
  refine aP ?_
  refine aQ ?_
  replace h:=aO h
  refine aK dCo fun K hK=>?_;conv=>whnf
  refine hK _ ?_
  cases h
  exact Wk.refl _
 refine hK2 ?_
 refine aG ?_
 refine tHn ?_
 refine aC dCo rfl fun K hK=>?_;conv=>whnf
 refine nlA rfl ?_;conv=>whnf
 refine bKo rfl ?_;conv=>whnf
 refine nlA rfl ?_;conv=>whnf
 replace h:=bL h
 refine cK h39 h (WkL.refl _) (fun _ h=>?_);conv=>whnf
 refine aL ?_;conv=>whnf
 refine bKo rfl ?_;conv=>whnf
 refine aA0 rfl rfl rfl ?_;conv=>whnf
 refine hK _ _ _ ?_
 refine aF ?_
 refine aC dCo rfl fun K hK=>?_;conv=>whnf
 refine hK _ _ _ ?_
 refine aJ ?_
 replace h:=bL h
 refine cY (body:=iB _ _) rfl h [1,3] [1] [3] [] (fun kl kh kr ids b s=>⟨ofL ([(4,eI s)]++kl),ofH (([]++kh)++([]++kr)),b+64⟩) ?_;(conv=>whnf);refine And.intro ?_ (fun s m h=>cR ?_)
 ·refine aR ?_;conv=>whnf
  exact And.intro rfl (And.intro (aLc wkI (aLc (WkR.ptr (fun _=>rfl)) (aLc (WkR.ptr (fun _=>rfl)) aLn))) (aLc ⟨some _,rfl,bRc rfl (cKc wkI (cKc (wkr (lsL fun _=>(aI _))) cKn))⟩ (aLc ⟨some _,rfl,aN rfl rfl⟩ aLn)))
 replace h:=bL h;rw [iB.eq_1] at h
 refine aF ?_
 refine aC dCo rfl fun K hK=>?_;conv=>whnf
 refine nlA rfl ?_;conv=>whnf
 refine bKo rfl ?_;conv=>whnf
 refine gKo rfl ?_;conv=>whnf
 refine hK _ _ _ ?_
 refine aW fun K1 K2 hK1 hK2=>?_;conv=>whnf
 refine cLk h (fun _ h=>?_) (fun _ h=>?_)
 ·refine hK1 ?_
  refine aG ?_
  refine tHn ?_
  refine aF ?_
  refine aJ ?_
  refine aC dCo rfl fun K hK=>?_;conv=>whnf
  refine bW h fun hx3199 h=>?_;conv=>whnf
  refine bW h fun hx3200 h=>?_;conv=>whnf
  refine nlA rfl ?_;conv=>whnf
  refine bKo rfl ?_;conv=>whnf
  refine lF (m:=8) rfl rfl hx3199 hx3200 ?_;conv=>whnf
  refine hK _ _ _ ?_
  refine aW fun K1 K2 hK1 hK2=>?_;conv=>whnf
  refine cLk h (fun _ h=>?_) (fun _ h=>?_)
  ·refine hK1 ?_
   refine aC dCo rfl fun K hK=>?_;conv=>whnf
   refine hK _ _ _ ?_
   refine aP ?_
   refine aU ?_
   refine aQ ?_
   refine aQ ?_
   refine aU ?_
   refine aQ ?_
   replace h:=jO h
   replace h:=jN h
   replace h:=aO h
   refine aK dCo fun K hK=>?_;conv=>whnf
   refine hK _ ?_
   cases h
   exact Wk.refl _
  refine hK2 ?_
  refine aG ?_
  refine iBn ?_
  refine tHn ?_
  refine bY dCo rfl fun K hK=>?_;conv=>whnf
  refine hK _ _ _ ?_
  refine tHn ?_
  replace h:=bK h
  refine ⟨_,h,?_⟩
  refine aR ?_;conv=>whnf
  exact And.intro rfl (And.intro (aLc wkI (aLc (WkR.ptr (fun _=>rfl)) (aLc (WkR.ptr (fun _=>rfl)) aLn))) (aLc ⟨some _,rfl,bRc rfl (cKc wkI (cKc (wkr (lsL fun _=>(aI _))) cKn))⟩ (aLc ⟨some _,rfl,aN rfl rfl⟩ aLn)))
 refine hK2 ?_
 refine bI ?_
 refine aT ?_
 refine aT ?_
 refine aS ?_
 replace h:=cV h
 replace h:=cU h
 refine tHn ?_
 refine aC dCo rfl fun K hK=>?_;conv=>whnf
 refine hK _ _ _ ?_
 refine aP ?_
 replace h:=aO h
 refine aK dCo fun K hK=>?_;conv=>whnf
 refine hK _ ?_
 cases h
 exact Wk.refl _
theorem dV {T:Tbl} (hT:T 38=aH dM) {args:List AV} {hp:bH} {id:Nat} {k:AV→Prop} {a0:aE} {Φ:Bool→Prop} (h:W (bR a0) Φ) (hw:WkL args [bF a0]) (hk:∀ y,Φ y→k (eB y)):cH T 38 args hp id k:=by
 obtain ⟨y,e,hy⟩:=dY h
 exact aV hT ⟨a0,rfl,lR e rfl⟩ (by exact (lsB _)) hw (hk y hy)
def kW (a0:List Int) (a1:Int) (s1:Int):Option (Ct Int Bool):=cn (decide (s1<(a0.length:Int))) (ix a0 default s1 fun e2=>cn (e2 ==
  a1) (some (.rt true)) (some (.nx (wr (s1+1))))) (some (.bk s1))
def jG (a0:List Int) (a1:Int):Option Bool:=bd (lp (kW a0 a1) FU 0) fun c3=>smK c3 (fun s4=>some false) (fun r5=>some r5)
def oK:List AV→AV→Prop:=fun args r=>∃ a0 a1,args=[(eL 1 eI default) a0,eI a1]∧W (jG a0 a1) fun y=>r=(eB y)
theorem aFn {T:Tbl} (hT:TOk Tryd.prog T) (hpf:cP T PF):FOk Tryd.prog 40 (aH oK):=by
 refine bM hT hpf Tryd.func40 rfl Tryd.ntmps40 Tryd.results40 (by decide) ?_
 rintro args r ⟨a0,a1,rfl,h⟩
 refine ⟨nle rfl,?_,?_⟩
 ·exact (lsC (lsL fun _=>(lsI _ _)) (lsC (lsI _ _) lsN))
 rw [jG.eq_1] at h
 refine aC dCo rfl fun K hK=>?_;conv=>whnf
 refine hK _ _ _ ?_
 refine aF ?_
 refine aC dCo rfl fun K hK=>?_;conv=>whnf
 refine hK _ _ _ ?_
 refine aJ ?_
 replace h:=bL h
 refine qU (body:=kW _ _) rfl h [0,1] [] [] (fun kl kh ids b s=>⟨ofL ([(5,eI s)]++kl),ofH ([]++kh),b+64⟩) ?_;(conv=>whnf);refine And.intro ?_ (fun s m h=>cR ?_)
 ·refine bN ?_;conv=>whnf
  exact And.intro rfl (And.intro (aLc wkI (aLc (wkr (lsL fun _=>(lsI _ _))) (aLc wkI aLn))) aLn)
 replace h:=bL h;rw [kW.eq_1] at h
 refine aF ?_
 refine aC dCo rfl fun K hK=>?_;conv=>whnf
 refine hK _ _ _ ?_
 refine aW fun K1 K2 hK1 hK2=>?_;conv=>whnf
 refine cLk h (fun _ h=>?_) (fun _ h=>?_)
 ·refine hK1 ?_
  refine aG ?_
  refine tHn ?_
  refine aF ?_
  refine aJ ?_
  refine aC dCo rfl fun K hK=>?_;conv=>whnf
  refine dD h fun _ h=>?_;conv=>whnf
  refine gKo rfl ?_;conv=>whnf
  refine hK _ _ _ ?_
  refine aW fun K1 K2 hK1 hK2=>?_;conv=>whnf
  refine cLk h (fun _ h=>?_) (fun _ h=>?_)
  ·refine hK1 ?_
   refine aC dCo rfl fun K hK=>?_;conv=>whnf
   refine hK _ _ _ ?_
   refine aP ?_
   refine aU ?_
   refine aQ ?_
   refine aQ ?_
   refine aU ?_
   refine aQ ?_
   replace h:=jO h
   replace h:=jN h
   replace h:=aO h
   refine aK dCo fun K hK=>?_;conv=>whnf
   refine hK _ ?_
   cases h
   exact Wk.refl _
  refine hK2 ?_
  refine aG ?_
  refine iBn ?_
  refine tHn ?_
  refine bY dCo rfl fun K hK=>?_;conv=>whnf
  refine hK _ _ _ ?_
  refine tHn ?_
  replace h:=bK h
  refine ⟨_,h,?_⟩
  refine bN ?_;conv=>whnf
  exact And.intro rfl (And.intro (aLc wkI (aLc (wkr (lsL fun _=>(lsI _ _))) (aLc wkI aLn))) aLn)
 refine hK2 ?_
 refine bI ?_
 refine aT ?_
 refine aT ?_
 refine aS ?_
 replace h:=cV h
 replace h:=cU h
 refine tHn ?_
 refine aC dCo rfl fun K hK=>?_;conv=>whnf
 refine hK _ _ _ ?_
 refine aP ?_
 replace h:=aO h
 refine aK dCo fun K hK=>?_;conv=>whnf
 refine hK _ ?_
 cases h
 exact Wk.refl _
theorem tL {T:Tbl} (hT:T 40=aH oK) {args:List AV} {hp:bH} {id:Nat} {k:AV→Prop} {a0:List Int} {a1:Int} {Φ:Bool→Prop} (h:W (jG a0 a1) Φ) (hw:WkL args [(eL 1 eI default) a0,eI a1]) (hk:∀ y,Φ y→k (eB y)):cH T 40 args hp id k:=by
 obtain ⟨y,e,hy⟩:=dY h
 exact aV hT ⟨a0,a1,rfl,lR e rfl⟩ (by exact (lsB _)) hw (hk y hy)
def gB (a0:aE) (a1:Int) (a2:Int):Option Bool:=jn (fun p1:Bool=>cn p1 (some false) (bd (cC a0) fun y4=>
  gd (0≤a1∧a1<(8:Int)) (gd (0≤a2∧a2<(8:Int)) (some ((y4.row 8 a1).at1 a2))))) fun k2=>bd (bR a0) fun y3=>
  cn (!y3) (k2 true) (cn (decide (a1<0)) (k2 true) (cn (decide (a1≥a0.N)) (k2 true) (cn (decide (a2<0)) (k2 true) (k2 (decide (a2≥a0.N))))))
def nZ:List AV→AV→Prop:=fun args r=>∃ a0 a1 a2,args=[bF a0,eI a1,eI a2]∧W (gB a0 a1 a2) fun y=>r=(eB y)
theorem aBU {T:Tbl} (hT:TOk Tryd.prog T) (hpf:cP T PF) (h38:T 38=aH dM) (h39:T 39=aH cI):FOk Tryd.prog 43 (aH nZ):=by
 refine bM hT hpf Tryd.func43 rfl Tryd.ntmps43 Tryd.results43 (by decide) ?_
 rintro args r ⟨a0,a1,a2,rfl,h⟩
 refine ⟨nle rfl,?_,?_⟩
 ·exact (lsC (bT _) (lsC (lsI _ _) (lsC (lsI _ _) lsN)))
 rw [gB.eq_1] at h
 refine aC dCo rfl fun K hK=>?_;conv=>whnf
 refine hK _ _ _ ?_
 refine aF ?_
 refine aCS rfl h [1,2,3] [3] [] (fun kl kh ids b s=>⟨ofL ([(29,eB s)]++kl),ofH ([]++kh),b+64⟩) ?_;(conv=>whnf);refine And.intro (fun s h=>cR ?_) (fun k h=>?_)
 ·refine aW fun K1 K2 hK1 hK2=>?_;conv=>whnf
  refine cLk h (fun _ h=>?_) (fun _ h=>?_)
  ·refine hK1 ?_
   refine aC dCo rfl fun K hK=>?_;conv=>whnf
   refine hK _ _ _ ?_
   refine aP ?_
   refine aQ ?_
   replace h:=aO h
   refine aK dCo fun K hK=>?_;conv=>whnf
   refine hK _ ?_
   cases h
   exact Wk.refl _
  refine hK2 ?_
  refine aG ?_
  refine tHn ?_
  refine aC dCo rfl fun K hK=>?_;conv=>whnf
  refine nlA rfl ?_;conv=>whnf
  refine bKo rfl ?_;conv=>whnf
  refine nlA rfl ?_;conv=>whnf
  replace h:=bL h
  refine cK h39 h (WkL.refl _) (fun _ h=>?_);conv=>whnf
  refine aL ?_;conv=>whnf
  refine bW h fun hx3203 h=>?_;conv=>whnf
  refine aOO (m:=8) rfl rfl hx3203 rfl ?_;conv=>whnf
  refine bW h fun hx3204 h=>?_;conv=>whnf
  refine aL7 rfl hx3204 ?_;conv=>whnf
  refine hK _ _ _ ?_
  refine aP ?_
  replace h:=aO h
  refine aK dCo fun K hK=>?_;conv=>whnf
  refine hK _ ?_
  cases h
  exact Wk.refl _
 refine bY dCo rfl fun K hK=>?_;conv=>whnf
 refine nlA rfl ?_;conv=>whnf
 refine bKo rfl ?_;conv=>whnf
 refine nlA rfl ?_;conv=>whnf
 replace h:=bL h
 refine dV h38 h (WkL.refl _) (fun _ h=>?_);conv=>whnf
 refine cLk h (fun _ h=>?_) (fun _ h=>?_)<;>(conv=>whnf)
 ·refine hK _ _ _ ?_
  refine tHn ?_
  refine ⟨_,h,?_⟩
  refine bN ?_;conv=>whnf
  exact And.intro rfl (And.intro (aLc (wkr (lsB _)) (aLc wkI (aLc wkI (aLc (WkR.ptr (fun _=>rfl)) aLn)))) (aLc ⟨some _,rfl,bRc rfl (cKc wkI (cKc (wkr (lsL fun _=>(aI _))) cKn))⟩ aLn))
 refine cLk h (fun _ h=>?_) (fun _ h=>?_)<;>(conv=>whnf)
 ·refine hK _ _ _ ?_
  refine tHn ?_
  refine ⟨_,h,?_⟩
  refine bN ?_;conv=>whnf
  exact And.intro rfl (And.intro (aLc (wkr (lsB _)) (aLc wkI (aLc wkI (aLc (WkR.ptr (fun _=>rfl)) aLn)))) (aLc ⟨some _,rfl,bRc rfl (cKc wkI (cKc (wkr (lsL fun _=>(aI _))) cKn))⟩ aLn))
 refine nlA rfl ?_;conv=>whnf
 refine bKo rfl ?_;conv=>whnf
 refine gKo rfl ?_;conv=>whnf
 refine cLk h (fun _ h=>?_) (fun _ h=>?_)<;>(conv=>whnf)
 ·refine hK _ _ _ ?_
  refine tHn ?_
  refine ⟨_,h,?_⟩
  refine bN ?_;conv=>whnf
  exact And.intro rfl (And.intro (aLc (wkr (lsB _)) (aLc wkI (aLc wkI (aLc (WkR.ptr (fun _=>rfl)) aLn)))) (aLc ⟨some _,rfl,bRc rfl (cKc wkI (cKc (wkr (lsL fun _=>(aI _))) cKn))⟩ aLn))
 refine cLk h (fun _ h=>?_) (fun _ h=>?_)<;>(conv=>whnf)
 ·refine hK _ _ _ ?_
  refine tHn ?_
  refine ⟨_,h,?_⟩
  refine bN ?_;conv=>whnf
  exact And.intro rfl (And.intro (aLc (wkr (lsB _)) (aLc wkI (aLc wkI (aLc (WkR.ptr (fun _=>rfl)) aLn)))) (aLc ⟨some _,rfl,bRc rfl (cKc wkI (cKc (wkr (lsL fun _=>(aI _))) cKn))⟩ aLn))
 refine nlA rfl ?_;conv=>whnf
 refine bKo rfl ?_;conv=>whnf
 refine gKo rfl ?_;conv=>whnf
 refine hK _ _ _ ?_
 refine tHn ?_
 refine ⟨_,h,?_⟩
 refine bN ?_;conv=>whnf
 exact And.intro rfl (And.intro (aLc (wkr (lsB _)) (aLc wkI (aLc wkI (aLc (WkR.ptr (fun _=>rfl)) aLn)))) (aLc ⟨some _,rfl,bRc rfl (cKc wkI (cKc (wkr (lsL fun _=>(aI _))) cKn))⟩ aLn))
theorem zN {T:Tbl} (hT:T 43=aH nZ) {args:List AV} {hp:bH} {id:Nat} {k:AV→Prop} {a0:aE} {a1:Int} {a2:Int} {Φ:Bool→Prop} (h:W (gB a0 a1 a2) Φ) (hw:WkL args [bF a0,eI a1,eI a2]) (hk:∀ y,Φ y→k (eB y)):cH T 43 args hp id k:=by
 obtain ⟨y,e,hy⟩:=dY h
 exact aV hT ⟨a0,a1,a2,rfl,lR e rfl⟩ (by exact (lsB _)) hw (hk y hy)
  def kK (a0:Int) (a1:Br 64) (s1:Int×aE) (s2:Int×aE):Option (Ct (Int×aE) aE):=cn (decide (s2.1<a0)) (gd (0≤s1.1∧s1.1<(8:Int)) (gd (0≤s2.1∧s2.1<(8:Int)) (jn (fun p3:aE=>
  some (.nx ((wr (s2.1+1)),p3))) fun k4=>cn (a1.at2 8 s1.1 s2.1) (lt ([(s1.1,s2.1)]:List (Int×Int)) fun l5=>ap s2.2.Pairs l5 fun l6=>
  k4 (⟨s2.2.N,l6⟩:aE)) (k4 s2.2)))) (some (.bk (s2.1,s2.2)))
  def jQ (a0:Int) (a1:Br 64) (s1:Int×aE):Option (Ct (Int×aE) aE):=cn (decide (s1.1<a0)) (bd (lp (kK a0 a1 s1) FU (0,s1.2)) fun c7=>
  smK c7 (fun s8=>some (.nx ((wr (s1.1+1)),s8.2))) (fun r9=>some (.rt r9))) (some (.bk (s1.1,s1.2)))
def jF (a0:Int) (a1:Br 64):Option aE:=bd (lp (jQ a0 a1) FU (0,(⟨a0,[]⟩:aE))) fun c10=>smK c10 (fun s11=>some s11.2) (fun r12=>
  some r12)
def lV:List AV→AV→Prop:=fun args r=>∃ a0 a1,args=[eI a0,eBr a1]∧W (jF a0 a1) fun y=>r=(bF y)
theorem aBo {T:Tbl} (hT:TOk Tryd.prog T) (hpf:cP T PF):FOk Tryd.prog 73 (aH lV):=by
 refine bM hT hpf Tryd.func73 rfl Tryd.ntmps73 Tryd.results73 (by decide) ?_
 rintro args r ⟨a0,a1,rfl,h⟩
 refine ⟨nle rfl,?_,?_⟩
 ·exact (lsC (lsI _ _) (lsC (sK _) lsN))
 rw [jF.eq_1] at h
 refine aC dCo rfl fun K hK=>?_;conv=>whnf
 refine aL ?_;conv=>whnf
 refine hK _ _ _ ?_
 refine aC dCo rfl fun K hK=>?_;conv=>whnf
 refine bKo rfl ?_;conv=>whnf
 refine And.intro rfl (And.intro (nle rfl) (And.intro rfl ?_));conv=>whnf
 refine hK _ _ _ ?_
 refine aF ?_
 refine aC dCo rfl fun K hK=>?_;conv=>whnf
 refine hK _ _ _ ?_
 refine aJ ?_
 replace h:=bL h
 refine cY (body:=jQ _ _) rfl h [0,3,4,5] [4] [3] [5] (fun kl kh kr ids b s=>⟨ofL ([(6,eI s.1)]++kl),ofH (([(xW ids 0,.cells [eI s.2.N,.lst (.tok (b+0)) 2 s.2.Pairs.length (fun j=>kT (s.2.Pairs.getD j default))]),(b+0,.cells [])]++kh)++([]++kr)),b+128⟩) ?_;(conv=>whnf);refine And.intro ?_ (fun s m h=>cR ?_)
 ·refine aR ?_;conv=>whnf
  exact And.intro rfl (And.intro (aLc wkI (aLc wkI (aLc (WkR.ptr (fun _=>rfl)) (aLc (WkR.ptr (fun _=>rfl)) (aLc (WkR.ptr (fun _=>rfl)) aLn))))) (aLc ⟨some _,rfl,bRc rfl (cKc wkI (cKc (WkR.nil (fun _=>rfl)) cKn))⟩ (aLc ⟨none,rfl,oH⟩ (aLc ⟨some _,rfl,bRc rfl (cKc wkI (cKc (wkr bC) cKn))⟩ (aLc ⟨some _,rfl,aN rfl rfl⟩ aLn)))))
 replace h:=bL h;rw [jQ.eq_1] at h
 refine aF ?_
 refine aC dCo rfl fun K hK=>?_;conv=>whnf
 refine hK _ _ _ ?_
 refine aW fun K1 K2 hK1 hK2=>?_;conv=>whnf
 refine cLk h (fun _ h=>?_) (fun _ h=>?_)
 ·refine hK1 ?_
  refine aG ?_
  refine tHn ?_
  refine aF ?_
  refine aJ ?_
  refine aC dCo rfl fun K hK=>?_;conv=>whnf
  refine hK _ _ _ ?_
  refine aJ ?_
  replace h:=bL h
  refine cY (body:=kK _ _ _) rfl h [0,3,4,5,6] [4] [3] [5] (fun kl kh kr ids b s=>⟨ofL ([(7,eI s.1)]++kl),ofH (([(xW ids 0,.cells [eI s.2.N,.lst (.tok (b+0)) 2 s.2.Pairs.length (fun j=>kT (s.2.Pairs.getD j default))]),(b+0,.cells [])]++kh)++([]++kr)),b+128⟩) ?_;(conv=>whnf);refine And.intro ?_ (fun s m h=>cR ?_)
  ·refine aR ?_;conv=>whnf
   exact And.intro rfl (And.intro (aLc wkI (aLc wkI (aLc (WkR.ptr (fun _=>rfl)) (aLc (WkR.ptr (fun _=>rfl)) (aLc (WkR.ptr (fun _=>rfl)) (aLc wkI aLn)))))) (aLc ⟨some _,rfl,bRc rfl (cKc wkI (cKc (WkR.tok (fun _=>rfl) rfl (fun _ _=>Wk.refl _) (fun _=>(aI _))) cKn))⟩ (aLc ⟨some _,rfl,bRc rfl cKn⟩ (aLc ⟨some _,rfl,bRc rfl (cKc wkI (cKc (wkr bC) cKn))⟩ (aLc ⟨some _,rfl,aN rfl rfl⟩ aLn)))))
  replace h:=bL h;rw [kK.eq_1] at h
  refine aF ?_
  refine aC dCo rfl fun K hK=>?_;conv=>whnf
  refine hK _ _ _ ?_
  refine aW fun K1 K2 hK1 hK2=>?_;conv=>whnf
  refine cLk h (fun _ h=>?_) (fun _ h=>?_)
  ·refine hK1 ?_
   refine aG ?_
   refine tHn ?_
   refine aF ?_
   refine aJ ?_
   refine aC dCo rfl fun K hK=>?_;conv=>whnf
   refine bW h fun hx3593 h=>?_;conv=>whnf
   refine bW h fun hx3594 h=>?_;conv=>whnf
   refine nlA rfl ?_;conv=>whnf
   refine bKo rfl ?_;conv=>whnf
   refine lF (m:=8) rfl rfl hx3593 hx3594 ?_;conv=>whnf
   refine hK _ _ _ ?_
   replace h:=lG h
   refine aW fun K1 K2 hK1 hK2=>?_;conv=>whnf
   refine cLk h (fun _ h=>?_) (fun _ h=>?_)
   ·refine hK1 ?_
    refine bY dCo rfl fun K hK=>?_;conv=>whnf
    refine nlA rfl ?_;conv=>whnf
    refine bKo rfl ?_;conv=>whnf
    refine gKo rfl ?_;conv=>whnf
    refine dL (enc:=kT) (d:=default) dCo h rfl rfl rfl ⟨nle rfl,nle rfl,rfl⟩ rfl ⟨⟨rfl,nle rfl⟩,trivial⟩ (fun h=>?_);conv=>whnf
    refine gX (enc:=kT) (d:=default) dCo h (.inl rfl) rfl rfl rfl ⟨rfl,nle rfl,nle rfl,nle rfl,rfl⟩ (fun _=>rfl) (.inr (.inr ⟨_,_,rfl,rfl,rfl⟩)) (fun h=>?_);conv=>whnf
    refine bKo rfl ?_;conv=>whnf
    refine And.intro rfl (And.intro (nle rfl) (And.intro rfl ?_));conv=>whnf
    refine hK _ _ _ ?_
    refine iBn ?_
    refine tHn ?_
    refine bY dCo rfl fun K hK=>?_;conv=>whnf
    refine hK _ _ _ ?_
    refine tHn ?_
    replace h:=bK h
    refine ⟨_,h,?_⟩
    refine aR ?_;conv=>whnf
    exact And.intro rfl (And.intro (aLc wkI (aLc wkI (aLc (WkR.ptr (fun _=>rfl)) (aLc (WkR.ptr (fun _=>rfl)) (aLc (WkR.ptr (fun _=>rfl)) (aLc wkI aLn)))))) (aLc ⟨some _,rfl,bRc rfl (cKc wkI (cKc (WkR.tok (fun _=>rfl) rfl (fun _ _=>Wk.refl _) (fun _=>(aI _))) cKn))⟩ (aLc ⟨some _,rfl,bRc rfl cKn⟩ (aLc ⟨some _,rfl,bRc rfl (cKc wkI (cKc (wkr bC) cKn))⟩ (aLc ⟨some _,rfl,aN rfl rfl⟩ aLn)))))
   refine hK2 ?_
   refine aG ?_
   refine iBn ?_
   refine tHn ?_
   refine bY dCo rfl fun K hK=>?_;conv=>whnf
   refine hK _ _ _ ?_
   refine tHn ?_
   replace h:=bK h
   refine ⟨_,h,?_⟩
   refine aR ?_;conv=>whnf
   exact And.intro rfl (And.intro (aLc wkI (aLc wkI (aLc (WkR.ptr (fun _=>rfl)) (aLc (WkR.ptr (fun _=>rfl)) (aLc (WkR.ptr (fun _=>rfl)) (aLc wkI aLn)))))) (aLc ⟨some _,rfl,bRc rfl (cKc wkI (cKc (WkR.tok (fun _=>rfl) rfl (fun _ _=>Wk.refl _) (fun _=>(aI _))) cKn))⟩ (aLc ⟨some _,rfl,bRc rfl cKn⟩ (aLc ⟨some _,rfl,bRc rfl (cKc wkI (cKc (wkr bC) cKn))⟩ (aLc ⟨some _,rfl,aN rfl rfl⟩ aLn)))))
  refine hK2 ?_
  refine bI ?_
  refine aT ?_
  refine aT ?_
  refine aS ?_
  replace h:=cV h
  replace h:=cU h
  refine iBn ?_
  refine tHn ?_
  refine bY dCo rfl fun K hK=>?_;conv=>whnf
  refine hK _ _ _ ?_
  refine tHn ?_
  replace h:=bK h
  refine ⟨_,h,?_⟩
  refine aR ?_;conv=>whnf
  exact And.intro rfl (And.intro (aLc wkI (aLc wkI (aLc (WkR.ptr (fun _=>rfl)) (aLc (WkR.ptr (fun _=>rfl)) (aLc (WkR.ptr (fun _=>rfl)) aLn))))) (aLc ⟨some _,rfl,bRc rfl (cKc wkI (cKc (WkR.tok (fun _=>rfl) rfl (fun _ _=>Wk.refl _) (fun _=>(aI _))) cKn))⟩ (aLc ⟨some _,rfl,bRc rfl cKn⟩ (aLc ⟨some _,rfl,bRc rfl (cKc wkI (cKc (wkr bC) cKn))⟩ (aLc ⟨some _,rfl,aN rfl rfl⟩ aLn)))))
 refine hK2 ?_
 refine bI ?_
 refine aT ?_
 refine aT ?_
 refine aS ?_
 replace h:=cV h
 replace h:=cU h
 refine tHn ?_
 refine aC dCo rfl fun K hK=>?_;conv=>whnf
 refine nlA rfl ?_;conv=>whnf
 refine bKo rfl ?_;conv=>whnf
 refine nlA rfl ?_;conv=>whnf
 refine bKo rfl ?_;conv=>whnf
 refine And.intro rfl (And.intro (nle rfl) (And.intro rfl ?_));conv=>whnf
 refine hK _ _ _ ?_
 refine aP ?_
 replace h:=aO h
 refine aK dCo fun K hK=>?_;conv=>whnf
 refine nlA rfl ?_;conv=>whnf
 refine bKo rfl ?_;conv=>whnf
 refine nlA rfl ?_;conv=>whnf
 refine hK _ ?_
 cases h
 exact (iA (aD (Wk.refl _) (aD cD bE)))
theorem uD {T:Tbl} (hT:T 73=aH lV) {args:List AV} {hp:bH} {id:Nat} {k:AV→Prop} {a0:Int} {a1:Br 64} {Φ:aE→Prop} (h:W (jF a0 a1) Φ) (hw:WkL args [eI a0,eBr a1]) (hk:∀ y,Φ y→k (bF y)):cH T 73 args hp id k:=by
 obtain ⟨y,e,hy⟩:=dY h
 exact aV hT ⟨a0,a1,rfl,lR e rfl⟩ (by exact (bT _)) hw (hk y hy)
def hG (a0:aE):Option (aE×Int):=bd (bR a0) fun y1=>cn (!y1) (some ((⟨0,[]⟩:aE),70)) (bd (cC a0) fun y2=>
  bd (jF a0.N y2) fun y3=>some (y3,0))
def pE:List AV→AV→Prop:=fun args r=>∃ a0,args=[bF a0]∧W (hG a0) fun y=>r=(.tup [bF y.1,eI y.2])
theorem aB3 {T:Tbl} (hT:TOk Tryd.prog T) (hpf:cP T PF) (h38:T 38=aH dM) (h39:T 39=aH cI) (h73:T 73=aH lV):FOk Tryd.prog 45 (aH pE):=by
 refine bM hT hpf Tryd.func45 rfl Tryd.ntmps45 Tryd.results45 (by decide) ?_
 rintro args r ⟨a0,rfl,h⟩
 refine ⟨nle rfl,?_,?_⟩
 ·exact (lsC (bT _) lsN)
 rw [hG.eq_1] at h
 refine aC dCo rfl fun K hK=>?_;conv=>whnf
 refine hK _ _ _ ?_
 refine aF ?_
 refine aC dCo rfl fun K hK=>?_;conv=>whnf
 refine nlA rfl ?_;conv=>whnf
 refine bKo rfl ?_;conv=>whnf
 refine nlA rfl ?_;conv=>whnf
 replace h:=bL h
 refine dV h38 h (WkL.refl _) (fun _ h=>?_);conv=>whnf
 refine hK _ _ _ ?_
 refine aW fun K1 K2 hK1 hK2=>?_;conv=>whnf
 refine cLk h (fun _ h=>?_) (fun _ h=>?_)
 ·refine hK1 ?_
  refine aC dCo rfl fun K hK=>?_;conv=>whnf
  refine bKo rfl ?_;conv=>whnf
  refine And.intro rfl (And.intro (nle rfl) (And.intro rfl ?_));conv=>whnf
  refine hK _ _ _ ?_
  refine aP ?_
  refine aQ ?_
  replace h:=aO h
  refine aK dCo fun K hK=>?_;conv=>whnf
  refine nlA rfl ?_;conv=>whnf
  refine bKo rfl ?_;conv=>whnf
  refine nlA rfl ?_;conv=>whnf
  refine hK _ ?_
  cases h
  exact mL (aD (iA (aD (Wk.refl _) (aD iO bE))) (aD (Wk.refl _) bE))
 refine hK2 ?_
 refine aG ?_
 refine tHn ?_
 refine qA dCo cG rfl (by kernel_rfl) fun K hK=>?_;conv=>whnf
 refine nlA rfl ?_;conv=>whnf
 refine bKo rfl ?_;conv=>whnf
 refine gKo rfl ?_;conv=>whnf
 refine nlA rfl ?_;conv=>whnf
 refine bKo rfl ?_;conv=>whnf
 refine nlA rfl ?_;conv=>whnf
 replace h:=bL h
 refine cK h39 h (WkL.refl _) (fun _ h=>?_);conv=>whnf
 refine aL ?_;conv=>whnf
 refine aL ?_;conv=>whnf
 replace h:=bL h
 refine uD h73 h (WkL.refl _) (fun _ h=>?_);conv=>whnf
 refine bKo rfl ?_;conv=>whnf
 refine And.intro rfl (And.intro (nle rfl) (And.intro rfl ?_));conv=>whnf
 refine hK _ _ _ ?_
 refine aP ?_
 replace h:=aO h
 refine aK dCo fun K hK=>?_;conv=>whnf
 refine nlA rfl ?_;conv=>whnf
 refine bKo rfl ?_;conv=>whnf
 refine nlA rfl ?_;conv=>whnf
 refine hK _ ?_
 cases h
 exact Wk.refl _
theorem aAE {T:Tbl} (hT:T 45=aH pE) {args:List AV} {hp:bH} {id:Nat} {k:AV→Prop} {a0:aE} {Φ:aE×Int→Prop} (h:W (hG a0) Φ) (hw:WkL args [bF a0]) (hk:∀ y,Φ y→k (.tup [bF y.1,eI y.2])):cH T 45 args hp id k:=by
 obtain ⟨y,e,hy⟩:=dY h
 exact aV hT ⟨a0,rfl,lR e rfl⟩ (by exact eJ (lsC (bT _) (lsC (lsI _ _) lsN))) hw (hk y hy)
  def kQ (a0:aE) (s3:Int×(Br 64)) (s4:Int×(Br 64)) (y2:Br 64) (s6:Int×(Br 64)):Option (Ct (Int×(Br 64)) (aE×Int)):=cn (decide (s6.1<a0.N)) (jn (fun p7:Bool=>
  jn (fun p9:(Br 64)=>some (.nx ((wr (s6.1+1)),p9))) fun k10=>
  cn p7 (gd (0≤s3.1∧s3.1<(8:Int)) (gd (0≤s4.1∧s4.1<(8:Int)) (let m11:=s6.2.st2 8 s3.1 s4.1 false;k10 m11))) (k10 s6.2)) fun k8=>
  gd (0≤s3.1∧s3.1<(8:Int)) (gd (0≤s6.1∧s6.1<(8:Int)) (cn (y2.at2 8 s3.1 s6.1) (gd (0≤s6.1∧s6.1<(8:Int)) (gd (0≤s4.1∧s4.1<(8:Int)) (k8 (y2.at2 8 s6.1 s4.1)))) (k8 false)))) (some (.bk (s6.1,s6.2)))
  def kC (a0:aE) (s3:Int×(Br 64)) (y2:Br 64) (s4:Int×(Br 64)):Option (Ct (Int×(Br 64)) (aE×Int)):=cn (decide (s4.1<a0.N)) (gd (0≤s3.1∧s3.1<(8:Int)) (gd (0≤s4.1∧s4.1<(8:Int)) (gd (0≤s3.1∧s3.1<(8:Int)) (gd (0≤s4.1∧s4.1<(8:Int)) (let m5:=s4.2.st2 8 s3.1 s4.1 (y2.at2 8 s3.1 s4.1);
  bd (lp (kQ a0 s3 s4 y2) FU (0,m5)) fun c12=>smK c12 (fun s13=>some (.nx ((wr (s4.1+1)),s13.2))) (fun r14=>some (.rt r14))))))) (some (.bk (s4.1,s4.2)))
  def kM (a0:aE) (y2:Br 64) (s3:Int×(Br 64)):Option (Ct (Int×(Br 64)) (aE×Int)):=cn (decide (s3.1<a0.N)) (bd (lp (kC a0 s3 y2) FU (0,s3.2)) fun c15=>
  smK c15 (fun s16=>some (.nx ((wr (s3.1+1)),s16.2))) (fun r17=>some (.rt r17))) (some (.bk (s3.1,s3.2)))
def fY (a0:aE):Option (aE×Int):=bd (bR a0) fun y1=>cn (!y1) (some ((⟨0,[]⟩:aE),70)) (bd (cC a0) fun y2=>
  bd (lp (kM a0 y2) FU (0,(Br.zero 64))) fun c18=>smK c18 (fun s19=>bd (jF a0.N s19.2) fun y21=>some (y21,0)) (fun r20=>some r20))
def nX:List AV→AV→Prop:=fun args r=>∃ a0,args=[bF a0]∧W (fY a0) fun y=>r=(.tup [bF y.1,eI y.2])
theorem aBc {T:Tbl} (hT:TOk Tryd.prog T) (hpf:cP T PF) (h38:T 38=aH dM) (h39:T 39=aH cI) (h73:T 73=aH lV):FOk Tryd.prog 46 (aH nX):=by
 refine bM hT hpf Tryd.func46 rfl Tryd.ntmps46 Tryd.results46 (by decide) ?_
 rintro args r ⟨a0,rfl,h⟩
 refine ⟨nle rfl,?_,?_⟩
 ·exact (lsC (bT _) lsN)
 rw [fY.eq_1] at h
 refine aC dCo rfl fun K hK=>?_;conv=>whnf
 refine hK _ _ _ ?_
 refine aF ?_
 refine aC dCo rfl fun K hK=>?_;conv=>whnf
 refine nlA rfl ?_;conv=>whnf
 refine bKo rfl ?_;conv=>whnf
 refine nlA rfl ?_;conv=>whnf
 replace h:=bL h
 refine dV h38 h (WkL.refl _) (fun _ h=>?_);conv=>whnf
 refine hK _ _ _ ?_
 refine aW fun K1 K2 hK1 hK2=>?_;conv=>whnf
 refine cLk h (fun _ h=>?_) (fun _ h=>?_)
 ·refine hK1 ?_
  refine aC dCo rfl fun K hK=>?_;conv=>whnf
  refine bKo rfl ?_;conv=>whnf
  refine And.intro rfl (And.intro (nle rfl) (And.intro rfl ?_));conv=>whnf
  refine hK _ _ _ ?_
  refine aP ?_
  refine aQ ?_
  replace h:=aO h
  refine aK dCo fun K hK=>?_;conv=>whnf
  refine nlA rfl ?_;conv=>whnf
  refine bKo rfl ?_;conv=>whnf
  refine nlA rfl ?_;conv=>whnf
  refine hK _ ?_
  cases h
  exact mL (aD (iA (aD (Wk.refl _) (aD iO bE))) (aD (Wk.refl _) bE))
 refine hK2 ?_
 refine aG ?_
 refine tHn ?_
 refine aC dCo rfl fun K hK=>?_;conv=>whnf
 refine nlA rfl ?_;conv=>whnf
 refine bKo rfl ?_;conv=>whnf
 refine nlA rfl ?_;conv=>whnf
 replace h:=bL h
 refine cK h39 h (WkL.refl _) (fun _ h=>?_);conv=>whnf
 refine aL ?_;conv=>whnf
 refine bKo rfl ?_;conv=>whnf
 refine aA0 rfl rfl rfl ?_;conv=>whnf
 refine hK _ _ _ ?_
 refine aC dCo rfl fun K hK=>?_;conv=>whnf
 refine hK _ _ _ ?_
 refine aF ?_
 refine aC dCo rfl fun K hK=>?_;conv=>whnf
 refine hK _ _ _ ?_
 refine aJ ?_
 replace h:=bL h
 refine cY (body:=kM _ _) rfl h [1,2,4,5] [1,2] [4] [5] (fun kl kh kr ids b s=>⟨ofL ([(6,eI s.1)]++kl),ofH (([]++kh)++([(xW ids 0,.cells (cB s.2))]++kr)),b+128⟩) ?_;(conv=>whnf);refine And.intro ?_ (fun s m h=>cR ?_)
 ·refine aR ?_;conv=>whnf
  exact And.intro rfl (And.intro (aLc wkI (aLc (WkR.ptr (fun _=>rfl)) (aLc (WkR.ptr (fun _=>rfl)) (aLc (WkR.ptr (fun _=>rfl)) (aLc (WkR.ptr (fun _=>rfl)) aLn))))) (aLc ⟨some _,rfl,bRc rfl (cKc wkI (cKc (wkr (lsL fun _=>(aI _))) cKn))⟩ (aLc ⟨some _,rfl,bRc rfl (cKc wkI (cKc (wkr bC) cKn))⟩ (aLc ⟨some _,rfl,aN (x:=(Br.zero 64)) rfl rfl⟩ (aLc ⟨some _,rfl,aN rfl rfl⟩ aLn)))))
 replace h:=bL h;rw [kM.eq_1] at h
 refine aF ?_
 refine aC dCo rfl fun K hK=>?_;conv=>whnf
 refine nlA rfl ?_;conv=>whnf
 refine bKo rfl ?_;conv=>whnf
 refine gKo rfl ?_;conv=>whnf
 refine hK _ _ _ ?_
 refine aW fun K1 K2 hK1 hK2=>?_;conv=>whnf
 refine cLk h (fun _ h=>?_) (fun _ h=>?_)
 ·refine hK1 ?_
  refine aG ?_
  refine tHn ?_
  refine aF ?_
  refine aJ ?_
  refine aC dCo rfl fun K hK=>?_;conv=>whnf
  refine hK _ _ _ ?_
  refine aJ ?_
  replace h:=bL h
  refine cY (body:=kC _ _ _) rfl h [1,2,4,5,6] [1,2] [4] [5] (fun kl kh kr ids b s=>⟨ofL ([(7,eI s.1)]++kl),ofH (([]++kh)++([(xW ids 0,.cells (cB s.2))]++kr)),b+128⟩) ?_;(conv=>whnf);refine And.intro ?_ (fun s m h=>cR ?_)
  ·refine aR ?_;conv=>whnf
   exact And.intro rfl (And.intro (aLc wkI (aLc (WkR.ptr (fun _=>rfl)) (aLc (WkR.ptr (fun _=>rfl)) (aLc (WkR.ptr (fun _=>rfl)) (aLc (WkR.ptr (fun _=>rfl)) (aLc wkI aLn)))))) (aLc ⟨some _,rfl,bRc rfl (cKc wkI (cKc (wkr (lsL fun _=>(aI _))) cKn))⟩ (aLc ⟨some _,rfl,bRc rfl (cKc wkI (cKc (wkr bC) cKn))⟩ (aLc ⟨some _,rfl,aN rfl rfl⟩ (aLc ⟨some _,rfl,aN rfl rfl⟩ aLn)))))
  replace h:=bL h;rw [kC.eq_1] at h
  refine aF ?_
  refine aC dCo rfl fun K hK=>?_;conv=>whnf
  refine nlA rfl ?_;conv=>whnf
  refine bKo rfl ?_;conv=>whnf
  refine gKo rfl ?_;conv=>whnf
  refine hK _ _ _ ?_
  refine aW fun K1 K2 hK1 hK2=>?_;conv=>whnf
  refine cLk h (fun _ h=>?_) (fun _ h=>?_)
  ·refine hK1 ?_
   refine aG ?_
   refine tHn ?_
   refine aF ?_
   refine aJ ?_
   refine qA dCo cG rfl (by kernel_rfl) fun K hK=>?_;conv=>whnf
   refine bW h fun hx6879 h=>?_;conv=>whnf
   refine bW h fun hx6880 h=>?_;conv=>whnf
   refine nlA rfl ?_;conv=>whnf
   refine bKo rfl ?_;conv=>whnf
   refine lF (m:=8) rfl rfl hx6879 hx6880 ?_;conv=>whnf
   refine bW h fun hx6881 h=>?_;conv=>whnf
   refine bW h fun hx6882 h=>?_;conv=>whnf
   refine bKo rfl ?_;conv=>whnf
   refine aHr (m:=8) rfl rfl hx6881 hx6882 rfl rfl ?_;conv=>whnf
   refine hK _ _ _ ?_
   refine aC dCo rfl fun K hK=>?_;conv=>whnf
   refine hK _ _ _ ?_
   refine aJ ?_
   replace h:=bL h
   refine cY (body:=kQ _ _ _ _) rfl h [1,2,4,5,6,7] [1,2] [4] [5] (fun kl kh kr ids b s=>⟨ofL ([(8,eI s.1)]++kl),ofH (([]++kh)++([(xW ids 0,.cells (cB s.2))]++kr)),b+128⟩) ?_;(conv=>whnf);refine And.intro ?_ (fun s m h=>cR ?_)
   ·refine aR ?_;conv=>whnf
    exact And.intro rfl (And.intro (aLc wkI (aLc (WkR.ptr (fun _=>rfl)) (aLc (WkR.ptr (fun _=>rfl)) (aLc (WkR.ptr (fun _=>rfl)) (aLc (WkR.ptr (fun _=>rfl)) (aLc wkI (aLc wkI aLn))))))) (aLc ⟨some _,rfl,bRc rfl (cKc wkI (cKc (wkr (lsL fun _=>(aI _))) cKn))⟩ (aLc ⟨some _,rfl,bRc rfl (cKc wkI (cKc (wkr bC) cKn))⟩ (aLc ⟨some _,rfl,aN rfl rfl⟩ (aLc ⟨some _,rfl,aN rfl rfl⟩ aLn)))))
   replace h:=bL h;rw [kQ.eq_1] at h
   refine aF ?_
   refine aC dCo rfl fun K hK=>?_;conv=>whnf
   refine nlA rfl ?_;conv=>whnf
   refine bKo rfl ?_;conv=>whnf
   refine gKo rfl ?_;conv=>whnf
   refine hK _ _ _ ?_
   refine aW fun K1 K2 hK1 hK2=>?_;conv=>whnf
   refine cLk h (fun _ h=>?_) (fun _ h=>?_)
   ·refine hK1 ?_
    refine aG ?_
    refine tHn ?_
    refine aF ?_
    refine aJ ?_
    refine aC dCo rfl fun K hK=>?_;conv=>whnf
    replace h:=lG h
    refine bW h fun hx6981 h=>?_;conv=>whnf
    refine bW h fun hx6982 h=>?_;conv=>whnf
    refine nlA rfl ?_;conv=>whnf
    refine bKo rfl ?_;conv=>whnf
    refine lF (m:=8) rfl rfl hx6981 hx6982 ?_;conv=>whnf
    refine cLk h (fun _ h=>?_) (fun _ h=>?_)<;>(conv=>whnf)
    ·refine bW h fun hx6983 h=>?_;conv=>whnf
     refine bW h fun hx6984 h=>?_;conv=>whnf
     refine nlA rfl ?_;conv=>whnf
     refine bKo rfl ?_;conv=>whnf
     refine lF (m:=8) rfl rfl hx6983 hx6984 ?_;conv=>whnf
     refine hK _ _ _ ?_
     replace h:=lG h
     refine aW fun K1 K2 hK1 hK2=>?_;conv=>whnf
     refine cLk h (fun _ h=>?_) (fun _ h=>?_)
     ·refine hK1 ?_
      refine bY dCo rfl fun K hK=>?_;conv=>whnf
      refine bW h fun hx6987 h=>?_;conv=>whnf
      refine bW h fun hx6988 h=>?_;conv=>whnf
      refine bKo rfl ?_;conv=>whnf
      refine aHr (m:=8) rfl rfl hx6987 hx6988 rfl rfl ?_;conv=>whnf
      refine hK _ _ _ ?_
      refine iBn ?_
      refine tHn ?_
      refine bY dCo rfl fun K hK=>?_;conv=>whnf
      refine hK _ _ _ ?_
      refine tHn ?_
      replace h:=bK h
      refine ⟨_,h,?_⟩
      refine aR ?_;conv=>whnf
      exact And.intro rfl (And.intro (aLc wkI (aLc (WkR.ptr (fun _=>rfl)) (aLc (WkR.ptr (fun _=>rfl)) (aLc (WkR.ptr (fun _=>rfl)) (aLc (WkR.ptr (fun _=>rfl)) (aLc wkI (aLc wkI aLn))))))) (aLc ⟨some _,rfl,bRc rfl (cKc wkI (cKc (wkr (lsL fun _=>(aI _))) cKn))⟩ (aLc ⟨some _,rfl,bRc rfl (cKc wkI (cKc (wkr bC) cKn))⟩ (aLc ⟨some _,rfl,aN rfl rfl⟩ (aLc ⟨some _,rfl,aN rfl rfl⟩ aLn)))))
     refine hK2 ?_
     refine aG ?_
     refine iBn ?_
     refine tHn ?_
     refine bY dCo rfl fun K hK=>?_;conv=>whnf
     refine hK _ _ _ ?_
     refine tHn ?_
     replace h:=bK h
     refine ⟨_,h,?_⟩
     refine aR ?_;conv=>whnf
     exact And.intro rfl (And.intro (aLc wkI (aLc (WkR.ptr (fun _=>rfl)) (aLc (WkR.ptr (fun _=>rfl)) (aLc (WkR.ptr (fun _=>rfl)) (aLc (WkR.ptr (fun _=>rfl)) (aLc wkI (aLc wkI aLn))))))) (aLc ⟨some _,rfl,bRc rfl (cKc wkI (cKc (wkr (lsL fun _=>(aI _))) cKn))⟩ (aLc ⟨some _,rfl,bRc rfl (cKc wkI (cKc (wkr bC) cKn))⟩ (aLc ⟨some _,rfl,aN rfl rfl⟩ (aLc ⟨some _,rfl,aN rfl rfl⟩ aLn)))))
    refine hK _ _ _ ?_
    replace h:=lG h
    refine aW fun K1 K2 hK1 hK2=>?_;conv=>whnf
    refine hK2 ?_
    replace h:=rS h
    refine aG ?_
    refine iBn ?_
    refine tHn ?_
    refine bY dCo rfl fun K hK=>?_;conv=>whnf
    refine hK _ _ _ ?_
    refine tHn ?_
    replace h:=bK h
    refine ⟨_,h,?_⟩
    refine aR ?_;conv=>whnf
    exact And.intro rfl (And.intro (aLc wkI (aLc (WkR.ptr (fun _=>rfl)) (aLc (WkR.ptr (fun _=>rfl)) (aLc (WkR.ptr (fun _=>rfl)) (aLc (WkR.ptr (fun _=>rfl)) (aLc wkI (aLc wkI aLn))))))) (aLc ⟨some _,rfl,bRc rfl (cKc wkI (cKc (wkr (lsL fun _=>(aI _))) cKn))⟩ (aLc ⟨some _,rfl,bRc rfl (cKc wkI (cKc (wkr bC) cKn))⟩ (aLc ⟨some _,rfl,aN rfl rfl⟩ (aLc ⟨some _,rfl,aN rfl rfl⟩ aLn)))))
   refine hK2 ?_
   refine bI ?_
   refine aT ?_
   refine aT ?_
   refine aS ?_
   replace h:=cV h
   replace h:=cU h
   refine iBn ?_
   refine tHn ?_
   refine bY dCo rfl fun K hK=>?_;conv=>whnf
   refine hK _ _ _ ?_
   refine tHn ?_
   replace h:=bK h
   refine ⟨_,h,?_⟩
   refine aR ?_;conv=>whnf
   exact And.intro rfl (And.intro (aLc wkI (aLc (WkR.ptr (fun _=>rfl)) (aLc (WkR.ptr (fun _=>rfl)) (aLc (WkR.ptr (fun _=>rfl)) (aLc (WkR.ptr (fun _=>rfl)) (aLc wkI aLn)))))) (aLc ⟨some _,rfl,bRc rfl (cKc wkI (cKc (wkr (lsL fun _=>(aI _))) cKn))⟩ (aLc ⟨some _,rfl,bRc rfl (cKc wkI (cKc (wkr bC) cKn))⟩ (aLc ⟨some _,rfl,aN rfl rfl⟩ (aLc ⟨some _,rfl,aN rfl rfl⟩ aLn)))))
  refine hK2 ?_
  refine bI ?_
  refine aT ?_
  refine aT ?_
  refine aS ?_
  replace h:=cV h
  replace h:=cU h
  refine iBn ?_
  refine tHn ?_
  refine bY dCo rfl fun K hK=>?_;conv=>whnf
  refine hK _ _ _ ?_
  refine tHn ?_
  replace h:=bK h
  refine ⟨_,h,?_⟩
  refine aR ?_;conv=>whnf
  exact And.intro rfl (And.intro (aLc wkI (aLc (WkR.ptr (fun _=>rfl)) (aLc (WkR.ptr (fun _=>rfl)) (aLc (WkR.ptr (fun _=>rfl)) (aLc (WkR.ptr (fun _=>rfl)) aLn))))) (aLc ⟨some _,rfl,bRc rfl (cKc wkI (cKc (wkr (lsL fun _=>(aI _))) cKn))⟩ (aLc ⟨some _,rfl,bRc rfl (cKc wkI (cKc (wkr bC) cKn))⟩ (aLc ⟨some _,rfl,aN rfl rfl⟩ (aLc ⟨some _,rfl,aN rfl rfl⟩ aLn)))))
 refine hK2 ?_
 refine bI ?_
 refine aT ?_
 refine aT ?_
 refine aS ?_
 replace h:=cV h
 replace h:=cU h
 refine tHn ?_
 refine aC dCo rfl fun K hK=>?_;conv=>whnf
 refine nlA rfl ?_;conv=>whnf
 refine bKo rfl ?_;conv=>whnf
 refine gKo rfl ?_;conv=>whnf
 refine nlA rfl ?_;conv=>whnf
 refine bKo rfl ?_;conv=>whnf
 refine wP rfl ?_;conv=>whnf
 refine aL ?_;conv=>whnf
 replace h:=bL h
 refine uD h73 h (WkL.refl _) (fun _ h=>?_);conv=>whnf
 refine bKo rfl ?_;conv=>whnf
 refine And.intro rfl (And.intro (nle rfl) (And.intro rfl ?_));conv=>whnf
 refine hK _ _ _ ?_
 refine aP ?_
 replace h:=aO h
 refine aK dCo fun K hK=>?_;conv=>whnf
 refine nlA rfl ?_;conv=>whnf
 refine bKo rfl ?_;conv=>whnf
 refine nlA rfl ?_;conv=>whnf
 refine hK _ ?_
 cases h
 exact Wk.refl _
theorem aAl {T:Tbl} (hT:T 46=aH nX) {args:List AV} {hp:bH} {id:Nat} {k:AV→Prop} {a0:aE} {Φ:aE×Int→Prop} (h:W (fY a0) Φ) (hw:WkL args [bF a0]) (hk:∀ y,Φ y→k (.tup [bF y.1,eI y.2])):cH T 46 args hp id k:=by
 obtain ⟨y,e,hy⟩:=dY h
 exact aV hT ⟨a0,rfl,lR e rfl⟩ (by exact eJ (lsC (bT _) (lsC (lsI _ _) lsN))) hw (hk y hy)
  def iH (a0:aE) (s3:(List Int)×Int) (s4:Bool×Int) (y2:Br 64) (s5:Bool×Int):Option (Ct (Bool×Int) ((List Int)×Int)):=cn (decide (s5.2<a0.N)) (jn (fun p6:Bool=>
  jn (fun p8:Bool=>some (.nx (p8,(wr (s5.2+1))))) fun k9=>cn p6 (k9 false) (k9 s5.1)) fun k7=>
  gd (0≤s4.2∧s4.2<(8:Int)) (gd (0≤s5.2∧s5.2<(8:Int)) (cn (y2.at2 8 s4.2 s5.2) (gd (0≤s5.2) (cn ((Int.tmod (wW .i64 s3.2 s5.2) 2) ==
  1) (gd (0≤s4.2) (k7 ((Int.tmod (wW .i64 s3.2 s4.2) 2)==0))) (k7 false))) (k7 false)))) (some (.bk (s5.1,s5.2)))
  def iG (a0:aE) (s3:(List Int)×Int) (y2:Br 64) (s4:Bool×Int):Option (Ct (Bool×Int) ((List Int)×Int)):=cn (decide (s4.2<a0.N)) (bd (lp (iH a0 s3 s4 y2) FU (s4.1,0)) fun c10=>
  smK c10 (fun s11=>some (.nx (s11.1,(wr (s4.2+1))))) (fun r12=>some (.rt r12))) (some (.bk (s4.1,s4.2)))
  def iJ (a0:aE) (y2:Br 64) (s3:(List Int)×Int):Option (Ct ((List Int)×Int) ((List Int)×Int)):=gd (0≤a0.N) (cn (decide (s3.2<(aDv .i64 1 a0.N))) (bd (lp (iG a0 s3 y2) FU (true,0)) fun c13=>
  smK c13 (fun s14=>jn (fun p16:(List Int)=>some (.nx (p16,(wr (s3.2+1))))) fun k17=>cn s14.1 (lt ([s3.2]:List Int) fun l18=>ap s3.1 l18 fun l19=>
  k17 l19) (k17 s3.1)) (fun r15=>some (.rt r15))) (some (.bk (s3.1,s3.2))))
def eV (a0:aE):Option ((List Int)×Int):=bd (bR a0) fun y1=>cn (!y1) (some ([],70)) (bd (cC a0) fun y2=>
  bd (lp (iJ a0 y2) FU ([],0)) fun c20=>smK c20 (fun s21=>some (s21.1,0)) (fun r22=>some r22))
def lK:List AV→AV→Prop:=fun args r=>∃ a0,args=[bF a0]∧W (eV a0) fun y=>r=(.tup [(eL 1 eI default) y.1,eI y.2])
theorem zS {T:Tbl} (hT:TOk Tryd.prog T) (hpf:cP T PF) (h38:T 38=aH dM) (h39:T 39=aH cI):FOk Tryd.prog 50 (aH lK):=by
 refine bM hT hpf Tryd.func50 rfl Tryd.ntmps50 Tryd.results50 (by decide) ?_
 rintro args r ⟨a0,rfl,h⟩
 refine ⟨nle rfl,?_,?_⟩
 ·exact (lsC (bT _) lsN)
 rw [eV.eq_1] at h
 refine aC dCo rfl fun K hK=>?_;conv=>whnf
 refine hK _ _ _ ?_
 refine aF ?_
 refine aC dCo rfl fun K hK=>?_;conv=>whnf
 refine nlA rfl ?_;conv=>whnf
 refine bKo rfl ?_;conv=>whnf
 refine nlA rfl ?_;conv=>whnf
 replace h:=bL h
 refine dV h38 h (WkL.refl _) (fun _ h=>?_);conv=>whnf
 refine hK _ _ _ ?_
 refine aW fun K1 K2 hK1 hK2=>?_;conv=>whnf
 refine cLk h (fun _ h=>?_) (fun _ h=>?_)
 ·refine hK1 ?_
  refine aC dCo rfl fun K hK=>?_;conv=>whnf
  refine hK _ _ _ ?_
  refine aP ?_
  refine aQ ?_
  replace h:=aO h
  refine aK dCo fun K hK=>?_;conv=>whnf
  refine hK _ ?_
  cases h
  exact mL (aD iO (aD (Wk.refl _) bE))
 refine hK2 ?_
 refine aG ?_
 refine tHn ?_
 refine aC dCo rfl fun K hK=>?_;conv=>whnf
 refine nlA rfl ?_;conv=>whnf
 refine bKo rfl ?_;conv=>whnf
 refine nlA rfl ?_;conv=>whnf
 replace h:=bL h
 refine cK h39 h (WkL.refl _) (fun _ h=>?_);conv=>whnf
 refine aL ?_;conv=>whnf
 refine bKo rfl ?_;conv=>whnf
 refine aA0 rfl rfl rfl ?_;conv=>whnf
 refine hK _ _ _ ?_
 refine aC dCo rfl fun K hK=>?_;conv=>whnf
 refine hK _ _ _ ?_
 refine aF ?_
 refine aC dCo rfl fun K hK=>?_;conv=>whnf
 refine hK _ _ _ ?_
 refine aJ ?_
 replace h:=bL h
 refine cY (body:=iJ _ _) rfl h [1,4] [1] [4] [] (fun kl kh kr ids b s=>⟨ofL ([(5,.lst (.tok (b+0)) 1 s.1.length (fun j=>eI (s.1.getD j default))),(6,eI s.2)]++kl),ofH (([(b+0,.cells [])]++kh)++([]++kr)),b+128⟩) ?_;(conv=>whnf);refine And.intro ?_ (fun s m h=>cR ?_)
 ·refine aR ?_;conv=>whnf
  exact And.intro rfl (And.intro (aLc (WkR.nil (fun _=>rfl)) (aLc wkI (aLc (WkR.ptr (fun _=>rfl)) (aLc (WkR.ptr (fun _=>rfl)) aLn)))) (aLc ⟨none,rfl,oH⟩ (aLc ⟨some _,rfl,bRc rfl (cKc wkI (cKc (wkr (lsL fun _=>(aI _))) cKn))⟩ (aLc ⟨some _,rfl,aN rfl rfl⟩ aLn))))
 replace h:=bL h;rw [iJ.eq_1] at h
 refine aF ?_
 refine aC dCo rfl fun K hK=>?_;conv=>whnf
 refine nlA rfl ?_;conv=>whnf
 refine bKo rfl ?_;conv=>whnf
 refine gKo rfl ?_;conv=>whnf
 refine bW h fun _ h=>?_;conv=>whnf
 refine hK _ _ _ ?_
 refine aW fun K1 K2 hK1 hK2=>?_;conv=>whnf
 refine cLk h (fun _ h=>?_) (fun _ h=>?_)
 ·refine hK1 ?_
  refine aG ?_
  refine tHn ?_
  refine aF ?_
  refine aJ ?_
  refine aC dCo rfl fun K hK=>?_;conv=>whnf
  refine hK _ _ _ ?_
  refine aF ?_
  refine aC dCo rfl fun K hK=>?_;conv=>whnf
  refine hK _ _ _ ?_
  refine aJ ?_
  replace h:=bL h
  refine cY (body:=iG _ _ _) rfl h [1,4,5,6] [1,5] [4] [] (fun kl kh kr ids b s=>⟨ofL ([(7,eB s.1),(8,eI s.2)]++kl),ofH (([]++kh)++([]++kr)),b+64⟩) ?_;(conv=>whnf);refine And.intro ?_ (fun s m h=>cR ?_)
  ·refine aR ?_;conv=>whnf
   exact And.intro rfl (And.intro (aLc (wkr (lsB _)) (aLc wkI (aLc (WkR.ptr (fun _=>rfl)) (aLc (WkR.ptr (fun _=>rfl)) (aLc (WkR.tok (fun _=>rfl) rfl (fun _ _=>Wk.refl _) (fun _=>(lsI _ _))) (aLc wkI aLn)))))) (aLc ⟨some _,rfl,bRc rfl (cKc wkI (cKc (wkr (lsL fun _=>(aI _))) cKn))⟩ (aLc ⟨some _,rfl,bRc rfl cKn⟩ (aLc ⟨some _,rfl,aN rfl rfl⟩ aLn))))
  replace h:=bL h;rw [iG.eq_1] at h
  refine aF ?_
  refine aC dCo rfl fun K hK=>?_;conv=>whnf
  refine nlA rfl ?_;conv=>whnf
  refine bKo rfl ?_;conv=>whnf
  refine gKo rfl ?_;conv=>whnf
  refine hK _ _ _ ?_
  refine aW fun K1 K2 hK1 hK2=>?_;conv=>whnf
  refine cLk h (fun _ h=>?_) (fun _ h=>?_)
  ·refine hK1 ?_
   refine aG ?_
   refine tHn ?_
   refine aF ?_
   refine aJ ?_
   refine aC dCo rfl fun K hK=>?_;conv=>whnf
   refine hK _ _ _ ?_
   refine aJ ?_
   replace h:=bL h
   refine cY (body:=iH _ _ _ _) rfl h [1,4,5,6,8] [1,5] [4] [] (fun kl kh kr ids b s=>⟨ofL ([(7,eB s.1),(9,eI s.2)]++kl),ofH (([]++kh)++([]++kr)),b+64⟩) ?_;(conv=>whnf);refine And.intro ?_ (fun s m h=>cR ?_)
   ·refine aR ?_;conv=>whnf
    exact And.intro rfl (And.intro (aLc (wkr (lsB _)) (aLc wkI (aLc (WkR.ptr (fun _=>rfl)) (aLc (WkR.ptr (fun _=>rfl)) (aLc (WkR.tok (fun _=>rfl) rfl (fun _ _=>Wk.refl _) (fun _=>(lsI _ _))) (aLc wkI (aLc wkI aLn))))))) (aLc ⟨some _,rfl,bRc rfl (cKc wkI (cKc (wkr (lsL fun _=>(aI _))) cKn))⟩ (aLc ⟨some _,rfl,bRc rfl cKn⟩ (aLc ⟨some _,rfl,aN rfl rfl⟩ aLn))))
   replace h:=bL h;rw [iH.eq_1] at h
   refine aF ?_
   refine aC dCo rfl fun K hK=>?_;conv=>whnf
   refine nlA rfl ?_;conv=>whnf
   refine bKo rfl ?_;conv=>whnf
   refine gKo rfl ?_;conv=>whnf
   refine hK _ _ _ ?_
   refine aW fun K1 K2 hK1 hK2=>?_;conv=>whnf
   refine cLk h (fun _ h=>?_) (fun _ h=>?_)
   ·refine hK1 ?_
    refine aG ?_
    refine tHn ?_
    refine aF ?_
    refine aJ ?_
    refine aC dCo rfl fun K hK=>?_;conv=>whnf
    replace h:=lG h
    refine bW h fun hx8635 h=>?_;conv=>whnf
    refine bW h fun hx8636 h=>?_;conv=>whnf
    refine nlA rfl ?_;conv=>whnf
    refine bKo rfl ?_;conv=>whnf
    refine lF (m:=8) rfl rfl hx8635 hx8636 ?_;conv=>whnf
    refine cLk h (fun _ h=>?_) (fun _ h=>?_)<;>(conv=>whnf)
    ·refine bW h fun _ h=>?_;conv=>whnf
     refine And.intro (by decide) ?_;conv=>whnf
     refine cLk h (fun _ h=>?_) (fun _ h=>?_)<;>(conv=>whnf)
     ·refine bW h fun _ h=>?_;conv=>whnf
      refine And.intro (by decide) ?_;conv=>whnf
      refine hK _ _ _ ?_
      replace h:=lG h
      refine aW fun K1 K2 hK1 hK2=>?_;conv=>whnf
      refine cLk h (fun _ h=>?_) (fun _ h=>?_)
      ·refine hK1 ?_
       refine bY dCo rfl fun K hK=>?_;conv=>whnf
       refine hK _ _ _ ?_
       refine iBn ?_
       refine tHn ?_
       refine bY dCo rfl fun K hK=>?_;conv=>whnf
       refine hK _ _ _ ?_
       refine tHn ?_
       replace h:=bK h
       refine ⟨_,h,?_⟩
       refine aR ?_;conv=>whnf
       exact And.intro rfl (And.intro (aLc (wkr (lsB _)) (aLc wkI (aLc (WkR.ptr (fun _=>rfl)) (aLc (WkR.ptr (fun _=>rfl)) (aLc (WkR.tok (fun _=>rfl) rfl (fun _ _=>Wk.refl _) (fun _=>(lsI _ _))) (aLc wkI (aLc wkI aLn))))))) (aLc ⟨some _,rfl,bRc rfl (cKc wkI (cKc (wkr (lsL fun _=>(aI _))) cKn))⟩ (aLc ⟨some _,rfl,bRc rfl cKn⟩ (aLc ⟨some _,rfl,aN rfl rfl⟩ aLn))))
      refine hK2 ?_
      refine aG ?_
      refine iBn ?_
      refine tHn ?_
      refine bY dCo rfl fun K hK=>?_;conv=>whnf
      refine hK _ _ _ ?_
      refine tHn ?_
      replace h:=bK h
      refine ⟨_,h,?_⟩
      refine aR ?_;conv=>whnf
      exact And.intro rfl (And.intro (aLc (wkr (lsB _)) (aLc wkI (aLc (WkR.ptr (fun _=>rfl)) (aLc (WkR.ptr (fun _=>rfl)) (aLc (WkR.tok (fun _=>rfl) rfl (fun _ _=>Wk.refl _) (fun _=>(lsI _ _))) (aLc wkI (aLc wkI aLn))))))) (aLc ⟨some _,rfl,bRc rfl (cKc wkI (cKc (wkr (lsL fun _=>(aI _))) cKn))⟩ (aLc ⟨some _,rfl,bRc rfl cKn⟩ (aLc ⟨some _,rfl,aN rfl rfl⟩ aLn))))
     refine hK _ _ _ ?_
     replace h:=lG h
     refine aW fun K1 K2 hK1 hK2=>?_;conv=>whnf
     refine hK2 ?_
     replace h:=rS h
     refine aG ?_
     refine iBn ?_
     refine tHn ?_
     refine bY dCo rfl fun K hK=>?_;conv=>whnf
     refine hK _ _ _ ?_
     refine tHn ?_
     replace h:=bK h
     refine ⟨_,h,?_⟩
     refine aR ?_;conv=>whnf
     exact And.intro rfl (And.intro (aLc (wkr (lsB _)) (aLc wkI (aLc (WkR.ptr (fun _=>rfl)) (aLc (WkR.ptr (fun _=>rfl)) (aLc (WkR.tok (fun _=>rfl) rfl (fun _ _=>Wk.refl _) (fun _=>(lsI _ _))) (aLc wkI (aLc wkI aLn))))))) (aLc ⟨some _,rfl,bRc rfl (cKc wkI (cKc (wkr (lsL fun _=>(aI _))) cKn))⟩ (aLc ⟨some _,rfl,bRc rfl cKn⟩ (aLc ⟨some _,rfl,aN rfl rfl⟩ aLn))))
    refine hK _ _ _ ?_
    replace h:=lG h
    refine aW fun K1 K2 hK1 hK2=>?_;conv=>whnf
    refine hK2 ?_
    replace h:=rS h
    refine aG ?_
    refine iBn ?_
    refine tHn ?_
    refine bY dCo rfl fun K hK=>?_;conv=>whnf
    refine hK _ _ _ ?_
    refine tHn ?_
    replace h:=bK h
    refine ⟨_,h,?_⟩
    refine aR ?_;conv=>whnf
    exact And.intro rfl (And.intro (aLc (wkr (lsB _)) (aLc wkI (aLc (WkR.ptr (fun _=>rfl)) (aLc (WkR.ptr (fun _=>rfl)) (aLc (WkR.tok (fun _=>rfl) rfl (fun _ _=>Wk.refl _) (fun _=>(lsI _ _))) (aLc wkI (aLc wkI aLn))))))) (aLc ⟨some _,rfl,bRc rfl (cKc wkI (cKc (wkr (lsL fun _=>(aI _))) cKn))⟩ (aLc ⟨some _,rfl,bRc rfl cKn⟩ (aLc ⟨some _,rfl,aN rfl rfl⟩ aLn))))
   refine hK2 ?_
   refine bI ?_
   refine aT ?_
   refine aT ?_
   refine aS ?_
   replace h:=cV h
   replace h:=cU h
   refine iBn ?_
   refine tHn ?_
   refine bY dCo rfl fun K hK=>?_;conv=>whnf
   refine hK _ _ _ ?_
   refine tHn ?_
   replace h:=bK h
   refine ⟨_,h,?_⟩
   refine aR ?_;conv=>whnf
   exact And.intro rfl (And.intro (aLc (wkr (lsB _)) (aLc wkI (aLc (WkR.ptr (fun _=>rfl)) (aLc (WkR.ptr (fun _=>rfl)) (aLc (WkR.tok (fun _=>rfl) rfl (fun _ _=>Wk.refl _) (fun _=>(lsI _ _))) (aLc wkI aLn)))))) (aLc ⟨some _,rfl,bRc rfl (cKc wkI (cKc (wkr (lsL fun _=>(aI _))) cKn))⟩ (aLc ⟨some _,rfl,bRc rfl cKn⟩ (aLc ⟨some _,rfl,aN rfl rfl⟩ aLn))))
  refine hK2 ?_
  refine bI ?_
  refine aT ?_
  refine aT ?_
  refine aS ?_
  replace h:=cV h
  replace h:=cU h
  refine tHn ?_
  refine aC dCo rfl fun K hK=>?_;conv=>whnf
  refine hK _ _ _ ?_
  replace h:=lG h
  refine aW fun K1 K2 hK1 hK2=>?_;conv=>whnf
  refine cLk h (fun _ h=>?_) (fun _ h=>?_)
  ·refine hK1 ?_
   refine bY dCo rfl fun K hK=>?_;conv=>whnf
   refine dL (enc:=eI) (d:=default) dCo h rfl rfl rfl ⟨nle rfl,nle rfl,rfl⟩ rfl ⟨⟨rfl,rfl,rfl⟩,trivial⟩ (fun h=>?_);conv=>whnf
   refine gX (enc:=eI) (d:=default) dCo h (.inl rfl) rfl rfl rfl ⟨rfl,nle rfl,nle rfl,nle rfl,rfl⟩ (fun _=>rfl) (.inr (.inr ⟨_,_,rfl,rfl,rfl⟩)) (fun h=>?_);conv=>whnf
   refine hK _ _ _ ?_
   refine iBn ?_
   refine tHn ?_
   refine bY dCo rfl fun K hK=>?_;conv=>whnf
   refine hK _ _ _ ?_
   refine tHn ?_
   replace h:=bK h
   refine ⟨_,h,?_⟩
   refine aR ?_;conv=>whnf
   exact And.intro rfl (And.intro (aLc (WkR.tok (fun _=>rfl) rfl (fun _ _=>Wk.refl _) (fun _=>(lsI _ _))) (aLc wkI (aLc (WkR.ptr (fun _=>rfl)) (aLc (WkR.ptr (fun _=>rfl)) aLn)))) (aLc ⟨some _,rfl,bRc rfl cKn⟩ (aLc ⟨some _,rfl,bRc rfl (cKc wkI (cKc (wkr (lsL fun _=>(aI _))) cKn))⟩ (aLc ⟨some _,rfl,aN rfl rfl⟩ aLn))))
  refine hK2 ?_
  refine aG ?_
  refine iBn ?_
  refine tHn ?_
  refine bY dCo rfl fun K hK=>?_;conv=>whnf
  refine hK _ _ _ ?_
  refine tHn ?_
  replace h:=bK h
  refine ⟨_,h,?_⟩
  refine aR ?_;conv=>whnf
  exact And.intro rfl (And.intro (aLc (WkR.tok (fun _=>rfl) rfl (fun _ _=>Wk.refl _) (fun _=>(lsI _ _))) (aLc wkI (aLc (WkR.ptr (fun _=>rfl)) (aLc (WkR.ptr (fun _=>rfl)) aLn)))) (aLc ⟨some _,rfl,bRc rfl cKn⟩ (aLc ⟨some _,rfl,bRc rfl (cKc wkI (cKc (wkr (lsL fun _=>(aI _))) cKn))⟩ (aLc ⟨some _,rfl,aN rfl rfl⟩ aLn))))
 refine hK2 ?_
 refine bI ?_
 refine aT ?_
 refine aT ?_
 refine aS ?_
 replace h:=cV h
 replace h:=cU h
 refine tHn ?_
 refine aC dCo rfl fun K hK=>?_;conv=>whnf
 refine hK _ _ _ ?_
 refine aP ?_
 replace h:=aO h
 refine aK dCo fun K hK=>?_;conv=>whnf
 refine hK _ ?_
 cases h
 exact mL (aD cD (aD (Wk.refl _) bE))
theorem xM {T:Tbl} (hT:T 50=aH lK) {args:List AV} {hp:bH} {id:Nat} {k:AV→Prop} {a0:aE} {Φ:(List Int)×Int→Prop} (h:W (eV a0) Φ) (hw:WkL args [bF a0]) (hk:∀ y,Φ y→k (.tup [(eL 1 eI default) y.1,eI y.2])):cH T 50 args hp id k:=by
 obtain ⟨y,e,hy⟩:=dY h
 exact aV hT ⟨a0,rfl,lR e rfl⟩ (by exact eJ (lsC (lsL fun _=>(lsI _ _)) (lsC (lsI _ _) lsN))) hw (hk y hy)
def gH (a1:List Int) (s5:Int) (y4:Br 64) (s10:Int):Option (Ct Int Bool):=cn (decide (s10<s5)) (jn (fun p11:Bool=>
  cn p11 (some (.rt false)) (some (.nx (wr (s10+1))))) fun k12=>ix a1 default s10 fun e13=>ix a1 default s5 fun e14=>cn (e13 ==
  e14) (k12 true) (ix a1 default s5 fun e15=>ix a1 default s10 fun e16=>
  gd (0≤e15∧e15<(8:Int)) (gd (0≤e16∧e16<(8:Int)) (k12 (y4.at2 8 e15 e16))))) (some (.bk s10))
def gJ (a0:aE) (a1:List Int) (y4:Br 64) (s5:Int):Option (Ct Int Bool):=cn (decide (s5<(a1.length:Int))) (jn (fun p6:Bool=>
  cn p6 (some (.rt false)) (bd (lp (gH a1 s5 y4) FU 0) fun c17=>smK c17 (fun s18=>some (.nx (wr (s5+1)))) (fun r19=>some (.rt r19)))) fun k7=>
  ix a1 default s5 fun e8=>cn (decide (e8<0)) (k7 true) (ix a1 default s5 fun e9=>k7 (decide (e9≥a0.N)))) (some (.bk s5))
def gF (a0:aE) (a1:List Int):Option Bool:=jn (fun p1:Bool=>cn p1 (some false) (bd (cC a0) fun y4=>
  bd (lp (gJ a0 a1 y4) FU 0) fun c20=>smK c20 (fun s21=>some true) (fun r22=>some r22))) fun k2=>bd (bR a0) fun y3=>
  cn (!y3) (k2 true) (k2 ((a1.length:Int) != a0.N))
def oD:List AV→AV→Prop:=fun args r=>∃ a0 a1,args=[bF a0,(eL 1 eI default) a1]∧W (gF a0 a1) fun y=>r=(eB y)
theorem aBh {T:Tbl} (hT:TOk Tryd.prog T) (hpf:cP T PF) (h38:T 38=aH dM) (h39:T 39=aH cI):FOk Tryd.prog 44 (aH oD):=by
 refine bM hT hpf Tryd.func44 rfl Tryd.ntmps44 Tryd.results44 (by decide) ?_
 rintro args r ⟨a0,a1,rfl,h⟩
 refine ⟨nle rfl,?_,?_⟩
 ·exact (lsC (bT _) (lsC (lsL fun _=>(lsI _ _)) lsN))
 rw [gF.eq_1] at h
 refine aC dCo rfl fun K hK=>?_;conv=>whnf
 refine hK _ _ _ ?_
 refine aF ?_
 refine aC dCo rfl fun K hK=>?_;conv=>whnf
 replace h:=lG h
 refine nlA rfl ?_;conv=>whnf
 refine bKo rfl ?_;conv=>whnf
 refine nlA rfl ?_;conv=>whnf
 replace h:=bL h
 refine dV h38 h (WkL.refl _) (fun _ h=>?_);conv=>whnf
 refine cLk h (fun _ h=>?_) (fun _ h=>?_)<;>(conv=>whnf)
 ·refine hK _ _ _ ?_
  refine aW fun K1 K2 hK1 hK2=>?_;conv=>whnf
  refine hK1 ?_
  replace h:=rM h
  refine aC dCo rfl fun K hK=>?_;conv=>whnf
  refine hK _ _ _ ?_
  refine aP ?_
  refine aQ ?_
  replace h:=aO h
  refine aK dCo fun K hK=>?_;conv=>whnf
  refine hK _ ?_
  cases h
  exact Wk.refl _
 refine nlA rfl ?_;conv=>whnf
 refine bKo rfl ?_;conv=>whnf
 refine gKo rfl ?_;conv=>whnf
 refine hK _ _ _ ?_
 refine aW fun K1 K2 hK1 hK2=>?_;conv=>whnf
 refine cLk h (fun _ h=>?_) (fun _ h=>?_)
 ·refine hK1 ?_
  refine aC dCo rfl fun K hK=>?_;conv=>whnf
  refine hK _ _ _ ?_
  refine aP ?_
  refine aQ ?_
  replace h:=aO h
  refine aK dCo fun K hK=>?_;conv=>whnf
  refine hK _ ?_
  cases h
  exact Wk.refl _
 refine hK2 ?_
 refine aG ?_
 refine tHn ?_
 refine aC dCo rfl fun K hK=>?_;conv=>whnf
 refine nlA rfl ?_;conv=>whnf
 refine bKo rfl ?_;conv=>whnf
 refine nlA rfl ?_;conv=>whnf
 replace h:=bL h
 refine cK h39 h (WkL.refl _) (fun _ h=>?_);conv=>whnf
 refine aL ?_;conv=>whnf
 refine bKo rfl ?_;conv=>whnf
 refine aA0 rfl rfl rfl ?_;conv=>whnf
 refine hK _ _ _ ?_
 refine aF ?_
 refine aC dCo rfl fun K hK=>?_;conv=>whnf
 refine hK _ _ _ ?_
 refine aJ ?_
 replace h:=bL h
 refine cY (body:=gJ _ _ _) rfl h [1,2,5] [2] [5] [] (fun kl kh kr ids b s=>⟨ofL ([(6,eI s)]++kl),ofH (([]++kh)++([]++kr)),b+64⟩) ?_;(conv=>whnf);refine And.intro ?_ (fun s m h=>cR ?_)
 ·refine aR ?_;conv=>whnf
  exact And.intro rfl (And.intro (aLc wkI (aLc (wkr (lsL fun _=>(lsI _ _))) (aLc (WkR.ptr (fun _=>rfl)) (aLc (WkR.ptr (fun _=>rfl)) aLn)))) (aLc ⟨some _,rfl,bRc rfl (cKc wkI (cKc (wkr (lsL fun _=>(aI _))) cKn))⟩ (aLc ⟨some _,rfl,aN rfl rfl⟩ aLn)))
 replace h:=bL h;rw [gJ.eq_1] at h
 refine aF ?_
 refine aC dCo rfl fun K hK=>?_;conv=>whnf
 refine hK _ _ _ ?_
 refine aW fun K1 K2 hK1 hK2=>?_;conv=>whnf
 refine cLk h (fun _ h=>?_) (fun _ h=>?_)
 ·refine hK1 ?_
  refine aG ?_
  refine tHn ?_
  refine aF ?_
  refine aJ ?_
  refine aF ?_
  refine qA dCo cG rfl (by kernel_rfl) fun K hK=>?_;conv=>whnf
  replace h:=lG h
  refine dD h fun _ h=>?_;conv=>whnf
  refine gKo rfl ?_;conv=>whnf
  refine cLk h (fun _ h=>?_) (fun _ h=>?_)<;>(conv=>whnf)
  ·refine hK _ _ _ ?_
   refine aW fun K1 K2 hK1 hK2=>?_;conv=>whnf
   refine hK1 ?_
   replace h:=rM h
   refine aC dCo rfl fun K hK=>?_;conv=>whnf
   refine hK _ _ _ ?_
   refine aP ?_
   refine aQ ?_
   refine aU ?_
   refine aQ ?_
   refine aQ ?_
   refine aU ?_
   refine aQ ?_
   replace h:=jO h
   replace h:=jN h
   replace h:=aO h
   refine aK dCo fun K hK=>?_;conv=>whnf
   refine hK _ ?_
   cases h
   exact Wk.refl _
  refine dD h fun _ h=>?_;conv=>whnf
  refine gKo rfl ?_;conv=>whnf
  refine nlA rfl ?_;conv=>whnf
  refine bKo rfl ?_;conv=>whnf
  refine gKo rfl ?_;conv=>whnf
  refine hK _ _ _ ?_
  refine aW fun K1 K2 hK1 hK2=>?_;conv=>whnf
  refine cLk h (fun _ h=>?_) (fun _ h=>?_)
  ·refine hK1 ?_
   refine aC dCo rfl fun K hK=>?_;conv=>whnf
   refine hK _ _ _ ?_
   refine aP ?_
   refine aQ ?_
   refine aU ?_
   refine aQ ?_
   refine aQ ?_
   refine aU ?_
   refine aQ ?_
   replace h:=jO h
   replace h:=jN h
   replace h:=aO h
   refine aK dCo fun K hK=>?_;conv=>whnf
   refine hK _ ?_
   cases h
   exact Wk.refl _
  refine hK2 ?_
  refine aG ?_
  refine tHn ?_
  refine aC dCo rfl fun K hK=>?_;conv=>whnf
  refine hK _ _ _ ?_
  refine aJ ?_
  replace h:=bL h
  refine cY (body:=gH _ _ _) rfl h [1,2,5,6] [2] [5] [] (fun kl kh kr ids b s=>⟨ofL ([(7,eI s)]++kl),ofH (([]++kh)++([]++kr)),b+64⟩) ?_;(conv=>whnf);refine And.intro ?_ (fun s m h=>cR ?_)
  ·refine aR ?_;conv=>whnf
   exact And.intro rfl (And.intro (aLc wkI (aLc (wkr (lsL fun _=>(lsI _ _))) (aLc (WkR.ptr (fun _=>rfl)) (aLc (WkR.ptr (fun _=>rfl)) (aLc wkI aLn))))) (aLc ⟨some _,rfl,bRc rfl (cKc wkI (cKc (wkr (lsL fun _=>(aI _))) cKn))⟩ (aLc ⟨some _,rfl,aN rfl rfl⟩ aLn)))
  replace h:=bL h;rw [gH.eq_1] at h
  refine aF ?_
  refine aC dCo rfl fun K hK=>?_;conv=>whnf
  refine hK _ _ _ ?_
  refine aW fun K1 K2 hK1 hK2=>?_;conv=>whnf
  refine cLk h (fun _ h=>?_) (fun _ h=>?_)
  ·refine hK1 ?_
   refine aG ?_
   refine tHn ?_
   refine aF ?_
   refine aJ ?_
   refine qA dCo cG rfl (by kernel_rfl) fun K hK=>?_;conv=>whnf
   replace h:=lG h
   refine dD h fun _ h=>?_;conv=>whnf
   refine gKo rfl ?_;conv=>whnf
   refine dD h fun _ h=>?_;conv=>whnf
   refine gKo rfl ?_;conv=>whnf
   refine cLk h (fun _ h=>?_) (fun _ h=>?_)<;>(conv=>whnf)
   ·refine hK _ _ _ ?_
    refine aW fun K1 K2 hK1 hK2=>?_;conv=>whnf
    refine hK1 ?_
    replace h:=rM h
    refine aC dCo rfl fun K hK=>?_;conv=>whnf
    refine hK _ _ _ ?_
    refine aP ?_
    refine aU ?_
    refine aQ ?_
    refine aQ ?_
    refine aU ?_
    refine aU ?_
    refine aQ ?_
    refine aQ ?_
    refine aU ?_
    refine aQ ?_
    replace h:=jO h
    replace h:=jN h
    replace h:=jO h
    replace h:=jN h
    replace h:=aO h
    refine aK dCo fun K hK=>?_;conv=>whnf
    refine hK _ ?_
    cases h
    exact Wk.refl _
   refine dD h fun _ h=>?_;conv=>whnf
   refine gKo rfl ?_;conv=>whnf
   refine dD h fun _ h=>?_;conv=>whnf
   refine gKo rfl ?_;conv=>whnf
   refine bW h fun hx257 h=>?_;conv=>whnf
   refine bW h fun hx258 h=>?_;conv=>whnf
   refine nlA rfl ?_;conv=>whnf
   refine bKo rfl ?_;conv=>whnf
   refine lF (m:=8) rfl rfl hx257 hx258 ?_;conv=>whnf
   refine hK _ _ _ ?_
   refine aW fun K1 K2 hK1 hK2=>?_;conv=>whnf
   refine cLk h (fun _ h=>?_) (fun _ h=>?_)
   ·refine hK1 ?_
    refine aC dCo rfl fun K hK=>?_;conv=>whnf
    refine hK _ _ _ ?_
    refine aP ?_
    refine aU ?_
    refine aQ ?_
    refine aQ ?_
    refine aU ?_
    refine aU ?_
    refine aQ ?_
    refine aQ ?_
    refine aU ?_
    refine aQ ?_
    replace h:=jO h
    replace h:=jN h
    replace h:=jO h
    replace h:=jN h
    replace h:=aO h
    refine aK dCo fun K hK=>?_;conv=>whnf
    refine hK _ ?_
    cases h
    exact Wk.refl _
   refine hK2 ?_
   refine aG ?_
   refine iBn ?_
   refine tHn ?_
   refine bY dCo rfl fun K hK=>?_;conv=>whnf
   refine hK _ _ _ ?_
   refine tHn ?_
   replace h:=bK h
   refine ⟨_,h,?_⟩
   refine aR ?_;conv=>whnf
   exact And.intro rfl (And.intro (aLc wkI (aLc (wkr (lsL fun _=>(lsI _ _))) (aLc (WkR.ptr (fun _=>rfl)) (aLc (WkR.ptr (fun _=>rfl)) (aLc wkI aLn))))) (aLc ⟨some _,rfl,bRc rfl (cKc wkI (cKc (wkr (lsL fun _=>(aI _))) cKn))⟩ (aLc ⟨some _,rfl,aN rfl rfl⟩ aLn)))
  refine hK2 ?_
  refine bI ?_
  refine aT ?_
  refine aT ?_
  refine aS ?_
  replace h:=cV h
  replace h:=cU h
  refine iBn ?_
  refine tHn ?_
  refine bY dCo rfl fun K hK=>?_;conv=>whnf
  refine hK _ _ _ ?_
  refine tHn ?_
  replace h:=bK h
  refine ⟨_,h,?_⟩
  refine aR ?_;conv=>whnf
  exact And.intro rfl (And.intro (aLc wkI (aLc (wkr (lsL fun _=>(lsI _ _))) (aLc (WkR.ptr (fun _=>rfl)) (aLc (WkR.ptr (fun _=>rfl)) aLn)))) (aLc ⟨some _,rfl,bRc rfl (cKc wkI (cKc (wkr (lsL fun _=>(aI _))) cKn))⟩ (aLc ⟨some _,rfl,aN rfl rfl⟩ aLn)))
 refine hK2 ?_
 refine bI ?_
 refine aT ?_
 refine aT ?_
 refine aS ?_
 replace h:=cV h
 replace h:=cU h
 refine tHn ?_
 refine aC dCo rfl fun K hK=>?_;conv=>whnf
 refine hK _ _ _ ?_
 refine aP ?_
 replace h:=aO h
 refine aK dCo fun K hK=>?_;conv=>whnf
 refine hK _ ?_
 cases h
 exact Wk.refl _
theorem zI {T:Tbl} (hT:T 44=aH oD) {args:List AV} {hp:bH} {id:Nat} {k:AV→Prop} {a0:aE} {a1:List Int} {Φ:Bool→Prop} (h:W (gF a0 a1) Φ) (hw:WkL args [bF a0,(eL 1 eI default) a1]) (hk:∀ y,Φ y→k (eB y)):cH T 44 args hp id k:=by
 obtain ⟨y,e,hy⟩:=dY h
 exact aV hT ⟨a0,a1,rfl,lR e rfl⟩ (by exact (lsB _)) hw (hk y hy)
def sS (a0:Int) (s1:(List Int)×Int):Option (Ct ((List Int)×Int) (List Int)):=cn (decide (s1.2<8)) (gd (0≤s1.2) (jn (fun p2:(List Int)=>
  some (.nx (p2,(wr (s1.2+1))))) fun k3=>cn ((Int.tmod (wW .i64 a0 s1.2) 2)==1) (lt ([s1.2]:List Int) fun l4=>ap s1.1 l4 fun l5=>
  k3 l5) (k3 s1.1))) (some (.bk (s1.1,s1.2)))
def lX (a0:Int):Option (List Int):=bd (lp (sS a0) FU ([],0)) fun c6=>smK c6 (fun s7=>some s7.1) (fun r8=>some r8)
def nW:List AV→AV→Prop:=fun args r=>∃ a0,args=[eI a0]∧W (lX a0) fun y=>r=((eL 1 eI default) y)
theorem aBY {T:Tbl} (hT:TOk Tryd.prog T) (hpf:cP T PF):FOk Tryd.prog 77 (aH nW):=by
 refine bM hT hpf Tryd.func77 rfl Tryd.ntmps77 Tryd.results77 (by decide) ?_
 rintro args r ⟨a0,rfl,h⟩
 refine ⟨nle rfl,?_,?_⟩
 ·exact (lsC (lsI _ _) lsN)
 rw [lX.eq_1] at h
 refine aC dCo rfl fun K hK=>?_;conv=>whnf
 refine hK _ _ _ ?_
 refine aC dCo rfl fun K hK=>?_;conv=>whnf
 refine hK _ _ _ ?_
 refine aF ?_
 refine aC dCo rfl fun K hK=>?_;conv=>whnf
 refine hK _ _ _ ?_
 refine aJ ?_
 replace h:=bL h
 refine qU (body:=sS _) rfl h [0] [] [] (fun kl kh ids b s=>⟨ofL ([(3,.lst (.tok (b+0)) 1 s.1.length (fun j=>eI (s.1.getD j default))),(4,eI s.2)]++kl),ofH ([(b+0,.cells [])]++kh),b+128⟩) ?_;(conv=>whnf);refine And.intro ?_ (fun s m h=>cR ?_)
 ·refine bN ?_;conv=>whnf
  exact And.intro rfl (And.intro (aLc (WkR.nil (fun _=>rfl)) (aLc wkI (aLc wkI aLn))) (aLc ⟨none,rfl,oH⟩ aLn))
 replace h:=bL h;rw [sS.eq_1] at h
 refine aF ?_
 refine aC dCo rfl fun K hK=>?_;conv=>whnf
 refine hK _ _ _ ?_
 refine aW fun K1 K2 hK1 hK2=>?_;conv=>whnf
 refine cLk h (fun _ h=>?_) (fun _ h=>?_)
 ·refine hK1 ?_
  refine aG ?_
  refine tHn ?_
  refine aF ?_
  refine aJ ?_
  refine aC dCo rfl fun K hK=>?_;conv=>whnf
  refine bW h fun _ h=>?_;conv=>whnf
  refine And.intro (by decide) ?_;conv=>whnf
  refine hK _ _ _ ?_
  replace h:=lG h
  refine aW fun K1 K2 hK1 hK2=>?_;conv=>whnf
  refine cLk h (fun _ h=>?_) (fun _ h=>?_)
  ·refine hK1 ?_
   refine bY dCo rfl fun K hK=>?_;conv=>whnf
   refine dL (enc:=eI) (d:=default) dCo h rfl rfl rfl ⟨nle rfl,nle rfl,rfl⟩ rfl ⟨⟨rfl,rfl,rfl⟩,trivial⟩ (fun h=>?_);conv=>whnf
   refine gX (enc:=eI) (d:=default) dCo h (.inl rfl) rfl rfl rfl ⟨rfl,nle rfl,nle rfl,nle rfl,rfl⟩ (fun _=>rfl) (.inr (.inr ⟨_,_,rfl,rfl,rfl⟩)) (fun h=>?_);conv=>whnf
   refine hK _ _ _ ?_
   refine iBn ?_
   refine tHn ?_
   refine bY dCo rfl fun K hK=>?_;conv=>whnf
   refine hK _ _ _ ?_
   refine tHn ?_
   replace h:=bK h
   refine ⟨_,h,?_⟩
   refine bN ?_;conv=>whnf
   exact And.intro rfl (And.intro (aLc (WkR.tok (fun _=>rfl) rfl (fun _ _=>Wk.refl _) (fun _=>(lsI _ _))) (aLc wkI (aLc wkI aLn))) (aLc ⟨some _,rfl,bRc rfl cKn⟩ aLn))
  refine hK2 ?_
  refine aG ?_
  refine iBn ?_
  refine tHn ?_
  refine bY dCo rfl fun K hK=>?_;conv=>whnf
  refine hK _ _ _ ?_
  refine tHn ?_
  replace h:=bK h
  refine ⟨_,h,?_⟩
  refine bN ?_;conv=>whnf
  exact And.intro rfl (And.intro (aLc (WkR.tok (fun _=>rfl) rfl (fun _ _=>Wk.refl _) (fun _=>(lsI _ _))) (aLc wkI (aLc wkI aLn))) (aLc ⟨some _,rfl,bRc rfl cKn⟩ aLn))
 refine hK2 ?_
 refine bI ?_
 refine aT ?_
 refine aT ?_
 refine aS ?_
 replace h:=cV h
 replace h:=cU h
 refine tHn ?_
 refine aC dCo rfl fun K hK=>?_;conv=>whnf
 refine hK _ _ _ ?_
 refine aP ?_
 replace h:=aO h
 refine aK dCo fun K hK=>?_;conv=>whnf
 refine hK _ ?_
 cases h
 exact cD
theorem zJ {T:Tbl} (hT:T 77=aH nW) {args:List AV} {hp:bH} {id:Nat} {k:AV→Prop} {a0:Int} {Φ:List Int→Prop} (h:W (lX a0) Φ) (hw:WkL args [eI a0]) (hk:∀ y,Φ y→k ((eL 1 eI default) y)):cH T 77 args hp id k:=by
 obtain ⟨y,e,hy⟩:=dY h
 exact aV hT ⟨a0,rfl,lR e rfl⟩ (by exact (lsL fun _=>(lsI _ _))) hw (hk y hy)
def nT (a0:List Int) (a1:List Int) (s1:Int):Option (Ct Int Bool):=jn (fun p2:Bool=>cn p2 (ix a0 default s1 fun e4=>ix a1 default s1 fun e5=>cn (e4 !=
  e5) (ix a0 default s1 fun e6=>ix a1 default s1 fun e7=>some (.rt (decide (e6<e7)))) (some (.nx (wr (s1+1))))) (some (.bk s1))) fun k3=>
  cn (decide (s1<(a0.length:Int))) (k3 (decide (s1<(a1.length:Int)))) (k3 false)
def nM (a0:List Int) (a1:List Int):Option Bool:=bd (lp (nT a0 a1) FU 0) fun c8=>smK c8 (fun s9=>some false) (fun r10=>some r10)
def oY:List AV→AV→Prop:=fun args r=>∃ a0 a1,args=[(eL 1 eI default) a0,(eL 1 eI default) a1]∧W (nM a0 a1) fun y=>r=(eB y)
theorem aCb {T:Tbl} (hT:TOk Tryd.prog T) (hpf:cP T PF):FOk Tryd.prog 78 (aH oY):=by
 refine bM hT hpf Tryd.func78 rfl Tryd.ntmps78 Tryd.results78 (by decide) ?_
 rintro args r ⟨a0,a1,rfl,h⟩
 refine ⟨nle rfl,?_,?_⟩
 ·exact (lsC (lsL fun _=>(lsI _ _)) (lsC (lsL fun _=>(lsI _ _)) lsN))
 rw [nM.eq_1] at h
 refine aC dCo rfl fun K hK=>?_;conv=>whnf
 refine hK _ _ _ ?_
 refine aF ?_
 refine aC dCo rfl fun K hK=>?_;conv=>whnf
 refine hK _ _ _ ?_
 refine aJ ?_
 replace h:=bL h
 refine qU (body:=nT _ _) rfl h [0,1] [] [] (fun kl kh ids b s=>⟨ofL ([(5,eI s)]++kl),ofH ([]++kh),b+64⟩) ?_;(conv=>whnf);refine And.intro ?_ (fun s m h=>cR ?_)
 ·refine bN ?_;conv=>whnf
  exact And.intro rfl (And.intro (aLc wkI (aLc (wkr (lsL fun _=>(lsI _ _))) (aLc (wkr (lsL fun _=>(lsI _ _))) aLn))) aLn)
 replace h:=bL h;rw [nT.eq_1] at h
 refine aF ?_
 refine aC dCo rfl fun K hK=>?_;conv=>whnf
 replace h:=lG h
 refine cLk h (fun _ h=>?_) (fun _ h=>?_)<;>(conv=>whnf)
 ·refine hK _ _ _ ?_
  refine aW fun K1 K2 hK1 hK2=>?_;conv=>whnf
  refine cLk h (fun _ h=>?_) (fun _ h=>?_)
  ·refine hK1 ?_
   refine aG ?_
   refine tHn ?_
   refine aF ?_
   refine aJ ?_
   refine qA dCo cG rfl (by kernel_rfl) fun K hK=>?_;conv=>whnf
   refine dD h fun _ h=>?_;conv=>whnf
   refine gKo rfl ?_;conv=>whnf
   refine dD h fun _ h=>?_;conv=>whnf
   refine gKo rfl ?_;conv=>whnf
   refine hK _ _ _ ?_
   refine aW fun K1 K2 hK1 hK2=>?_;conv=>whnf
   refine cLk h (fun _ h=>?_) (fun _ h=>?_)
   ·refine hK1 ?_
    refine qA dCo cG rfl (by kernel_rfl) fun K hK=>?_;conv=>whnf
    refine dD h fun _ h=>?_;conv=>whnf
    refine gKo rfl ?_;conv=>whnf
    refine dD h fun _ h=>?_;conv=>whnf
    refine gKo rfl ?_;conv=>whnf
    refine hK _ _ _ ?_
    refine aP ?_
    refine aU ?_
    refine aQ ?_
    refine aQ ?_
    refine aU ?_
    refine aQ ?_
    replace h:=jO h
    replace h:=jN h
    replace h:=aO h
    refine aK dCo fun K hK=>?_;conv=>whnf
    refine hK _ ?_
    cases h
    exact Wk.refl _
   refine hK2 ?_
   refine aG ?_
   refine iBn ?_
   refine tHn ?_
   refine bY dCo rfl fun K hK=>?_;conv=>whnf
   refine hK _ _ _ ?_
   refine tHn ?_
   replace h:=bK h
   refine ⟨_,h,?_⟩
   refine bN ?_;conv=>whnf
   exact And.intro rfl (And.intro (aLc wkI (aLc (wkr (lsL fun _=>(lsI _ _))) (aLc (wkr (lsL fun _=>(lsI _ _))) aLn))) aLn)
  refine hK2 ?_
  refine bI ?_
  refine aT ?_
  refine aT ?_
  refine aS ?_
  replace h:=cV h
  replace h:=cU h
  refine tHn ?_
  refine aC dCo rfl fun K hK=>?_;conv=>whnf
  refine hK _ _ _ ?_
  refine aP ?_
  replace h:=aO h
  refine aK dCo fun K hK=>?_;conv=>whnf
  refine hK _ ?_
  cases h
  exact Wk.refl _
 refine hK _ _ _ ?_
 refine aW fun K1 K2 hK1 hK2=>?_;conv=>whnf
 refine hK2 ?_
 replace h:=rS h
 refine bI ?_
 refine aT ?_
 refine aT ?_
 refine aS ?_
 replace h:=cV h
 replace h:=cU h
 refine tHn ?_
 refine aC dCo rfl fun K hK=>?_;conv=>whnf
 refine hK _ _ _ ?_
 refine aP ?_
 replace h:=aO h
 refine aK dCo fun K hK=>?_;conv=>whnf
 refine hK _ ?_
 cases h
 exact Wk.refl _
theorem aAJ {T:Tbl} (hT:T 78=aH oY) {args:List AV} {hp:bH} {id:Nat} {k:AV→Prop} {a0:List Int} {a1:List Int} {Φ:Bool→Prop} (h:W (nM a0 a1) Φ) (hw:WkL args [(eL 1 eI default) a0,(eL 1 eI default) a1]) (hk:∀ y,Φ y→k (eB y)):cH T 78 args hp id k:=by
 obtain ⟨y,e,hy⟩:=dY h
 exact aV hT ⟨a0,a1,rfl,lR e rfl⟩ (by exact (lsB _)) hw (hk y hy)
  def gM (s5:Bool×Int) (y2:Br 64) (y4:List Int) (s6:Bool×Int):Option (Ct (Bool×Int) ((List Int)×Int)):=cn (decide (s6.2<(y4.length:Int))) (jn (fun p7:Bool=>
  some (.nx (p7,(wr (s6.2+1))))) fun k8=>cn s6.1 (ix y4 default s5.2 fun e9=>ix y4 default s6.2 fun e10=>
  gd (0≤e9∧e9<(8:Int)) (gd (0≤e10∧e10<(8:Int)) (k8 (!(y2.at2 8 e9 e10))))) (k8 false)) (some (.bk (s6.1,s6.2)))
  def gQ (y2:Br 64) (y4:List Int) (s5:Bool×Int):Option (Ct (Bool×Int) ((List Int)×Int)):=cn (decide (s5.2<(y4.length:Int))) (bd (lp (gM s5 y2 y4) FU (s5.1,0)) fun c11=>
  smK c11 (fun s12=>some (.nx (s12.1,(wr (s5.2+1))))) (fun r13=>some (.rt r13))) (some (.bk (s5.1,s5.2)))
  def gO (a0:aE) (y2:Br 64) (s3:(List Int)×Int):Option (Ct ((List Int)×Int) ((List Int)×Int)):=gd (0≤a0.N) (cn (decide (s3.2<(aDv .i64 1 a0.N))) (bd (lX s3.2) fun y4=>
  bd (lp (gQ y2 y4) FU (true,0)) fun c14=>smK c14 (fun s15=>jn (fun p17:Bool=>jn (fun p20:(List Int)=>some (.nx (p20,(wr (s3.2+1))))) fun k21=>
  cn p17 (k21 y4) (k21 s3.1)) fun k18=>cn s15.1 (cn (decide ((y4.length:Int)>(s3.1.length:Int))) (k18 true) (cn ((y4.length:Int) ==
  (s3.1.length:Int)) (bd (nM y4 s3.1) fun y19=>k18 y19) (k18 false))) (k18 false)) (fun r16=>some (.rt r16))) (some (.bk (s3.1,s3.2))))
def eE (a0:aE):Option ((List Int)×Int):=bd (bR a0) fun y1=>cn (!y1) (some ([],70)) (bd (cC a0) fun y2=>
  bd (lp (gO a0 y2) FU ([],0)) fun c22=>smK c22 (fun s23=>some (s23.1,0)) (fun r24=>some r24))
def kE:List AV→AV→Prop:=fun args r=>∃ a0,args=[bF a0]∧W (eE a0) fun y=>r=(.tup [(eL 1 eI default) y.1,eI y.2])
theorem yV {T:Tbl} (hT:TOk Tryd.prog T) (hpf:cP T PF) (h38:T 38=aH dM) (h39:T 39=aH cI) (h77:T 77=aH nW) (h78:T 78=aH oY):FOk Tryd.prog 53 (aH kE):=by
 refine bM hT hpf Tryd.func53 rfl Tryd.ntmps53 Tryd.results53 (by decide) ?_
 rintro args r ⟨a0,rfl,h⟩
 refine ⟨nle rfl,?_,?_⟩
 ·exact (lsC (bT _) lsN)
 rw [eE.eq_1] at h
 refine aC dCo rfl fun K hK=>?_;conv=>whnf
 refine hK _ _ _ ?_
 refine aF ?_
 refine aC dCo rfl fun K hK=>?_;conv=>whnf
 refine nlA rfl ?_;conv=>whnf
 refine bKo rfl ?_;conv=>whnf
 refine nlA rfl ?_;conv=>whnf
 replace h:=bL h
 refine dV h38 h (WkL.refl _) (fun _ h=>?_);conv=>whnf
 refine hK _ _ _ ?_
 refine aW fun K1 K2 hK1 hK2=>?_;conv=>whnf
 refine cLk h (fun _ h=>?_) (fun _ h=>?_)
 ·refine hK1 ?_
  refine aC dCo rfl fun K hK=>?_;conv=>whnf
  refine hK _ _ _ ?_
  refine aP ?_
  refine aQ ?_
  replace h:=aO h
  refine aK dCo fun K hK=>?_;conv=>whnf
  refine hK _ ?_
  cases h
  exact mL (aD iO (aD (Wk.refl _) bE))
 refine hK2 ?_
 refine aG ?_
 refine tHn ?_
 refine aC dCo rfl fun K hK=>?_;conv=>whnf
 refine nlA rfl ?_;conv=>whnf
 refine bKo rfl ?_;conv=>whnf
 refine nlA rfl ?_;conv=>whnf
 replace h:=bL h
 refine cK h39 h (WkL.refl _) (fun _ h=>?_);conv=>whnf
 refine aL ?_;conv=>whnf
 refine bKo rfl ?_;conv=>whnf
 refine aA0 rfl rfl rfl ?_;conv=>whnf
 refine hK _ _ _ ?_
 refine aC dCo rfl fun K hK=>?_;conv=>whnf
 refine hK _ _ _ ?_
 refine aF ?_
 refine aC dCo rfl fun K hK=>?_;conv=>whnf
 refine hK _ _ _ ?_
 refine aJ ?_
 replace h:=bL h
 refine cY (body:=gO _ _) rfl h [1,4] [1] [4] [] (fun kl kh kr ids b s=>⟨ofL ([(5,(eL 1 eI default) s.1),(6,eI s.2)]++kl),ofH (([]++kh)++([]++kr)),b+64⟩) ?_;(conv=>whnf);refine And.intro ?_ (fun s m h=>cR ?_)
 ·refine aR ?_;conv=>whnf
  exact And.intro rfl (And.intro (aLc (WkR.wk iO (lsL fun _=>(lsI _ _))) (aLc wkI (aLc (WkR.ptr (fun _=>rfl)) (aLc (WkR.ptr (fun _=>rfl)) aLn)))) (aLc ⟨some _,rfl,bRc rfl (cKc wkI (cKc (wkr (lsL fun _=>(aI _))) cKn))⟩ (aLc ⟨some _,rfl,aN rfl rfl⟩ aLn)))
 replace h:=bL h;rw [gO.eq_1] at h
 refine aF ?_
 refine aC dCo rfl fun K hK=>?_;conv=>whnf
 refine nlA rfl ?_;conv=>whnf
 refine bKo rfl ?_;conv=>whnf
 refine gKo rfl ?_;conv=>whnf
 refine bW h fun _ h=>?_;conv=>whnf
 refine hK _ _ _ ?_
 refine aW fun K1 K2 hK1 hK2=>?_;conv=>whnf
 refine cLk h (fun _ h=>?_) (fun _ h=>?_)
 ·refine hK1 ?_
  refine aG ?_
  refine tHn ?_
  refine aF ?_
  refine aJ ?_
  refine aC dCo rfl fun K hK=>?_;conv=>whnf
  replace h:=bL h
  refine zJ h77 h (WkL.refl _) (fun _ h=>?_);conv=>whnf
  refine hK _ _ _ ?_
  refine aC dCo rfl fun K hK=>?_;conv=>whnf
  refine hK _ _ _ ?_
  refine aF ?_
  refine aC dCo rfl fun K hK=>?_;conv=>whnf
  refine hK _ _ _ ?_
  refine aJ ?_
  replace h:=bL h
  refine cY (body:=gQ _ _) rfl h [1,4,5,6,7] [1] [4] [] (fun kl kh kr ids b s=>⟨ofL ([(8,eB s.1),(9,eI s.2)]++kl),ofH (([]++kh)++([]++kr)),b+64⟩) ?_;(conv=>whnf);refine And.intro ?_ (fun s m h=>cR ?_)
  ·refine aR ?_;conv=>whnf
   exact And.intro rfl (And.intro (aLc (wkr (lsB _)) (aLc wkI (aLc (WkR.ptr (fun _=>rfl)) (aLc (WkR.ptr (fun _=>rfl)) (aLc (wkr (lsL fun _=>(lsI _ _))) (aLc wkI (aLc (wkr (lsL fun _=>(lsI _ _))) aLn))))))) (aLc ⟨some _,rfl,bRc rfl (cKc wkI (cKc (wkr (lsL fun _=>(aI _))) cKn))⟩ (aLc ⟨some _,rfl,aN rfl rfl⟩ aLn)))
  replace h:=bL h;rw [gQ.eq_1] at h
  refine aF ?_
  refine aC dCo rfl fun K hK=>?_;conv=>whnf
  refine hK _ _ _ ?_
  refine aW fun K1 K2 hK1 hK2=>?_;conv=>whnf
  refine cLk h (fun _ h=>?_) (fun _ h=>?_)
  ·refine hK1 ?_
   refine aG ?_
   refine tHn ?_
   refine aF ?_
   refine aJ ?_
   refine aC dCo rfl fun K hK=>?_;conv=>whnf
   refine hK _ _ _ ?_
   refine aJ ?_
   replace h:=bL h
   refine cY (body:=gM _ _ _) rfl h [1,4,5,6,7,9] [1] [4] [] (fun kl kh kr ids b s=>⟨ofL ([(8,eB s.1),(10,eI s.2)]++kl),ofH (([]++kh)++([]++kr)),b+64⟩) ?_;(conv=>whnf);refine And.intro ?_ (fun s m h=>cR ?_)
   ·refine aR ?_;conv=>whnf
    exact And.intro rfl (And.intro (aLc (wkr (lsB _)) (aLc wkI (aLc (WkR.ptr (fun _=>rfl)) (aLc (WkR.ptr (fun _=>rfl)) (aLc (wkr (lsL fun _=>(lsI _ _))) (aLc wkI (aLc (wkr (lsL fun _=>(lsI _ _))) (aLc wkI aLn)))))))) (aLc ⟨some _,rfl,bRc rfl (cKc wkI (cKc (wkr (lsL fun _=>(aI _))) cKn))⟩ (aLc ⟨some _,rfl,aN rfl rfl⟩ aLn)))
   replace h:=bL h;rw [gM.eq_1] at h
   refine aF ?_
   refine aC dCo rfl fun K hK=>?_;conv=>whnf
   refine hK _ _ _ ?_
   refine aW fun K1 K2 hK1 hK2=>?_;conv=>whnf
   refine cLk h (fun _ h=>?_) (fun _ h=>?_)
   ·refine hK1 ?_
    refine aG ?_
    refine tHn ?_
    refine aF ?_
    refine aJ ?_
    refine nQ dCo cG rfl (by kernel_rfl) fun K hK=>?_;conv=>whnf
    replace h:=lG h
    refine cLk h (fun _ h=>?_) (fun _ h=>?_)<;>(conv=>whnf)
    ·refine dD h fun _ h=>?_;conv=>whnf
     refine gKo rfl ?_;conv=>whnf
     refine dD h fun _ h=>?_;conv=>whnf
     refine gKo rfl ?_;conv=>whnf
     refine bW h fun hx1297 h=>?_;conv=>whnf
     refine bW h fun hx1298 h=>?_;conv=>whnf
     refine nlA rfl ?_;conv=>whnf
     refine bKo rfl ?_;conv=>whnf
     refine lF (m:=8) rfl rfl hx1297 hx1298 ?_;conv=>whnf
     refine hK _ _ _ ?_
     refine iBn ?_
     refine tHn ?_
     refine bY dCo rfl fun K hK=>?_;conv=>whnf
     refine hK _ _ _ ?_
     refine tHn ?_
     replace h:=bK h
     refine ⟨_,h,?_⟩
     refine aR ?_;conv=>whnf
     exact And.intro rfl (And.intro (aLc (wkr (lsB _)) (aLc wkI (aLc (WkR.ptr (fun _=>rfl)) (aLc (WkR.ptr (fun _=>rfl)) (aLc (wkr (lsL fun _=>(lsI _ _))) (aLc wkI (aLc (wkr (lsL fun _=>(lsI _ _))) (aLc wkI aLn)))))))) (aLc ⟨some _,rfl,bRc rfl (cKc wkI (cKc (wkr (lsL fun _=>(aI _))) cKn))⟩ (aLc ⟨some _,rfl,aN rfl rfl⟩ aLn)))
    refine hK _ _ _ ?_
    refine iBn ?_
    refine tHn ?_
    refine bY dCo rfl fun K hK=>?_;conv=>whnf
    refine hK _ _ _ ?_
    refine tHn ?_
    replace h:=bK h
    refine ⟨_,h,?_⟩
    refine aR ?_;conv=>whnf
    exact And.intro rfl (And.intro (aLc (wkr (lsB _)) (aLc wkI (aLc (WkR.ptr (fun _=>rfl)) (aLc (WkR.ptr (fun _=>rfl)) (aLc (wkr (lsL fun _=>(lsI _ _))) (aLc wkI (aLc (wkr (lsL fun _=>(lsI _ _))) (aLc wkI aLn)))))))) (aLc ⟨some _,rfl,bRc rfl (cKc wkI (cKc (wkr (lsL fun _=>(aI _))) cKn))⟩ (aLc ⟨some _,rfl,aN rfl rfl⟩ aLn)))
   refine hK2 ?_
   refine bI ?_
   refine aT ?_
   refine aT ?_
   refine aS ?_
   replace h:=cV h
   replace h:=cU h
   refine iBn ?_
   refine tHn ?_
   refine bY dCo rfl fun K hK=>?_;conv=>whnf
   refine hK _ _ _ ?_
   refine tHn ?_
   replace h:=bK h
   refine ⟨_,h,?_⟩
   refine aR ?_;conv=>whnf
   exact And.intro rfl (And.intro (aLc (wkr (lsB _)) (aLc wkI (aLc (WkR.ptr (fun _=>rfl)) (aLc (WkR.ptr (fun _=>rfl)) (aLc (wkr (lsL fun _=>(lsI _ _))) (aLc wkI (aLc (wkr (lsL fun _=>(lsI _ _))) aLn))))))) (aLc ⟨some _,rfl,bRc rfl (cKc wkI (cKc (wkr (lsL fun _=>(aI _))) cKn))⟩ (aLc ⟨some _,rfl,aN rfl rfl⟩ aLn)))
  refine hK2 ?_
  refine bI ?_
  refine aT ?_
  refine aT ?_
  refine aS ?_
  replace h:=cV h
  replace h:=cU h
  refine tHn ?_
  refine aC dCo rfl fun K hK=>?_;conv=>whnf
  replace h:=lG h
  refine cLk h (fun _ h=>?_) (fun _ h=>?_)<;>(conv=>whnf)
  ·refine cLk h (fun _ h=>?_) (fun _ h=>?_)<;>(conv=>whnf)
   ·refine hK _ _ _ ?_
    replace h:=lG h
    refine aW fun K1 K2 hK1 hK2=>?_;conv=>whnf
    refine hK1 ?_
    replace h:=rM h
    refine bY dCo rfl fun K hK=>?_;conv=>whnf
    refine hK _ _ _ ?_
    refine iBn ?_
    refine tHn ?_
    refine bY dCo rfl fun K hK=>?_;conv=>whnf
    refine hK _ _ _ ?_
    refine tHn ?_
    replace h:=bK h
    refine ⟨_,h,?_⟩
    refine aR ?_;conv=>whnf
    exact And.intro rfl (And.intro (aLc (wkr (lsL fun _=>(lsI _ _))) (aLc wkI (aLc (WkR.ptr (fun _=>rfl)) (aLc (WkR.ptr (fun _=>rfl)) aLn)))) (aLc ⟨some _,rfl,bRc rfl (cKc wkI (cKc (wkr (lsL fun _=>(aI _))) cKn))⟩ (aLc ⟨some _,rfl,aN rfl rfl⟩ aLn)))
   refine cLk h (fun _ h=>?_) (fun _ h=>?_)<;>(conv=>whnf)
   ·replace h:=bL h
    refine aAJ h78 h (WkL.refl _) (fun _ h=>?_);conv=>whnf
    refine hK _ _ _ ?_
    replace h:=lG h
    refine aW fun K1 K2 hK1 hK2=>?_;conv=>whnf
    refine cLk h (fun _ h=>?_) (fun _ h=>?_)
    ·refine hK1 ?_
     refine bY dCo rfl fun K hK=>?_;conv=>whnf
     refine hK _ _ _ ?_
     refine iBn ?_
     refine tHn ?_
     refine bY dCo rfl fun K hK=>?_;conv=>whnf
     refine hK _ _ _ ?_
     refine tHn ?_
     replace h:=bK h
     refine ⟨_,h,?_⟩
     refine aR ?_;conv=>whnf
     exact And.intro rfl (And.intro (aLc (wkr (lsL fun _=>(lsI _ _))) (aLc wkI (aLc (WkR.ptr (fun _=>rfl)) (aLc (WkR.ptr (fun _=>rfl)) aLn)))) (aLc ⟨some _,rfl,bRc rfl (cKc wkI (cKc (wkr (lsL fun _=>(aI _))) cKn))⟩ (aLc ⟨some _,rfl,aN rfl rfl⟩ aLn)))
    refine hK2 ?_
    refine aG ?_
    refine iBn ?_
    refine tHn ?_
    refine bY dCo rfl fun K hK=>?_;conv=>whnf
    refine hK _ _ _ ?_
    refine tHn ?_
    replace h:=bK h
    refine ⟨_,h,?_⟩
    refine aR ?_;conv=>whnf
    exact And.intro rfl (And.intro (aLc (wkr (lsL fun _=>(lsI _ _))) (aLc wkI (aLc (WkR.ptr (fun _=>rfl)) (aLc (WkR.ptr (fun _=>rfl)) aLn)))) (aLc ⟨some _,rfl,bRc rfl (cKc wkI (cKc (wkr (lsL fun _=>(aI _))) cKn))⟩ (aLc ⟨some _,rfl,aN rfl rfl⟩ aLn)))
   refine hK _ _ _ ?_
   replace h:=lG h
   refine aW fun K1 K2 hK1 hK2=>?_;conv=>whnf
   refine hK2 ?_
   replace h:=rS h
   refine aG ?_
   refine iBn ?_
   refine tHn ?_
   refine bY dCo rfl fun K hK=>?_;conv=>whnf
   refine hK _ _ _ ?_
   refine tHn ?_
   replace h:=bK h
   refine ⟨_,h,?_⟩
   refine aR ?_;conv=>whnf
   exact And.intro rfl (And.intro (aLc (wkr (lsL fun _=>(lsI _ _))) (aLc wkI (aLc (WkR.ptr (fun _=>rfl)) (aLc (WkR.ptr (fun _=>rfl)) aLn)))) (aLc ⟨some _,rfl,bRc rfl (cKc wkI (cKc (wkr (lsL fun _=>(aI _))) cKn))⟩ (aLc ⟨some _,rfl,aN rfl rfl⟩ aLn)))
  refine hK _ _ _ ?_
  replace h:=lG h
  refine aW fun K1 K2 hK1 hK2=>?_;conv=>whnf
  refine hK2 ?_
  replace h:=rS h
  refine aG ?_
  refine iBn ?_
  refine tHn ?_
  refine bY dCo rfl fun K hK=>?_;conv=>whnf
  refine hK _ _ _ ?_
  refine tHn ?_
  replace h:=bK h
  refine ⟨_,h,?_⟩
  refine aR ?_;conv=>whnf
  exact And.intro rfl (And.intro (aLc (wkr (lsL fun _=>(lsI _ _))) (aLc wkI (aLc (WkR.ptr (fun _=>rfl)) (aLc (WkR.ptr (fun _=>rfl)) aLn)))) (aLc ⟨some _,rfl,bRc rfl (cKc wkI (cKc (wkr (lsL fun _=>(aI _))) cKn))⟩ (aLc ⟨some _,rfl,aN rfl rfl⟩ aLn)))
 refine hK2 ?_
 refine bI ?_
 refine aT ?_
 refine aT ?_
 refine aS ?_
 replace h:=cV h
 replace h:=cU h
 refine tHn ?_
 refine aC dCo rfl fun K hK=>?_;conv=>whnf
 refine hK _ _ _ ?_
 refine aP ?_
 replace h:=aO h
 refine aK dCo fun K hK=>?_;conv=>whnf
 refine hK _ ?_
 cases h
 exact Wk.refl _
theorem wR {T:Tbl} (hT:T 53=aH kE) {args:List AV} {hp:bH} {id:Nat} {k:AV→Prop} {a0:aE} {Φ:(List Int)×Int→Prop} (h:W (eE a0) Φ) (hw:WkL args [bF a0]) (hk:∀ y,Φ y→k (.tup [(eL 1 eI default) y.1,eI y.2])):cH T 53 args hp id k:=by
 obtain ⟨y,e,hy⟩:=dY h
 exact aV hT ⟨a0,rfl,lR e rfl⟩ (by exact eJ (lsC (lsL fun _=>(lsI _ _)) (lsC (lsI _ _) lsN))) hw (hk y hy)
  def iT (a0:aE) (a1:List (List Int)) (s2:Int×Int×Int) (y1:Br 64) (s4:Int×Int×Int):Option (Ct (Int×Int×Int) Bool):=ix a1 default s2.2.2 fun e5=>
  cn (decide (s4.2.2<(e5.length:Int))) (ix a1 default s2.2.2 fun e6=>ix e6 default s4.2.2 fun e7=>jn (fun p8:Bool=>
  cn p8 (some (.rt false)) (gd (0≤e7) (let v12:=(bor .i64 s4.2.1 (aDv .i64 1 e7));some (.nx ((wr (s4.1+1)),v12,(wr (s4.2.2+1))))))) fun k9=>
  cn (decide (e7<0)) (k9 true) (cn (decide (e7≥a0.N)) (k9 true) (cn (decide (s4.2.2>0)) (ix a1 default s2.2.2 fun e10=>ix e10 default (aH4 (wr (s4.2.2-1)) 0) fun e11=>
  gd (0≤e11∧e11<(8:Int)) (gd (0≤e7∧e7<(8:Int)) (k9 (!(y1.at2 8 e11 e7))))) (k9 false)))) (some (.bk (s4.1,s4.2.1,s4.2.2)))
  def iS (a0:aE) (a1:List (List Int)) (y1:Br 64) (s2:Int×Int×Int):Option (Ct (Int×Int×Int) Bool):=cn (decide (s2.2.2<(a1.length:Int))) (ix a1 default s2.2.2 fun e3=>
  cn ((e3.length:Int)==0) (some (.rt false)) (bd (lp (iT a0 a1 s2 y1) FU (s2.1,s2.2.1,0)) fun c13=>smK c13 (fun s14=>
  some (.nx (s14.1,s14.2.1,(wr (s2.2.2+1))))) (fun r15=>some (.rt r15)))) (some (.bk (s2.1,s2.2.1,s2.2.2)))
def iN (a0:aE) (a1:List (List Int)):Option Bool:=bd (cC a0) fun y1=>bd (lp (iS a0 a1 y1) FU (0,0,0)) fun c16=>
  smK c16 (fun s17=>jn (fun p19:Bool=>some p19) fun k20=>cn (s17.1==a0.N) (gd (0≤a0.N) (let v21:=(s17.2.1==(wr ((aDv .i64 1 a0.N)-1)));
  k20 v21)) (k20 false)) (fun r18=>some r18)
def mR:List AV→AV→Prop:=fun args r=>∃ a0 a1,args=[bF a0,(eL 1 (eL 1 eI default) default) a1]∧W (iN a0 a1) fun y=>r=(eB y)
theorem aAA {T:Tbl} (hT:TOk Tryd.prog T) (hpf:cP T PF) (h39:T 39=aH cI):FOk Tryd.prog 49 (aH mR):=by
 refine bM hT hpf Tryd.func49 rfl Tryd.ntmps49 Tryd.results49 (by decide) ?_
 rintro args r ⟨a0,a1,rfl,h⟩
 refine ⟨nle rfl,?_,?_⟩
 ·exact (lsC (bT _) (lsC (lsL fun _=>(lsL fun _=>(lsI _ _))) lsN))
 rw [iN.eq_1] at h
 refine aC dCo rfl fun K hK=>?_;conv=>whnf
 refine hK _ _ _ ?_
 refine aC dCo rfl fun K hK=>?_;conv=>whnf
 refine nlA rfl ?_;conv=>whnf
 refine bKo rfl ?_;conv=>whnf
 refine nlA rfl ?_;conv=>whnf
 replace h:=bL h
 refine cK h39 h (WkL.refl _) (fun _ h=>?_);conv=>whnf
 refine aL ?_;conv=>whnf
 refine bKo rfl ?_;conv=>whnf
 refine aA0 rfl rfl rfl ?_;conv=>whnf
 refine hK _ _ _ ?_
 refine aC dCo rfl fun K hK=>?_;conv=>whnf
 refine hK _ _ _ ?_
 refine aC dCo rfl fun K hK=>?_;conv=>whnf
 refine hK _ _ _ ?_
 refine aF ?_
 refine aC dCo rfl fun K hK=>?_;conv=>whnf
 refine hK _ _ _ ?_
 refine aJ ?_
 replace h:=bL h
 refine cY (body:=iS _ _ _) rfl h [1,2,5] [2] [5] [] (fun kl kh kr ids b s=>⟨ofL ([(6,eI s.1),(7,eI s.2.1),(8,eI s.2.2)]++kl),ofH (([]++kh)++([]++kr)),b+64⟩) ?_;(conv=>whnf);refine And.intro ?_ (fun s m h=>cR ?_)
 ·refine aR ?_;conv=>whnf
  exact And.intro rfl (And.intro (aLc wkI (aLc wkI (aLc wkI (aLc (wkr (lsL fun _=>(lsL fun _=>(lsI _ _)))) (aLc (WkR.ptr (fun _=>rfl)) (aLc (WkR.ptr (fun _=>rfl)) aLn)))))) (aLc ⟨some _,rfl,bRc rfl (cKc wkI (cKc (wkr (lsL fun _=>(aI _))) cKn))⟩ (aLc ⟨some _,rfl,aN rfl rfl⟩ aLn)))
 replace h:=bL h;rw [iS.eq_1] at h
 refine aF ?_
 refine aC dCo rfl fun K hK=>?_;conv=>whnf
 refine hK _ _ _ ?_
 refine aW fun K1 K2 hK1 hK2=>?_;conv=>whnf
 refine cLk h (fun _ h=>?_) (fun _ h=>?_)
 ·refine hK1 ?_
  refine aG ?_
  refine tHn ?_
  refine aF ?_
  refine aJ ?_
  refine aF ?_
  refine aC dCo rfl fun K hK=>?_;conv=>whnf
  refine dD h fun _ h=>?_;conv=>whnf
  refine gKo rfl ?_;conv=>whnf
  refine hK _ _ _ ?_
  refine aW fun K1 K2 hK1 hK2=>?_;conv=>whnf
  refine cLk h (fun _ h=>?_) (fun _ h=>?_)
  ·refine hK1 ?_
   refine aC dCo rfl fun K hK=>?_;conv=>whnf
   refine hK _ _ _ ?_
   refine aP ?_
   refine aQ ?_
   refine aU ?_
   refine aQ ?_
   refine aQ ?_
   refine aU ?_
   refine aQ ?_
   replace h:=jO h
   replace h:=jN h
   replace h:=aO h
   refine aK dCo fun K hK=>?_;conv=>whnf
   refine hK _ ?_
   cases h
   exact Wk.refl _
  refine hK2 ?_
  refine aG ?_
  refine tHn ?_
  refine aC dCo rfl fun K hK=>?_;conv=>whnf
  refine hK _ _ _ ?_
  refine aJ ?_
  replace h:=bL h
  refine cY (body:=iT _ _ _ _) rfl h [1,2,5,8] [2] [5] [] (fun kl kh kr ids b s=>⟨ofL ([(6,eI s.1),(7,eI s.2.1),(9,eI s.2.2)]++kl),ofH (([]++kh)++([]++kr)),b+64⟩) ?_;(conv=>whnf);refine And.intro ?_ (fun s m h=>cR ?_)
  ·refine aR ?_;conv=>whnf
   exact And.intro rfl (And.intro (aLc wkI (aLc wkI (aLc wkI (aLc (wkr (lsL fun _=>(lsL fun _=>(lsI _ _)))) (aLc (WkR.ptr (fun _=>rfl)) (aLc (WkR.ptr (fun _=>rfl)) (aLc wkI aLn))))))) (aLc ⟨some _,rfl,bRc rfl (cKc wkI (cKc (wkr (lsL fun _=>(aI _))) cKn))⟩ (aLc ⟨some _,rfl,aN rfl rfl⟩ aLn)))
  replace h:=bL h;rw [iT.eq_1] at h
  refine aF ?_
  refine aC dCo rfl fun K hK=>?_;conv=>whnf
  refine dD h fun _ h=>?_;conv=>whnf
  refine gKo rfl ?_;conv=>whnf
  refine hK _ _ _ ?_
  refine aW fun K1 K2 hK1 hK2=>?_;conv=>whnf
  refine cLk h (fun _ h=>?_) (fun _ h=>?_)
  ·refine hK1 ?_
   refine aG ?_
   refine tHn ?_
   refine aF ?_
   refine aJ ?_
   refine aC dCo rfl fun K hK=>?_;conv=>whnf
   refine dD h fun _ h=>?_;conv=>whnf
   refine gKo rfl ?_;conv=>whnf
   refine dD h fun _ h=>?_;conv=>whnf
   refine gKo rfl ?_;conv=>whnf
   refine hK _ _ _ ?_
   refine aF ?_
   refine aC dCo rfl fun K hK=>?_;conv=>whnf
   replace h:=lG h
   refine cLk h (fun _ h=>?_) (fun _ h=>?_)<;>(conv=>whnf)
   ·refine hK _ _ _ ?_
    refine aW fun K1 K2 hK1 hK2=>?_;conv=>whnf
    refine hK1 ?_
    replace h:=rM h
    refine aC dCo rfl fun K hK=>?_;conv=>whnf
    refine hK _ _ _ ?_
    refine aP ?_
    refine aQ ?_
    refine aU ?_
    refine aQ ?_
    refine aQ ?_
    refine aU ?_
    refine aU ?_
    refine aQ ?_
    refine aQ ?_
    refine aU ?_
    refine aQ ?_
    replace h:=jO h
    replace h:=jN h
    replace h:=jO h
    replace h:=jN h
    replace h:=aO h
    refine aK dCo fun K hK=>?_;conv=>whnf
    refine hK _ ?_
    cases h
    exact Wk.refl _
   refine nlA rfl ?_;conv=>whnf
   refine bKo rfl ?_;conv=>whnf
   refine gKo rfl ?_;conv=>whnf
   refine cLk h (fun _ h=>?_) (fun _ h=>?_)<;>(conv=>whnf)
   ·refine hK _ _ _ ?_
    refine aW fun K1 K2 hK1 hK2=>?_;conv=>whnf
    refine hK1 ?_
    replace h:=rM h
    refine aC dCo rfl fun K hK=>?_;conv=>whnf
    refine hK _ _ _ ?_
    refine aP ?_
    refine aQ ?_
    refine aU ?_
    refine aQ ?_
    refine aQ ?_
    refine aU ?_
    refine aU ?_
    refine aQ ?_
    refine aQ ?_
    refine aU ?_
    refine aQ ?_
    replace h:=jO h
    replace h:=jN h
    replace h:=jO h
    replace h:=jN h
    replace h:=aO h
    refine aK dCo fun K hK=>?_;conv=>whnf
    refine hK _ ?_
    cases h
    exact Wk.refl _
   refine cLk h (fun _ h=>?_) (fun _ h=>?_)<;>(conv=>whnf)
   ·refine dD h fun _ h=>?_;conv=>whnf
    refine gKo rfl ?_;conv=>whnf
    refine dD h fun _ h=>?_;conv=>whnf
    refine gKo rfl ?_;conv=>whnf
    refine bW h fun hx1555 h=>?_;conv=>whnf
    refine bW h fun hx1556 h=>?_;conv=>whnf
    refine nlA rfl ?_;conv=>whnf
    refine bKo rfl ?_;conv=>whnf
    refine lF (m:=8) rfl rfl hx1555 hx1556 ?_;conv=>whnf
    refine hK _ _ _ ?_
    refine aW fun K1 K2 hK1 hK2=>?_;conv=>whnf
    refine cLk h (fun _ h=>?_) (fun _ h=>?_)
    ·refine hK1 ?_
     refine aC dCo rfl fun K hK=>?_;conv=>whnf
     refine hK _ _ _ ?_
     refine aP ?_
     refine aQ ?_
     refine aU ?_
     refine aQ ?_
     refine aQ ?_
     refine aU ?_
     refine aU ?_
     refine aQ ?_
     refine aQ ?_
     refine aU ?_
     refine aQ ?_
     replace h:=jO h
     replace h:=jN h
     replace h:=jO h
     replace h:=jN h
     replace h:=aO h
     refine aK dCo fun K hK=>?_;conv=>whnf
     refine hK _ ?_
     cases h
     exact Wk.refl _
    refine hK2 ?_
    refine aG ?_
    refine tHn ?_
    refine aC dCo rfl fun K hK=>?_;conv=>whnf
    refine bW h fun _ h=>?_;conv=>whnf
    refine hK _ _ _ ?_
    refine bY dCo rfl fun K hK=>?_;conv=>whnf
    refine hK _ _ _ ?_
    refine iBn ?_
    refine tHn ?_
    refine bY dCo rfl fun K hK=>?_;conv=>whnf
    refine hK _ _ _ ?_
    refine tHn ?_
    replace h:=bK h
    refine ⟨_,h,?_⟩
    refine aR ?_;conv=>whnf
    exact And.intro rfl (And.intro (aLc wkI (aLc wkI (aLc wkI (aLc (wkr (lsL fun _=>(lsL fun _=>(lsI _ _)))) (aLc (WkR.ptr (fun _=>rfl)) (aLc (WkR.ptr (fun _=>rfl)) (aLc wkI aLn))))))) (aLc ⟨some _,rfl,bRc rfl (cKc wkI (cKc (wkr (lsL fun _=>(aI _))) cKn))⟩ (aLc ⟨some _,rfl,aN rfl rfl⟩ aLn)))
   refine hK _ _ _ ?_
   refine aW fun K1 K2 hK1 hK2=>?_;conv=>whnf
   refine hK2 ?_
   replace h:=rS h
   refine aG ?_
   refine tHn ?_
   refine aC dCo rfl fun K hK=>?_;conv=>whnf
   refine bW h fun _ h=>?_;conv=>whnf
   refine hK _ _ _ ?_
   refine bY dCo rfl fun K hK=>?_;conv=>whnf
   refine hK _ _ _ ?_
   refine iBn ?_
   refine tHn ?_
   refine bY dCo rfl fun K hK=>?_;conv=>whnf
   refine hK _ _ _ ?_
   refine tHn ?_
   replace h:=bK h
   refine ⟨_,h,?_⟩
   refine aR ?_;conv=>whnf
   exact And.intro rfl (And.intro (aLc wkI (aLc wkI (aLc wkI (aLc (wkr (lsL fun _=>(lsL fun _=>(lsI _ _)))) (aLc (WkR.ptr (fun _=>rfl)) (aLc (WkR.ptr (fun _=>rfl)) (aLc wkI aLn))))))) (aLc ⟨some _,rfl,bRc rfl (cKc wkI (cKc (wkr (lsL fun _=>(aI _))) cKn))⟩ (aLc ⟨some _,rfl,aN rfl rfl⟩ aLn)))
  refine hK2 ?_
  refine bI ?_
  refine aT ?_
  refine aT ?_
  refine aS ?_
  replace h:=cV h
  replace h:=cU h
  refine iBn ?_
  refine tHn ?_
  refine bY dCo rfl fun K hK=>?_;conv=>whnf
  refine hK _ _ _ ?_
  refine tHn ?_
  replace h:=bK h
  refine ⟨_,h,?_⟩
  refine aR ?_;conv=>whnf
  exact And.intro rfl (And.intro (aLc wkI (aLc wkI (aLc wkI (aLc (wkr (lsL fun _=>(lsL fun _=>(lsI _ _)))) (aLc (WkR.ptr (fun _=>rfl)) (aLc (WkR.ptr (fun _=>rfl)) aLn)))))) (aLc ⟨some _,rfl,bRc rfl (cKc wkI (cKc (wkr (lsL fun _=>(aI _))) cKn))⟩ (aLc ⟨some _,rfl,aN rfl rfl⟩ aLn)))
 refine hK2 ?_
 refine bI ?_
 refine aT ?_
 refine aT ?_
 refine aS ?_
 replace h:=cV h
 replace h:=cU h
 refine tHn ?_
 refine aC dCo rfl fun K hK=>?_;conv=>whnf
 replace h:=lG h
 refine nlA rfl ?_;conv=>whnf
 refine bKo rfl ?_;conv=>whnf
 refine gKo rfl ?_;conv=>whnf
 refine cLk h (fun _ h=>?_) (fun _ h=>?_)<;>(conv=>whnf)
 ·refine nlA rfl ?_;conv=>whnf
  refine bKo rfl ?_;conv=>whnf
  refine gKo rfl ?_;conv=>whnf
  refine bW h fun _ h=>?_;conv=>whnf
  refine hK _ _ _ ?_
  refine aP ?_
  replace h:=aO h
  refine aK dCo fun K hK=>?_;conv=>whnf
  refine hK _ ?_
  cases h
  exact Wk.refl _
 refine hK _ _ _ ?_
 refine aP ?_
 replace h:=aO h
 refine aK dCo fun K hK=>?_;conv=>whnf
 refine hK _ ?_
 cases h
 exact Wk.refl _
theorem yC {T:Tbl} (hT:T 49=aH mR) {args:List AV} {hp:bH} {id:Nat} {k:AV→Prop} {a0:aE} {a1:List (List Int)} {Φ:Bool→Prop} (h:W (iN a0 a1) Φ) (hw:WkL args [bF a0,(eL 1 (eL 1 eI default) default) a1]) (hk:∀ y,Φ y→k (eB y)):cH T 49 args hp id k:=by
 obtain ⟨y,e,hy⟩:=dY h
 exact aV hT ⟨a0,a1,rfl,lR e rfl⟩ (by exact (lsB _)) hw (hk y hy)
def jH (a0:Int) (a1:Br 64) (a2:Int) (s1:Int×Int) (s3:Bool×Int):Option (Ct (Bool×Int) Int):=cn (decide (s3.2<a0)) (jn (fun p4:Bool=>
  some (.nx (p4,(wr (s3.2+1))))) fun k5=>
  cn s3.1 (gd (0≤s3.2∧s3.2<(8:Int)) (gd (0≤s1.2∧s1.2<(8:Int)) (cn (!(a1.at2 8 s3.2 s1.2)) (k5 true) (gd (0≤s3.2) (let v6:=((Int.tmod (wW .i64 a2 s3.2) 2) ==
  1);k5 v6))))) (k5 false)) (some (.bk (s3.1,s3.2)))
  def kH (g:Int→Br 64→Int→Option Int) (a0:Int) (a1:Br 64) (a2:Int) (s1:Int×Int):Option (Ct (Int×Int) Int):=cn (decide (s1.2<a0)) (gd (0≤s1.2) (let v2:=((Int.tmod (wW .i64 a2 s1.2) 2) ==
  0);bd (lp (jH a0 a1 a2 s1) FU (v2,0)) fun c7=>smK c7 (fun s8=>jn (fun p10:Int=>some (.nx (p10,(wr (s1.2+1))))) fun k11=>
  cn s8.1 (gd (0≤s1.2) (bd (g a0 a1 (wr (a2+(aDv .i64 1 s1.2)))) fun y12=>k11 (wr (s1.1+y12)))) (k11 s1.1)) (fun r9=>
  some (.rt r9)))) (some (.bk (s1.1,s1.2)))
theorem yE {g:Int→Br 64→Int→Option Int} {a0:Int} {a1:Br 64} {a2:Int} {s1:Int×Int} {Φ:Ct (Int×Int) Int→Prop} (h:W (kH g a0 a1 a2 s1) Φ):W (cn (decide (s1.2<a0)) (gd (0≤s1.2) (let v2:=((Int.tmod (wW .i64 a2 s1.2) 2)==0);bd (lp (jH a0 a1 a2 s1) FU (v2,0)) fun c7=>smK c7 (fun s8=>
  jn (fun p10:Int=>some (.nx (p10,(wr (s1.2+1))))) fun k11=>cn s8.1 (gd (0≤s1.2) (bd (g a0 a1 (wr (a2+(aDv .i64 1 s1.2)))) fun y12=>
  k11 (wr (s1.1+y12)))) (k11 s1.1)) (fun r9=>some (.rt r9)))) (some (.bk (s1.1,s1.2)))) Φ:=h
def pU (g:Int→Br 64→Int→Option Int) (a0:Int) (a1:Br 64) (a2:Int):Option Int:=gd (0≤a0) (cn (a2 ==
  (wr ((aDv .i64 1 a0)-1))) (some 1) (bd (lp (kH g a0 a1 a2) FU (0,0)) fun c13=>smK c13 (fun s14=>some s14.1) (fun r15=>some r15)))
def fV:Nat→Int→Br 64→Int→Option Int
 | 0=>fun _ _ _=>none
 | k+1=>pU (fV k)
def jC (k:Nat):List AV→AV→Prop:=fun args r=>∃ a0 a1 a2,args=[eI a0,eBr a1,eI a2]∧W (fV k a0 a1 a2) fun y=>r=(eI y)
theorem uW {k0:Nat} {T:Tbl} (hT:T 74=aH (jC k0)) {args:List AV} {hp:bH} {id:Nat} {k:AV→Prop} {a0:Int} {a1:Br 64} {a2:Int} {Φ:Int→Prop} (h:W (fV k0 a0 a1 a2) Φ) (hw:WkL args [eI a0,eBr a1,eI a2]) (hk:∀ y,Φ y→k (eI y)):cH T 74 args hp id k:=by
 obtain ⟨y,e,hy⟩:=dY h
 exact aV hT ⟨a0,a1,a2,rfl,lR e rfl⟩ (by exact (lsI _ _)) hw (hk y hy)
theorem aCh (k:Nat) {T:Tbl} (hT:TOk Tryd.prog T) (hpf:cP T PF) (h74:T 74=aH (jC k)):FOk Tryd.prog 74 (aH (jC (k+1))):=by
 refine bM hT hpf Tryd.func74 rfl Tryd.ntmps74 Tryd.results74 (by decide) ?_
 rintro args r ⟨a0,a1,a2,rfl,h⟩
 refine ⟨nle rfl,?_,?_⟩
 ·exact (lsC (lsI _ _) (lsC (sK _) (lsC (lsI _ _) lsN)))
 replace h:W (pU (fV k) a0 a1 a2) _:=h
 rw [pU.eq_1] at h
 refine aC dCo rfl fun K hK=>?_;conv=>whnf
 refine aL ?_;conv=>whnf
 refine hK _ _ _ ?_
 refine aF ?_
 refine aC dCo rfl fun K hK=>?_;conv=>whnf
 refine bW h fun _ h=>?_;conv=>whnf
 refine hK _ _ _ ?_
 refine aW fun K1 K2 hK1 hK2=>?_;conv=>whnf
 refine cLk h (fun _ h=>?_) (fun _ h=>?_)
 ·refine hK1 ?_
  refine aC dCo rfl fun K hK=>?_;conv=>whnf
  refine hK _ _ _ ?_
  refine aP ?_
  refine aQ ?_
  replace h:=aO h
  refine aK dCo fun K hK=>?_;conv=>whnf
  refine hK _ ?_
  cases h
  exact Wk.refl _
 refine hK2 ?_
 refine aG ?_
 refine tHn ?_
 refine aC dCo rfl fun K hK=>?_;conv=>whnf
 refine hK _ _ _ ?_
 refine aF ?_
 refine aC dCo rfl fun K hK=>?_;conv=>whnf
 refine hK _ _ _ ?_
 refine aJ ?_
 replace h:=bL h
 refine cY (body:=kH (fV k) _ _ _) rfl h [0,2,4] [] [4] [] (fun kl kh kr ids b s=>⟨ofL ([(7,eI s.1),(8,eI s.2)]++kl),ofH (([]++kh)++([]++kr)),b+64⟩) ?_;(conv=>whnf);refine And.intro ?_ (fun s m h=>cR ?_)
 ·refine aR ?_;conv=>whnf
  exact And.intro rfl (And.intro (aLc wkI (aLc wkI (aLc wkI (aLc wkI (aLc (WkR.ptr (fun _=>rfl)) aLn))))) (aLc ⟨some _,rfl,aN rfl rfl⟩ aLn))
 replace h:=yE (bL h)
 refine aF ?_
 refine aC dCo rfl fun K hK=>?_;conv=>whnf
 refine hK _ _ _ ?_
 refine aW fun K1 K2 hK1 hK2=>?_;conv=>whnf
 refine cLk h (fun _ h=>?_) (fun _ h=>?_)
 ·refine hK1 ?_
  refine aG ?_
  refine tHn ?_
  refine aF ?_
  refine aJ ?_
  refine aC dCo rfl fun K hK=>?_;conv=>whnf
  refine bW h fun _ h=>?_;conv=>whnf
  refine And.intro (by decide) ?_;conv=>whnf
  refine hK _ _ _ ?_
  refine aF ?_
  refine aC dCo rfl fun K hK=>?_;conv=>whnf
  refine hK _ _ _ ?_
  refine aJ ?_
  replace h:=bL h
  refine cY (body:=jH _ _ _ _) rfl h [0,2,4,7,8] [] [4] [] (fun kl kh kr ids b s=>⟨ofL ([(9,eB s.1),(10,eI s.2)]++kl),ofH (([]++kh)++([]++kr)),b+64⟩) ?_;(conv=>whnf);refine And.intro ?_ (fun s m h=>cR ?_)
  ·refine aR ?_;conv=>whnf
   exact And.intro rfl (And.intro (aLc (wkr (lsB _)) (aLc wkI (aLc wkI (aLc wkI (aLc (WkR.ptr (fun _=>rfl)) (aLc wkI (aLc wkI aLn))))))) (aLc ⟨some _,rfl,aN rfl rfl⟩ aLn))
  replace h:=bL h;rw [jH.eq_1] at h
  refine aF ?_
  refine aC dCo rfl fun K hK=>?_;conv=>whnf
  refine hK _ _ _ ?_
  refine aW fun K1 K2 hK1 hK2=>?_;conv=>whnf
  refine cLk h (fun _ h=>?_) (fun _ h=>?_)
  ·refine hK1 ?_
   refine aG ?_
   refine tHn ?_
   refine aF ?_
   refine aJ ?_
   refine bY dCo rfl fun K hK=>?_;conv=>whnf
   replace h:=lG h
   refine cLk h (fun _ h=>?_) (fun _ h=>?_)<;>(conv=>whnf)
   ·refine bW h fun hx251 h=>?_;conv=>whnf
    refine bW h fun hx252 h=>?_;conv=>whnf
    refine nlA rfl ?_;conv=>whnf
    refine bKo rfl ?_;conv=>whnf
    refine lF (m:=8) rfl rfl hx251 hx252 ?_;conv=>whnf
    refine cLk h (fun _ h=>?_) (fun _ h=>?_)<;>(conv=>whnf)
    ·refine hK _ _ _ ?_
     refine iBn ?_
     refine tHn ?_
     refine bY dCo rfl fun K hK=>?_;conv=>whnf
     refine hK _ _ _ ?_
     refine tHn ?_
     replace h:=bK h
     refine ⟨_,h,?_⟩
     refine aR ?_;conv=>whnf
     exact And.intro rfl (And.intro (aLc (wkr (lsB _)) (aLc wkI (aLc wkI (aLc wkI (aLc (WkR.ptr (fun _=>rfl)) (aLc wkI (aLc wkI aLn))))))) (aLc ⟨some _,rfl,aN rfl rfl⟩ aLn))
    refine bW h fun _ h=>?_;conv=>whnf
    refine And.intro (by decide) ?_;conv=>whnf
    refine hK _ _ _ ?_
    refine iBn ?_
    refine tHn ?_
    refine bY dCo rfl fun K hK=>?_;conv=>whnf
    refine hK _ _ _ ?_
    refine tHn ?_
    replace h:=bK h
    refine ⟨_,h,?_⟩
    refine aR ?_;conv=>whnf
    exact And.intro rfl (And.intro (aLc (wkr (lsB _)) (aLc wkI (aLc wkI (aLc wkI (aLc (WkR.ptr (fun _=>rfl)) (aLc wkI (aLc wkI aLn))))))) (aLc ⟨some _,rfl,aN rfl rfl⟩ aLn))
   refine hK _ _ _ ?_
   refine iBn ?_
   refine tHn ?_
   refine bY dCo rfl fun K hK=>?_;conv=>whnf
   refine hK _ _ _ ?_
   refine tHn ?_
   replace h:=bK h
   refine ⟨_,h,?_⟩
   refine aR ?_;conv=>whnf
   exact And.intro rfl (And.intro (aLc (wkr (lsB _)) (aLc wkI (aLc wkI (aLc wkI (aLc (WkR.ptr (fun _=>rfl)) (aLc wkI (aLc wkI aLn))))))) (aLc ⟨some _,rfl,aN rfl rfl⟩ aLn))
  refine hK2 ?_
  refine bI ?_
  refine aT ?_
  refine aT ?_
  refine aS ?_
  replace h:=cV h
  replace h:=cU h
  refine tHn ?_
  refine aC dCo rfl fun K hK=>?_;conv=>whnf
  refine hK _ _ _ ?_
  replace h:=lG h
  refine aW fun K1 K2 hK1 hK2=>?_;conv=>whnf
  refine cLk h (fun _ h=>?_) (fun _ h=>?_)
  ·refine hK1 ?_
   refine nQ dCo cG rfl (by kernel_rfl) fun K hK=>?_;conv=>whnf
   refine nlA rfl ?_;conv=>whnf
   refine bKo rfl ?_;conv=>whnf
   refine wP rfl ?_;conv=>whnf
   refine bW h fun _ h=>?_;conv=>whnf
   refine aL ?_;conv=>whnf
   replace h:=bL h
   refine uW h74 h (WkL.refl _) (fun _ h=>?_);conv=>whnf
   refine hK _ _ _ ?_
   refine iBn ?_
   refine tHn ?_
   refine bY dCo rfl fun K hK=>?_;conv=>whnf
   refine hK _ _ _ ?_
   refine tHn ?_
   replace h:=bK h
   refine ⟨_,h,?_⟩
   refine aR ?_;conv=>whnf
   exact And.intro rfl (And.intro (aLc wkI (aLc wkI (aLc wkI (aLc wkI (aLc (WkR.ptr (fun _=>rfl)) aLn))))) (aLc ⟨some _,rfl,aN rfl rfl⟩ aLn))
  refine hK2 ?_
  refine aG ?_
  refine iBn ?_
  refine tHn ?_
  refine bY dCo rfl fun K hK=>?_;conv=>whnf
  refine hK _ _ _ ?_
  refine tHn ?_
  replace h:=bK h
  refine ⟨_,h,?_⟩
  refine aR ?_;conv=>whnf
  exact And.intro rfl (And.intro (aLc wkI (aLc wkI (aLc wkI (aLc wkI (aLc (WkR.ptr (fun _=>rfl)) aLn))))) (aLc ⟨some _,rfl,aN rfl rfl⟩ aLn))
 refine hK2 ?_
 refine bI ?_
 refine aT ?_
 refine aT ?_
 refine aS ?_
 replace h:=cV h
 replace h:=cU h
 refine tHn ?_
 refine aC dCo rfl fun K hK=>?_;conv=>whnf
 refine hK _ _ _ ?_
 refine aP ?_
 replace h:=aO h
 refine aK dCo fun K hK=>?_;conv=>whnf
 refine hK _ ?_
 cases h
 exact Wk.refl _
theorem aCk {T:Tbl} (hT:TOk Tryd.prog T) (hpf:cP T PF):FOk Tryd.prog 74 (aH (jC 12)):=
 vH (S:=jC) hT hpf Tryd.func74 rfl (by decide) (by rintro a b ⟨a0,a1,a2,-,h⟩;obtain ⟨_,e,_⟩:=dY h;cases e) (fun k T' hT' hpf' hne h=>aCh k hT' hpf' h) 12
  def fF (g:Int→Br 64→List Int→Option (List Int)) (a0:Int) (a1:Br 64) (a2:List Int) (s1:(List Int)×Int):Option (Ct ((List Int)×Int) (List Int)):=cn (decide (s1.2<a0)) (jn (fun p2:(List Int)=>
  some (.nx (p2,(wr (s1.2+1))))) fun k3=>jn (fun p4:Bool=>cn p4 (k3 s1.1) (slc a2 0 (a2.length:Int) fun l7=>lt ([s1.2]:List Int) fun l8=>ap l7 l8 fun l9=>
  bd (g a0 a1 l9) fun y10=>jn (fun p11:(List Int)=>k3 p11) fun k12=>cn (decide ((y10.length:Int)>(s1.1.length:Int))) (k12 y10) (k12 s1.1))) fun k5=>
  cn (decide ((a2.length:Int)>0)) (ix a2 default (wr ((a2.length:Int)-1)) fun e6=>
  gd (0≤e6∧e6<(8:Int)) (gd (0≤s1.2∧s1.2<(8:Int)) (k5 (!(a1.at2 8 e6 s1.2))))) (k5 false)) (some (.bk (s1.1,s1.2)))
theorem yF {g:Int→Br 64→List Int→Option (List Int)} {a0:Int} {a1:Br 64} {a2:List Int} {s1:(List Int)×Int} {Φ:Ct ((List Int)×Int) (List Int)→Prop} (h:W (fF g a0 a1 a2 s1) Φ):W (cn (decide (s1.2<a0)) (jn (fun p2:(List Int)=>some (.nx (p2,(wr (s1.2+1))))) fun k3=>jn (fun p4:Bool=>cn p4 (k3 s1.1) (slc a2 0 (a2.length:Int) fun l7=>
  lt ([s1.2]:List Int) fun l8=>ap l7 l8 fun l9=>bd (g a0 a1 l9) fun y10=>jn (fun p11:(List Int)=>k3 p11) fun k12=>cn (decide ((y10.length:Int) >
  (s1.1.length:Int))) (k12 y10) (k12 s1.1))) fun k5=>cn (decide ((a2.length:Int)>0)) (ix a2 default (wr ((a2.length:Int)-1)) fun e6=>
  gd (0≤e6∧e6<(8:Int)) (gd (0≤s1.2∧s1.2<(8:Int)) (k5 (!(a1.at2 8 e6 s1.2))))) (k5 false)) (some (.bk (s1.1,s1.2)))) Φ:=h
def lB (g:Int→Br 64→List Int→Option (List Int)) (a0:Int) (a1:Br 64) (a2:List Int):Option (List Int):=bd (lp (fF g a0 a1 a2) FU (a2,0)) fun c13=>smK c13 (fun s14=>some s14.1) (fun r15=>
  some r15)
def eT:Nat→Int→Br 64→List Int→Option (List Int)
 | 0=>fun _ _ _=>none
 | k+1=>lB (eT k)
def iY (k:Nat):List AV→AV→Prop:=fun args r=>∃ a0 a1 a2,args=[eI a0,eBr a1,(eL 1 eI default) a2]∧W (eT k a0 a1 a2) fun y=>r=((eL 1 eI default) y)
theorem lI {k0:Nat} {T:Tbl} (hT:T 76=aH (iY k0)) {args:List AV} {hp:bH} {id:Nat} {k:AV→Prop} {a0:Int} {a1:Br 64} {a2:List Int} {Φ:List Int→Prop} (h:W (eT k0 a0 a1 a2) Φ) (hw:WkL args [eI a0,eBr a1,(eL 1 eI default) a2]) (hk:∀ y,Φ y→k ((eL 1 eI default) y)):cH T 76 args hp id k:=by
 obtain ⟨y,e,hy⟩:=dY h
 exact aV hT ⟨a0,a1,a2,rfl,lR e rfl⟩ (by exact (lsL fun _=>(lsI _ _))) hw (hk y hy)
theorem aB8 (k:Nat) {T:Tbl} (hT:TOk Tryd.prog T) (hpf:cP T PF) (h76:T 76=aH (iY k)):FOk Tryd.prog 76 (aH (iY (k+1))):=by
 refine bM hT hpf Tryd.func76 rfl Tryd.ntmps76 Tryd.results76 (by decide) ?_
 rintro args r ⟨a0,a1,a2,rfl,h⟩
 refine ⟨nle rfl,?_,?_⟩
 ·exact (lsC (lsI _ _) (lsC (sK _) (lsC (lsL fun _=>(lsI _ _)) lsN)))
 replace h:W (lB (eT k) a0 a1 a2) _:=h
 rw [lB.eq_1] at h
 refine aC dCo rfl fun K hK=>?_;conv=>whnf
 refine aL ?_;conv=>whnf
 refine hK _ _ _ ?_
 refine aC dCo rfl fun K hK=>?_;conv=>whnf
 refine hK _ _ _ ?_
 refine aF ?_
 refine aC dCo rfl fun K hK=>?_;conv=>whnf
 refine hK _ _ _ ?_
 refine aJ ?_
 replace h:=bL h
 refine cY (body:=fF (eT k) _ _ _) rfl h [0,2,4] [] [4] [] (fun kl kh kr ids b s=>⟨ofL ([(7,(eL 1 eI default) s.1),(8,eI s.2)]++kl),ofH (([]++kh)++([]++kr)),b+64⟩) ?_;(conv=>whnf);refine And.intro ?_ (fun s m h=>cR ?_)
 ·refine aR ?_;conv=>whnf
  exact And.intro rfl (And.intro (aLc (wkr (lsL fun _=>(lsI _ _))) (aLc wkI (aLc wkI (aLc (wkr (lsL fun _=>(lsI _ _))) (aLc (WkR.ptr (fun _=>rfl)) aLn))))) (aLc ⟨some _,rfl,aN rfl rfl⟩ aLn))
 replace h:=yF (bL h)
 refine aF ?_
 refine aC dCo rfl fun K hK=>?_;conv=>whnf
 refine hK _ _ _ ?_
 refine aW fun K1 K2 hK1 hK2=>?_;conv=>whnf
 refine cLk h (fun _ h=>?_) (fun _ h=>?_)
 ·refine hK1 ?_
  refine aG ?_
  refine tHn ?_
  refine aF ?_
  replace h:=lG h
  refine aJ ?_
  refine aF ?_
  refine aC dCo rfl fun K hK=>?_;conv=>whnf
  replace h:=lG h
  refine cLk h (fun _ h=>?_) (fun _ h=>?_)<;>(conv=>whnf)
  ·refine dD h fun _ h=>?_;conv=>whnf
   refine gKo rfl ?_;conv=>whnf
   refine bW h fun hx311 h=>?_;conv=>whnf
   refine bW h fun hx312 h=>?_;conv=>whnf
   refine nlA rfl ?_;conv=>whnf
   refine bKo rfl ?_;conv=>whnf
   refine lF (m:=8) rfl rfl hx311 hx312 ?_;conv=>whnf
   refine hK _ _ _ ?_
   refine aW fun K1 K2 hK1 hK2=>?_;conv=>whnf
   refine cLk h (fun _ h=>?_) (fun _ h=>?_)
   ·refine hK1 ?_
    refine bI ?_
    refine aT ?_
    refine aS ?_
    refine tHn ?_
    refine bY dCo rfl fun K hK=>?_;conv=>whnf
    refine hK _ _ _ ?_
    refine tHn ?_
    replace h:=bK h
    refine ⟨_,h,?_⟩
    refine aR ?_;conv=>whnf
    exact And.intro rfl (And.intro (aLc (wkr (lsL fun _=>(lsI _ _))) (aLc wkI (aLc wkI (aLc (wkr (lsL fun _=>(lsI _ _))) (aLc (WkR.ptr (fun _=>rfl)) aLn))))) (aLc ⟨some _,rfl,aN rfl rfl⟩ aLn))
   refine hK2 ?_
   refine aG ?_
   refine tHn ?_
   refine aFh (.step 0 (.step 2 (.step 3 (.step 4 (.step 5 (.step 6 (.step 7 (.step 8 (.step 9 (.two 1 10 (.step 10 (.step 11 (.step 12 (.nil)))) (.step 1 (.step 11 (.step 12 (.nil)))))))))))))) dCo cG rfl (by kernel_rfl) fun K hK=>?_;conv=>whnf
   refine aFy h (.inl ⟨rfl,rfl⟩) (fun h=>?_);conv=>whnf
   refine dL (enc:=eI) (d:=default) dCo h rfl rfl rfl ⟨nle rfl,nle rfl,rfl⟩ rfl ⟨⟨rfl,rfl,rfl⟩,trivial⟩ (fun h=>?_);conv=>whnf
   refine And.intro ?_ ?_<;>(conv=>whnf)
   ·refine nlA rfl ?_;conv=>whnf
    refine bKo rfl ?_;conv=>whnf
    refine wP rfl ?_;conv=>whnf
    refine gX (enc:=eI) (d:=default) dCo h (.inl rfl) rfl rfl rfl ⟨rfl,nle rfl,nle rfl,nle rfl,rfl⟩ (fun _=>rfl) (.inr (.inl ⟨rfl,rfl⟩)) (fun h=>?_);conv=>whnf
    refine aL ?_;conv=>whnf
    replace h:=bL h
    refine lI h76 h (aD (Wk.refl _) (aD (Wk.refl _) (aD cD bE))) (fun _ h=>?_);conv=>whnf
    refine hK _ _ _ ?_
    refine aC dCo rfl fun K hK=>?_;conv=>whnf
    refine hK _ _ _ ?_
    replace h:=lG h
    refine aW fun K1 K2 hK1 hK2=>?_;conv=>whnf
    refine cLk h (fun _ h=>?_) (fun _ h=>?_)
    ·refine hK1 ?_
     refine bY dCo rfl fun K hK=>?_;conv=>whnf
     refine hK _ _ _ ?_
     refine iBn ?_
     refine tHn ?_
     refine bY dCo rfl fun K hK=>?_;conv=>whnf
     refine hK _ _ _ ?_
     refine tHn ?_
     replace h:=bK h
     refine ⟨_,h,?_⟩
     refine aR ?_;conv=>whnf
     exact And.intro rfl (And.intro (aLc (wkr (lsL fun _=>(lsI _ _))) (aLc wkI (aLc wkI (aLc (wkr (lsL fun _=>(lsI _ _))) (aLc (WkR.ptr (fun _=>rfl)) aLn))))) (aLc ⟨some _,rfl,aN rfl rfl⟩ aLn))
    refine hK2 ?_
    refine aG ?_
    refine iBn ?_
    refine tHn ?_
    refine bY dCo rfl fun K hK=>?_;conv=>whnf
    refine hK _ _ _ ?_
    refine tHn ?_
    replace h:=bK h
    refine ⟨_,h,?_⟩
    refine aR ?_;conv=>whnf
    exact And.intro rfl (And.intro (aLc (wkr (lsL fun _=>(lsI _ _))) (aLc wkI (aLc wkI (aLc (wkr (lsL fun _=>(lsI _ _))) (aLc (WkR.ptr (fun _=>rfl)) aLn))))) (aLc ⟨some _,rfl,aN rfl rfl⟩ aLn))
   refine gX (enc:=eI) (d:=default) dCo h (.inl rfl) rfl rfl rfl ⟨rfl,nle rfl,nle rfl,nle rfl,rfl⟩ (fun _=>rfl) (.inr (.inl ⟨rfl,rfl⟩)) (fun h=>?_);conv=>whnf
   refine nlA rfl ?_;conv=>whnf
   refine bKo rfl ?_;conv=>whnf
   refine wP rfl ?_;conv=>whnf
   refine aL ?_;conv=>whnf
   replace h:=bL h
   refine lI h76 h (aD (Wk.refl _) (aD (Wk.refl _) (aD cD bE))) (fun _ h=>?_);conv=>whnf
   refine hK _ _ _ ?_
   refine aC dCo rfl fun K hK=>?_;conv=>whnf
   refine hK _ _ _ ?_
   replace h:=lG h
   refine aW fun K1 K2 hK1 hK2=>?_;conv=>whnf
   refine cLk h (fun _ h=>?_) (fun _ h=>?_)
   ·refine hK1 ?_
    refine bY dCo rfl fun K hK=>?_;conv=>whnf
    refine hK _ _ _ ?_
    refine iBn ?_
    refine tHn ?_
    refine bY dCo rfl fun K hK=>?_;conv=>whnf
    refine hK _ _ _ ?_
    refine tHn ?_
    replace h:=bK h
    refine ⟨_,h,?_⟩
    refine aR ?_;conv=>whnf
    exact And.intro rfl (And.intro (aLc (wkr (lsL fun _=>(lsI _ _))) (aLc wkI (aLc wkI (aLc (wkr (lsL fun _=>(lsI _ _))) (aLc (WkR.ptr (fun _=>rfl)) aLn))))) (aLc ⟨some _,rfl,aN rfl rfl⟩ aLn))
   refine hK2 ?_
   refine aG ?_
   refine iBn ?_
   refine tHn ?_
   refine bY dCo rfl fun K hK=>?_;conv=>whnf
   refine hK _ _ _ ?_
   refine tHn ?_
   replace h:=bK h
   refine ⟨_,h,?_⟩
   refine aR ?_;conv=>whnf
   exact And.intro rfl (And.intro (aLc (wkr (lsL fun _=>(lsI _ _))) (aLc wkI (aLc wkI (aLc (wkr (lsL fun _=>(lsI _ _))) (aLc (WkR.ptr (fun _=>rfl)) aLn))))) (aLc ⟨some _,rfl,aN rfl rfl⟩ aLn))
  refine hK _ _ _ ?_
  refine aW fun K1 K2 hK1 hK2=>?_;conv=>whnf
  refine hK2 ?_
  replace h:=rS h
  refine aG ?_
  refine tHn ?_
  refine aFh (.step 0 (.step 2 (.step 3 (.step 4 (.step 5 (.step 6 (.step 7 (.step 8 (.step 9 (.two 1 10 (.step 10 (.step 11 (.step 12 (.nil)))) (.step 1 (.step 11 (.step 12 (.nil)))))))))))))) dCo cG rfl (by kernel_rfl) fun K hK=>?_;conv=>whnf
  refine aFy h (.inl ⟨rfl,rfl⟩) (fun h=>?_);conv=>whnf
  refine dL (enc:=eI) (d:=default) dCo h rfl rfl rfl ⟨nle rfl,nle rfl,rfl⟩ rfl ⟨⟨rfl,rfl,rfl⟩,trivial⟩ (fun h=>?_);conv=>whnf
  refine And.intro ?_ ?_<;>(conv=>whnf)
  ·refine nlA rfl ?_;conv=>whnf
   refine bKo rfl ?_;conv=>whnf
   refine wP rfl ?_;conv=>whnf
   refine gX (enc:=eI) (d:=default) dCo h (.inl rfl) rfl rfl rfl ⟨rfl,nle rfl,nle rfl,nle rfl,rfl⟩ (fun _=>rfl) (.inr (.inl ⟨rfl,rfl⟩)) (fun h=>?_);conv=>whnf
   refine aL ?_;conv=>whnf
   replace h:=bL h
   refine lI h76 h (aD (Wk.refl _) (aD (Wk.refl _) (aD cD bE))) (fun _ h=>?_);conv=>whnf
   refine hK _ _ _ ?_
   refine aC dCo rfl fun K hK=>?_;conv=>whnf
   refine hK _ _ _ ?_
   replace h:=lG h
   refine aW fun K1 K2 hK1 hK2=>?_;conv=>whnf
   refine cLk h (fun _ h=>?_) (fun _ h=>?_)
   ·refine hK1 ?_
    refine bY dCo rfl fun K hK=>?_;conv=>whnf
    refine hK _ _ _ ?_
    refine iBn ?_
    refine tHn ?_
    refine bY dCo rfl fun K hK=>?_;conv=>whnf
    refine hK _ _ _ ?_
    refine tHn ?_
    replace h:=bK h
    refine ⟨_,h,?_⟩
    refine aR ?_;conv=>whnf
    exact And.intro rfl (And.intro (aLc (wkr (lsL fun _=>(lsI _ _))) (aLc wkI (aLc wkI (aLc (wkr (lsL fun _=>(lsI _ _))) (aLc (WkR.ptr (fun _=>rfl)) aLn))))) (aLc ⟨some _,rfl,aN rfl rfl⟩ aLn))
   refine hK2 ?_
   refine aG ?_
   refine iBn ?_
   refine tHn ?_
   refine bY dCo rfl fun K hK=>?_;conv=>whnf
   refine hK _ _ _ ?_
   refine tHn ?_
   replace h:=bK h
   refine ⟨_,h,?_⟩
   refine aR ?_;conv=>whnf
   exact And.intro rfl (And.intro (aLc (wkr (lsL fun _=>(lsI _ _))) (aLc wkI (aLc wkI (aLc (wkr (lsL fun _=>(lsI _ _))) (aLc (WkR.ptr (fun _=>rfl)) aLn))))) (aLc ⟨some _,rfl,aN rfl rfl⟩ aLn))
  refine gX (enc:=eI) (d:=default) dCo h (.inl rfl) rfl rfl rfl ⟨rfl,nle rfl,nle rfl,nle rfl,rfl⟩ (fun _=>rfl) (.inr (.inl ⟨rfl,rfl⟩)) (fun h=>?_);conv=>whnf
  refine nlA rfl ?_;conv=>whnf
  refine bKo rfl ?_;conv=>whnf
  refine wP rfl ?_;conv=>whnf
  refine aL ?_;conv=>whnf
  replace h:=bL h
  refine lI h76 h (aD (Wk.refl _) (aD (Wk.refl _) (aD cD bE))) (fun _ h=>?_);conv=>whnf
  refine hK _ _ _ ?_
  refine aC dCo rfl fun K hK=>?_;conv=>whnf
  refine hK _ _ _ ?_
  replace h:=lG h
  refine aW fun K1 K2 hK1 hK2=>?_;conv=>whnf
  refine cLk h (fun _ h=>?_) (fun _ h=>?_)
  ·refine hK1 ?_
   refine bY dCo rfl fun K hK=>?_;conv=>whnf
   refine hK _ _ _ ?_
   refine iBn ?_
   refine tHn ?_
   refine bY dCo rfl fun K hK=>?_;conv=>whnf
   refine hK _ _ _ ?_
   refine tHn ?_
   replace h:=bK h
   refine ⟨_,h,?_⟩
   refine aR ?_;conv=>whnf
   exact And.intro rfl (And.intro (aLc (wkr (lsL fun _=>(lsI _ _))) (aLc wkI (aLc wkI (aLc (wkr (lsL fun _=>(lsI _ _))) (aLc (WkR.ptr (fun _=>rfl)) aLn))))) (aLc ⟨some _,rfl,aN rfl rfl⟩ aLn))
  refine hK2 ?_
  refine aG ?_
  refine iBn ?_
  refine tHn ?_
  refine bY dCo rfl fun K hK=>?_;conv=>whnf
  refine hK _ _ _ ?_
  refine tHn ?_
  replace h:=bK h
  refine ⟨_,h,?_⟩
  refine aR ?_;conv=>whnf
  exact And.intro rfl (And.intro (aLc (wkr (lsL fun _=>(lsI _ _))) (aLc wkI (aLc wkI (aLc (wkr (lsL fun _=>(lsI _ _))) (aLc (WkR.ptr (fun _=>rfl)) aLn))))) (aLc ⟨some _,rfl,aN rfl rfl⟩ aLn))
 refine hK2 ?_
 refine bI ?_
 refine aT ?_
 refine aT ?_
 refine aS ?_
 replace h:=cV h
 replace h:=cU h
 refine tHn ?_
 refine aC dCo rfl fun K hK=>?_;conv=>whnf
 refine hK _ _ _ ?_
 refine aP ?_
 replace h:=aO h
 refine aK dCo fun K hK=>?_;conv=>whnf
 refine hK _ ?_
 cases h
 exact Wk.refl _
theorem aCp {T:Tbl} (hT:TOk Tryd.prog T) (hpf:cP T PF):FOk Tryd.prog 76 (aH (iY 12)):=
 vH (S:=iY) hT hpf Tryd.func76 rfl (by decide) (by rintro a b ⟨a0,a1,a2,-,h⟩;obtain ⟨_,e,_⟩:=dY h;cases e) (fun k T' hT' hpf' hne h=>aB8 k hT' hpf' h) 12
def hO (a0:aE):Option (Int×Int):=bd (bR a0) fun y1=>cn (!y1) (some (0,70)) (bd (cC a0) fun y2=>
  bd (fV 12 a0.N y2 0) fun y3=>some (y3,0))
def pC:List AV→AV→Prop:=fun args r=>∃ a0,args=[bF a0]∧W (hO a0) fun y=>r=(.tup [eI y.1,eI y.2])
theorem aCi {T:Tbl} (hT:TOk Tryd.prog T) (hpf:cP T PF) (h38:T 38=aH dM) (h39:T 39=aH cI) (h74:T 74=aH (jC 12)):FOk Tryd.prog 47 (aH pC):=by
 refine bM hT hpf Tryd.func47 rfl Tryd.ntmps47 Tryd.results47 (by decide) ?_
 rintro args r ⟨a0,rfl,h⟩
 refine ⟨nle rfl,?_,?_⟩
 ·exact (lsC (bT _) lsN)
 rw [hO.eq_1] at h
 refine aC dCo rfl fun K hK=>?_;conv=>whnf
 refine hK _ _ _ ?_
 refine aF ?_
 refine aC dCo rfl fun K hK=>?_;conv=>whnf
 refine nlA rfl ?_;conv=>whnf
 refine bKo rfl ?_;conv=>whnf
 refine nlA rfl ?_;conv=>whnf
 replace h:=bL h
 refine dV h38 h (WkL.refl _) (fun _ h=>?_);conv=>whnf
 refine hK _ _ _ ?_
 refine aW fun K1 K2 hK1 hK2=>?_;conv=>whnf
 refine cLk h (fun _ h=>?_) (fun _ h=>?_)
 ·refine hK1 ?_
  refine aC dCo rfl fun K hK=>?_;conv=>whnf
  refine hK _ _ _ ?_
  refine aP ?_
  refine aQ ?_
  replace h:=aO h
  refine aK dCo fun K hK=>?_;conv=>whnf
  refine hK _ ?_
  cases h
  exact Wk.refl _
 refine hK2 ?_
 refine aG ?_
 refine tHn ?_
 refine qA dCo cG rfl (by kernel_rfl) fun K hK=>?_;conv=>whnf
 refine nlA rfl ?_;conv=>whnf
 refine bKo rfl ?_;conv=>whnf
 refine gKo rfl ?_;conv=>whnf
 refine nlA rfl ?_;conv=>whnf
 refine bKo rfl ?_;conv=>whnf
 refine nlA rfl ?_;conv=>whnf
 replace h:=bL h
 refine cK h39 h (WkL.refl _) (fun _ h=>?_);conv=>whnf
 refine aL ?_;conv=>whnf
 refine aL ?_;conv=>whnf
 replace h:=bL h
 refine uW h74 h (WkL.refl _) (fun _ h=>?_);conv=>whnf
 refine hK _ _ _ ?_
 refine aP ?_
 replace h:=aO h
 refine aK dCo fun K hK=>?_;conv=>whnf
 refine hK _ ?_
 cases h
 exact Wk.refl _
theorem aAG {T:Tbl} (hT:T 47=aH pC) {args:List AV} {hp:bH} {id:Nat} {k:AV→Prop} {a0:aE} {Φ:Int×Int→Prop} (h:W (hO a0) Φ) (hw:WkL args [bF a0]) (hk:∀ y,Φ y→k (.tup [eI y.1,eI y.2])):cH T 47 args hp id k:=by
 obtain ⟨y,e,hy⟩:=dY h
 exact aV hT ⟨a0,rfl,lR e rfl⟩ (by exact eJ (lsC (lsI _ _) (lsC (lsI _ _) lsN))) hw (hk y hy)
def gY (a0:aE):Option ((List Int)×Int):=bd (bR a0) fun y1=>cn (!y1) (some ([],70)) (bd (cC a0) fun y2=>
  bd (eT 12 a0.N y2 ([])) fun y3=>some (y3,0))
def pX:List AV→AV→Prop:=fun args r=>∃ a0,args=[bF a0]∧W (gY a0) fun y=>r=(.tup [(eL 1 eI default) y.1,eI y.2])
theorem aCq {T:Tbl} (hT:TOk Tryd.prog T) (hpf:cP T PF) (h38:T 38=aH dM) (h39:T 39=aH cI) (h76:T 76=aH (iY 12)):FOk Tryd.prog 52 (aH pX):=by
 refine bM hT hpf Tryd.func52 rfl Tryd.ntmps52 Tryd.results52 (by decide) ?_
 rintro args r ⟨a0,rfl,h⟩
 refine ⟨nle rfl,?_,?_⟩
 ·exact (lsC (bT _) lsN)
 rw [gY.eq_1] at h
 refine aC dCo rfl fun K hK=>?_;conv=>whnf
 refine hK _ _ _ ?_
 refine aF ?_
 refine aC dCo rfl fun K hK=>?_;conv=>whnf
 refine nlA rfl ?_;conv=>whnf
 refine bKo rfl ?_;conv=>whnf
 refine nlA rfl ?_;conv=>whnf
 replace h:=bL h
 refine dV h38 h (WkL.refl _) (fun _ h=>?_);conv=>whnf
 refine hK _ _ _ ?_
 refine aW fun K1 K2 hK1 hK2=>?_;conv=>whnf
 refine cLk h (fun _ h=>?_) (fun _ h=>?_)
 ·refine hK1 ?_
  refine aC dCo rfl fun K hK=>?_;conv=>whnf
  refine hK _ _ _ ?_
  refine aP ?_
  refine aQ ?_
  replace h:=aO h
  refine aK dCo fun K hK=>?_;conv=>whnf
  refine hK _ ?_
  cases h
  exact mL (aD iO (aD (Wk.refl _) bE))
 refine hK2 ?_
 refine aG ?_
 refine tHn ?_
 refine qA dCo cG rfl (by kernel_rfl) fun K hK=>?_;conv=>whnf
 refine nlA rfl ?_;conv=>whnf
 refine bKo rfl ?_;conv=>whnf
 refine gKo rfl ?_;conv=>whnf
 refine nlA rfl ?_;conv=>whnf
 refine bKo rfl ?_;conv=>whnf
 refine nlA rfl ?_;conv=>whnf
 replace h:=bL h
 refine cK h39 h (WkL.refl _) (fun _ h=>?_);conv=>whnf
 refine aL ?_;conv=>whnf
 refine aL ?_;conv=>whnf
 replace h:=bL h
 refine lI h76 h (aD (Wk.refl _) (aD (Wk.refl _) (aD iO bE))) (fun _ h=>?_);conv=>whnf
 refine hK _ _ _ ?_
 refine aP ?_
 replace h:=aO h
 refine aK dCo fun K hK=>?_;conv=>whnf
 refine hK _ ?_
 cases h
 exact Wk.refl _
theorem aAF {T:Tbl} (hT:T 52=aH pX) {args:List AV} {hp:bH} {id:Nat} {k:AV→Prop} {a0:aE} {Φ:(List Int)×Int→Prop} (h:W (gY a0) Φ) (hw:WkL args [bF a0]) (hk:∀ y,Φ y→k (.tup [(eL 1 eI default) y.1,eI y.2])):cH T 52 args hp id k:=by
 obtain ⟨y,e,hy⟩:=dY h
 exact aV hT ⟨a0,rfl,lR e rfl⟩ (by exact eJ (lsC (lsL fun _=>(lsI _ _)) (lsC (lsI _ _) lsN))) hw (hk y hy)
  def nC (a0:aE) (s4:(List Int)×Int) (y2:Br 64) (s6:Bool×Int):Option (Ct (Bool×Int) ((List Int)×Int)):=cn (decide (s6.2<a0.N)) (jn (fun p7:Bool=>
  jn (fun p10:Bool=>some (.nx (p10,(wr (s6.2+1))))) fun k11=>cn p7 (k11 false) (k11 s6.1)) fun k8=>
  gd (0≤s6.2∧s6.2<(8:Int)) (gd (0≤s4.2∧s4.2<(8:Int)) (cn (y2.at2 8 s6.2 s4.2) (bd (jG s4.1 s6.2) fun y9=>
  k8 (!y9)) (k8 false)))) (some (.bk (s6.1,s6.2)))
  def oZ (a0:aE) (y2:Br 64) (s4:(List Int)×Int):Option (Ct ((List Int)×Int) ((List Int)×Int)):=cn (decide (s4.2<a0.N)) (bd (jG s4.1 s4.2) fun y5=>
  bd (lp (nC a0 s4 y2) FU ((!y5),0)) fun c12=>smK c12 (fun s13=>cn s13.1 (lt ([s4.2]:List Int) fun l15=>ap s4.1 l15 fun l16=>
  some (.bk (l16,s4.2))) (some (.nx (s4.1,(wr (s4.2+1)))))) (fun r14=>some (.rt r14))) (some (.bk (s4.1,s4.2)))
  def mW (a0:aE) (y2:Br 64) (s3:(List Int)):Option (Ct ((List Int)) ((List Int)×Int)):=cn (decide ((s3.length:Int)<a0.N)) (bd (lp (oZ a0 y2) FU (s3,0)) fun c17=>
  smK c17 (fun s18=>some (.nx s18.1)) (fun r19=>some (.rt r19))) (some (.bk s3))
def fB (a0:aE):Option ((List Int)×Int):=bd (bR a0) fun y1=>cn (!y1) (some ([],70)) (bd (cC a0) fun y2=>
  bd (lp (mW a0 y2) FU ([])) fun c20=>smK c20 (fun s21=>some (s21,0)) (fun r22=>some r22))
def kX:List AV→AV→Prop:=fun args r=>∃ a0,args=[bF a0]∧W (fB a0) fun y=>r=(.tup [(eL 1 eI default) y.1,eI y.2])
theorem aEB {T:Tbl} (hT:TOk Tryd.prog T) (hpf:cP T PF) (h38:T 38=aH dM) (h39:T 39=aH cI) (h40:T 40=aH oK):FOk Tryd.prog 14 (aH kX):=by
 refine bM hT hpf Tryd.func14 rfl Tryd.ntmps14 Tryd.results14 (by decide) ?_
 rintro args r ⟨a0,rfl,h⟩
 refine ⟨nle rfl,?_,?_⟩
 ·exact (lsC (bT _) lsN)
 rw [fB.eq_1] at h
 refine aC dCo rfl fun K hK=>?_;conv=>whnf
 refine hK _ _ _ ?_
 refine aF ?_
 refine aC dCo rfl fun K hK=>?_;conv=>whnf
 refine nlA rfl ?_;conv=>whnf
 refine bKo rfl ?_;conv=>whnf
 refine nlA rfl ?_;conv=>whnf
 replace h:=bL h
 refine dV h38 h (WkL.refl _) (fun _ h=>?_);conv=>whnf
 refine hK _ _ _ ?_
 refine aW fun K1 K2 hK1 hK2=>?_;conv=>whnf
 refine cLk h (fun _ h=>?_) (fun _ h=>?_)
 ·refine hK1 ?_
  refine aC dCo rfl fun K hK=>?_;conv=>whnf
  refine hK _ _ _ ?_
  refine aP ?_
  refine aQ ?_
  replace h:=aO h
  refine aK dCo fun K hK=>?_;conv=>whnf
  refine hK _ ?_
  cases h
  exact mL (aD iO (aD (Wk.refl _) bE))
 refine hK2 ?_
 refine aG ?_
 refine tHn ?_
 refine aC dCo rfl fun K hK=>?_;conv=>whnf
 refine nlA rfl ?_;conv=>whnf
 refine bKo rfl ?_;conv=>whnf
 refine nlA rfl ?_;conv=>whnf
 replace h:=bL h
 refine cK h39 h (WkL.refl _) (fun _ h=>?_);conv=>whnf
 refine aL ?_;conv=>whnf
 refine bKo rfl ?_;conv=>whnf
 refine aA0 rfl rfl rfl ?_;conv=>whnf
 refine hK _ _ _ ?_
 refine aC dCo rfl fun K hK=>?_;conv=>whnf
 refine hK _ _ _ ?_
 refine aF ?_
 refine aJ ?_
 replace h:=bL h
 refine cY (body:=mW _ _) rfl h [1,4] [1] [4] [] (fun kl kh kr ids b s=>⟨ofL ([(5,.lst (.tok (b+0)) 1 s.length (fun j=>eI (s.getD j default)))]++kl),ofH (([(b+0,.cells [])]++kh)++([]++kr)),b+128⟩) ?_;(conv=>whnf);refine And.intro ?_ (fun s m h=>cR ?_)
 ·refine aR ?_;conv=>whnf
  exact And.intro rfl (And.intro (aLc (WkR.nil (fun _=>rfl)) (aLc (WkR.ptr (fun _=>rfl)) (aLc (WkR.ptr (fun _=>rfl)) aLn))) (aLc ⟨none,rfl,oH⟩ (aLc ⟨some _,rfl,bRc rfl (cKc wkI (cKc (wkr (lsL fun _=>(aI _))) cKn))⟩ (aLc ⟨some _,rfl,aN rfl rfl⟩ aLn))))
 replace h:=bL h;rw [mW.eq_1] at h
 refine aF ?_
 refine aC dCo rfl fun K hK=>?_;conv=>whnf
 refine nlA rfl ?_;conv=>whnf
 refine bKo rfl ?_;conv=>whnf
 refine gKo rfl ?_;conv=>whnf
 refine hK _ _ _ ?_
 refine aW fun K1 K2 hK1 hK2=>?_;conv=>whnf
 refine cLk h (fun _ h=>?_) (fun _ h=>?_)
 ·refine hK1 ?_
  refine aG ?_
  refine tHn ?_
  refine aJ ?_
  refine aC dCo rfl fun K hK=>?_;conv=>whnf
  refine hK _ _ _ ?_
  refine aJ ?_
  replace h:=bL h
  refine cY (body:=oZ _ _) rfl h [1,4] [1] [4] [] (fun kl kh kr ids b s=>⟨ofL ([(5,.lst (.tok (b+0)) 1 s.1.length (fun j=>eI (s.1.getD j default))),(6,eI s.2)]++kl),ofH (([(b+0,.cells [])]++kh)++([]++kr)),b+128⟩) ?_;(conv=>whnf);refine And.intro ?_ (fun s m h=>cR ?_)
  ·refine aR ?_;conv=>whnf
   exact And.intro rfl (And.intro (aLc (WkR.tok (fun _=>rfl) rfl (fun _ _=>Wk.refl _) (fun _=>(lsI _ _))) (aLc wkI (aLc (WkR.ptr (fun _=>rfl)) (aLc (WkR.ptr (fun _=>rfl)) aLn)))) (aLc ⟨some _,rfl,bRc rfl cKn⟩ (aLc ⟨some _,rfl,bRc rfl (cKc wkI (cKc (wkr (lsL fun _=>(aI _))) cKn))⟩ (aLc ⟨some _,rfl,aN rfl rfl⟩ aLn))))
  replace h:=bL h;rw [oZ.eq_1] at h
  refine aF ?_
  refine aC dCo rfl fun K hK=>?_;conv=>whnf
  refine nlA rfl ?_;conv=>whnf
  refine bKo rfl ?_;conv=>whnf
  refine gKo rfl ?_;conv=>whnf
  refine hK _ _ _ ?_
  refine aW fun K1 K2 hK1 hK2=>?_;conv=>whnf
  refine cLk h (fun _ h=>?_) (fun _ h=>?_)
  ·refine hK1 ?_
   refine aG ?_
   refine tHn ?_
   refine aF ?_
   refine aJ ?_
   refine aC dCo rfl fun K hK=>?_;conv=>whnf
   replace h:=bL h
   refine tL h40 h (aD cD (aD (Wk.refl _) bE)) (fun _ h=>?_);conv=>whnf
   refine hK _ _ _ ?_
   refine aF ?_
   refine aC dCo rfl fun K hK=>?_;conv=>whnf
   refine hK _ _ _ ?_
   refine aJ ?_
   replace h:=bL h
   refine cY (body:=nC _ _ _) rfl h [1,4,5,6] [1,5] [4] [] (fun kl kh kr ids b s=>⟨ofL ([(7,eB s.1),(8,eI s.2)]++kl),ofH (([]++kh)++([]++kr)),b+64⟩) ?_;(conv=>whnf);refine And.intro ?_ (fun s m h=>cR ?_)
   ·refine aR ?_;conv=>whnf
    exact And.intro rfl (And.intro (aLc (wkr (lsB _)) (aLc wkI (aLc (WkR.ptr (fun _=>rfl)) (aLc (WkR.ptr (fun _=>rfl)) (aLc (WkR.tok (fun _=>rfl) rfl (fun _ _=>Wk.refl _) (fun _=>(lsI _ _))) (aLc wkI aLn)))))) (aLc ⟨some _,rfl,bRc rfl (cKc wkI (cKc (wkr (lsL fun _=>(aI _))) cKn))⟩ (aLc ⟨some _,rfl,bRc rfl cKn⟩ (aLc ⟨some _,rfl,aN rfl rfl⟩ aLn))))
   replace h:=bL h;rw [nC.eq_1] at h
   refine aF ?_
   refine aC dCo rfl fun K hK=>?_;conv=>whnf
   refine nlA rfl ?_;conv=>whnf
   refine bKo rfl ?_;conv=>whnf
   refine gKo rfl ?_;conv=>whnf
   refine hK _ _ _ ?_
   refine aW fun K1 K2 hK1 hK2=>?_;conv=>whnf
   refine cLk h (fun _ h=>?_) (fun _ h=>?_)
   ·refine hK1 ?_
    refine aG ?_
    refine tHn ?_
    refine aF ?_
    refine aJ ?_
    refine aC dCo rfl fun K hK=>?_;conv=>whnf
    replace h:=lG h
    refine bW h fun hx1047 h=>?_;conv=>whnf
    refine bW h fun hx1048 h=>?_;conv=>whnf
    refine nlA rfl ?_;conv=>whnf
    refine bKo rfl ?_;conv=>whnf
    refine lF (m:=8) rfl rfl hx1047 hx1048 ?_;conv=>whnf
    refine cLk h (fun _ h=>?_) (fun _ h=>?_)<;>(conv=>whnf)
    ·replace h:=bL h
     refine tL h40 h (aD cD (aD (Wk.refl _) bE)) (fun _ h=>?_);conv=>whnf
     refine hK _ _ _ ?_
     replace h:=lG h
     refine aW fun K1 K2 hK1 hK2=>?_;conv=>whnf
     refine cLk h (fun _ h=>?_) (fun _ h=>?_)
     ·refine hK1 ?_
      refine bY dCo rfl fun K hK=>?_;conv=>whnf
      refine hK _ _ _ ?_
      refine iBn ?_
      refine tHn ?_
      refine bY dCo rfl fun K hK=>?_;conv=>whnf
      refine hK _ _ _ ?_
      refine tHn ?_
      replace h:=bK h
      refine ⟨_,h,?_⟩
      refine aR ?_;conv=>whnf
      exact And.intro rfl (And.intro (aLc (wkr (lsB _)) (aLc wkI (aLc (WkR.ptr (fun _=>rfl)) (aLc (WkR.ptr (fun _=>rfl)) (aLc (WkR.tok (fun _=>rfl) rfl (fun _ _=>Wk.refl _) (fun _=>(lsI _ _))) (aLc wkI aLn)))))) (aLc ⟨some _,rfl,bRc rfl (cKc wkI (cKc (wkr (lsL fun _=>(aI _))) cKn))⟩ (aLc ⟨some _,rfl,bRc rfl cKn⟩ (aLc ⟨some _,rfl,aN rfl rfl⟩ aLn))))
     refine hK2 ?_
     refine aG ?_
     refine iBn ?_
     refine tHn ?_
     refine bY dCo rfl fun K hK=>?_;conv=>whnf
     refine hK _ _ _ ?_
     refine tHn ?_
     replace h:=bK h
     refine ⟨_,h,?_⟩
     refine aR ?_;conv=>whnf
     exact And.intro rfl (And.intro (aLc (wkr (lsB _)) (aLc wkI (aLc (WkR.ptr (fun _=>rfl)) (aLc (WkR.ptr (fun _=>rfl)) (aLc (WkR.tok (fun _=>rfl) rfl (fun _ _=>Wk.refl _) (fun _=>(lsI _ _))) (aLc wkI aLn)))))) (aLc ⟨some _,rfl,bRc rfl (cKc wkI (cKc (wkr (lsL fun _=>(aI _))) cKn))⟩ (aLc ⟨some _,rfl,bRc rfl cKn⟩ (aLc ⟨some _,rfl,aN rfl rfl⟩ aLn))))
    refine hK _ _ _ ?_
    replace h:=lG h
    refine aW fun K1 K2 hK1 hK2=>?_;conv=>whnf
    refine hK2 ?_
    replace h:=rS h
    refine aG ?_
    refine iBn ?_
    refine tHn ?_
    refine bY dCo rfl fun K hK=>?_;conv=>whnf
    refine hK _ _ _ ?_
    refine tHn ?_
    replace h:=bK h
    refine ⟨_,h,?_⟩
    refine aR ?_;conv=>whnf
    exact And.intro rfl (And.intro (aLc (wkr (lsB _)) (aLc wkI (aLc (WkR.ptr (fun _=>rfl)) (aLc (WkR.ptr (fun _=>rfl)) (aLc (WkR.tok (fun _=>rfl) rfl (fun _ _=>Wk.refl _) (fun _=>(lsI _ _))) (aLc wkI aLn)))))) (aLc ⟨some _,rfl,bRc rfl (cKc wkI (cKc (wkr (lsL fun _=>(aI _))) cKn))⟩ (aLc ⟨some _,rfl,bRc rfl cKn⟩ (aLc ⟨some _,rfl,aN rfl rfl⟩ aLn))))
   refine hK2 ?_
   refine bI ?_
   refine aT ?_
   refine aT ?_
   refine aS ?_
   replace h:=cV h
   replace h:=cU h
   refine tHn ?_
   refine aC dCo rfl fun K hK=>?_;conv=>whnf
   refine hK _ _ _ ?_
   refine aW fun K1 K2 hK1 hK2=>?_;conv=>whnf
   refine cLk h (fun _ h=>?_) (fun _ h=>?_)
   ·refine hK1 ?_
    refine aC dCo rfl fun K hK=>?_;conv=>whnf
    refine dL (enc:=eI) (d:=default) dCo h rfl rfl rfl ⟨nle rfl,nle rfl,rfl⟩ rfl ⟨⟨rfl,rfl,rfl⟩,trivial⟩ (fun h=>?_);conv=>whnf
    refine gX (enc:=eI) (d:=default) dCo h (.inl rfl) rfl rfl rfl ⟨rfl,nle rfl,nle rfl,nle rfl,rfl⟩ (fun _=>rfl) (.inr (.inr ⟨_,_,rfl,rfl,rfl⟩)) (fun h=>?_);conv=>whnf
    refine hK _ _ _ ?_
    refine bI ?_
    refine aFF (by decide) ?_
    refine aT ?_
    refine aT ?_
    refine aS ?_
    replace h:=cV h
    replace h:=cU h
    refine iBn ?_
    refine tHn ?_
    replace h:=bK h
    refine ⟨_,h,?_⟩
    refine aR ?_;conv=>whnf
    exact And.intro rfl (And.intro (aLc (WkR.tok (fun _=>rfl) rfl (fun _ _=>Wk.refl _) (fun _=>(lsI _ _))) (aLc (WkR.ptr (fun _=>rfl)) (aLc (WkR.ptr (fun _=>rfl)) aLn))) (aLc ⟨some _,rfl,bRc rfl cKn⟩ (aLc ⟨some _,rfl,bRc rfl (cKc wkI (cKc (wkr (lsL fun _=>(aI _))) cKn))⟩ (aLc ⟨some _,rfl,aN rfl rfl⟩ aLn))))
   refine hK2 ?_
   refine aG ?_
   refine iBn ?_
   refine tHn ?_
   refine bY dCo rfl fun K hK=>?_;conv=>whnf
   refine hK _ _ _ ?_
   refine tHn ?_
   replace h:=bK h
   refine ⟨_,h,?_⟩
   refine aR ?_;conv=>whnf
   exact And.intro rfl (And.intro (aLc (WkR.tok (fun _=>rfl) rfl (fun _ _=>Wk.refl _) (fun _=>(lsI _ _))) (aLc wkI (aLc (WkR.ptr (fun _=>rfl)) (aLc (WkR.ptr (fun _=>rfl)) aLn)))) (aLc ⟨some _,rfl,bRc rfl cKn⟩ (aLc ⟨some _,rfl,bRc rfl (cKc wkI (cKc (wkr (lsL fun _=>(aI _))) cKn))⟩ (aLc ⟨some _,rfl,aN rfl rfl⟩ aLn))))
  refine hK2 ?_
  refine bI ?_
  refine aT ?_
  refine aT ?_
  refine aS ?_
  replace h:=cV h
  replace h:=cU h
  refine iBn ?_
  refine tHn ?_
  replace h:=bK h
  refine ⟨_,h,?_⟩
  refine aR ?_;conv=>whnf
  exact And.intro rfl (And.intro (aLc (WkR.tok (fun _=>rfl) rfl (fun _ _=>Wk.refl _) (fun _=>(lsI _ _))) (aLc (WkR.ptr (fun _=>rfl)) (aLc (WkR.ptr (fun _=>rfl)) aLn))) (aLc ⟨some _,rfl,bRc rfl cKn⟩ (aLc ⟨some _,rfl,bRc rfl (cKc wkI (cKc (wkr (lsL fun _=>(aI _))) cKn))⟩ (aLc ⟨some _,rfl,aN rfl rfl⟩ aLn))))
 refine hK2 ?_
 refine bI ?_
 refine aT ?_
 refine aT ?_
 refine aS ?_
 replace h:=cV h
 replace h:=cU h
 refine tHn ?_
 refine aC dCo rfl fun K hK=>?_;conv=>whnf
 refine hK _ _ _ ?_
 refine aP ?_
 replace h:=aO h
 refine aK dCo fun K hK=>?_;conv=>whnf
 refine hK _ ?_
 cases h
 exact mL (aD cD (aD (Wk.refl _) bE))
theorem pJ {T:Tbl} (hT:T 14=aH kX) {args:List AV} {hp:bH} {id:Nat} {k:AV→Prop} {a0:aE} {Φ:(List Int)×Int→Prop} (h:W (fB a0) Φ) (hw:WkL args [bF a0]) (hk:∀ y,Φ y→k (.tup [(eL 1 eI default) y.1,eI y.2])):cH T 14 args hp id k:=by
 obtain ⟨y,e,hy⟩:=dY h
 exact aV hT ⟨a0,rfl,lR e rfl⟩ (by exact eJ (lsC (lsL fun _=>(lsI _ _)) (lsC (lsI _ _) lsN))) hw (hk y hy)
  def jV (s4:Int×(List Int)) (y1:(List Int)×Int) (y2:Br 64) (s5:Int×(List Int)):Option (Ct (Int×(List Int)) ((List Int)×Int)):=cn (decide (s5.1<s4.1)) (ix y1.1 default s5.1 fun e6=>
  ix y1.1 default s4.1 fun e7=>gd (0≤e6∧e6<(8:Int)) (gd (0≤e7∧e7<(8:Int)) (jn (fun p8:(List Int)=>some (.nx ((wr (s5.1+1)),p8))) fun k9=>
  cn (y2.at2 8 e6 e7) (ix y1.1 default s4.1 fun e10=>ix y1.1 default s4.1 fun e11=>gd ((0:Int)≤e11∧e11<(s5.2.length:Int)) (ix y1.1 default s5.1 fun e12=>
  gd ((0:Int)≤e12∧e12<(s5.2.length:Int)) (gd ((0:Int)≤e10∧e10<(s5.2.length:Int)) (st s5.2 (e10) (aH4 (s5.2.getD (e11).toNat default) (wr ((s5.2.getD (e12).toNat default)+1))) fun l13=>
  k9 l13)))) (k9 s5.2)))) (some (.bk (s5.1,s5.2)))
  def kI (y1:(List Int)×Int) (y2:Br 64) (s4:Int×(List Int)):Option (Ct (Int×(List Int)) ((List Int)×Int)):=cn (decide (s4.1<(y1.1.length:Int))) (bd (lp (jV s4 y1 y2) FU (0,s4.2)) fun c14=>
  smK c14 (fun s15=>some (.nx ((wr (s4.1+1)),s15.2))) (fun r16=>some (.rt r16))) (some (.bk (s4.1,s4.2)))
def fZ (a0:aE):Option ((List Int)×Int):=bd (fB a0) fun y1=>cn (y1.2 != 0) (some ([],y1.2)) (bd (cC a0) fun y2=>
  gd ((0:Int)≤a0.N∧a0.N≤(1048576:Int)) (lt (List.replicate (a0.N).toNat (0:Int)) fun l3=>bd (lp (kI y1 y2) FU (0,l3)) fun c17=>smK c17 (fun s18=>
  some (s18.2,0)) (fun r19=>some r19)))
def oE:List AV→AV→Prop:=fun args r=>∃ a0,args=[bF a0]∧W (fZ a0) fun y=>r=(.tup [(eL 1 eI default) y.1,eI y.2])
theorem aBB {T:Tbl} (hT:TOk Tryd.prog T) (hpf:cP T PF) (h14:T 14=aH kX) (h39:T 39=aH cI):FOk Tryd.prog 51 (aH oE):=by
 refine bM hT hpf Tryd.func51 rfl Tryd.ntmps51 Tryd.results51 (by decide) ?_
 rintro args r ⟨a0,rfl,h⟩
 refine ⟨nle rfl,?_,?_⟩
 ·exact (lsC (bT _) lsN)
 rw [fZ.eq_1] at h
 refine aC dCo rfl fun K hK=>?_;conv=>whnf
 refine hK _ _ _ ?_
 refine aC dCo rfl fun K hK=>?_;conv=>whnf
 refine nlA rfl ?_;conv=>whnf
 refine bKo rfl ?_;conv=>whnf
 refine nlA rfl ?_;conv=>whnf
 replace h:=bL h
 refine pJ h14 h (WkL.refl _) (fun _ h=>?_);conv=>whnf
 refine hK _ _ _ ?_
 refine aF ?_
 refine aC dCo rfl fun K hK=>?_;conv=>whnf
 refine hK _ _ _ ?_
 refine aW fun K1 K2 hK1 hK2=>?_;conv=>whnf
 refine cLk h (fun _ h=>?_) (fun _ h=>?_)
 ·refine hK1 ?_
  refine aC dCo rfl fun K hK=>?_;conv=>whnf
  refine hK _ _ _ ?_
  refine aP ?_
  refine aQ ?_
  replace h:=aO h
  refine aK dCo fun K hK=>?_;conv=>whnf
  refine hK _ ?_
  cases h
  exact mL (aD iO (aD (Wk.refl _) bE))
 refine hK2 ?_
 refine aG ?_
 refine tHn ?_
 refine aC dCo rfl fun K hK=>?_;conv=>whnf
 refine nlA rfl ?_;conv=>whnf
 refine bKo rfl ?_;conv=>whnf
 refine nlA rfl ?_;conv=>whnf
 replace h:=bL h
 refine cK h39 h (WkL.refl _) (fun _ h=>?_);conv=>whnf
 refine aL ?_;conv=>whnf
 refine bKo rfl ?_;conv=>whnf
 refine aA0 rfl rfl rfl ?_;conv=>whnf
 refine hK _ _ _ ?_
 refine aC dCo rfl fun K hK=>?_;conv=>whnf
 refine nlA rfl ?_;conv=>whnf
 refine bKo rfl ?_;conv=>whnf
 refine gKo rfl ?_;conv=>whnf
 refine aMn (enc:=eI) dCo (0:Int) h rfl rfl ⟨nle rfl,nle rfl,rfl⟩ rfl (fun h=>?_);conv=>whnf
 refine hK _ _ _ ?_
 refine aF ?_
 refine aC dCo rfl fun K hK=>?_;conv=>whnf
 refine hK _ _ _ ?_
 refine aJ ?_
 replace h:=bL h
 refine cY (body:=kI _ _) rfl h [4,6] [] [6] [] (fun kl kh kr ids b s=>⟨ofL ([(8,eI s.1),(7,.so (b+0) 0 s.2.length 1)]++kl),ofH (([]++kh)++([(b+0,.cells (flE (ceE eI) s.2))]++kr)),b+128⟩) ?_;(conv=>whnf);refine And.intro ?_ (fun s m h=>cR ?_)
 ·refine aR ?_;conv=>whnf
  exact And.intro rfl (And.intro (aLc wkI (aLc (WkR.so (fun _=>rfl)) (aLc (wkr (lsL fun _=>(lsI _ _))) (aLc (WkR.ptr (fun _=>rfl)) aLn)))) (aLc ⟨some _,rfl,kA rfl (fun _=>(lsC (lsI _ _) lsN))⟩ (aLc ⟨some _,rfl,aN rfl rfl⟩ aLn)))
 replace h:=bL h;rw [kI.eq_1] at h
 refine aF ?_
 refine aC dCo rfl fun K hK=>?_;conv=>whnf
 refine hK _ _ _ ?_
 refine aW fun K1 K2 hK1 hK2=>?_;conv=>whnf
 refine cLk h (fun _ h=>?_) (fun _ h=>?_)
 ·refine hK1 ?_
  refine aG ?_
  refine tHn ?_
  refine aF ?_
  refine aJ ?_
  refine aC dCo rfl fun K hK=>?_;conv=>whnf
  refine hK _ _ _ ?_
  refine aJ ?_
  replace h:=bL h
  refine cY (body:=jV _ _ _) rfl h [4,6,8] [] [6] [] (fun kl kh kr ids b s=>⟨ofL ([(9,eI s.1),(7,.so (b+0) 0 s.2.length 1)]++kl),ofH (([]++kh)++([(b+0,.cells (flE (ceE eI) s.2))]++kr)),b+128⟩) ?_;(conv=>whnf);refine And.intro ?_ (fun s m h=>cR ?_)
  ·refine aR ?_;conv=>whnf
   exact And.intro rfl (And.intro (aLc wkI (aLc (WkR.so (fun _=>rfl)) (aLc (wkr (lsL fun _=>(lsI _ _))) (aLc (WkR.ptr (fun _=>rfl)) (aLc wkI aLn))))) (aLc ⟨some _,rfl,kA rfl (fun _=>(lsC (lsI _ _) lsN))⟩ (aLc ⟨some _,rfl,aN rfl rfl⟩ aLn)))
  replace h:=bL h;rw [jV.eq_1] at h
  refine aF ?_
  refine aC dCo rfl fun K hK=>?_;conv=>whnf
  refine hK _ _ _ ?_
  refine aW fun K1 K2 hK1 hK2=>?_;conv=>whnf
  refine cLk h (fun _ h=>?_) (fun _ h=>?_)
  ·refine hK1 ?_
   refine aG ?_
   refine tHn ?_
   refine aF ?_
   refine aJ ?_
   refine qA dCo cG rfl (by kernel_rfl) fun K hK=>?_;conv=>whnf
   refine dD h fun _ h=>?_;conv=>whnf
   refine gKo rfl ?_;conv=>whnf
   refine dD h fun _ h=>?_;conv=>whnf
   refine gKo rfl ?_;conv=>whnf
   refine bW h fun hx2601 h=>?_;conv=>whnf
   refine bW h fun hx2602 h=>?_;conv=>whnf
   refine nlA rfl ?_;conv=>whnf
   refine bKo rfl ?_;conv=>whnf
   refine lF (m:=8) rfl rfl hx2601 hx2602 ?_;conv=>whnf
   refine hK _ _ _ ?_
   replace h:=lG h
   refine aW fun K1 K2 hK1 hK2=>?_;conv=>whnf
   refine cLk h (fun _ h=>?_) (fun _ h=>?_)
   ·refine hK1 ?_
    refine nQ dCo cG rfl (by kernel_rfl) fun K hK=>?_;conv=>whnf
    refine dD h fun _ h=>?_;conv=>whnf
    refine gKo rfl ?_;conv=>whnf
    refine dD h fun _ h=>?_;conv=>whnf
    refine gKo rfl ?_;conv=>whnf
    refine qZ h (rfl) fun hx2606 h=>?_;conv=>whnf
    refine nlA rfl ?_;conv=>whnf
    refine bKo rfl ?_;conv=>whnf
    refine sF (enc:=eI) (d:=default) (q:=0) (fun _=>rfl) (rfl) hx2606 (nle rfl) rfl ?_;conv=>whnf
    refine dD h fun _ h=>?_;conv=>whnf
    refine gKo rfl ?_;conv=>whnf
    refine qZ h (rfl) fun hx2607 h=>?_;conv=>whnf
    refine nlA rfl ?_;conv=>whnf
    refine bKo rfl ?_;conv=>whnf
    refine sF (enc:=eI) (d:=default) (q:=0) (fun _=>rfl) (rfl) hx2607 (nle rfl) rfl ?_;conv=>whnf
    refine qZ h (rfl) fun hx2608 h=>?_;conv=>whnf
    refine bKo rfl ?_;conv=>whnf
    refine aKC (enc:=eI) (d:=default) (q:=0) h (fun _=>rfl) (rfl) hx2608 rfl (nle rfl) rfl rfl (fun h=>?_);conv=>whnf
    refine hK _ _ _ ?_
    refine iBn ?_
    refine tHn ?_
    refine bY dCo rfl fun K hK=>?_;conv=>whnf
    refine hK _ _ _ ?_
    refine tHn ?_
    replace h:=bK h
    refine ⟨_,h,?_⟩
    refine aR ?_;conv=>whnf
    exact And.intro rfl (And.intro (aLc wkI (aLc (WkR.soN (fun _=>rfl) (aFm rfl).symm) (aLc (wkr (lsL fun _=>(lsI _ _))) (aLc (WkR.ptr (fun _=>rfl)) (aLc wkI aLn))))) (aLc ⟨some _,rfl,kA rfl (fun _=>(lsC (lsI _ _) lsN))⟩ (aLc ⟨some _,rfl,aN rfl rfl⟩ aLn)))
   refine hK2 ?_
   refine aG ?_
   refine iBn ?_
   refine tHn ?_
   refine bY dCo rfl fun K hK=>?_;conv=>whnf
   refine hK _ _ _ ?_
   refine tHn ?_
   replace h:=bK h
   refine ⟨_,h,?_⟩
   refine aR ?_;conv=>whnf
   exact And.intro rfl (And.intro (aLc wkI (aLc (WkR.so (fun _=>rfl)) (aLc (wkr (lsL fun _=>(lsI _ _))) (aLc (WkR.ptr (fun _=>rfl)) (aLc wkI aLn))))) (aLc ⟨some _,rfl,kA rfl (fun _=>(lsC (lsI _ _) lsN))⟩ (aLc ⟨some _,rfl,aN rfl rfl⟩ aLn)))
  refine hK2 ?_
  refine bI ?_
  refine aT ?_
  refine aT ?_
  refine aS ?_
  replace h:=cV h
  replace h:=cU h
  refine iBn ?_
  refine tHn ?_
  refine bY dCo rfl fun K hK=>?_;conv=>whnf
  refine hK _ _ _ ?_
  refine tHn ?_
  replace h:=bK h
  refine ⟨_,h,?_⟩
  refine aR ?_;conv=>whnf
  exact And.intro rfl (And.intro (aLc wkI (aLc (WkR.so (fun _=>rfl)) (aLc (wkr (lsL fun _=>(lsI _ _))) (aLc (WkR.ptr (fun _=>rfl)) aLn)))) (aLc ⟨some _,rfl,kA rfl (fun _=>(lsC (lsI _ _) lsN))⟩ (aLc ⟨some _,rfl,aN rfl rfl⟩ aLn)))
 refine hK2 ?_
 refine bI ?_
 refine aT ?_
 refine aT ?_
 refine aS ?_
 replace h:=cV h
 replace h:=cU h
 refine tHn ?_
 refine aC dCo rfl fun K hK=>?_;conv=>whnf
 refine hK _ _ _ ?_
 refine qM 2 (enc:=eI) (e:=3) default (pS dCo rfl rfl rfl (fun _=>⟨rfl,rfl⟩)) ?_;(conv=>whnf);refine ⟨_,_,rfl,rfl,rfl,?_⟩
 refine aP ?_
 replace h:=aO h
 refine aK dCo fun K hK=>?_;conv=>whnf
 refine hK _ ?_
 cases h
 exact Wk.refl _
theorem aAj {T:Tbl} (hT:T 51=aH oE) {args:List AV} {hp:bH} {id:Nat} {k:AV→Prop} {a0:aE} {Φ:(List Int)×Int→Prop} (h:W (fZ a0) Φ) (hw:WkL args [bF a0]) (hk:∀ y,Φ y→k (.tup [(eL 1 eI default) y.1,eI y.2])):cH T 51 args hp id k:=by
 obtain ⟨y,e,hy⟩:=dY h
 exact aV hT ⟨a0,rfl,lR e rfl⟩ (by exact eJ (lsC (lsL fun _=>(lsI _ _)) (lsC (lsI _ _) lsN))) hw (hk y hy)
def pF (a2:Int) (y6:Int) (s17:aE):Option (Ct aE aE):=bd (eZ a2 4) fun y18=>
  cn (decide ((s17.Pairs.length:Int)<(wr (27+y18)))) (gd ((0:Int)≤y6∧y6<(s17.Pairs.length:Int)) (lt ([(s17.Pairs.getD (y6).toNat default)]:List (Int×Int)) fun l19=>
  ap s17.Pairs l19 fun l20=>some (.nx (⟨s17.N,l20⟩:aE)))) (some (.bk s17))
def oO (a0:aE) (a1:Int) (a2:Int) (a3:Int):Option aE:=lt ([]:List (Int×Int)) fun l1=>gd (a0.Pairs.length≤1048576) (lt a0.Pairs fun l2=>
  jn (fun p3:Bool=>cn p3 (some (⟨a2,l2⟩:aE)) (bd (eZ a3 (l2.length:Int)) fun y6=>bd (eZ a1 4) fun y7=>jn (fun p8:aE=>
  some (⟨p8.N,p8.Pairs⟩:aE)) fun k9=>cn (y7==1) (bd (eZ (wr (Int.tdiv a3 8)) 2) fun y10=>
  gd ((0:Int)≤y6∧y6<(l2.length:Int)) (gd (0≤y10∧y10<(2:Int)) (cn (y10==0) (st l2 (y6) (a2,(l2.getD (y6).toNat default).2) fun l11=>
  k9 (⟨a0.N,l11⟩:aE)) (st l2 (y6) ((l2.getD (y6).toNat default).1,a2) fun l12=>k9 (⟨a0.N,l12⟩:aE))))) (jn (fun p13:aE=>k9 p13) fun k14=>cn (y7 ==
  2) (gd ((0:Int)≤y6∧y6<(l2.length:Int)) (gd ((0:Int)≤y6∧y6<(l2.length:Int)) (lt ([((l2.getD (y6).toNat default).2,(l2.getD (y6).toNat default).1)]:List (Int×Int)) fun l15=>
  ap l2 l15 fun l16=>k14 (⟨a0.N,l16⟩:aE)))) (bd (lp (pF a2 y6) FU (⟨a0.N,l2⟩:aE)) fun c21=>smK c21 (fun s22=>k14 s22) (fun r23=>
  some r23))))) fun k4=>bd (eZ a1 4) fun y5=>cn (y5==0) (k4 true) (k4 ((l2.length:Int)==0)))
def qQ:List AV→AV→Prop:=fun args r=>∃ a0 a1 a2 a3,args=[bF a0,eI a1,eI a2,eI a3]∧W (oO a0 a1 a2 a3) fun y=>r=(bF y)
theorem aDh {T:Tbl} (hT:TOk Tryd.prog T) (hpf:cP T PF) (h37:T 37=aH kY):FOk Tryd.prog 16 (aH qQ):=by
 refine bM hT hpf Tryd.func16 rfl Tryd.ntmps16 Tryd.results16 (by decide) ?_
 rintro args r ⟨a0,a1,a2,a3,rfl,h⟩
 refine ⟨nle rfl,?_,?_⟩
 ·exact (lsC (bT _) (lsC (lsI _ _) (lsC (lsI _ _) (lsC (lsI _ _) lsN))))
 rw [oO.eq_1] at h
 refine aC dCo rfl fun K hK=>?_;conv=>whnf
 refine hK _ _ _ ?_
 refine aC dCo rfl fun K hK=>?_;conv=>whnf
 refine dL (enc:=kT) (d:=default) dCo h rfl rfl rfl ⟨nle rfl,nle rfl,rfl⟩ rfl trivial (fun h=>?_);conv=>whnf
 refine nlA rfl ?_;conv=>whnf
 refine bKo rfl ?_;conv=>whnf
 refine gKo rfl ?_;conv=>whnf
 refine aGU h fun hg h=>?_
 replace h:=aRo h
 refine aKG (enc:=kT) (d:=default) dCo rfl rfl rfl ⟨rfl,nle rfl,nle rfl,nle rfl,rfl⟩ (fun _=>rfl) (fun _=>nofun) hg ?_;conv=>whnf
 refine bKo rfl ?_;conv=>whnf
 refine And.intro rfl (And.intro (nle rfl) (And.intro rfl ?_));conv=>whnf
 refine hK _ _ _ ?_
 refine aF ?_
 refine aC dCo rfl fun K hK=>?_;conv=>whnf
 replace h:=lG h
 replace h:=bL h
 refine dE h37 h (WkL.refl _) (fun _ h=>?_);conv=>whnf
 refine cLk h (fun _ h=>?_) (fun _ h=>?_)<;>(conv=>whnf)
 ·refine hK _ _ _ ?_
  refine aW fun K1 K2 hK1 hK2=>?_;conv=>whnf
  refine hK1 ?_
  replace h:=rM h
  refine aC dCo rfl fun K hK=>?_;conv=>whnf
  refine bKo rfl ?_;conv=>whnf
  refine And.intro rfl (And.intro (nle rfl) (And.intro rfl ?_));conv=>whnf
  refine hK _ _ _ ?_
  refine tF 4 1 (enc:=kT) (e:=46) default (uS dCo rfl rfl (fun _=>rfl) (fun _=>rfl)) ?_;(conv=>whnf);refine ⟨_,_,_,(Nat.ne_of_beq_eq_false rfl),rfl,rfl,rfl,rfl,?_⟩;conv=>whnf
  refine aC dCo rfl fun K hK=>?_;conv=>whnf
  refine nlA rfl ?_;conv=>whnf
  refine bKo rfl ?_;conv=>whnf
  refine nlA rfl ?_;conv=>whnf
  refine bKo rfl ?_;conv=>whnf
  refine And.intro rfl (And.intro (nle rfl) (And.intro rfl ?_));conv=>whnf
  refine hK _ _ _ ?_
  refine aP ?_
  refine aQ ?_
  replace h:=aO h
  refine aK dCo fun K hK=>?_;conv=>whnf
  refine nlA rfl ?_;conv=>whnf
  refine bKo rfl ?_;conv=>whnf
  refine nlA rfl ?_;conv=>whnf
  refine hK _ ?_
  cases h
  exact Wk.refl _
 refine nlA rfl ?_;conv=>whnf
 refine bKo rfl ?_;conv=>whnf
 refine gKo rfl ?_;conv=>whnf
 refine hK _ _ _ ?_
 refine aW fun K1 K2 hK1 hK2=>?_;conv=>whnf
 refine cLk h (fun _ h=>?_) (fun _ h=>?_)
 ·refine hK1 ?_
  refine aC dCo rfl fun K hK=>?_;conv=>whnf
  refine bKo rfl ?_;conv=>whnf
  refine And.intro rfl (And.intro (nle rfl) (And.intro rfl ?_));conv=>whnf
  refine hK _ _ _ ?_
  refine tF 4 1 (enc:=kT) (e:=46) default (uS dCo rfl rfl (fun _=>rfl) (fun _=>rfl)) ?_;(conv=>whnf);refine ⟨_,_,_,(Nat.ne_of_beq_eq_false rfl),rfl,rfl,rfl,rfl,?_⟩;conv=>whnf
  refine aC dCo rfl fun K hK=>?_;conv=>whnf
  refine nlA rfl ?_;conv=>whnf
  refine bKo rfl ?_;conv=>whnf
  refine nlA rfl ?_;conv=>whnf
  refine bKo rfl ?_;conv=>whnf
  refine And.intro rfl (And.intro (nle rfl) (And.intro rfl ?_));conv=>whnf
  refine hK _ _ _ ?_
  refine aP ?_
  refine aQ ?_
  replace h:=aO h
  refine aK dCo fun K hK=>?_;conv=>whnf
  refine nlA rfl ?_;conv=>whnf
  refine bKo rfl ?_;conv=>whnf
  refine nlA rfl ?_;conv=>whnf
  refine hK _ ?_
  cases h
  exact Wk.refl _
 refine hK2 ?_
 refine aG ?_
 refine tHn ?_
 refine aC dCo rfl fun K hK=>?_;conv=>whnf
 refine nlA rfl ?_;conv=>whnf
 refine bKo rfl ?_;conv=>whnf
 refine gKo rfl ?_;conv=>whnf
 replace h:=bL h
 refine dE h37 h (WkL.refl _) (fun _ h=>?_);conv=>whnf
 refine hK _ _ _ ?_
 refine aF ?_
 refine aC dCo rfl fun K hK=>?_;conv=>whnf
 replace h:=bL h
 refine dE h37 h (WkL.refl _) (fun _ h=>?_);conv=>whnf
 refine hK _ _ _ ?_
 refine aJ ?_
 refine aC dCo rfl fun K hK=>?_;conv=>whnf
 refine hK _ _ _ ?_
 replace h:=lG h
 refine aW fun K1 K2 hK1 hK2=>?_;conv=>whnf
 refine cLk h (fun _ h=>?_) (fun _ h=>?_)
 ·refine hK1 ?_
  refine nQ dCo cG rfl (by kernel_rfl) fun K hK=>?_;conv=>whnf
  refine nlA rfl ?_;conv=>whnf
  refine bKo rfl ?_;conv=>whnf
  refine gKo rfl ?_;conv=>whnf
  refine And.intro (by decide) ?_;conv=>whnf
  replace h:=bL h
  refine dE h37 h (WkL.refl _) (fun _ h=>?_);conv=>whnf
  refine qZ h (rfl) fun hx101 h=>?_;conv=>whnf
  refine bW h fun hx102 h=>?_;conv=>whnf
  replace h:=aNX h
  rcases h with ⟨hq,hz⟩ | ⟨hq,hz⟩
  ·obtain rfl:=eq_of_beq hq
   have h:=hz
   refine bKo rfl ?_;conv=>whnf
   refine aKC (enc:=kT) (d:=default) (q:=0) h (fun _=>rfl) (rfl) hx101 rfl (nle rfl) rfl rfl (fun h=>?_);conv=>whnf
   refine hK _ _ _ ?_
   refine iBn ?_
   refine tHn ?_
   refine tF 4 1 (enc:=kT) (e:=46) default (uS dCo rfl rfl (fun _=>rfl) (fun _=>rfl)) ?_;(conv=>whnf);refine ⟨_,_,_,(Nat.ne_of_beq_eq_false rfl),rfl,rfl,(aFm rfl).symm,rfl,?_⟩;conv=>whnf
   refine aC dCo rfl fun K hK=>?_;conv=>whnf
   refine nlA rfl ?_;conv=>whnf
   refine bKo rfl ?_;conv=>whnf
   refine nlA rfl ?_;conv=>whnf
   refine bKo rfl ?_;conv=>whnf
   refine And.intro rfl (And.intro (nle rfl) (And.intro rfl ?_));conv=>whnf
   refine hK _ _ _ ?_
   refine aP ?_
   replace h:=aO h
   refine aK dCo fun K hK=>?_;conv=>whnf
   refine nlA rfl ?_;conv=>whnf
   refine bKo rfl ?_;conv=>whnf
   refine nlA rfl ?_;conv=>whnf
   refine hK _ ?_
   cases h
   exact Wk.refl _
  obtain rfl:=aQO hx102 hq
  have h:=hz
  refine bKo rfl ?_;conv=>whnf
  refine aKC (enc:=kT) (d:=default) (q:=1) h (fun _=>rfl) (rfl) hx101 rfl (nle rfl) rfl rfl (fun h=>?_);conv=>whnf
  refine hK _ _ _ ?_
  refine iBn ?_
  refine tHn ?_
  refine tF 4 1 (enc:=kT) (e:=46) default (uS dCo rfl rfl (fun _=>rfl) (fun _=>rfl)) ?_;(conv=>whnf);refine ⟨_,_,_,(Nat.ne_of_beq_eq_false rfl),rfl,rfl,(aFm rfl).symm,rfl,?_⟩;conv=>whnf
  refine aC dCo rfl fun K hK=>?_;conv=>whnf
  refine nlA rfl ?_;conv=>whnf
  refine bKo rfl ?_;conv=>whnf
  refine nlA rfl ?_;conv=>whnf
  refine bKo rfl ?_;conv=>whnf
  refine And.intro rfl (And.intro (nle rfl) (And.intro rfl ?_));conv=>whnf
  refine hK _ _ _ ?_
  refine aP ?_
  replace h:=aO h
  refine aK dCo fun K hK=>?_;conv=>whnf
  refine nlA rfl ?_;conv=>whnf
  refine bKo rfl ?_;conv=>whnf
  refine nlA rfl ?_;conv=>whnf
  refine hK _ ?_
  cases h
  exact Wk.refl _
 refine hK2 ?_
 refine aC dCo rfl fun K hK=>?_;conv=>whnf
 refine hK _ _ _ ?_
 replace h:=lG h
 refine aW fun K1 K2 hK1 hK2=>?_;conv=>whnf
 refine cLk h (fun _ h=>?_) (fun _ h=>?_)
 ·refine hK1 ?_
  refine nQ dCo cG rfl (by kernel_rfl) fun K hK=>?_;conv=>whnf
  refine nlA rfl ?_;conv=>whnf
  refine bKo rfl ?_;conv=>whnf
  refine gKo rfl ?_;conv=>whnf
  refine nlA rfl ?_;conv=>whnf
  refine bKo rfl ?_;conv=>whnf
  refine gKo rfl ?_;conv=>whnf
  refine qZ h (rfl) fun hx109 h=>?_;conv=>whnf
  refine And.intro (by decide) ?_;conv=>whnf
  refine nlA rfl ?_;conv=>whnf
  refine bKo rfl ?_;conv=>whnf
  refine sF (enc:=kT) (d:=default) (q:=1) (fun _=>rfl) (rfl) hx109 (nle rfl) rfl ?_;conv=>whnf
  refine nlA rfl ?_;conv=>whnf
  refine bKo rfl ?_;conv=>whnf
  refine gKo rfl ?_;conv=>whnf
  refine qZ h (rfl) fun hx110 h=>?_;conv=>whnf
  refine And.intro (by decide) ?_;conv=>whnf
  refine nlA rfl ?_;conv=>whnf
  refine bKo rfl ?_;conv=>whnf
  refine sF (enc:=kT) (d:=default) (q:=0) (fun _=>rfl) (rfl) hx110 (nle rfl) rfl ?_;conv=>whnf
  refine dL (enc:=kT) (d:=default) dCo h rfl rfl rfl ⟨nle rfl,nle rfl,rfl⟩ rfl ⟨⟨rfl,nle rfl⟩,trivial⟩ (fun h=>?_);conv=>whnf
  refine aA1 (enc:=kT) (d:=default) dCo h rfl rfl rfl ⟨rfl,nle rfl,nle rfl,nle rfl,rfl⟩ (fun _=>rfl) (fun _=>rfl) (fun _=>nofun) rfl (rfl) (fun h=>?_);conv=>whnf
  refine bKo rfl ?_;conv=>whnf
  refine And.intro rfl (And.intro (nle rfl) (And.intro rfl ?_));conv=>whnf
  refine hK _ _ _ ?_
  refine iBn ?_
  refine tHn ?_
  refine tF 4 1 (enc:=kT) (e:=46) default (uS dCo rfl rfl (fun _=>rfl) (fun _=>rfl)) ?_;(conv=>whnf);refine ⟨_,_,_,(Nat.ne_of_beq_eq_false rfl),rfl,rfl,rfl,rfl,?_⟩;conv=>whnf
  refine aC dCo rfl fun K hK=>?_;conv=>whnf
  refine nlA rfl ?_;conv=>whnf
  refine bKo rfl ?_;conv=>whnf
  refine nlA rfl ?_;conv=>whnf
  refine bKo rfl ?_;conv=>whnf
  refine And.intro rfl (And.intro (nle rfl) (And.intro rfl ?_));conv=>whnf
  refine hK _ _ _ ?_
  refine aP ?_
  replace h:=aO h
  refine aK dCo fun K hK=>?_;conv=>whnf
  refine nlA rfl ?_;conv=>whnf
  refine bKo rfl ?_;conv=>whnf
  refine nlA rfl ?_;conv=>whnf
  refine hK _ ?_
  cases h
  exact Wk.refl _
 refine hK2 ?_
 refine aJ ?_
 replace h:=bL h
 refine cY (body:=pF _ _) rfl h [2,4,8,9] [8] [] [4] (fun kl kh kr ids b s=>⟨ofL ([]++kl),ofH (([(xW ids 0,.cells [eI s.N,.so (b+0) 0 s.Pairs.length 2])]++kh)++([(b+0,.cells (flE (ceE kT) s.Pairs))]++kr)),b+128⟩) ?_;(conv=>whnf);refine And.intro ?_ (fun s m h=>cR ?_)
 ·refine aR ?_;conv=>whnf
  exact And.intro rfl (And.intro (aLc wkI (aLc (WkR.ptr (fun _=>rfl)) (aLc (WkR.ptr (fun _=>rfl)) (aLc wkI aLn)))) (aLc ⟨some _,rfl,bRc rfl (cKc wkI (cKc (WkR.so (fun _=>rfl)) cKn))⟩ (aLc ⟨some _,rfl,bRc rfl (cKc wkI (cKc (wkr bC) cKn))⟩ (aLc ⟨some _,rfl,kA rfl (fun _=>(lsC (lsI _ _) (lsC (lsI _ _) lsN)))⟩ aLn))))
 replace h:=bL h;rw [pF.eq_1] at h
 refine aF ?_
 refine qA dCo cG rfl (by kernel_rfl) fun K hK=>?_;conv=>whnf
 refine nlA rfl ?_;conv=>whnf
 refine bKo rfl ?_;conv=>whnf
 refine gKo rfl ?_;conv=>whnf
 replace h:=bL h
 refine dE h37 h (WkL.refl _) (fun _ h=>?_);conv=>whnf
 refine hK _ _ _ ?_
 refine aW fun K1 K2 hK1 hK2=>?_;conv=>whnf
 refine cLk h (fun _ h=>?_) (fun _ h=>?_)
 ·refine hK1 ?_
  refine aG ?_
  refine tHn ?_
  refine aJ ?_
  refine nQ dCo cG rfl (by kernel_rfl) fun K hK=>?_;conv=>whnf
  refine nlA rfl ?_;conv=>whnf
  refine bKo rfl ?_;conv=>whnf
  refine gKo rfl ?_;conv=>whnf
  refine nlA rfl ?_;conv=>whnf
  refine bKo rfl ?_;conv=>whnf
  refine gKo rfl ?_;conv=>whnf
  refine qZ h (rfl) fun hx116 h=>?_;conv=>whnf
  refine nlA rfl ?_;conv=>whnf
  refine bKo rfl ?_;conv=>whnf
  refine aHB (enc:=kT) (d:=default) (fun _=>rfl) (rfl) hx116 ?_;conv=>whnf
  refine dL (enc:=kT) (d:=default) dCo h rfl rfl rfl ⟨nle rfl,nle rfl,rfl⟩ rfl ⟨⟨rfl,nle rfl⟩,trivial⟩ (fun h=>?_);conv=>whnf
  refine aA1 (enc:=kT) (d:=default) dCo h rfl rfl rfl ⟨rfl,nle rfl,nle rfl,nle rfl,rfl⟩ (fun _=>rfl) (fun _=>rfl) (fun _=>nofun) rfl (rfl) (fun h=>?_);conv=>whnf
  refine bKo rfl ?_;conv=>whnf
  refine And.intro rfl (And.intro (nle rfl) (And.intro rfl ?_));conv=>whnf
  refine hK _ _ _ ?_
  refine iBn ?_
  refine tHn ?_
  replace h:=bK h
  refine ⟨_,h,?_⟩
  refine aR ?_;conv=>whnf
  exact And.intro rfl (And.intro (aLc wkI (aLc (WkR.ptr (fun _=>rfl)) (aLc (WkR.ptr (fun _=>rfl)) (aLc wkI aLn)))) (aLc ⟨some _,rfl,bRc rfl (cKc wkI (cKc (WkR.so (fun _=>rfl)) cKn))⟩ (aLc ⟨some _,rfl,bRc rfl (cKc wkI (cKc (wkr bC) cKn))⟩ (aLc ⟨some _,rfl,kA rfl (fun _=>(lsC (lsI _ _) (lsC (lsI _ _) lsN)))⟩ aLn))))
 refine hK2 ?_
 refine bI ?_
 refine aT ?_
 refine aT ?_
 refine aS ?_
 replace h:=cV h
 replace h:=cU h
 refine iBn ?_
 refine tHn ?_
 refine tF 4 1 (enc:=kT) (e:=46) default (uS dCo rfl rfl (fun _=>rfl) (fun _=>rfl)) ?_;(conv=>whnf);refine ⟨_,_,_,(Nat.ne_of_beq_eq_false rfl),rfl,rfl,rfl,rfl,?_⟩;conv=>whnf
 refine aC dCo rfl fun K hK=>?_;conv=>whnf
 refine nlA rfl ?_;conv=>whnf
 refine bKo rfl ?_;conv=>whnf
 refine nlA rfl ?_;conv=>whnf
 refine bKo rfl ?_;conv=>whnf
 refine And.intro rfl (And.intro (nle rfl) (And.intro rfl ?_));conv=>whnf
 refine hK _ _ _ ?_
 refine aP ?_
 replace h:=aO h
 refine aK dCo fun K hK=>?_;conv=>whnf
 refine nlA rfl ?_;conv=>whnf
 refine bKo rfl ?_;conv=>whnf
 refine nlA rfl ?_;conv=>whnf
 refine hK _ ?_
 cases h
 exact Wk.refl _
theorem aA4 {T:Tbl} (hT:T 16=aH qQ) {args:List AV} {hp:bH} {id:Nat} {k:AV→Prop} {a0:aE} {a1:Int} {a2:Int} {a3:Int} {Φ:aE→Prop} (h:W (oO a0 a1 a2 a3) Φ) (hw:WkL args [bF a0,eI a1,eI a2,eI a3]) (hk:∀ y,Φ y→k (bF y)):cH T 16 args hp id k:=by
 obtain ⟨y,e,hy⟩:=dY h
 exact aV hT ⟨a0,a1,a2,a3,rfl,lR e rfl⟩ (by exact (bT _)) hw (hk y hy)
end Go.Proofs.YtlmboonbfhkfnaaDoor
