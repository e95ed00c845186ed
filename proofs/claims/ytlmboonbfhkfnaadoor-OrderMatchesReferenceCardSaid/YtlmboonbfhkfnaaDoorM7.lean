import Derived.Test.YtlmboonbfhkfnaaDoorM6
import Derived.Test.YtlmboonbfhkfnaaDoorM4
import Derived.Test.YtlmboonbfhkfnaaDoorM5
import Derived.Test.YtlmboonbfhkfnaaDoorM2
import Derived.Test.YtlmboonbfhkfnaaDoorM3
set_option linter.unusedVariables false
set_option linter.unusedSimpArgs false
set_option linter.unusedSectionVars false
namespace Go.Proofs.YtlmboonbfhkfnaaDoor
open Go Go.Eng
set_option maxRecDepth 100000
set_option maxHeartbeats 0
set_option maxHeartbeats 0
set_option maxRecDepth 100000
def jT (g:Int→Br 64→List Int→Int→Option (Option (List Int))) (a0:Int) (a1:Br 64) (a2:List Int) (a3:Int) (s3:Int):Option (Ct Int (Option (List Int))):=cn (decide (s3<a0)) (jn (fun p4:Unit=>
  some (.nx (wr (s3+1)))) fun k5=>jn (fun p6:Bool=>cn p6 (k5 ()) (slc a2 0 (a2.length:Int) fun l10=>lt ([s3]:List Int) fun l11=>ap l10 l11 fun l12=>
  bd (g a0 a1 l12 a3) fun y13=>gd (y13≠some []) (onK y13 (fun l14=>some (.rt (some l14))) (k5 ())))) fun k7=>bd (jG a2 s3) fun y8=>
  cn y8 (k7 true) (cn (decide ((a2.length:Int)>0)) (ix a2 default (wr ((a2.length:Int)-1)) fun e9=>
  gd (0≤e9∧e9<(8:Int)) (gd (0≤s3∧s3<(8:Int)) (k7 (!(a1.at2 8 e9 s3))))) (k7 false))) (some (.bk s3))
theorem yG {g:Int→Br 64→List Int→Int→Option (Option (List Int))} {a0:Int} {a1:Br 64} {a2:List Int} {a3:Int} {s3:Int} {Φ:Ct Int (Option (List Int))→Prop} (h:W (jT g a0 a1 a2 a3 s3) Φ):W (cn (decide (s3<a0)) (jn (fun p4:Unit=>some (.nx (wr (s3+1)))) fun k5=>jn (fun p6:Bool=>cn p6 (k5 ()) (slc a2 0 (a2.length:Int) fun l10=>
  lt ([s3]:List Int) fun l11=>ap l10 l11 fun l12=>bd (g a0 a1 l12 a3) fun y13=>gd (y13≠some []) (onK y13 (fun l14=>
  some (.rt (some l14))) (k5 ())))) fun k7=>bd (jG a2 s3) fun y8=>cn y8 (k7 true) (cn (decide ((a2.length:Int) >
  0)) (ix a2 default (wr ((a2.length:Int)-1)) fun e9=>gd (0≤e9∧e9<(8:Int)) (gd (0≤s3∧s3<(8:Int)) (k7 (!(a1.at2 8 e9 s3))))) (k7 false))) (some (.bk s3))) Φ:=h
def pM (g:Int→Br 64→List Int→Int→Option (Option (List Int))) (a0:Int) (a1:Br 64) (a2:List Int) (a3:Int):Option (Option (List Int)):=cn ((a2.length:Int)==a3) (ix a2 default (wr (a3-1)) fun e1=>
  ix a2 default 0 fun e2=>
  gd (0≤e1∧e1<(8:Int)) (gd (0≤e2∧e2<(8:Int)) (cn (a1.at2 8 e1 e2) (some (some a2)) (some none)))) (bd (lp (jT g a0 a1 a2 a3) FU 0) fun c15=>
  smK c15 (fun s16=>some none) (fun r17=>some r17))
def fI:Nat→Int→Br 64→List Int→Int→Option (Option (List Int))
 | 0=>fun _ _ _ _=>none
 | k+1=>pM (fI k)
def jA (k:Nat):List AV→AV→Prop:=fun args r=>∃ a0 a1 a2 a3,args=[eI a0,eBr a1,(eL 1 eI default) a2,eI a3]∧W (fI k a0 a1 a2 a3) fun y=>r=((eN 1 eI default) y)
theorem lM {k0:Nat} {T:Tbl} (hT:T 72=aH (jA k0)) {args:List AV} {hp:bH} {id:Nat} {k:AV→Prop} {a0:Int} {a1:Br 64} {a2:List Int} {a3:Int} {Φ:Option (List Int)→Prop} (h:W (fI k0 a0 a1 a2 a3) Φ) (hw:WkL args [eI a0,eBr a1,(eL 1 eI default) a2,eI a3]) (hk:∀ y,Φ y→k ((eN 1 eI default) y)):cH T 72 args hp id k:=by
 obtain ⟨y,e,hy⟩:=dY h
 exact aV hT ⟨a0,a1,a2,a3,rfl,lR e rfl⟩ (by exact (aLr (fun _=>(lsI _ _)) _)) hw (hk y hy)
theorem aB5 (k:Nat) {T:Tbl} (hT:TOk Tryd.prog T) (hpf:cP T PF) (h40:T 40=aH oK) (h72:T 72=aH (jA k)):FOk Tryd.prog 72 (aH (jA (k+1))):=by
 refine bM hT hpf Tryd.func72 rfl Tryd.ntmps72 Tryd.results72 (by decide) ?_
 rintro args r ⟨a0,a1,a2,a3,rfl,h⟩
 refine ⟨nle rfl,?_,?_⟩
 ·exact (lsC (lsI _ _) (lsC (sK _) (lsC (lsL fun _=>(lsI _ _)) (lsC (lsI _ _) lsN))))
 replace h:W (pM (fI k) a0 a1 a2 a3) _:=h
 rw [pM.eq_1] at h
 refine aC dCo rfl fun K hK=>?_;conv=>whnf
 refine aL ?_;conv=>whnf
 refine hK _ _ _ ?_
 refine aF ?_
 refine aC dCo rfl fun K hK=>?_;conv=>whnf
 refine hK _ _ _ ?_
 refine aW fun K1 K2 hK1 hK2=>?_;conv=>whnf
 refine cLk h (fun _ h=>?_) (fun _ h=>?_)
 ·refine hK1 ?_
  refine aF ?_
  refine qA dCo cG rfl (by kernel_rfl) fun K hK=>?_;conv=>whnf
  refine dD h fun _ h=>?_;conv=>whnf
  refine gKo rfl ?_;conv=>whnf
  refine dD h fun _ h=>?_;conv=>whnf
  refine gKo rfl ?_;conv=>whnf
  refine bW h fun hx37 h=>?_;conv=>whnf
  refine bW h fun hx38 h=>?_;conv=>whnf
  refine nlA rfl ?_;conv=>whnf
  refine bKo rfl ?_;conv=>whnf
  refine lF (m:=8) rfl rfl hx37 hx38 ?_;conv=>whnf
  refine hK _ _ _ ?_
  refine aW fun K1 K2 hK1 hK2=>?_;conv=>whnf
  refine cLk h (fun _ h=>?_) (fun _ h=>?_)
  ·refine hK1 ?_
   refine aC dCo rfl fun K hK=>?_;conv=>whnf
   refine hK _ _ _ ?_
   refine aP ?_
   refine aQ ?_
   refine aQ ?_
   replace h:=aO h
   refine aK dCo fun K hK=>?_;conv=>whnf
   refine hK _ ?_
   cases h
   exact Wk.refl _
  refine hK2 ?_
  refine aG ?_
  refine tHn ?_
  refine aC dCo rfl fun K hK=>?_;conv=>whnf
  refine hK _ _ _ ?_
  refine aP ?_
  refine aQ ?_
  replace h:=aO h
  refine aK dCo fun K hK=>?_;conv=>whnf
  refine hK _ ?_
  cases h
  exact Wk.refl _
 refine hK2 ?_
 refine aG ?_
 refine tHn ?_
 refine aF ?_
 refine aC dCo rfl fun K hK=>?_;conv=>whnf
 refine hK _ _ _ ?_
 refine aJ ?_
 replace h:=bL h
 refine cY (body:=jT (fI k) _ _ _ _) rfl h [0,2,3,5] [] [5] [] (fun kl kh kr ids b s=>⟨ofL ([(9,eI s)]++kl),ofH (([]++kh)++([]++kr)),b+64⟩) ?_;(conv=>whnf);refine And.intro ?_ (fun s m h=>cR ?_)
 ·refine aR ?_;conv=>whnf
  exact And.intro rfl (And.intro (aLc wkI (aLc wkI (aLc (wkr (lsL fun _=>(lsI _ _))) (aLc wkI (aLc (WkR.ptr (fun _=>rfl)) aLn))))) (aLc ⟨some _,rfl,aN rfl rfl⟩ aLn))
 replace h:=yG (bL h)
 refine aF ?_
 refine aC dCo rfl fun K hK=>?_;conv=>whnf
 refine hK _ _ _ ?_
 refine aW fun K1 K2 hK1 hK2=>?_;conv=>whnf
 refine cLk h (fun _ h=>?_) (fun _ h=>?_)
 ·refine hK1 ?_
  refine aG ?_
  refine tHn ?_
  refine aF ?_
  replace h:=lG h
  refine aJ ?_
  refine aF ?_
  refine aC dCo rfl fun K hK=>?_;conv=>whnf
  replace h:=lG h
  replace h:=bL h
  refine tL h40 h (WkL.refl _) (fun _ h=>?_);conv=>whnf
  refine cLk h (fun _ h=>?_) (fun _ h=>?_)<;>(conv=>whnf)
  ·refine hK _ _ _ ?_
   refine aW fun K1 K2 hK1 hK2=>?_;conv=>whnf
   refine hK1 ?_
   replace h:=rM h
   refine bI ?_
   refine aT ?_
   refine aS ?_
   refine tHn ?_
   refine bY dCo rfl fun K hK=>?_;conv=>whnf
   refine hK _ _ _ ?_
   refine tHn ?_
   replace h:=bK h
   refine ⟨_,h,?_⟩
   refine aR ?_;conv=>whnf
   exact And.intro rfl (And.intro (aLc wkI (aLc wkI (aLc (wkr (lsL fun _=>(lsI _ _))) (aLc wkI (aLc (WkR.ptr (fun _=>rfl)) aLn))))) (aLc ⟨some _,rfl,aN rfl rfl⟩ aLn))
  refine cLk h (fun _ h=>?_) (fun _ h=>?_)<;>(conv=>whnf)
  ·refine dD h fun _ h=>?_;conv=>whnf
   refine gKo rfl ?_;conv=>whnf
   refine bW h fun hx81 h=>?_;conv=>whnf
   refine bW h fun hx82 h=>?_;conv=>whnf
   refine nlA rfl ?_;conv=>whnf
   refine bKo rfl ?_;conv=>whnf
   refine lF (m:=8) rfl rfl hx81 hx82 ?_;conv=>whnf
   refine hK _ _ _ ?_
   refine aW fun K1 K2 hK1 hK2=>?_;conv=>whnf
   refine cLk h (fun _ h=>?_) (fun _ h=>?_)
   ·refine hK1 ?_
    refine bI ?_
    refine aT ?_
    refine aS ?_
    refine tHn ?_
    refine bY dCo rfl fun K hK=>?_;conv=>whnf
    refine hK _ _ _ ?_
    refine tHn ?_
    replace h:=bK h
    refine ⟨_,h,?_⟩
    refine aR ?_;conv=>whnf
    exact And.intro rfl (And.intro (aLc wkI (aLc wkI (aLc (wkr (lsL fun _=>(lsI _ _))) (aLc wkI (aLc (WkR.ptr (fun _=>rfl)) aLn))))) (aLc ⟨some _,rfl,aN rfl rfl⟩ aLn))
   refine hK2 ?_
   refine aG ?_
   refine tHn ?_
   refine aFh (.step 0 (.step 2 (.step 3 (.step 4 (.step 5 (.step 6 (.step 7 (.step 8 (.step 9 (.step 11 (.two 1 10 (.step 10 (.step 12 (.step 13 (.nil)))) (.step 1 (.step 12 (.step 13 (.nil))))))))))))))) dCo cG rfl (by kernel_rfl) fun K hK=>?_;conv=>whnf
   refine aFy h (.inl ⟨rfl,rfl⟩) (fun h=>?_);conv=>whnf
   refine dL (enc:=eI) (d:=default) dCo h rfl rfl rfl ⟨nle rfl,nle rfl,rfl⟩ rfl ⟨⟨rfl,rfl,rfl⟩,trivial⟩ (fun h=>?_);conv=>whnf
   refine And.intro ?_ ?_<;>(conv=>whnf)
   ·refine nlA rfl ?_;conv=>whnf
    refine bKo rfl ?_;conv=>whnf
    refine wP rfl ?_;conv=>whnf
    refine gX (enc:=eI) (d:=default) dCo h (.inl rfl) rfl rfl rfl ⟨rfl,nle rfl,nle rfl,nle rfl,rfl⟩ (fun _=>rfl) (.inr (.inl ⟨rfl,rfl⟩)) (fun h=>?_);conv=>whnf
    refine aL ?_;conv=>whnf
    replace h:=bL h
    refine lM h72 h (aD (Wk.refl _) (aD (Wk.refl _) (aD cD (aD (Wk.refl _) bE)))) (fun y0 h=>?_)
    replace h:=vE h
    obtain ⟨hn,h⟩:=h
    rcases y0 with _ | l0
    ·replace h:=aIz h
     (conv=>whnf)
     refine hK _ _ _ ?_
     refine tI (ng:=true) (isn:=true) rfl rfl rfl rfl rfl rfl Tryd.underlying26 (fun β v hv=>aCu rfl hv) rfl ?_
     refine aW fun K1 K2 hK1 hK2=>?_;conv=>whnf
     refine hK2 ?_
     refine aG ?_
     refine iBn ?_
     refine tHn ?_
     refine bY dCo rfl fun K hK=>?_;conv=>whnf
     refine hK _ _ _ ?_
     refine tHn ?_
     replace h:=bK h
     refine ⟨_,h,?_⟩
     refine aR ?_;conv=>whnf
     exact And.intro rfl (And.intro (aLc wkI (aLc wkI (aLc (wkr (lsL fun _=>(lsI _ _))) (aLc wkI (aLc (WkR.ptr (fun _=>rfl)) aLn))))) (aLc ⟨some _,rfl,aN rfl rfl⟩ aLn))
    replace h:=aIu h
    have hn83:=aCz hn
    (conv=>whnf)
    refine hK _ _ _ ?_
    refine tI (ng:=true) (isn:=false) rfl rfl rfl rfl rfl rfl Tryd.underlying26 (fun β v hv=>aCY rfl hn83 hv) rfl ?_
    refine aW fun K1 K2 hK1 hK2=>?_;conv=>whnf
    refine hK1 ?_
    refine aC dCo rfl fun K hK=>?_;conv=>whnf
    refine hK _ _ _ ?_
    refine aP ?_
    refine aU ?_
    refine aQ ?_
    refine aQ ?_
    refine aU ?_
    refine aQ ?_
    replace h:=jO h
    replace h:=jN h
    replace h:=aO h
    refine aK dCo fun K hK=>?_;conv=>whnf
    refine hK _ ?_
    cases h
    exact Wk.refl _
   refine gX (enc:=eI) (d:=default) dCo h (.inl rfl) rfl rfl rfl ⟨rfl,nle rfl,nle rfl,nle rfl,rfl⟩ (fun _=>rfl) (.inr (.inl ⟨rfl,rfl⟩)) (fun h=>?_);conv=>whnf
   refine nlA rfl ?_;conv=>whnf
   refine bKo rfl ?_;conv=>whnf
   refine wP rfl ?_;conv=>whnf
   refine aL ?_;conv=>whnf
   replace h:=bL h
   refine lM h72 h (aD (Wk.refl _) (aD (Wk.refl _) (aD cD (aD (Wk.refl _) bE)))) (fun y0 h=>?_)
   replace h:=vE h
   obtain ⟨hn,h⟩:=h
   rcases y0 with _ | l0
   ·replace h:=aIz h
    (conv=>whnf)
    refine hK _ _ _ ?_
    refine tI (ng:=true) (isn:=true) rfl rfl rfl rfl rfl rfl Tryd.underlying26 (fun β v hv=>aCu rfl hv) rfl ?_
    refine aW fun K1 K2 hK1 hK2=>?_;conv=>whnf
    refine hK2 ?_
    refine aG ?_
    refine iBn ?_
    refine tHn ?_
    refine bY dCo rfl fun K hK=>?_;conv=>whnf
    refine hK _ _ _ ?_
    refine tHn ?_
    replace h:=bK h
    refine ⟨_,h,?_⟩
    refine aR ?_;conv=>whnf
    exact And.intro rfl (And.intro (aLc wkI (aLc wkI (aLc (wkr (lsL fun _=>(lsI _ _))) (aLc wkI (aLc (WkR.ptr (fun _=>rfl)) aLn))))) (aLc ⟨some _,rfl,aN rfl rfl⟩ aLn))
   replace h:=aIu h
   have hn84:=aCz hn
   (conv=>whnf)
   refine hK _ _ _ ?_
   refine tI (ng:=true) (isn:=false) rfl rfl rfl rfl rfl rfl Tryd.underlying26 (fun β v hv=>aCY rfl hn84 hv) rfl ?_
   refine aW fun K1 K2 hK1 hK2=>?_;conv=>whnf
   refine hK1 ?_
   refine aC dCo rfl fun K hK=>?_;conv=>whnf
   refine hK _ _ _ ?_
   refine aP ?_
   refine aU ?_
   refine aQ ?_
   refine aQ ?_
   refine aU ?_
   refine aQ ?_
   replace h:=jO h
   replace h:=jN h
   replace h:=aO h
   refine aK dCo fun K hK=>?_;conv=>whnf
   refine hK _ ?_
   cases h
   exact Wk.refl _
  refine hK _ _ _ ?_
  refine aW fun K1 K2 hK1 hK2=>?_;conv=>whnf
  refine hK2 ?_
  replace h:=rS h
  refine aG ?_
  refine tHn ?_
  refine aFh (.step 0 (.step 2 (.step 3 (.step 4 (.step 5 (.step 6 (.step 7 (.step 8 (.step 9 (.step 11 (.two 1 10 (.step 10 (.step 12 (.step 13 (.nil)))) (.step 1 (.step 12 (.step 13 (.nil))))))))))))))) dCo cG rfl (by kernel_rfl) fun K hK=>?_;conv=>whnf
  refine aFy h (.inl ⟨rfl,rfl⟩) (fun h=>?_);conv=>whnf
  refine dL (enc:=eI) (d:=default) dCo h rfl rfl rfl ⟨nle rfl,nle rfl,rfl⟩ rfl ⟨⟨rfl,rfl,rfl⟩,trivial⟩ (fun h=>?_);conv=>whnf
  refine And.intro ?_ ?_<;>(conv=>whnf)
  ·refine nlA rfl ?_;conv=>whnf
   refine bKo rfl ?_;conv=>whnf
   refine wP rfl ?_;conv=>whnf
   refine gX (enc:=eI) (d:=default) dCo h (.inl rfl) rfl rfl rfl ⟨rfl,nle rfl,nle rfl,nle rfl,rfl⟩ (fun _=>rfl) (.inr (.inl ⟨rfl,rfl⟩)) (fun h=>?_);conv=>whnf
   refine aL ?_;conv=>whnf
   replace h:=bL h
   refine lM h72 h (aD (Wk.refl _) (aD (Wk.refl _) (aD cD (aD (Wk.refl _) bE)))) (fun y0 h=>?_)
   replace h:=vE h
   obtain ⟨hn,h⟩:=h
   rcases y0 with _ | l0
   ·replace h:=aIz h
    (conv=>whnf)
    refine hK _ _ _ ?_
    refine tI (ng:=true) (isn:=true) rfl rfl rfl rfl rfl rfl Tryd.underlying26 (fun β v hv=>aCu rfl hv) rfl ?_
    refine aW fun K1 K2 hK1 hK2=>?_;conv=>whnf
    refine hK2 ?_
    refine aG ?_
    refine iBn ?_
    refine tHn ?_
    refine bY dCo rfl fun K hK=>?_;conv=>whnf
    refine hK _ _ _ ?_
    refine tHn ?_
    replace h:=bK h
    refine ⟨_,h,?_⟩
    refine aR ?_;conv=>whnf
    exact And.intro rfl (And.intro (aLc wkI (aLc wkI (aLc (wkr (lsL fun _=>(lsI _ _))) (aLc wkI (aLc (WkR.ptr (fun _=>rfl)) aLn))))) (aLc ⟨some _,rfl,aN rfl rfl⟩ aLn))
   replace h:=aIu h
   have hn85:=aCz hn
   (conv=>whnf)
   refine hK _ _ _ ?_
   refine tI (ng:=true) (isn:=false) rfl rfl rfl rfl rfl rfl Tryd.underlying26 (fun β v hv=>aCY rfl hn85 hv) rfl ?_
   refine aW fun K1 K2 hK1 hK2=>?_;conv=>whnf
   refine hK1 ?_
   refine aC dCo rfl fun K hK=>?_;conv=>whnf
   refine hK _ _ _ ?_
   refine aP ?_
   refine aU ?_
   refine aQ ?_
   refine aQ ?_
   refine aU ?_
   refine aQ ?_
   replace h:=jO h
   replace h:=jN h
   replace h:=aO h
   refine aK dCo fun K hK=>?_;conv=>whnf
   refine hK _ ?_
   cases h
   exact Wk.refl _
  refine gX (enc:=eI) (d:=default) dCo h (.inl rfl) rfl rfl rfl ⟨rfl,nle rfl,nle rfl,nle rfl,rfl⟩ (fun _=>rfl) (.inr (.inl ⟨rfl,rfl⟩)) (fun h=>?_);conv=>whnf
  refine nlA rfl ?_;conv=>whnf
  refine bKo rfl ?_;conv=>whnf
  refine wP rfl ?_;conv=>whnf
  refine aL ?_;conv=>whnf
  replace h:=bL h
  refine lM h72 h (aD (Wk.refl _) (aD (Wk.refl _) (aD cD (aD (Wk.refl _) bE)))) (fun y0 h=>?_)
  replace h:=vE h
  obtain ⟨hn,h⟩:=h
  rcases y0 with _ | l0
  ·replace h:=aIz h
   (conv=>whnf)
   refine hK _ _ _ ?_
   refine tI (ng:=true) (isn:=true) rfl rfl rfl rfl rfl rfl Tryd.underlying26 (fun β v hv=>aCu rfl hv) rfl ?_
   refine aW fun K1 K2 hK1 hK2=>?_;conv=>whnf
   refine hK2 ?_
   refine aG ?_
   refine iBn ?_
   refine tHn ?_
   refine bY dCo rfl fun K hK=>?_;conv=>whnf
   refine hK _ _ _ ?_
   refine tHn ?_
   replace h:=bK h
   refine ⟨_,h,?_⟩
   refine aR ?_;conv=>whnf
   exact And.intro rfl (And.intro (aLc wkI (aLc wkI (aLc (wkr (lsL fun _=>(lsI _ _))) (aLc wkI (aLc (WkR.ptr (fun _=>rfl)) aLn))))) (aLc ⟨some _,rfl,aN rfl rfl⟩ aLn))
  replace h:=aIu h
  have hn86:=aCz hn
  (conv=>whnf)
  refine hK _ _ _ ?_
  refine tI (ng:=true) (isn:=false) rfl rfl rfl rfl rfl rfl Tryd.underlying26 (fun β v hv=>aCY rfl hn86 hv) rfl ?_
  refine aW fun K1 K2 hK1 hK2=>?_;conv=>whnf
  refine hK1 ?_
  refine aC dCo rfl fun K hK=>?_;conv=>whnf
  refine hK _ _ _ ?_
  refine aP ?_
  refine aU ?_
  refine aQ ?_
  refine aQ ?_
  refine aU ?_
  refine aQ ?_
  replace h:=jO h
  replace h:=jN h
  replace h:=aO h
  refine aK dCo fun K hK=>?_;conv=>whnf
  refine hK _ ?_
  cases h
  exact Wk.refl _
 refine hK2 ?_
 refine bI ?_
 refine aT ?_
 refine aT ?_
 refine aS ?_
 replace h:=cV h
 replace h:=cU h
 refine tHn ?_
 refine aC dCo rfl fun K hK=>?_;conv=>whnf
 refine hK _ _ _ ?_
 refine aP ?_
 replace h:=aO h
 refine aK dCo fun K hK=>?_;conv=>whnf
 refine hK _ ?_
 cases h
 exact Wk.refl _
theorem aCn {T:Tbl} (hT:TOk Tryd.prog T) (hpf:cP T PF) (h40:T 40=aH oK):FOk Tryd.prog 72 (aH (jA 12)):=
 vH (S:=jA) hT hpf Tryd.func72 rfl (by decide) (by rintro a b ⟨a0,a1,a2,a3,-,h⟩;obtain ⟨_,e,_⟩:=dY h;cases e) (fun k T' hT' hpf' hne h=>aB5 k hT' hpf' ((hne 40 (by decide)).trans h40) h) 12
def nU (a0:aE) (s2:Int):Option (Ct Int ((List Int)×Bool)):=cn (decide (s2≤a0.N)) (bd (lE a0) fun y3=>
  bd (fI 12 a0.N y3 ([]) s2) fun y4=>gd (y4≠some []) (onK y4 (fun l5=>some (.rt (l5,true))) (some (.nx (wr (s2+1)))))) (some (.bk s2))
def gZ (a0:aE):Option ((List Int)×Bool):=bd (iF a0) fun y1=>cn (!y1) (some ([],false)) (bd (lp (nU a0) FU 2) fun c6=>
  smK c6 (fun s7=>some ([],false)) (fun r8=>some r8))
def pN:List AV→AV→Prop:=fun args r=>∃ a0,args=[bF a0]∧W (gZ a0) fun y=>r=(.tup [(eL 1 eI default) y.1,eB y.2])
theorem aB1 {T:Tbl} (hT:TOk Tryd.prog T) (hpf:cP T PF) (h42:T 42=aH jD) (h71:T 71=aH mU) (h72:T 72=aH (jA 12)):FOk Tryd.prog 41 (aH pN):=by
 refine bM hT hpf Tryd.func41 rfl Tryd.ntmps41 Tryd.results41 (by decide) ?_
 rintro args r ⟨a0,rfl,h⟩
 refine ⟨nle rfl,?_,?_⟩
 ·exact (lsC (bT _) lsN)
 rw [gZ.eq_1] at h
 refine aC dCo rfl fun K hK=>?_;conv=>whnf
 refine hK _ _ _ ?_
 refine aF ?_
 refine aC dCo rfl fun K hK=>?_;conv=>whnf
 refine nlA rfl ?_;conv=>whnf
 refine bKo rfl ?_;conv=>whnf
 refine nlA rfl ?_;conv=>whnf
 replace h:=bL h
 refine qE h42 h (WkL.refl _) (fun _ h=>?_);conv=>whnf
 refine hK _ _ _ ?_
 refine aW fun K1 K2 hK1 hK2=>?_;conv=>whnf
 refine cLk h (fun _ h=>?_) (fun _ h=>?_)
 ·refine hK1 ?_
  refine aC dCo rfl fun K hK=>?_;conv=>whnf
  refine hK _ _ _ ?_
  refine aP ?_
  refine aQ ?_
  replace h:=aO h
  refine aK dCo fun K hK=>?_;conv=>whnf
  refine hK _ ?_
  cases h
  exact mL (aD iO (aD (Wk.refl _) bE))
 refine hK2 ?_
 refine aG ?_
 refine tHn ?_
 refine aF ?_
 refine aC dCo rfl fun K hK=>?_;conv=>whnf
 refine hK _ _ _ ?_
 refine aJ ?_
 replace h:=bL h
 refine qU (body:=nU _) rfl h [1] [1] [] (fun kl kh ids b s=>⟨ofL ([(4,eI s)]++kl),ofH ([]++kh),b+64⟩) ?_;(conv=>whnf);refine And.intro ?_ (fun s m h=>cR ?_)
 ·refine bN ?_;conv=>whnf
  exact And.intro rfl (And.intro (aLc wkI (aLc (WkR.ptr (fun _=>rfl)) aLn)) (aLc ⟨some _,rfl,bRc rfl (cKc wkI (cKc (wkr (lsL fun _=>(aI _))) cKn))⟩ aLn))
 replace h:=bL h;rw [nU.eq_1] at h
 refine aF ?_
 refine aC dCo rfl fun K hK=>?_;conv=>whnf
 refine nlA rfl ?_;conv=>whnf
 refine bKo rfl ?_;conv=>whnf
 refine gKo rfl ?_;conv=>whnf
 refine hK _ _ _ ?_
 refine aW fun K1 K2 hK1 hK2=>?_;conv=>whnf
 refine cLk h (fun _ h=>?_) (fun _ h=>?_)
 ·refine hK1 ?_
  refine aG ?_
  refine tHn ?_
  refine aF ?_
  refine aJ ?_
  refine qA dCo cG rfl (by kernel_rfl) fun K hK=>?_;conv=>whnf
  refine nlA rfl ?_;conv=>whnf
  refine bKo rfl ?_;conv=>whnf
  refine gKo rfl ?_;conv=>whnf
  refine nlA rfl ?_;conv=>whnf
  refine bKo rfl ?_;conv=>whnf
  refine nlA rfl ?_;conv=>whnf
  replace h:=bL h
  refine uY h71 h (WkL.refl _) (fun _ h=>?_);conv=>whnf
  refine aL ?_;conv=>whnf
  refine aL ?_;conv=>whnf
  replace h:=bL h
  refine lM h72 h (aD (Wk.refl _) (aD (Wk.refl _) (aD iO (aD (Wk.refl _) bE)))) (fun y0 h=>?_)
  replace h:=vE h
  obtain ⟨hn,h⟩:=h
  rcases y0 with _ | l0
  ·replace h:=aIz h
   (conv=>whnf)
   refine hK _ _ _ ?_
   refine tI (ng:=true) (isn:=true) rfl rfl rfl rfl rfl rfl Tryd.underlying26 (fun β v hv=>aCu rfl hv) rfl ?_
   refine aW fun K1 K2 hK1 hK2=>?_;conv=>whnf
   refine hK2 ?_
   refine aG ?_
   refine iBn ?_
   refine tHn ?_
   refine bY dCo rfl fun K hK=>?_;conv=>whnf
   refine hK _ _ _ ?_
   refine tHn ?_
   replace h:=bK h
   refine ⟨_,h,?_⟩
   refine bN ?_;conv=>whnf
   exact And.intro rfl (And.intro (aLc wkI (aLc (WkR.ptr (fun _=>rfl)) aLn)) (aLc ⟨some _,rfl,bRc rfl (cKc wkI (cKc (wkr (lsL fun _=>(aI _))) cKn))⟩ aLn))
  replace h:=aIu h
  have hn100:=aCz hn
  (conv=>whnf)
  refine hK _ _ _ ?_
  refine tI (ng:=true) (isn:=false) rfl rfl rfl rfl rfl rfl Tryd.underlying26 (fun β v hv=>aCY rfl hn100 hv) rfl ?_
  refine aW fun K1 K2 hK1 hK2=>?_;conv=>whnf
  refine hK1 ?_
  refine aC dCo rfl fun K hK=>?_;conv=>whnf
  refine hK _ _ _ ?_
  refine aP ?_
  refine aU ?_
  refine aQ ?_
  refine aQ ?_
  refine aU ?_
  refine aQ ?_
  replace h:=jO h
  replace h:=jN h
  replace h:=aO h
  refine aK dCo fun K hK=>?_;conv=>whnf
  refine hK _ ?_
  cases h
  exact Wk.refl _
 refine hK2 ?_
 refine bI ?_
 refine aT ?_
 refine aT ?_
 refine aS ?_
 replace h:=cV h
 replace h:=cU h
 refine tHn ?_
 refine aC dCo rfl fun K hK=>?_;conv=>whnf
 refine hK _ _ _ ?_
 refine aP ?_
 replace h:=aO h
 refine aK dCo fun K hK=>?_;conv=>whnf
 refine hK _ ?_
 cases h
 exact mL (aD iO (aD (Wk.refl _) bE))
theorem aAB {T:Tbl} (hT:T 41=aH pN) {args:List AV} {hp:bH} {id:Nat} {k:AV→Prop} {a0:aE} {Φ:(List Int)×Bool→Prop} (h:W (gZ a0) Φ) (hw:WkL args [bF a0]) (hk:∀ y,Φ y→k (.tup [(eL 1 eI default) y.1,eB y.2])):cH T 41 args hp id k:=by
 obtain ⟨y,e,hy⟩:=dY h
 exact aV hT ⟨a0,rfl,lR e rfl⟩ (by exact eJ (lsC (lsL fun _=>(lsI _ _)) (lsC (lsB _) lsN))) hw (hk y hy)
theorem aIW {D:DT} {E:Env} {N:Nat} {id:Nat} {ops:Array Oper} {o1 o2:Oper} {os:List Oper} {y:Code} {σ:AS} {Q:Exit→AS→Prop} {t0 t3 t4:Tmp} {T e:TypeId} {isn:Bool} (hD:DOk E.P D) (hops:ops.toList=o1::o2::os) (h1:o1.op=.move (.tmp t0)) (h2:o1.dst=some t3) (h3:o1.guard=none)
  (h4:o2.op=.binOp .eql T (.tmp t3) (.const (.slice none 0 0)) T) (h5:o2.dst=some t4) (h6:o2.guard=none) (hT:E.P.underlying T=some (.slice e)) (h0:∀ β v,V β (σ.sl t0) v→∃ base n c,v=.slice base n c∧base.isNone=isn) (hd:aAc N ops=true)
  (h:∀ K:(Nat→AV)→bH→Nat→Prop,(∀ sl hp b,HT E N y ⟨sl,hp,b⟩ Q→K sl hp b) →
   iP σ.b fun b=>aHO ⟨E.P,E.T,E.pf,b,ops.size,b+ops.size * 64,tH ops⟩ D ops os 2 (tA (tA σ.sl (some t3) (σ.sl t0)) (some t4) (.bool isn)) σ.hp fun sl hp=>K sl hp (b+ops.size * 64)):HT E N (.seq (.region id ops false) y) σ Q:=by
 have hV:=yM hD _ _ _ _ _ (by have:=h (fun sl hp b=>HT E N y ⟨sl,hp,b⟩ Q) fun _ _ _ h=>h;rw [cZ] at this;exact this)
 clear h
 have g0:ops[0]?=some o1:=by rw [← Array.getElem?_toList,hops];rfl
 have g1:ops[1]?=some o2:=by rw [← Array.getElem?_toList,hops];rfl
 have hsz:ops.size=os.length+2:=by rw [← Array.length_toList,hops];rfl
 refine aF ?_
 intro ro F a w hro hF hr
 have hr0:=hr
 obtain ⟨β,ds,k1,k2,k3,k4,k5,k6,k7,k8,k9⟩:=hr
 have hv:=k2 t0
 obtain ⟨base,n,cap,hval,hisn⟩:=h0 _ _ hv
 have hd3:t3<N:=lO hd 0 o1 t3 g0 h2
 have hd4:t4<N:=lO hd 1 o2 t4 g1 h5
 have s1:(execOp a.eval o1).run E.P w=.ok (.value (a.tmps.getD t0 undef)) w:=by
  unfold execOp;rw [h1];simp [Act.eval]
 have e3:(a.put o1.dst (a.tmps.getD t0 undef)).tmps.getD t3 undef=.slice base n cap:=by
  rw [h2,← hval];simp [Act.put,k9,hd3]
 have s2:(execOp (a.put o1.dst (a.tmps.getD t0 undef)).eval o2).run E.P w=.ok (.value (.bool isn)) w:=by
  unfold execOp;rw [h4]
  have:=aBV hT w base n cap (.tmp t3) (.const (.slice none 0 0))
  simp only [Act.eval,e3,Sem.run_bind] at this ⊢
  rw [← hisn];simp only [this];rfl
 have w1:Region.wanted o1 (yielded ops a.tmps)=true:=by simp [Region.wanted,h3]
 have w2:Region.wanted o2 (yielded ops (a.put o1.dst (a.tmps.getD t0 undef)).tmps)=true:=by simp [Region.wanted,h6]
 have hr2:Rep F N ⟨tA (tA σ.sl (some t3) (σ.sl t0)) (some t4) (.bool isn),σ.hp,σ.b⟩ ((a.put o1.dst (a.tmps.getD t0 undef)).put o2.dst (.bool isn)) w:=by
  refine ⟨β,ds,k1,?_,k3,k4,k5,k6,?_,k8,?_⟩
  ·intro t
   have j1:=aFV (β:=β) (N:=N) k2 k9 (d:=o1.dst) (fun t ht=>by rw [h2] at ht;cases ht;exact hd3) hv
   have j2:=aFV (β:=β) (N:=N) j1 (by rw [oV];exact k9) (d:=o2.dst) (fun t ht=>by rw [h5] at ht;cases ht;exact hd4) (r:=.bool isn) (v:=.bool isn) (by simp [V])
   have:=j2 t
   rw [h2,h5] at this
   rw [h2,h5];exact this
  ·rw [oS,oS];exact k7
  ·rw [oV,oV];exact k9
 obtain ⟨s',r1,r2⟩:=vF _ ops os 2 ⟨tA (tA σ.sl (some t3) (σ.sl t0)) (some t4) (.bool isn),σ.hp,fun _=>false⟩ (fun j=>by rw [← Array.getElem?_toList,hops];rw [show 2+j=j+1+1 by omega];rfl) (by simp) hV
 refine wpIn_region ?_
 rw [List.range_eq_range',hsz,List.range'_succ,List.range'_succ]
 simp only [wpOpsIn,g0,w1,if_true]
 refine lD (fun c hc=>by rw [h1] at hc;cases hc) s1 ?_
 simp only [wpOpsIn,Nat.zero_add,g1,w2,if_true]
 refine lD (fun c hc=>by rw [h4] at hc;cases hc) s2 ?_
 refine zX ⟨E.P,E.T,E.pf,σ.b,ops.size,σ.b+ops.size * 64,tH ops⟩ E.hT E.hpf rfl (lO hd) _ _ s' _ w (by simpa using r1) hr2.toRR ?_
 intro a' w' hr'
 exact ⟨_,r2,hr'.toRep⟩
theorem aJo:∀ {gs:List Nat} {out:List (List Int)} {id:Nat} {l:List Int},out.length<gs.length→oC gs out++[.lst (.tok id) 1 l.length fun j=>eI (l.getD j default)]=oC (gs.set out.length id) (out++[l])
 | _::gs,[],id,l,_=>by simp [oC]
 | _::gs,_::ls,id,l,h=>by
  have:=aJo (gs:=gs) (out:=ls) (id:=id) (l:=l) (by simpa using h)
  show _::(oC gs ls++_)=_::oC (gs.set ls.length id) (ls++[l])
  rw [this]
 | [],out,id,l,h=>by simp at h
theorem rQ {P:Program} {D:DT} (hD:DOk P D) {t u e e':TypeId} {de:TD} {s1 s2 b1 b2:Nat} {z1 z2:List AV} {f:Nat→AV} {gs:List Nat} {out:List (List Int)} {i id n g:Nat} {l:List Int} {hp:bH} {k:AV→bH→Prop}
  (ht:D t=some ⟨.slice e,s1,z1,b1⟩) (hu:D u=some ⟨.slice e',s2,z2,b2⟩) (he:D e=some de) (h0:de.size=1∧0<de.bytes∧de.bytes≤1048576∧de.zero.length=1)
  (hi:hp i=some (.cells (oC gs out))) (hn:out.length=n) (hg:n<gs.length) (hl:n+1≤1048576) (hf:f 0=.lst (.tok g) 1 l.length fun j=>eI (l.getD j default))
  (hk:k (.so id 0 (n+1) 1) (upd (upd hp i none) id (some (.cells (oC (gs.set n g) (out++[l])))))):rG P t u (.so i 0 n 1) (.lst .cap 1 1 f) id hp k:=by
 subst hn
 have k1:=(hD _ _ ht).k
 have k2:=(hD _ _ hu).k
 simp only [xC] at k1 k2
 obtain ⟨h1,h2,h3,h4⟩:=h0
 have hde:=hD _ _ he
 have hx:(List.flatMap (fun j=>lL (f j)) (List.range 1))=[.lst (.tok g) 1 l.length fun j=>eI (l.getD j default)]:=by simp [List.range_succ,hf];rfl
 refine qF trivial (fun j hj=>?_) ?_ hk
 ·have:j=0:=by omega
  rw [this,hf];exact nofun
 unfold pH
 simp only [k1,k2,hde.size,hde.bytes,hde.zero,Option.bind_some,aL6,cellsOf,if_true,hx,h1,h2,h3,h4]
 rw [if_pos ⟨Nat.one_pos,trivial,trivial,rfl,trivial⟩]
 simp only [hi]
 rw [if_pos ⟨trivial,trivial,by rw [uZ];omega,hl⟩,Nat.mul_one,List.take_of_length_le (by rw [uZ];exact Nat.le_refl _),aJo hg]
theorem aMs {P:Program} {D:DT} (hD:DOk P D) {t u e e':TypeId} {de:TD} {s1 s2 b1 b2:Nat} {z1 z2:List AV} {f:Nat→AV} {gs:List Nat} {out:List (List Int)} {i id n:Nat} {l:List Int} {hp:bH} {k:AV→bH→Prop}
  (ht:D t=some ⟨.slice e,s1,z1,b1⟩) (hu:D u=some ⟨.slice e',s2,z2,b2⟩) (he:D e=some de) (h0:de.size=1∧0<de.bytes∧de.bytes≤1048576∧de.zero.length=1)
  (hi:hp i=some (.cells (oC gs out))) (hn:out.length=n) (hl:n+1≤1048576) (hf:f 0=.lst .free 1 l.length fun j=>eI (l.getD j default))
  (hk:k (.so id 0 (n+1) 1) (upd (upd hp i none) id (some (.cells (oC gs out++[.lst .free 1 l.length fun j=>eI (l.getD j default)]))))):rG P t u (.so i 0 n 1) (.lst .cap 1 1 f) id hp k:=by
 subst hn
 have k1:=(hD _ _ ht).k
 have k2:=(hD _ _ hu).k
 simp only [xC] at k1 k2
 obtain ⟨h1,h2,h3,h4⟩:=h0
 have hde:=hD _ _ he
 have hx:(List.flatMap (fun j=>lL (f j)) (List.range 1))=[.lst .free 1 l.length fun j=>eI (l.getD j default)]:=by simp [List.range_succ,hf];rfl
 refine qF trivial (fun j hj=>?_) ?_ hk
 ·have:j=0:=by omega
  rw [this,hf];exact nofun
 unfold pH
 simp only [k1,k2,hde.size,hde.bytes,hde.zero,Option.bind_some,aL6,cellsOf,if_true,hx,h1,h2,h3,h4]
 rw [if_pos ⟨Nat.one_pos,trivial,trivial,rfl,trivial⟩]
 simp only [hi]
 rw [if_pos ⟨trivial,trivial,by rw [uZ];omega,hl⟩,Nat.mul_one,List.take_of_length_le (by rw [uZ];exact Nat.le_refl _)]
theorem mJ {L:Ren}:∀ {gs:List Nat} {out:List (List Int)},out.length≤gs.length→CkR L (oC gs out) (flE (ceE (eL 1 eI default)) out)
 | _,[],_=>cKn
 | g::gs,_::ls,h=>⟨WkR.wk aAQ (lsL fun _=>(lsI _ _)),mJ (gs:=gs) (out:=ls) (by simpa using h)⟩
 | [],_::_,h=>by simp at h
theorem aGA {L:Ren} {l:List Int}:∀ {gs:List Nat} {out:List (List Int)},out.length≤gs.length→CkR L (oC gs out++[.lst .free 1 l.length fun j=>eI (l.getD j default)]) (flE (ceE (eL 1 eI default)) (out++[l]))
 | [],[],_=>⟨wkr (lsL fun _=>(lsI _ _)),cKn⟩
 | _::_,[],_=>⟨wkr (lsL fun _=>(lsI _ _)),cKn⟩
 | g::gs,_::ls,h=>⟨WkR.wk aAQ (lsL fun _=>(lsI _ _)),aGA (gs:=gs) (out:=ls) (by simpa using h)⟩
 | [],_::_,h=>by simp at h
def iE (a2:List (List Int)) (s:Int×List (List Int)):Option (Ct (Int×List (List Int)) (List (List Int))):=
 cn (decide (s.1<(a2.length:Int))) (lt ([]:List Int) fun e=>ix a2 default s.1 fun l=>ap e l fun l'=>gd (s.2.length≤7) (some (.nx (wr (s.1+1),s.2++[l'])))) (some (.bk s))
def nY (g:Br 64→List Int→List (List Int)→Option (List (List Int))) (a0:Br 64) (a1:List Int) (s:Int×Option (List (List Int))) (next:List (List Int)):Option (Ct (Int×Option (List (List Int))) (List (List Int))):=
 slc a1 1 (a1.length:Int) fun l=>bd (g a0 l next) fun y=>gd (s.2≠some []) (onK s.2 (fun b=>cn (decide ((y.length:Int)<(b.length:Int))) (some (.nx (wr (s.1+1),some y))) (some (.nx (wr (s.1+1),some b)))) (some (.nx (wr (s.1+1),some y))))
def jZ (g:Br 64→List Int→List (List Int)→Option (List (List Int))) (a0:Br 64) (a1:List Int) (a2:List (List Int)) (s:Int×Option (List (List Int))):Option (Ct (Int×Option (List (List Int))) (List (List Int))):=
 cn (decide (s.1≤(a2.length:Int))) (bd (lp (iE a2) FU (0,[])) fun c=>smK c (fun s9=>gd (s9.2.length≤8) (jn (fun next=>nY g a0 a1 s next) fun kj=>
  cn (s.1==(a2.length:Int)) (gd (s9.2.length≤7) (ix a1 default 0 fun e=>lt [e] fun l=>kj (s9.2++[l])))
  (ix a2 default s.1 fun l=>ix a2 default s.1 fun l'=>ix l default (wr ((l'.length:Int)-1)) fun e=>ix a1 default 0 fun e1=>gd (0≤e∧e<(8:Int)) (gd (0≤e1∧e1<(8:Int)) (cn (!(a0.at2 8 e e1)) (some (.nx (wr (s.1+1),s.2)))
   (gd (0≤s.1∧s.1<(s9.2.length:Int)) (ix a1 default 0 fun e2=>lt [e2] fun l1=>ap (s9.2.getD s.1.toNat default) l1 fun l3=>kj (s9.2.set s.1.toNat l3))))))))
  (fun r=>some (.rt r))) (some (.bk s))
def pV (g:Br 64→List Int→List (List Int)→Option (List (List Int))) (a0:Br 64) (a1:List Int) (a2:List (List Int)):Option (List (List Int)):=
 cn ((a1.length:Int)==0) (some a2) (gd (a2.length≤7) (bd (lp (jZ g a0 a1 a2) FU (0,none)) fun c=>smK c (fun s=>some (s.2.getD [])) (fun r=>some r)))
def fG:Nat→Br 64→List Int→List (List Int)→Option (List (List Int))
 | 0=>fun _ _ _=>none
 | k+1=>pV (fG k)
abbrev eLL:List (List Int)→AV:=eL 1 (eL 1 eI default) default
def jB (k:Nat):List AV→AV→Prop:=fun args r=>∃ a0 a1 a2,args=[eBr a0,(eL 1 eI default) a1,eLL a2]∧W (fG k a0 a1 a2) fun y=>r=eLL y
theorem rJ {k0:Nat} {T:Tbl} (hT:T 75=aH (jB k0)) {args:List AV} {hp:bH} {id:Nat} {k:AV→Prop} {a0:Br 64} {a1:List Int} {a2:List (List Int)} {Φ:List (List Int)→Prop} (h:W (fG k0 a0 a1 a2) Φ) (hw:WkL args [eBr a0,(eL 1 eI default) a1,eLL a2]) (hk:∀ y,Φ y→k (eLL y)):cH T 75 args hp id k:=by
 obtain ⟨y,e,hy⟩:=dY h
 exact aV hT ⟨a0,a1,a2,rfl,lR e rfl⟩ (by exact (lsL fun _=>(lsL fun _=>(lsI _ _)))) hw (hk y hy)
theorem aCa (k:Nat) {T:Tbl} (hT:TOk Tryd.prog T) (hpf:cP T PF) (h75:T 75=aH (jB k)):FOk Tryd.prog 75 (aH (jB (k+1))):=by
 refine bM hT hpf Tryd.func75 rfl Tryd.ntmps75 Tryd.results75 (by decide) ?_
 rintro args r ⟨a0,a1,a2,rfl,h⟩
 refine ⟨nle rfl,?_,?_⟩
 ·exact (lsC (sK _) (lsC (lsL fun _=>(lsI _ _)) (lsC (lsL fun _=>(lsL fun _=>(lsI _ _))) lsN)))
 replace h:W (pV (fG k) a0 a1 a2) _:=h
 rw [pV.eq_1] at h
 refine aC dCo rfl fun K hK=>?_;conv=>whnf
 refine aL ?_;conv=>whnf
 refine hK _ _ _ ?_
 refine aF ?_
 refine aC dCo rfl fun K hK=>?_;conv=>whnf
 refine hK _ _ _ ?_
 refine aW fun K1 K2 hK1 hK2=>?_;conv=>whnf
 refine cLk h (fun _ h=>?_) (fun _ h=>?_)
 ·refine hK1 ?_
  refine aC dCo rfl fun K hK=>?_;conv=>whnf
  refine hK _ _ _ ?_
  refine aP ?_
  refine aQ ?_
  replace h:=aO h
  refine aK dCo fun K hK=>?_;conv=>whnf
  refine hK _ ?_
  cases h
  exact Wk.refl _
 refine hK2 ?_
 refine aG ?_
 refine tHn ?_
 obtain ⟨h7,h⟩:=vE h
 refine aC dCo rfl fun K hK=>?_;conv=>whnf
 refine hK _ _ _ ?_
 refine aF ?_
 refine aC dCo rfl fun K hK=>?_;conv=>whnf
 refine hK _ _ _ ?_
 refine aJ ?_
 replace h:=bL h
 refine cY (body:=jZ (fG k) _ _ _) rfl h [1,2,3] [] [3] [] (fun kl kh kr ids b s=>⟨ofL ([(8,eI s.1),(7,(eN 1 (eL 1 eI default) default s.2))]++kl),ofH (([]++kh)++([]++kr)),b+64⟩) ?_;(conv=>whnf);refine And.intro ?_ (fun s m h=>cR ?_)
 ·refine aR ?_;conv=>whnf
  exact And.intro rfl (And.intro (aLc wkI (aLc (wkr bC) (aLc (wkr (lsL fun _=>(lsI _ _))) (aLc (wkr (lsL fun _=>(lsL fun _=>(lsI _ _)))) (aLc (WkR.ptr (fun _=>rfl)) aLn))))) (aLc ⟨some _,rfl,aN rfl rfl⟩ aLn))
 replace h:=bL h
 replace h:=(jZ.eq_1 _ _ _ _ _) ▸ h
 obtain ⟨s1,best⟩:=s
 rcases best with _ | best
 ·refine aF ?_
  refine aC dCo rfl fun K hK=>?_;conv=>whnf
  refine hK _ _ _ ?_
  refine aW fun K1 K2 hK1 hK2=>?_;conv=>whnf
  refine cLk h (fun _ h=>?_) (fun _ h=>?_)
  ·refine hK1 ?_
   refine aG ?_
   refine tHn ?_
   refine aF ?_
   refine aJ ?_
   refine aC dCo rfl fun K hK=>?_;conv=>whnf
   refine hK _ _ _ ?_
   refine aF ?_
   refine aC dCo rfl fun K hK=>?_;conv=>whnf
   refine hK _ _ _ ?_
   refine aJ ?_
   replace h:=bL h
   refine cY (body:=iE _) rfl h [1,2,3,7,8] [] [3] [] (fun kl kh kr ids b s=>⟨ofL ([(10,eI s.1),(9,.so (b+512) 0 s.2.length 1)]++kl),ofH (([(b+0,.cells []),(b+64,.cells []),(b+128,.cells []),(b+192,.cells []),(b+256,.cells []),(b+320,.cells []),(b+384,.cells []),(b+448,.cells [])]++kh)++([(b+512,.cells (oC [b+0,b+64,b+128,b+192,b+256,b+320,b+384,b+448] s.2))]++kr)),b+576⟩) ?_;(conv=>whnf);refine And.intro ?_ (fun s2 m2 h=>cR ?_)
   ·refine dQ aSt ?_;conv=>whnf
    exact And.intro rfl (And.intro (aLc wkI (aLc (WkR.nilso (fun _=>rfl)) (aLc (wkr (lsL fun _=>(lsI _ _))) (aLc (wkr (lsL fun _=>(lsL fun _=>(lsI _ _)))) (aLc (WkR.ptr (fun _=>rfl)) (aLc (wkr bC) (aLc wkI aLn))))))) (aLc ⟨none,rfl,oH⟩ (aLc ⟨none,rfl,oH⟩ (aLc ⟨none,rfl,oH⟩ (aLc ⟨none,rfl,oH⟩ (aLc ⟨none,rfl,oH⟩ (aLc ⟨none,rfl,oH⟩ (aLc ⟨none,rfl,oH⟩ (aLc ⟨none,rfl,oH⟩ (aLc ⟨none,rfl,aKe⟩ (aLc ⟨some _,rfl,aN rfl rfl⟩ aLn)))))))))))
   replace h:=bL h
   replace h:=(iE.eq_1 _ _) ▸ h
   refine aF ?_
   refine aC dCo rfl fun K hK=>?_;conv=>whnf
   refine hK _ _ _ ?_
   refine aW fun K1 K2 hK1 hK2=>?_;conv=>whnf
   refine cLk h (fun _ h=>?_) (fun _ h=>?_)
   ·refine hK1 ?_
    refine aG ?_
    refine tHn ?_
    refine aF ?_
    refine aJ ?_
    refine bY dCo rfl fun K hK=>?_;conv=>whnf
    refine dL (enc:=eI) (d:=default) dCo h rfl rfl rfl ⟨nle rfl,nle rfl,rfl⟩ rfl trivial (fun h=>?_);conv=>whnf
    refine dD h fun _ h=>?_;conv=>whnf
    refine gKo rfl ?_;conv=>whnf
    refine aHK (enc:=eI) (d:=default) dCo h rfl rfl rfl ⟨rfl,nle rfl,nle rfl,nle rfl,rfl⟩ (fun _=>rfl) (fun h=>?_);conv=>whnf
    refine dL (enc:=fun (_:Unit)=>AV.lst (.tok _) 1 _ _) (d:=()) (l:=[()]) (f:=fun _=>some ()) (Φ:=fun _=>True) dCo (nN _) rfl rfl rfl ⟨nle rfl,nle rfl,rfl⟩ rfl ⟨⟨rfl,rfl,rfl⟩,trivial⟩ (fun _=>?_);conv=>whnf
    obtain ⟨h7,h⟩:=vE h
    generalize hkk:s2.2.length=kk at h h7 ⊢
    have hc:kk=0∨kk=1∨kk=2∨kk=3∨kk=4∨kk=5∨kk=6∨kk=7:=by omega
    rcases hc with rfl | rfl | rfl | rfl | rfl | rfl | rfl | rfl
    ·refine rQ dCo rfl rfl rfl ⟨rfl,nle rfl,nle rfl,rfl⟩ rfl hkk (nle rfl) (nle rfl) rfl ?_;conv=>whnf
     refine hK _ _ _ ?_
     refine iBn ?_
     refine tHn ?_
     refine bY dCo rfl fun K hK=>?_;conv=>whnf
     refine hK _ _ _ ?_
     refine tHn ?_
     replace h:=bK h
     refine ⟨_,h,?_⟩
     refine dQ (xB 10 0 0) ?_;conv=>whnf
     exact And.intro rfl (And.intro (aLc wkI (aLc (WkR.soN (fun _=>rfl) (by simp [hkk])) (aLc (wkr (lsL fun _=>(lsI _ _))) (aLc (wkr (lsL fun _=>(lsL fun _=>(lsI _ _)))) (aLc (WkR.ptr (fun _=>rfl)) (aLc (wkr bC) (aLc wkI aLn))))))) (aLc ⟨some _,rfl,bRc rfl cKn⟩ (aLc ⟨some _,rfl,bRc rfl cKn⟩ (aLc ⟨some _,rfl,bRc rfl cKn⟩ (aLc ⟨some _,rfl,bRc rfl cKn⟩ (aLc ⟨some _,rfl,bRc rfl cKn⟩ (aLc ⟨some _,rfl,bRc rfl cKn⟩ (aLc ⟨some _,rfl,bRc rfl cKn⟩ (aLc ⟨some _,rfl,bRc rfl cKn⟩ (aLc ⟨some _,rfl,iC rfl ⟨fun _=>rfl,fun _=>rfl,fun _=>rfl,fun _=>rfl,fun _=>rfl,fun _=>rfl,fun _=>rfl,fun _=>rfl,trivial⟩⟩ (aLc ⟨some _,rfl,aN rfl rfl⟩ aLn)))))))))))
    ·refine rQ dCo rfl rfl rfl ⟨rfl,nle rfl,nle rfl,rfl⟩ rfl hkk (nle rfl) (nle rfl) rfl ?_;conv=>whnf
     refine hK _ _ _ ?_
     refine iBn ?_
     refine tHn ?_
     refine bY dCo rfl fun K hK=>?_;conv=>whnf
     refine hK _ _ _ ?_
     refine tHn ?_
     replace h:=bK h
     refine ⟨_,h,?_⟩
     refine dQ (xB 10 0 1) ?_;conv=>whnf
     exact And.intro rfl (And.intro (aLc wkI (aLc (WkR.soN (fun _=>rfl) (by simp [hkk])) (aLc (wkr (lsL fun _=>(lsI _ _))) (aLc (wkr (lsL fun _=>(lsL fun _=>(lsI _ _)))) (aLc (WkR.ptr (fun _=>rfl)) (aLc (wkr bC) (aLc wkI aLn))))))) (aLc ⟨some _,rfl,bRc rfl cKn⟩ (aLc ⟨some _,rfl,bRc rfl cKn⟩ (aLc ⟨some _,rfl,bRc rfl cKn⟩ (aLc ⟨some _,rfl,bRc rfl cKn⟩ (aLc ⟨some _,rfl,bRc rfl cKn⟩ (aLc ⟨some _,rfl,bRc rfl cKn⟩ (aLc ⟨some _,rfl,bRc rfl cKn⟩ (aLc ⟨some _,rfl,bRc rfl cKn⟩ (aLc ⟨some _,rfl,iC rfl ⟨fun _=>rfl,fun _=>rfl,fun _=>rfl,fun _=>rfl,fun _=>rfl,fun _=>rfl,fun _=>rfl,fun _=>rfl,trivial⟩⟩ (aLc ⟨some _,rfl,aN rfl rfl⟩ aLn)))))))))))
    ·refine rQ dCo rfl rfl rfl ⟨rfl,nle rfl,nle rfl,rfl⟩ rfl hkk (nle rfl) (nle rfl) rfl ?_;conv=>whnf
     refine hK _ _ _ ?_
     refine iBn ?_
     refine tHn ?_
     refine bY dCo rfl fun K hK=>?_;conv=>whnf
     refine hK _ _ _ ?_
     refine tHn ?_
     replace h:=bK h
     refine ⟨_,h,?_⟩
     refine dQ (xB 10 0 2) ?_;conv=>whnf
     exact And.intro rfl (And.intro (aLc wkI (aLc (WkR.soN (fun _=>rfl) (by simp [hkk])) (aLc (wkr (lsL fun _=>(lsI _ _))) (aLc (wkr (lsL fun _=>(lsL fun _=>(lsI _ _)))) (aLc (WkR.ptr (fun _=>rfl)) (aLc (wkr bC) (aLc wkI aLn))))))) (aLc ⟨some _,rfl,bRc rfl cKn⟩ (aLc ⟨some _,rfl,bRc rfl cKn⟩ (aLc ⟨some _,rfl,bRc rfl cKn⟩ (aLc ⟨some _,rfl,bRc rfl cKn⟩ (aLc ⟨some _,rfl,bRc rfl cKn⟩ (aLc ⟨some _,rfl,bRc rfl cKn⟩ (aLc ⟨some _,rfl,bRc rfl cKn⟩ (aLc ⟨some _,rfl,bRc rfl cKn⟩ (aLc ⟨some _,rfl,iC rfl ⟨fun _=>rfl,fun _=>rfl,fun _=>rfl,fun _=>rfl,fun _=>rfl,fun _=>rfl,fun _=>rfl,fun _=>rfl,trivial⟩⟩ (aLc ⟨some _,rfl,aN rfl rfl⟩ aLn)))))))))))
    ·refine rQ dCo rfl rfl rfl ⟨rfl,nle rfl,nle rfl,rfl⟩ rfl hkk (nle rfl) (nle rfl) rfl ?_;conv=>whnf
     refine hK _ _ _ ?_
     refine iBn ?_
     refine tHn ?_
     refine bY dCo rfl fun K hK=>?_;conv=>whnf
     refine hK _ _ _ ?_
     refine tHn ?_
     replace h:=bK h
     refine ⟨_,h,?_⟩
     refine dQ (xB 10 0 3) ?_;conv=>whnf
     exact And.intro rfl (And.intro (aLc wkI (aLc (WkR.soN (fun _=>rfl) (by simp [hkk])) (aLc (wkr (lsL fun _=>(lsI _ _))) (aLc (wkr (lsL fun _=>(lsL fun _=>(lsI _ _)))) (aLc (WkR.ptr (fun _=>rfl)) (aLc (wkr bC) (aLc wkI aLn))))))) (aLc ⟨some _,rfl,bRc rfl cKn⟩ (aLc ⟨some _,rfl,bRc rfl cKn⟩ (aLc ⟨some _,rfl,bRc rfl cKn⟩ (aLc ⟨some _,rfl,bRc rfl cKn⟩ (aLc ⟨some _,rfl,bRc rfl cKn⟩ (aLc ⟨some _,rfl,bRc rfl cKn⟩ (aLc ⟨some _,rfl,bRc rfl cKn⟩ (aLc ⟨some _,rfl,bRc rfl cKn⟩ (aLc ⟨some _,rfl,iC rfl ⟨fun _=>rfl,fun _=>rfl,fun _=>rfl,fun _=>rfl,fun _=>rfl,fun _=>rfl,fun _=>rfl,fun _=>rfl,trivial⟩⟩ (aLc ⟨some _,rfl,aN rfl rfl⟩ aLn)))))))))))
    ·refine rQ dCo rfl rfl rfl ⟨rfl,nle rfl,nle rfl,rfl⟩ rfl hkk (nle rfl) (nle rfl) rfl ?_;conv=>whnf
     refine hK _ _ _ ?_
     refine iBn ?_
     refine tHn ?_
     refine bY dCo rfl fun K hK=>?_;conv=>whnf
     refine hK _ _ _ ?_
     refine tHn ?_
     replace h:=bK h
     refine ⟨_,h,?_⟩
     refine dQ (xB 10 0 4) ?_;conv=>whnf
     exact And.intro rfl (And.intro (aLc wkI (aLc (WkR.soN (fun _=>rfl) (by simp [hkk])) (aLc (wkr (lsL fun _=>(lsI _ _))) (aLc (wkr (lsL fun _=>(lsL fun _=>(lsI _ _)))) (aLc (WkR.ptr (fun _=>rfl)) (aLc (wkr bC) (aLc wkI aLn))))))) (aLc ⟨some _,rfl,bRc rfl cKn⟩ (aLc ⟨some _,rfl,bRc rfl cKn⟩ (aLc ⟨some _,rfl,bRc rfl cKn⟩ (aLc ⟨some _,rfl,bRc rfl cKn⟩ (aLc ⟨some _,rfl,bRc rfl cKn⟩ (aLc ⟨some _,rfl,bRc rfl cKn⟩ (aLc ⟨some _,rfl,bRc rfl cKn⟩ (aLc ⟨some _,rfl,bRc rfl cKn⟩ (aLc ⟨some _,rfl,iC rfl ⟨fun _=>rfl,fun _=>rfl,fun _=>rfl,fun _=>rfl,fun _=>rfl,fun _=>rfl,fun _=>rfl,fun _=>rfl,trivial⟩⟩ (aLc ⟨some _,rfl,aN rfl rfl⟩ aLn)))))))))))
    ·refine rQ dCo rfl rfl rfl ⟨rfl,nle rfl,nle rfl,rfl⟩ rfl hkk (nle rfl) (nle rfl) rfl ?_;conv=>whnf
     refine hK _ _ _ ?_
     refine iBn ?_
     refine tHn ?_
     refine bY dCo rfl fun K hK=>?_;conv=>whnf
     refine hK _ _ _ ?_
     refine tHn ?_
     replace h:=bK h
     refine ⟨_,h,?_⟩
     refine dQ (xB 10 0 5) ?_;conv=>whnf
     exact And.intro rfl (And.intro (aLc wkI (aLc (WkR.soN (fun _=>rfl) (by simp [hkk])) (aLc (wkr (lsL fun _=>(lsI _ _))) (aLc (wkr (lsL fun _=>(lsL fun _=>(lsI _ _)))) (aLc (WkR.ptr (fun _=>rfl)) (aLc (wkr bC) (aLc wkI aLn))))))) (aLc ⟨some _,rfl,bRc rfl cKn⟩ (aLc ⟨some _,rfl,bRc rfl cKn⟩ (aLc ⟨some _,rfl,bRc rfl cKn⟩ (aLc ⟨some _,rfl,bRc rfl cKn⟩ (aLc ⟨some _,rfl,bRc rfl cKn⟩ (aLc ⟨some _,rfl,bRc rfl cKn⟩ (aLc ⟨some _,rfl,bRc rfl cKn⟩ (aLc ⟨some _,rfl,bRc rfl cKn⟩ (aLc ⟨some _,rfl,iC rfl ⟨fun _=>rfl,fun _=>rfl,fun _=>rfl,fun _=>rfl,fun _=>rfl,fun _=>rfl,fun _=>rfl,fun _=>rfl,trivial⟩⟩ (aLc ⟨some _,rfl,aN rfl rfl⟩ aLn)))))))))))
    ·refine rQ dCo rfl rfl rfl ⟨rfl,nle rfl,nle rfl,rfl⟩ rfl hkk (nle rfl) (nle rfl) rfl ?_;conv=>whnf
     refine hK _ _ _ ?_
     refine iBn ?_
     refine tHn ?_
     refine bY dCo rfl fun K hK=>?_;conv=>whnf
     refine hK _ _ _ ?_
     refine tHn ?_
     replace h:=bK h
     refine ⟨_,h,?_⟩
     refine dQ (xB 10 0 6) ?_;conv=>whnf
     exact And.intro rfl (And.intro (aLc wkI (aLc (WkR.soN (fun _=>rfl) (by simp [hkk])) (aLc (wkr (lsL fun _=>(lsI _ _))) (aLc (wkr (lsL fun _=>(lsL fun _=>(lsI _ _)))) (aLc (WkR.ptr (fun _=>rfl)) (aLc (wkr bC) (aLc wkI aLn))))))) (aLc ⟨some _,rfl,bRc rfl cKn⟩ (aLc ⟨some _,rfl,bRc rfl cKn⟩ (aLc ⟨some _,rfl,bRc rfl cKn⟩ (aLc ⟨some _,rfl,bRc rfl cKn⟩ (aLc ⟨some _,rfl,bRc rfl cKn⟩ (aLc ⟨some _,rfl,bRc rfl cKn⟩ (aLc ⟨some _,rfl,bRc rfl cKn⟩ (aLc ⟨some _,rfl,bRc rfl cKn⟩ (aLc ⟨some _,rfl,iC rfl ⟨fun _=>rfl,fun _=>rfl,fun _=>rfl,fun _=>rfl,fun _=>rfl,fun _=>rfl,fun _=>rfl,fun _=>rfl,trivial⟩⟩ (aLc ⟨some _,rfl,aN rfl rfl⟩ aLn)))))))))))
    ·refine rQ dCo rfl rfl rfl ⟨rfl,nle rfl,nle rfl,rfl⟩ rfl hkk (nle rfl) (nle rfl) rfl ?_;conv=>whnf
     refine hK _ _ _ ?_
     refine iBn ?_
     refine tHn ?_
     refine bY dCo rfl fun K hK=>?_;conv=>whnf
     refine hK _ _ _ ?_
     refine tHn ?_
     replace h:=bK h
     refine ⟨_,h,?_⟩
     refine dQ (xB 10 0 7) ?_;conv=>whnf
     exact And.intro rfl (And.intro (aLc wkI (aLc (WkR.soN (fun _=>rfl) (by simp [hkk])) (aLc (wkr (lsL fun _=>(lsI _ _))) (aLc (wkr (lsL fun _=>(lsL fun _=>(lsI _ _)))) (aLc (WkR.ptr (fun _=>rfl)) (aLc (wkr bC) (aLc wkI aLn))))))) (aLc ⟨some _,rfl,bRc rfl cKn⟩ (aLc ⟨some _,rfl,bRc rfl cKn⟩ (aLc ⟨some _,rfl,bRc rfl cKn⟩ (aLc ⟨some _,rfl,bRc rfl cKn⟩ (aLc ⟨some _,rfl,bRc rfl cKn⟩ (aLc ⟨some _,rfl,bRc rfl cKn⟩ (aLc ⟨some _,rfl,bRc rfl cKn⟩ (aLc ⟨some _,rfl,bRc rfl cKn⟩ (aLc ⟨some _,rfl,iC rfl ⟨fun _=>rfl,fun _=>rfl,fun _=>rfl,fun _=>rfl,fun _=>rfl,fun _=>rfl,fun _=>rfl,fun _=>rfl,trivial⟩⟩ (aLc ⟨some _,rfl,aN rfl rfl⟩ aLn)))))))))))
   refine hK2 ?_
   refine bI ?_
   refine aT ?_
   refine aT ?_
   refine aS ?_
   replace h:=cV h
   replace h:=cU h
   obtain ⟨h8,h⟩:=vE h
   refine tHn ?_
   refine aMH rfl h [1,2,3,7,8] [] [3] [] (fun kl kh kr ids b s=>⟨ofL ([(9,.so b 0 s.length 1)]++kl),ofH (([]++kh)++([(b,.cells (flE (ceE (eL 1 eI default)) s))]++kr)),b+64⟩) ?_;(conv=>whnf);refine And.intro (fun next h=>cR ?_) (fun kj h=>?_)
   ·replace h:=nY.eq_1 _ _ _ _ _ ▸ h
    refine qM 9 (enc:=eL 1 eI default) (e:=26) default (pS dCo rfl rfl rfl (fun _=>⟨rfl,rfl⟩)) ?_;(conv=>whnf);refine ⟨_,_,rfl,rfl,rfl,?_⟩
    refine qA dCo cG rfl (by kernel_rfl) fun K hK=>?_;conv=>whnf
    refine nlA rfl ?_;conv=>whnf
    refine bKo rfl ?_;conv=>whnf
    refine wP rfl ?_;conv=>whnf
    refine aMS h (.inr ⟨_,rfl⟩) (fun h=>?_);conv=>whnf
    refine aL ?_;conv=>whnf
    replace h:=bL h
    refine rJ h75 h (WkL.refl _) (fun y h=>?_);conv=>whnf
    refine hK _ _ _ ?_
    obtain ⟨hn,h⟩:=vE h
    replace h:=aIz h
    refine aIW (isn:=true) (t0:=7) dCo rfl rfl rfl rfl rfl rfl rfl Tryd.underlying50 (fun β v hv=>aCu rfl hv) rfl fun K hK=>?_;conv=>whnf
    refine hK _ _ _ ?_
    refine aW fun K1 K2 hK1 hK2=>?_;conv=>whnf
    refine hK1 ?_
    refine bY dCo rfl fun K hK=>?_;conv=>whnf
    refine hK _ _ _ ?_
    refine iBn ?_
    refine tHn ?_
    refine bY dCo rfl fun K hK=>?_;conv=>whnf
    refine hK _ _ _ ?_
    refine tHn ?_
    replace h:=bK h
    refine ⟨_,h,?_⟩
    refine aR ?_;conv=>whnf
    exact And.intro rfl (And.intro (aLc wkI (aLc (wkr (lsL fun _=>(lsL fun _=>(lsI _ _)))) (aLc (wkr (lsL fun _=>(lsI _ _))) (aLc (wkr (lsL fun _=>(lsL fun _=>(lsI _ _)))) (aLc (WkR.ptr (fun _=>rfl)) aLn))))) (aLc ⟨some _,rfl,aN rfl rfl⟩ aLn))
   refine aC dCo rfl fun K hK=>?_;conv=>whnf
   refine hK _ _ _ ?_
   refine aW fun K1 K2 hK1 hK2=>?_;conv=>whnf
   refine cLk h (fun _ h=>?_) (fun _ h=>?_)
   ·refine hK1 ?_
    obtain ⟨h7,h⟩:=vE h
    refine bY dCo rfl fun K hK=>?_;conv=>whnf
    refine dD h fun _ h=>?_;conv=>whnf
    refine gKo rfl ?_;conv=>whnf
    refine dL (enc:=eI) (d:=default) dCo h rfl rfl rfl ⟨nle rfl,nle rfl,rfl⟩ rfl ⟨⟨rfl,rfl,rfl⟩,trivial⟩ (fun h=>?_);conv=>whnf
    refine aII (enc:=fun (_:Unit)=>AV.lst .free 1 1 fun j=>eI ([a1.getD (0:Int).toNat default].getD j default)) (d:=()) (l:=[()]) (f:=fun _=>some ()) (Φ:=fun _=>True) dCo (nN _) rfl rfl rfl ⟨nle rfl,nle rfl,rfl⟩ rfl ⟨⟨_,⟨rfl,rfl,rfl⟩,cD⟩,trivial⟩ (fun _=>?_);conv=>whnf
    refine aMs (l:=[a1.getD (0:Int).toNat default]) dCo rfl rfl rfl ⟨rfl,nle rfl,nle rfl,rfl⟩ rfl rfl (by omega) rfl ?_;conv=>whnf
    refine hK _ _ _ ?_
    refine tHn ?_
    refine ⟨_,h,?_⟩
    refine aR ?_;conv=>whnf
    exact And.intro rfl (And.intro (aLc (WkR.soN (fun _=>rfl) (by simp)) (aLc (wkr (lsL fun _=>(lsI _ _))) (aLc (wkr (lsL fun _=>(lsL fun _=>(lsI _ _)))) (aLc (WkR.ptr (fun _=>rfl)) (aLc (wkr bC) (aLc wkI aLn)))))) (aLc ⟨some _,rfl,bRc rfl (aGA (by exact h8))⟩ (aLc ⟨some _,rfl,aN rfl rfl⟩ aLn)))
   refine hK2 ?_
   refine aF ?_
   refine qA dCo cG rfl (by kernel_rfl) fun K hK=>?_;conv=>whnf
   refine dD h fun _ h=>?_;conv=>whnf
   refine gKo rfl ?_;conv=>whnf
   refine dD h fun _ h=>?_;conv=>whnf
   refine gKo rfl ?_;conv=>whnf
   refine dD h fun _ h=>?_;conv=>whnf
   refine gKo rfl ?_;conv=>whnf
   refine dD h fun _ h=>?_;conv=>whnf
   refine gKo rfl ?_;conv=>whnf
   refine bW h fun hx1 h=>?_;conv=>whnf
   refine bW h fun hx2 h=>?_;conv=>whnf
   refine nlA rfl ?_;conv=>whnf
   refine bKo rfl ?_;conv=>whnf
   refine lF (m:=8) rfl rfl hx1 hx2 ?_;conv=>whnf
   refine hK _ _ _ ?_
   refine aW fun K1 K2 hK1 hK2=>?_;conv=>whnf
   refine cLk h (fun _ h=>?_) (fun _ h=>?_)
   ·refine hK1 ?_
    refine bI ?_
    refine aT ?_
    refine aT ?_
    refine aS ?_
    refine tHn ?_
    refine bY dCo rfl fun K hK=>?_;conv=>whnf
    refine hK _ _ _ ?_
    refine tHn ?_
    replace h:=bK h
    refine ⟨_,h,?_⟩
    refine aR ?_;conv=>whnf
    exact And.intro rfl (And.intro (aLc wkI (aLc (wkr bC) (aLc (wkr (lsL fun _=>(lsI _ _))) (aLc (wkr (lsL fun _=>(lsL fun _=>(lsI _ _)))) (aLc (WkR.ptr (fun _=>rfl)) aLn))))) (aLc ⟨some _,rfl,aN rfl rfl⟩ aLn))
   refine hK2 ?_
   refine aG ?_
   refine tHn ?_
   obtain ⟨hg,h⟩:=vE h
   have hc:s1=0∨s1=1∨s1=2∨s1=3∨s1=4∨s1=5∨s1=6∨s1=7:=by omega
   have hj:s1.toNat<s2.2.length:=(Int.toNat_lt hg.1).2 hg.2
   rcases hc with rfl | rfl | rfl | rfl | rfl | rfl | rfl | rfl
   ·refine nQ dCo cG rfl (by kernel_rfl) fun K hK=>?_;conv=>whnf
    refine And.intro ⟨by omega,by omega⟩ ?_;conv=>whnf
    refine nlA rfl ?_;conv=>whnf
    refine bKo rfl ?_;conv=>whnf
    refine gKo (gL (j:=0) rfl hj) ?_;conv=>whnf
    refine dD h fun _ h=>?_;conv=>whnf
    refine gKo rfl ?_;conv=>whnf
    refine dL (enc:=eI) (d:=default) dCo h rfl rfl rfl ⟨nle rfl,nle rfl,rfl⟩ rfl ⟨⟨rfl,rfl,rfl⟩,trivial⟩ (fun h=>?_);conv=>whnf
    refine gX (enc:=eI) (d:=default) dCo h (.inl rfl) rfl rfl rfl ⟨rfl,nle rfl,nle rfl,nle rfl,rfl⟩ (fun _=>rfl) (.inr (.inr ⟨_,_,rfl,rfl,rfl⟩)) (fun h=>?_);conv=>whnf
    refine And.intro ⟨by omega,by omega⟩ ?_;conv=>whnf
    refine bKo rfl ?_;conv=>whnf
    refine nV (j:=0) (nle rfl) hj rfl rfl rfl rfl ?_;conv=>whnf
    refine hK _ _ _ ?_
    refine tHn ?_
    refine ⟨_,h,?_⟩
    refine aR ?_;conv=>whnf
    exact And.intro rfl (And.intro (aLc (WkR.soN (fun _=>rfl) (by simp)) (aLc (wkr (lsL fun _=>(lsI _ _))) (aLc (wkr (lsL fun _=>(lsL fun _=>(lsI _ _)))) (aLc (WkR.ptr (fun _=>rfl)) (aLc (wkr bC) (aLc wkI aLn)))))) (aLc ⟨some _,rfl,bRc rfl (mJ (by simp;omega))⟩ (aLc ⟨some _,rfl,aN rfl rfl⟩ aLn)))
   ·refine nQ dCo cG rfl (by kernel_rfl) fun K hK=>?_;conv=>whnf
    refine And.intro ⟨by omega,by omega⟩ ?_;conv=>whnf
    refine nlA rfl ?_;conv=>whnf
    refine bKo rfl ?_;conv=>whnf
    refine gKo (gL (j:=1) rfl hj) ?_;conv=>whnf
    refine dD h fun _ h=>?_;conv=>whnf
    refine gKo rfl ?_;conv=>whnf
    refine dL (enc:=eI) (d:=default) dCo h rfl rfl rfl ⟨nle rfl,nle rfl,rfl⟩ rfl ⟨⟨rfl,rfl,rfl⟩,trivial⟩ (fun h=>?_);conv=>whnf
    refine gX (enc:=eI) (d:=default) dCo h (.inl rfl) rfl rfl rfl ⟨rfl,nle rfl,nle rfl,nle rfl,rfl⟩ (fun _=>rfl) (.inr (.inr ⟨_,_,rfl,rfl,rfl⟩)) (fun h=>?_);conv=>whnf
    refine And.intro ⟨by omega,by omega⟩ ?_;conv=>whnf
    refine bKo rfl ?_;conv=>whnf
    refine nV (j:=1) (nle rfl) hj rfl rfl rfl rfl ?_;conv=>whnf
    refine hK _ _ _ ?_
    refine tHn ?_
    refine ⟨_,h,?_⟩
    refine aR ?_;conv=>whnf
    exact And.intro rfl (And.intro (aLc (WkR.soN (fun _=>rfl) (by simp)) (aLc (wkr (lsL fun _=>(lsI _ _))) (aLc (wkr (lsL fun _=>(lsL fun _=>(lsI _ _)))) (aLc (WkR.ptr (fun _=>rfl)) (aLc (wkr bC) (aLc wkI aLn)))))) (aLc ⟨some _,rfl,bRc rfl (mJ (by simp;omega))⟩ (aLc ⟨some _,rfl,aN rfl rfl⟩ aLn)))
   ·refine nQ dCo cG rfl (by kernel_rfl) fun K hK=>?_;conv=>whnf
    refine And.intro ⟨by omega,by omega⟩ ?_;conv=>whnf
    refine nlA rfl ?_;conv=>whnf
    refine bKo rfl ?_;conv=>whnf
    refine gKo (gL (j:=2) rfl hj) ?_;conv=>whnf
    refine dD h fun _ h=>?_;conv=>whnf
    refine gKo rfl ?_;conv=>whnf
    refine dL (enc:=eI) (d:=default) dCo h rfl rfl rfl ⟨nle rfl,nle rfl,rfl⟩ rfl ⟨⟨rfl,rfl,rfl⟩,trivial⟩ (fun h=>?_);conv=>whnf
    refine gX (enc:=eI) (d:=default) dCo h (.inl rfl) rfl rfl rfl ⟨rfl,nle rfl,nle rfl,nle rfl,rfl⟩ (fun _=>rfl) (.inr (.inr ⟨_,_,rfl,rfl,rfl⟩)) (fun h=>?_);conv=>whnf
    refine And.intro ⟨by omega,by omega⟩ ?_;conv=>whnf
    refine bKo rfl ?_;conv=>whnf
    refine nV (j:=2) (nle rfl) hj rfl rfl rfl rfl ?_;conv=>whnf
    refine hK _ _ _ ?_
    refine tHn ?_
    refine ⟨_,h,?_⟩
    refine aR ?_;conv=>whnf
    exact And.intro rfl (And.intro (aLc (WkR.soN (fun _=>rfl) (by simp)) (aLc (wkr (lsL fun _=>(lsI _ _))) (aLc (wkr (lsL fun _=>(lsL fun _=>(lsI _ _)))) (aLc (WkR.ptr (fun _=>rfl)) (aLc (wkr bC) (aLc wkI aLn)))))) (aLc ⟨some _,rfl,bRc rfl (mJ (by simp;omega))⟩ (aLc ⟨some _,rfl,aN rfl rfl⟩ aLn)))
   ·refine nQ dCo cG rfl (by kernel_rfl) fun K hK=>?_;conv=>whnf
    refine And.intro ⟨by omega,by omega⟩ ?_;conv=>whnf
    refine nlA rfl ?_;conv=>whnf
    refine bKo rfl ?_;conv=>whnf
    refine gKo (gL (j:=3) rfl hj) ?_;conv=>whnf
    refine dD h fun _ h=>?_;conv=>whnf
    refine gKo rfl ?_;conv=>whnf
    refine dL (enc:=eI) (d:=default) dCo h rfl rfl rfl ⟨nle rfl,nle rfl,rfl⟩ rfl ⟨⟨rfl,rfl,rfl⟩,trivial⟩ (fun h=>?_);conv=>whnf
    refine gX (enc:=eI) (d:=default) dCo h (.inl rfl) rfl rfl rfl ⟨rfl,nle rfl,nle rfl,nle rfl,rfl⟩ (fun _=>rfl) (.inr (.inr ⟨_,_,rfl,rfl,rfl⟩)) (fun h=>?_);conv=>whnf
    refine And.intro ⟨by omega,by omega⟩ ?_;conv=>whnf
    refine bKo rfl ?_;conv=>whnf
    refine nV (j:=3) (nle rfl) hj rfl rfl rfl rfl ?_;conv=>whnf
    refine hK _ _ _ ?_
    refine tHn ?_
    refine ⟨_,h,?_⟩
    refine aR ?_;conv=>whnf
    exact And.intro rfl (And.intro (aLc (WkR.soN (fun _=>rfl) (by simp)) (aLc (wkr (lsL fun _=>(lsI _ _))) (aLc (wkr (lsL fun _=>(lsL fun _=>(lsI _ _)))) (aLc (WkR.ptr (fun _=>rfl)) (aLc (wkr bC) (aLc wkI aLn)))))) (aLc ⟨some _,rfl,bRc rfl (mJ (by simp;omega))⟩ (aLc ⟨some _,rfl,aN rfl rfl⟩ aLn)))
   ·refine nQ dCo cG rfl (by kernel_rfl) fun K hK=>?_;conv=>whnf
    refine And.intro ⟨by omega,by omega⟩ ?_;conv=>whnf
    refine nlA rfl ?_;conv=>whnf
    refine bKo rfl ?_;conv=>whnf
    refine gKo (gL (j:=4) rfl hj) ?_;conv=>whnf
    refine dD h fun _ h=>?_;conv=>whnf
    refine gKo rfl ?_;conv=>whnf
    refine dL (enc:=eI) (d:=default) dCo h rfl rfl rfl ⟨nle rfl,nle rfl,rfl⟩ rfl ⟨⟨rfl,rfl,rfl⟩,trivial⟩ (fun h=>?_);conv=>whnf
    refine gX (enc:=eI) (d:=default) dCo h (.inl rfl) rfl rfl rfl ⟨rfl,nle rfl,nle rfl,nle rfl,rfl⟩ (fun _=>rfl) (.inr (.inr ⟨_,_,rfl,rfl,rfl⟩)) (fun h=>?_);conv=>whnf
    refine And.intro ⟨by omega,by omega⟩ ?_;conv=>whnf
    refine bKo rfl ?_;conv=>whnf
    refine nV (j:=4) (nle rfl) hj rfl rfl rfl rfl ?_;conv=>whnf
    refine hK _ _ _ ?_
    refine tHn ?_
    refine ⟨_,h,?_⟩
    refine aR ?_;conv=>whnf
    exact And.intro rfl (And.intro (aLc (WkR.soN (fun _=>rfl) (by simp)) (aLc (wkr (lsL fun _=>(lsI _ _))) (aLc (wkr (lsL fun _=>(lsL fun _=>(lsI _ _)))) (aLc (WkR.ptr (fun _=>rfl)) (aLc (wkr bC) (aLc wkI aLn)))))) (aLc ⟨some _,rfl,bRc rfl (mJ (by simp;omega))⟩ (aLc ⟨some _,rfl,aN rfl rfl⟩ aLn)))
   ·refine nQ dCo cG rfl (by kernel_rfl) fun K hK=>?_;conv=>whnf
    refine And.intro ⟨by omega,by omega⟩ ?_;conv=>whnf
    refine nlA rfl ?_;conv=>whnf
    refine bKo rfl ?_;conv=>whnf
    refine gKo (gL (j:=5) rfl hj) ?_;conv=>whnf
    refine dD h fun _ h=>?_;conv=>whnf
    refine gKo rfl ?_;conv=>whnf
    refine dL (enc:=eI) (d:=default) dCo h rfl rfl rfl ⟨nle rfl,nle rfl,rfl⟩ rfl ⟨⟨rfl,rfl,rfl⟩,trivial⟩ (fun h=>?_);conv=>whnf
    refine gX (enc:=eI) (d:=default) dCo h (.inl rfl) rfl rfl rfl ⟨rfl,nle rfl,nle rfl,nle rfl,rfl⟩ (fun _=>rfl) (.inr (.inr ⟨_,_,rfl,rfl,rfl⟩)) (fun h=>?_);conv=>whnf
    refine And.intro ⟨by omega,by omega⟩ ?_;conv=>whnf
    refine bKo rfl ?_;conv=>whnf
    refine nV (j:=5) (nle rfl) hj rfl rfl rfl rfl ?_;conv=>whnf
    refine hK _ _ _ ?_
    refine tHn ?_
    refine ⟨_,h,?_⟩
    refine aR ?_;conv=>whnf
    exact And.intro rfl (And.intro (aLc (WkR.soN (fun _=>rfl) (by simp)) (aLc (wkr (lsL fun _=>(lsI _ _))) (aLc (wkr (lsL fun _=>(lsL fun _=>(lsI _ _)))) (aLc (WkR.ptr (fun _=>rfl)) (aLc (wkr bC) (aLc wkI aLn)))))) (aLc ⟨some _,rfl,bRc rfl (mJ (by simp;omega))⟩ (aLc ⟨some _,rfl,aN rfl rfl⟩ aLn)))
   ·refine nQ dCo cG rfl (by kernel_rfl) fun K hK=>?_;conv=>whnf
    refine And.intro ⟨by omega,by omega⟩ ?_;conv=>whnf
    refine nlA rfl ?_;conv=>whnf
    refine bKo rfl ?_;conv=>whnf
    refine gKo (gL (j:=6) rfl hj) ?_;conv=>whnf
    refine dD h fun _ h=>?_;conv=>whnf
    refine gKo rfl ?_;conv=>whnf
    refine dL (enc:=eI) (d:=default) dCo h rfl rfl rfl ⟨nle rfl,nle rfl,rfl⟩ rfl ⟨⟨rfl,rfl,rfl⟩,trivial⟩ (fun h=>?_);conv=>whnf
    refine gX (enc:=eI) (d:=default) dCo h (.inl rfl) rfl rfl rfl ⟨rfl,nle rfl,nle rfl,nle rfl,rfl⟩ (fun _=>rfl) (.inr (.inr ⟨_,_,rfl,rfl,rfl⟩)) (fun h=>?_);conv=>whnf
    refine And.intro ⟨by omega,by omega⟩ ?_;conv=>whnf
    refine bKo rfl ?_;conv=>whnf
    refine nV (j:=6) (nle rfl) hj rfl rfl rfl rfl ?_;conv=>whnf
    refine hK _ _ _ ?_
    refine tHn ?_
    refine ⟨_,h,?_⟩
    refine aR ?_;conv=>whnf
    exact And.intro rfl (And.intro (aLc (WkR.soN (fun _=>rfl) (by simp)) (aLc (wkr (lsL fun _=>(lsI _ _))) (aLc (wkr (lsL fun _=>(lsL fun _=>(lsI _ _)))) (aLc (WkR.ptr (fun _=>rfl)) (aLc (wkr bC) (aLc wkI aLn)))))) (aLc ⟨some _,rfl,bRc rfl (mJ (by simp;omega))⟩ (aLc ⟨some _,rfl,aN rfl rfl⟩ aLn)))
   ·refine nQ dCo cG rfl (by kernel_rfl) fun K hK=>?_;conv=>whnf
    refine And.intro ⟨by omega,by omega⟩ ?_;conv=>whnf
    refine nlA rfl ?_;conv=>whnf
    refine bKo rfl ?_;conv=>whnf
    refine gKo (gL (j:=7) rfl hj) ?_;conv=>whnf
    refine dD h fun _ h=>?_;conv=>whnf
    refine gKo rfl ?_;conv=>whnf
    refine dL (enc:=eI) (d:=default) dCo h rfl rfl rfl ⟨nle rfl,nle rfl,rfl⟩ rfl ⟨⟨rfl,rfl,rfl⟩,trivial⟩ (fun h=>?_);conv=>whnf
    refine gX (enc:=eI) (d:=default) dCo h (.inl rfl) rfl rfl rfl ⟨rfl,nle rfl,nle rfl,nle rfl,rfl⟩ (fun _=>rfl) (.inr (.inr ⟨_,_,rfl,rfl,rfl⟩)) (fun h=>?_);conv=>whnf
    refine And.intro ⟨by omega,by omega⟩ ?_;conv=>whnf
    refine bKo rfl ?_;conv=>whnf
    refine nV (j:=7) (nle rfl) hj rfl rfl rfl rfl ?_;conv=>whnf
    refine hK _ _ _ ?_
    refine tHn ?_
    refine ⟨_,h,?_⟩
    refine aR ?_;conv=>whnf
    exact And.intro rfl (And.intro (aLc (WkR.soN (fun _=>rfl) (by simp)) (aLc (wkr (lsL fun _=>(lsI _ _))) (aLc (wkr (lsL fun _=>(lsL fun _=>(lsI _ _)))) (aLc (WkR.ptr (fun _=>rfl)) (aLc (wkr bC) (aLc wkI aLn)))))) (aLc ⟨some _,rfl,bRc rfl (mJ (by simp;omega))⟩ (aLc ⟨some _,rfl,aN rfl rfl⟩ aLn)))
  refine hK2 ?_
  refine bI ?_
  refine aT ?_
  refine aT ?_
  refine aS ?_
  replace h:=cV h
  replace h:=cU h
  refine tHn ?_
  refine aC dCo rfl fun K hK=>?_;conv=>whnf
  refine hK _ _ _ ?_
  refine aP ?_
  replace h:=aO h
  refine aK dCo fun K hK=>?_;conv=>whnf
  refine hK _ ?_
  cases h
  exact iO
 ·refine aF ?_
  refine aC dCo rfl fun K hK=>?_;conv=>whnf
  refine hK _ _ _ ?_
  refine aW fun K1 K2 hK1 hK2=>?_;conv=>whnf
  refine cLk h (fun _ h=>?_) (fun _ h=>?_)
  ·refine hK1 ?_
   refine aG ?_
   refine tHn ?_
   refine aF ?_
   refine aJ ?_
   refine aC dCo rfl fun K hK=>?_;conv=>whnf
   refine hK _ _ _ ?_
   refine aF ?_
   refine aC dCo rfl fun K hK=>?_;conv=>whnf
   refine hK _ _ _ ?_
   refine aJ ?_
   replace h:=bL h
   refine cY (body:=iE _) rfl h [1,2,3,7,8] [] [3] [] (fun kl kh kr ids b s=>⟨ofL ([(10,eI s.1),(9,.so (b+512) 0 s.2.length 1)]++kl),ofH (([(b+0,.cells []),(b+64,.cells []),(b+128,.cells []),(b+192,.cells []),(b+256,.cells []),(b+320,.cells []),(b+384,.cells []),(b+448,.cells [])]++kh)++([(b+512,.cells (oC [b+0,b+64,b+128,b+192,b+256,b+320,b+384,b+448] s.2))]++kr)),b+576⟩) ?_;(conv=>whnf);refine And.intro ?_ (fun s2 m2 h=>cR ?_)
   ·refine dQ aSt ?_;conv=>whnf
    exact And.intro rfl (And.intro (aLc wkI (aLc (WkR.nilso (fun _=>rfl)) (aLc (wkr (lsL fun _=>(lsI _ _))) (aLc (wkr (lsL fun _=>(lsL fun _=>(lsI _ _)))) (aLc (WkR.ptr (fun _=>rfl)) (aLc (wkr (lsL fun _=>(lsL fun _=>(lsI _ _)))) (aLc wkI aLn))))))) (aLc ⟨none,rfl,oH⟩ (aLc ⟨none,rfl,oH⟩ (aLc ⟨none,rfl,oH⟩ (aLc ⟨none,rfl,oH⟩ (aLc ⟨none,rfl,oH⟩ (aLc ⟨none,rfl,oH⟩ (aLc ⟨none,rfl,oH⟩ (aLc ⟨none,rfl,oH⟩ (aLc ⟨none,rfl,aKe⟩ (aLc ⟨some _,rfl,aN rfl rfl⟩ aLn)))))))))))
   replace h:=bL h
   replace h:=(iE.eq_1 _ _) ▸ h
   refine aF ?_
   refine aC dCo rfl fun K hK=>?_;conv=>whnf
   refine hK _ _ _ ?_
   refine aW fun K1 K2 hK1 hK2=>?_;conv=>whnf
   refine cLk h (fun _ h=>?_) (fun _ h=>?_)
   ·refine hK1 ?_
    refine aG ?_
    refine tHn ?_
    refine aF ?_
    refine aJ ?_
    refine bY dCo rfl fun K hK=>?_;conv=>whnf
    refine dL (enc:=eI) (d:=default) dCo h rfl rfl rfl ⟨nle rfl,nle rfl,rfl⟩ rfl trivial (fun h=>?_);conv=>whnf
    refine dD h fun _ h=>?_;conv=>whnf
    refine gKo rfl ?_;conv=>whnf
    refine aHK (enc:=eI) (d:=default) dCo h rfl rfl rfl ⟨rfl,nle rfl,nle rfl,nle rfl,rfl⟩ (fun _=>rfl) (fun h=>?_);conv=>whnf
    refine dL (enc:=fun (_:Unit)=>AV.lst (.tok _) 1 _ _) (d:=()) (l:=[()]) (f:=fun _=>some ()) (Φ:=fun _=>True) dCo (nN _) rfl rfl rfl ⟨nle rfl,nle rfl,rfl⟩ rfl ⟨⟨rfl,rfl,rfl⟩,trivial⟩ (fun _=>?_);conv=>whnf
    obtain ⟨h7,h⟩:=vE h
    generalize hkk:s2.2.length=kk at h h7 ⊢
    have hc:kk=0∨kk=1∨kk=2∨kk=3∨kk=4∨kk=5∨kk=6∨kk=7:=by omega
    rcases hc with rfl | rfl | rfl | rfl | rfl | rfl | rfl | rfl
    ·refine rQ dCo rfl rfl rfl ⟨rfl,nle rfl,nle rfl,rfl⟩ rfl hkk (nle rfl) (nle rfl) rfl ?_;conv=>whnf
     refine hK _ _ _ ?_
     refine iBn ?_
     refine tHn ?_
     refine bY dCo rfl fun K hK=>?_;conv=>whnf
     refine hK _ _ _ ?_
     refine tHn ?_
     replace h:=bK h
     refine ⟨_,h,?_⟩
     refine dQ (xB 10 0 0) ?_;conv=>whnf
     exact And.intro rfl (And.intro (aLc wkI (aLc (WkR.soN (fun _=>rfl) (by simp [hkk])) (aLc (wkr (lsL fun _=>(lsI _ _))) (aLc (wkr (lsL fun _=>(lsL fun _=>(lsI _ _)))) (aLc (WkR.ptr (fun _=>rfl)) (aLc (wkr (lsL fun _=>(lsL fun _=>(lsI _ _)))) (aLc wkI aLn))))))) (aLc ⟨some _,rfl,bRc rfl cKn⟩ (aLc ⟨some _,rfl,bRc rfl cKn⟩ (aLc ⟨some _,rfl,bRc rfl cKn⟩ (aLc ⟨some _,rfl,bRc rfl cKn⟩ (aLc ⟨some _,rfl,bRc rfl cKn⟩ (aLc ⟨some _,rfl,bRc rfl cKn⟩ (aLc ⟨some _,rfl,bRc rfl cKn⟩ (aLc ⟨some _,rfl,bRc rfl cKn⟩ (aLc ⟨some _,rfl,iC rfl ⟨fun _=>rfl,fun _=>rfl,fun _=>rfl,fun _=>rfl,fun _=>rfl,fun _=>rfl,fun _=>rfl,fun _=>rfl,trivial⟩⟩ (aLc ⟨some _,rfl,aN rfl rfl⟩ aLn)))))))))))
    ·refine rQ dCo rfl rfl rfl ⟨rfl,nle rfl,nle rfl,rfl⟩ rfl hkk (nle rfl) (nle rfl) rfl ?_;conv=>whnf
     refine hK _ _ _ ?_
     refine iBn ?_
     refine tHn ?_
     refine bY dCo rfl fun K hK=>?_;conv=>whnf
     refine hK _ _ _ ?_
     refine tHn ?_
     replace h:=bK h
     refine ⟨_,h,?_⟩
     refine dQ (xB 10 0 1) ?_;conv=>whnf
     exact And.intro rfl (And.intro (aLc wkI (aLc (WkR.soN (fun _=>rfl) (by simp [hkk])) (aLc (wkr (lsL fun _=>(lsI _ _))) (aLc (wkr (lsL fun _=>(lsL fun _=>(lsI _ _)))) (aLc (WkR.ptr (fun _=>rfl)) (aLc (wkr (lsL fun _=>(lsL fun _=>(lsI _ _)))) (aLc wkI aLn))))))) (aLc ⟨some _,rfl,bRc rfl cKn⟩ (aLc ⟨some _,rfl,bRc rfl cKn⟩ (aLc ⟨some _,rfl,bRc rfl cKn⟩ (aLc ⟨some _,rfl,bRc rfl cKn⟩ (aLc ⟨some _,rfl,bRc rfl cKn⟩ (aLc ⟨some _,rfl,bRc rfl cKn⟩ (aLc ⟨some _,rfl,bRc rfl cKn⟩ (aLc ⟨some _,rfl,bRc rfl cKn⟩ (aLc ⟨some _,rfl,iC rfl ⟨fun _=>rfl,fun _=>rfl,fun _=>rfl,fun _=>rfl,fun _=>rfl,fun _=>rfl,fun _=>rfl,fun _=>rfl,trivial⟩⟩ (aLc ⟨some _,rfl,aN rfl rfl⟩ aLn)))))))))))
    ·refine rQ dCo rfl rfl rfl ⟨rfl,nle rfl,nle rfl,rfl⟩ rfl hkk (nle rfl) (nle rfl) rfl ?_;conv=>whnf
     refine hK _ _ _ ?_
     refine iBn ?_
     refine tHn ?_
     refine bY dCo rfl fun K hK=>?_;conv=>whnf
     refine hK _ _ _ ?_
     refine tHn ?_
     replace h:=bK h
     refine ⟨_,h,?_⟩
     refine dQ (xB 10 0 2) ?_;conv=>whnf
     exact And.intro rfl (And.intro (aLc wkI (aLc (WkR.soN (fun _=>rfl) (by simp [hkk])) (aLc (wkr (lsL fun _=>(lsI _ _))) (aLc (wkr (lsL fun _=>(lsL fun _=>(lsI _ _)))) (aLc (WkR.ptr (fun _=>rfl)) (aLc (wkr (lsL fun _=>(lsL fun _=>(lsI _ _)))) (aLc wkI aLn))))))) (aLc ⟨some _,rfl,bRc rfl cKn⟩ (aLc ⟨some _,rfl,bRc rfl cKn⟩ (aLc ⟨some _,rfl,bRc rfl cKn⟩ (aLc ⟨some _,rfl,bRc rfl cKn⟩ (aLc ⟨some _,rfl,bRc rfl cKn⟩ (aLc ⟨some _,rfl,bRc rfl cKn⟩ (aLc ⟨some _,rfl,bRc rfl cKn⟩ (aLc ⟨some _,rfl,bRc rfl cKn⟩ (aLc ⟨some _,rfl,iC rfl ⟨fun _=>rfl,fun _=>rfl,fun _=>rfl,fun _=>rfl,fun _=>rfl,fun _=>rfl,fun _=>rfl,fun _=>rfl,trivial⟩⟩ (aLc ⟨some _,rfl,aN rfl rfl⟩ aLn)))))))))))
    ·refine rQ dCo rfl rfl rfl ⟨rfl,nle rfl,nle rfl,rfl⟩ rfl hkk (nle rfl) (nle rfl) rfl ?_;conv=>whnf
     refine hK _ _ _ ?_
     refine iBn ?_
     refine tHn ?_
     refine bY dCo rfl fun K hK=>?_;conv=>whnf
     refine hK _ _ _ ?_
     refine tHn ?_
     replace h:=bK h
     refine ⟨_,h,?_⟩
     refine dQ (xB 10 0 3) ?_;conv=>whnf
     exact And.intro rfl (And.intro (aLc wkI (aLc (WkR.soN (fun _=>rfl) (by simp [hkk])) (aLc (wkr (lsL fun _=>(lsI _ _))) (aLc (wkr (lsL fun _=>(lsL fun _=>(lsI _ _)))) (aLc (WkR.ptr (fun _=>rfl)) (aLc (wkr (lsL fun _=>(lsL fun _=>(lsI _ _)))) (aLc wkI aLn))))))) (aLc ⟨some _,rfl,bRc rfl cKn⟩ (aLc ⟨some _,rfl,bRc rfl cKn⟩ (aLc ⟨some _,rfl,bRc rfl cKn⟩ (aLc ⟨some _,rfl,bRc rfl cKn⟩ (aLc ⟨some _,rfl,bRc rfl cKn⟩ (aLc ⟨some _,rfl,bRc rfl cKn⟩ (aLc ⟨some _,rfl,bRc rfl cKn⟩ (aLc ⟨some _,rfl,bRc rfl cKn⟩ (aLc ⟨some _,rfl,iC rfl ⟨fun _=>rfl,fun _=>rfl,fun _=>rfl,fun _=>rfl,fun _=>rfl,fun _=>rfl,fun _=>rfl,fun _=>rfl,trivial⟩⟩ (aLc ⟨some _,rfl,aN rfl rfl⟩ aLn)))))))))))
    ·refine rQ dCo rfl rfl rfl ⟨rfl,nle rfl,nle rfl,rfl⟩ rfl hkk (nle rfl) (nle rfl) rfl ?_;conv=>whnf
     refine hK _ _ _ ?_
     refine iBn ?_
     refine tHn ?_
     refine bY dCo rfl fun K hK=>?_;conv=>whnf
     refine hK _ _ _ ?_
     refine tHn ?_
     replace h:=bK h
     refine ⟨_,h,?_⟩
     refine dQ (xB 10 0 4) ?_;conv=>whnf
     exact And.intro rfl (And.intro (aLc wkI (aLc (WkR.soN (fun _=>rfl) (by simp [hkk])) (aLc (wkr (lsL fun _=>(lsI _ _))) (aLc (wkr (lsL fun _=>(lsL fun _=>(lsI _ _)))) (aLc (WkR.ptr (fun _=>rfl)) (aLc (wkr (lsL fun _=>(lsL fun _=>(lsI _ _)))) (aLc wkI aLn))))))) (aLc ⟨some _,rfl,bRc rfl cKn⟩ (aLc ⟨some _,rfl,bRc rfl cKn⟩ (aLc ⟨some _,rfl,bRc rfl cKn⟩ (aLc ⟨some _,rfl,bRc rfl cKn⟩ (aLc ⟨some _,rfl,bRc rfl cKn⟩ (aLc ⟨some _,rfl,bRc rfl cKn⟩ (aLc ⟨some _,rfl,bRc rfl cKn⟩ (aLc ⟨some _,rfl,bRc rfl cKn⟩ (aLc ⟨some _,rfl,iC rfl ⟨fun _=>rfl,fun _=>rfl,fun _=>rfl,fun _=>rfl,fun _=>rfl,fun _=>rfl,fun _=>rfl,fun _=>rfl,trivial⟩⟩ (aLc ⟨some _,rfl,aN rfl rfl⟩ aLn)))))))))))
    ·refine rQ dCo rfl rfl rfl ⟨rfl,nle rfl,nle rfl,rfl⟩ rfl hkk (nle rfl) (nle rfl) rfl ?_;conv=>whnf
     refine hK _ _ _ ?_
     refine iBn ?_
     refine tHn ?_
     refine bY dCo rfl fun K hK=>?_;conv=>whnf
     refine hK _ _ _ ?_
     refine tHn ?_
     replace h:=bK h
     refine ⟨_,h,?_⟩
     refine dQ (xB 10 0 5) ?_;conv=>whnf
     exact And.intro rfl (And.intro (aLc wkI (aLc (WkR.soN (fun _=>rfl) (by simp [hkk])) (aLc (wkr (lsL fun _=>(lsI _ _))) (aLc (wkr (lsL fun _=>(lsL fun _=>(lsI _ _)))) (aLc (WkR.ptr (fun _=>rfl)) (aLc (wkr (lsL fun _=>(lsL fun _=>(lsI _ _)))) (aLc wkI aLn))))))) (aLc ⟨some _,rfl,bRc rfl cKn⟩ (aLc ⟨some _,rfl,bRc rfl cKn⟩ (aLc ⟨some _,rfl,bRc rfl cKn⟩ (aLc ⟨some _,rfl,bRc rfl cKn⟩ (aLc ⟨some _,rfl,bRc rfl cKn⟩ (aLc ⟨some _,rfl,bRc rfl cKn⟩ (aLc ⟨some _,rfl,bRc rfl cKn⟩ (aLc ⟨some _,rfl,bRc rfl cKn⟩ (aLc ⟨some _,rfl,iC rfl ⟨fun _=>rfl,fun _=>rfl,fun _=>rfl,fun _=>rfl,fun _=>rfl,fun _=>rfl,fun _=>rfl,fun _=>rfl,trivial⟩⟩ (aLc ⟨some _,rfl,aN rfl rfl⟩ aLn)))))))))))
    ·refine rQ dCo rfl rfl rfl ⟨rfl,nle rfl,nle rfl,rfl⟩ rfl hkk (nle rfl) (nle rfl) rfl ?_;conv=>whnf
     refine hK _ _ _ ?_
     refine iBn ?_
     refine tHn ?_
     refine bY dCo rfl fun K hK=>?_;conv=>whnf
     refine hK _ _ _ ?_
     refine tHn ?_
     replace h:=bK h
     refine ⟨_,h,?_⟩
     refine dQ (xB 10 0 6) ?_;conv=>whnf
     exact And.intro rfl (And.intro (aLc wkI (aLc (WkR.soN (fun _=>rfl) (by simp [hkk])) (aLc (wkr (lsL fun _=>(lsI _ _))) (aLc (wkr (lsL fun _=>(lsL fun _=>(lsI _ _)))) (aLc (WkR.ptr (fun _=>rfl)) (aLc (wkr (lsL fun _=>(lsL fun _=>(lsI _ _)))) (aLc wkI aLn))))))) (aLc ⟨some _,rfl,bRc rfl cKn⟩ (aLc ⟨some _,rfl,bRc rfl cKn⟩ (aLc ⟨some _,rfl,bRc rfl cKn⟩ (aLc ⟨some _,rfl,bRc rfl cKn⟩ (aLc ⟨some _,rfl,bRc rfl cKn⟩ (aLc ⟨some _,rfl,bRc rfl cKn⟩ (aLc ⟨some _,rfl,bRc rfl cKn⟩ (aLc ⟨some _,rfl,bRc rfl cKn⟩ (aLc ⟨some _,rfl,iC rfl ⟨fun _=>rfl,fun _=>rfl,fun _=>rfl,fun _=>rfl,fun _=>rfl,fun _=>rfl,fun _=>rfl,fun _=>rfl,trivial⟩⟩ (aLc ⟨some _,rfl,aN rfl rfl⟩ aLn)))))))))))
    ·refine rQ dCo rfl rfl rfl ⟨rfl,nle rfl,nle rfl,rfl⟩ rfl hkk (nle rfl) (nle rfl) rfl ?_;conv=>whnf
     refine hK _ _ _ ?_
     refine iBn ?_
     refine tHn ?_
     refine bY dCo rfl fun K hK=>?_;conv=>whnf
     refine hK _ _ _ ?_
     refine tHn ?_
     replace h:=bK h
     refine ⟨_,h,?_⟩
     refine dQ (xB 10 0 7) ?_;conv=>whnf
     exact And.intro rfl (And.intro (aLc wkI (aLc (WkR.soN (fun _=>rfl) (by simp [hkk])) (aLc (wkr (lsL fun _=>(lsI _ _))) (aLc (wkr (lsL fun _=>(lsL fun _=>(lsI _ _)))) (aLc (WkR.ptr (fun _=>rfl)) (aLc (wkr (lsL fun _=>(lsL fun _=>(lsI _ _)))) (aLc wkI aLn))))))) (aLc ⟨some _,rfl,bRc rfl cKn⟩ (aLc ⟨some _,rfl,bRc rfl cKn⟩ (aLc ⟨some _,rfl,bRc rfl cKn⟩ (aLc ⟨some _,rfl,bRc rfl cKn⟩ (aLc ⟨some _,rfl,bRc rfl cKn⟩ (aLc ⟨some _,rfl,bRc rfl cKn⟩ (aLc ⟨some _,rfl,bRc rfl cKn⟩ (aLc ⟨some _,rfl,bRc rfl cKn⟩ (aLc ⟨some _,rfl,iC rfl ⟨fun _=>rfl,fun _=>rfl,fun _=>rfl,fun _=>rfl,fun _=>rfl,fun _=>rfl,fun _=>rfl,fun _=>rfl,trivial⟩⟩ (aLc ⟨some _,rfl,aN rfl rfl⟩ aLn)))))))))))
   refine hK2 ?_
   refine bI ?_
   refine aT ?_
   refine aT ?_
   refine aS ?_
   replace h:=cV h
   replace h:=cU h
   obtain ⟨h8,h⟩:=vE h
   refine tHn ?_
   refine aMH rfl h [1,2,3,7,8] [] [3] [] (fun kl kh kr ids b s=>⟨ofL ([(9,.so b 0 s.length 1)]++kl),ofH (([]++kh)++([(b,.cells (flE (ceE (eL 1 eI default)) s))]++kr)),b+64⟩) ?_;(conv=>whnf);refine And.intro (fun next h=>cR ?_) (fun kj h=>?_)
   ·replace h:=nY.eq_1 _ _ _ _ _ ▸ h
    refine qM 9 (enc:=eL 1 eI default) (e:=26) default (pS dCo rfl rfl rfl (fun _=>⟨rfl,rfl⟩)) ?_;(conv=>whnf);refine ⟨_,_,rfl,rfl,rfl,?_⟩
    refine qA dCo cG rfl (by kernel_rfl) fun K hK=>?_;conv=>whnf
    refine nlA rfl ?_;conv=>whnf
    refine bKo rfl ?_;conv=>whnf
    refine wP rfl ?_;conv=>whnf
    refine aMS h (.inr ⟨_,rfl⟩) (fun h=>?_);conv=>whnf
    refine aL ?_;conv=>whnf
    replace h:=bL h
    refine rJ h75 h (WkL.refl _) (fun y h=>?_);conv=>whnf
    refine hK _ _ _ ?_
    obtain ⟨hn,h⟩:=vE h
    replace h:=aIu h
    replace hn:=aCz hn
    refine aIW (isn:=false) (t0:=7) dCo rfl rfl rfl rfl rfl rfl rfl Tryd.underlying50 (fun β v hv=>aCY rfl hn hv) rfl fun K hK=>?_;conv=>whnf
    refine hK _ _ _ ?_
    refine aW fun K1 K2 hK1 hK2=>?_;conv=>whnf
    refine cLk h (fun _ h=>?_) (fun _ h=>?_)
    ·refine hK1 ?_
     refine bY dCo rfl fun K hK=>?_;conv=>whnf
     refine hK _ _ _ ?_
     refine iBn ?_
     refine tHn ?_
     refine bY dCo rfl fun K hK=>?_;conv=>whnf
     refine hK _ _ _ ?_
     refine tHn ?_
     replace h:=bK h
     refine ⟨_,h,?_⟩
     refine aR ?_;conv=>whnf
     exact And.intro rfl (And.intro (aLc wkI (aLc (wkr (lsL fun _=>(lsL fun _=>(lsI _ _)))) (aLc (wkr (lsL fun _=>(lsI _ _))) (aLc (wkr (lsL fun _=>(lsL fun _=>(lsI _ _)))) (aLc (WkR.ptr (fun _=>rfl)) aLn))))) (aLc ⟨some _,rfl,aN rfl rfl⟩ aLn))
    refine hK2 ?_
    refine aG ?_
    refine iBn ?_
    refine tHn ?_
    refine bY dCo rfl fun K hK=>?_;conv=>whnf
    refine hK _ _ _ ?_
    refine tHn ?_
    replace h:=bK h
    refine ⟨_,h,?_⟩
    refine aR ?_;conv=>whnf
    exact And.intro rfl (And.intro (aLc wkI (aLc (wkr (lsL fun _=>(lsL fun _=>(lsI _ _)))) (aLc (wkr (lsL fun _=>(lsI _ _))) (aLc (wkr (lsL fun _=>(lsL fun _=>(lsI _ _)))) (aLc (WkR.ptr (fun _=>rfl)) aLn))))) (aLc ⟨some _,rfl,aN rfl rfl⟩ aLn))
   refine aC dCo rfl fun K hK=>?_;conv=>whnf
   refine hK _ _ _ ?_
   refine aW fun K1 K2 hK1 hK2=>?_;conv=>whnf
   refine cLk h (fun _ h=>?_) (fun _ h=>?_)
   ·refine hK1 ?_
    obtain ⟨h7,h⟩:=vE h
    refine bY dCo rfl fun K hK=>?_;conv=>whnf
    refine dD h fun _ h=>?_;conv=>whnf
    refine gKo rfl ?_;conv=>whnf
    refine dL (enc:=eI) (d:=default) dCo h rfl rfl rfl ⟨nle rfl,nle rfl,rfl⟩ rfl ⟨⟨rfl,rfl,rfl⟩,trivial⟩ (fun h=>?_);conv=>whnf
    refine aII (enc:=fun (_:Unit)=>AV.lst .free 1 1 fun j=>eI ([a1.getD (0:Int).toNat default].getD j default)) (d:=()) (l:=[()]) (f:=fun _=>some ()) (Φ:=fun _=>True) dCo (nN _) rfl rfl rfl ⟨nle rfl,nle rfl,rfl⟩ rfl ⟨⟨_,⟨rfl,rfl,rfl⟩,cD⟩,trivial⟩ (fun _=>?_);conv=>whnf
    refine aMs (l:=[a1.getD (0:Int).toNat default]) dCo rfl rfl rfl ⟨rfl,nle rfl,nle rfl,rfl⟩ rfl rfl (by omega) rfl ?_;conv=>whnf
    refine hK _ _ _ ?_
    refine tHn ?_
    refine ⟨_,h,?_⟩
    refine aR ?_;conv=>whnf
    exact And.intro rfl (And.intro (aLc (WkR.soN (fun _=>rfl) (by simp)) (aLc (wkr (lsL fun _=>(lsI _ _))) (aLc (wkr (lsL fun _=>(lsL fun _=>(lsI _ _)))) (aLc (WkR.ptr (fun _=>rfl)) (aLc (wkr (lsL fun _=>(lsL fun _=>(lsI _ _)))) (aLc wkI aLn)))))) (aLc ⟨some _,rfl,bRc rfl (aGA (by exact h8))⟩ (aLc ⟨some _,rfl,aN rfl rfl⟩ aLn)))
   refine hK2 ?_
   refine aF ?_
   refine qA dCo cG rfl (by kernel_rfl) fun K hK=>?_;conv=>whnf
   refine dD h fun _ h=>?_;conv=>whnf
   refine gKo rfl ?_;conv=>whnf
   refine dD h fun _ h=>?_;conv=>whnf
   refine gKo rfl ?_;conv=>whnf
   refine dD h fun _ h=>?_;conv=>whnf
   refine gKo rfl ?_;conv=>whnf
   refine dD h fun _ h=>?_;conv=>whnf
   refine gKo rfl ?_;conv=>whnf
   refine bW h fun hx1 h=>?_;conv=>whnf
   refine bW h fun hx2 h=>?_;conv=>whnf
   refine nlA rfl ?_;conv=>whnf
   refine bKo rfl ?_;conv=>whnf
   refine lF (m:=8) rfl rfl hx1 hx2 ?_;conv=>whnf
   refine hK _ _ _ ?_
   refine aW fun K1 K2 hK1 hK2=>?_;conv=>whnf
   refine cLk h (fun _ h=>?_) (fun _ h=>?_)
   ·refine hK1 ?_
    refine bI ?_
    refine aT ?_
    refine aT ?_
    refine aS ?_
    refine tHn ?_
    refine bY dCo rfl fun K hK=>?_;conv=>whnf
    refine hK _ _ _ ?_
    refine tHn ?_
    replace h:=bK h
    refine ⟨_,h,?_⟩
    refine aR ?_;conv=>whnf
    exact And.intro rfl (And.intro (aLc wkI (aLc (wkr (lsL fun _=>(lsL fun _=>(lsI _ _)))) (aLc (wkr (lsL fun _=>(lsI _ _))) (aLc (wkr (lsL fun _=>(lsL fun _=>(lsI _ _)))) (aLc (WkR.ptr (fun _=>rfl)) aLn))))) (aLc ⟨some _,rfl,aN rfl rfl⟩ aLn))
   refine hK2 ?_
   refine aG ?_
   refine tHn ?_
   obtain ⟨hg,h⟩:=vE h
   have hc:s1=0∨s1=1∨s1=2∨s1=3∨s1=4∨s1=5∨s1=6∨s1=7:=by omega
   have hj:s1.toNat<s2.2.length:=(Int.toNat_lt hg.1).2 hg.2
   rcases hc with rfl | rfl | rfl | rfl | rfl | rfl | rfl | rfl
   ·refine nQ dCo cG rfl (by kernel_rfl) fun K hK=>?_;conv=>whnf
    refine And.intro ⟨by omega,by omega⟩ ?_;conv=>whnf
    refine nlA rfl ?_;conv=>whnf
    refine bKo rfl ?_;conv=>whnf
    refine gKo (gL (j:=0) rfl hj) ?_;conv=>whnf
    refine dD h fun _ h=>?_;conv=>whnf
    refine gKo rfl ?_;conv=>whnf
    refine dL (enc:=eI) (d:=default) dCo h rfl rfl rfl ⟨nle rfl,nle rfl,rfl⟩ rfl ⟨⟨rfl,rfl,rfl⟩,trivial⟩ (fun h=>?_);conv=>whnf
    refine gX (enc:=eI) (d:=default) dCo h (.inl rfl) rfl rfl rfl ⟨rfl,nle rfl,nle rfl,nle rfl,rfl⟩ (fun _=>rfl) (.inr (.inr ⟨_,_,rfl,rfl,rfl⟩)) (fun h=>?_);conv=>whnf
    refine And.intro ⟨by omega,by omega⟩ ?_;conv=>whnf
    refine bKo rfl ?_;conv=>whnf
    refine nV (j:=0) (nle rfl) hj rfl rfl rfl rfl ?_;conv=>whnf
    refine hK _ _ _ ?_
    refine tHn ?_
    refine ⟨_,h,?_⟩
    refine aR ?_;conv=>whnf
    exact And.intro rfl (And.intro (aLc (WkR.soN (fun _=>rfl) (by simp)) (aLc (wkr (lsL fun _=>(lsI _ _))) (aLc (wkr (lsL fun _=>(lsL fun _=>(lsI _ _)))) (aLc (WkR.ptr (fun _=>rfl)) (aLc (wkr (lsL fun _=>(lsL fun _=>(lsI _ _)))) (aLc wkI aLn)))))) (aLc ⟨some _,rfl,bRc rfl (mJ (by simp;omega))⟩ (aLc ⟨some _,rfl,aN rfl rfl⟩ aLn)))
   ·refine nQ dCo cG rfl (by kernel_rfl) fun K hK=>?_;conv=>whnf
    refine And.intro ⟨by omega,by omega⟩ ?_;conv=>whnf
    refine nlA rfl ?_;conv=>whnf
    refine bKo rfl ?_;conv=>whnf
    refine gKo (gL (j:=1) rfl hj) ?_;conv=>whnf
    refine dD h fun _ h=>?_;conv=>whnf
    refine gKo rfl ?_;conv=>whnf
    refine dL (enc:=eI) (d:=default) dCo h rfl rfl rfl ⟨nle rfl,nle rfl,rfl⟩ rfl ⟨⟨rfl,rfl,rfl⟩,trivial⟩ (fun h=>?_);conv=>whnf
    refine gX (enc:=eI) (d:=default) dCo h (.inl rfl) rfl rfl rfl ⟨rfl,nle rfl,nle rfl,nle rfl,rfl⟩ (fun _=>rfl) (.inr (.inr ⟨_,_,rfl,rfl,rfl⟩)) (fun h=>?_);conv=>whnf
    refine And.intro ⟨by omega,by omega⟩ ?_;conv=>whnf
    refine bKo rfl ?_;conv=>whnf
    refine nV (j:=1) (nle rfl) hj rfl rfl rfl rfl ?_;conv=>whnf
    refine hK _ _ _ ?_
    refine tHn ?_
    refine ⟨_,h,?_⟩
    refine aR ?_;conv=>whnf
    exact And.intro rfl (And.intro (aLc (WkR.soN (fun _=>rfl) (by simp)) (aLc (wkr (lsL fun _=>(lsI _ _))) (aLc (wkr (lsL fun _=>(lsL fun _=>(lsI _ _)))) (aLc (WkR.ptr (fun _=>rfl)) (aLc (wkr (lsL fun _=>(lsL fun _=>(lsI _ _)))) (aLc wkI aLn)))))) (aLc ⟨some _,rfl,bRc rfl (mJ (by simp;omega))⟩ (aLc ⟨some _,rfl,aN rfl rfl⟩ aLn)))
   ·refine nQ dCo cG rfl (by kernel_rfl) fun K hK=>?_;conv=>whnf
    refine And.intro ⟨by omega,by omega⟩ ?_;conv=>whnf
    refine nlA rfl ?_;conv=>whnf
    refine bKo rfl ?_;conv=>whnf
    refine gKo (gL (j:=2) rfl hj) ?_;conv=>whnf
    refine dD h fun _ h=>?_;conv=>whnf
    refine gKo rfl ?_;conv=>whnf
    refine dL (enc:=eI) (d:=default) dCo h rfl rfl rfl ⟨nle rfl,nle rfl,rfl⟩ rfl ⟨⟨rfl,rfl,rfl⟩,trivial⟩ (fun h=>?_);conv=>whnf
    refine gX (enc:=eI) (d:=default) dCo h (.inl rfl) rfl rfl rfl ⟨rfl,nle rfl,nle rfl,nle rfl,rfl⟩ (fun _=>rfl) (.inr (.inr ⟨_,_,rfl,rfl,rfl⟩)) (fun h=>?_);conv=>whnf
    refine And.intro ⟨by omega,by omega⟩ ?_;conv=>whnf
    refine bKo rfl ?_;conv=>whnf
    refine nV (j:=2) (nle rfl) hj rfl rfl rfl rfl ?_;conv=>whnf
    refine hK _ _ _ ?_
    refine tHn ?_
    refine ⟨_,h,?_⟩
    refine aR ?_;conv=>whnf
    exact And.intro rfl (And.intro (aLc (WkR.soN (fun _=>rfl) (by simp)) (aLc (wkr (lsL fun _=>(lsI _ _))) (aLc (wkr (lsL fun _=>(lsL fun _=>(lsI _ _)))) (aLc (WkR.ptr (fun _=>rfl)) (aLc (wkr (lsL fun _=>(lsL fun _=>(lsI _ _)))) (aLc wkI aLn)))))) (aLc ⟨some _,rfl,bRc rfl (mJ (by simp;omega))⟩ (aLc ⟨some _,rfl,aN rfl rfl⟩ aLn)))
   ·refine nQ dCo cG rfl (by kernel_rfl) fun K hK=>?_;conv=>whnf
    refine And.intro ⟨by omega,by omega⟩ ?_;conv=>whnf
    refine nlA rfl ?_;conv=>whnf
    refine bKo rfl ?_;conv=>whnf
    refine gKo (gL (j:=3) rfl hj) ?_;conv=>whnf
    refine dD h fun _ h=>?_;conv=>whnf
    refine gKo rfl ?_;conv=>whnf
    refine dL (enc:=eI) (d:=default) dCo h rfl rfl rfl ⟨nle rfl,nle rfl,rfl⟩ rfl ⟨⟨rfl,rfl,rfl⟩,trivial⟩ (fun h=>?_);conv=>whnf
    refine gX (enc:=eI) (d:=default) dCo h (.inl rfl) rfl rfl rfl ⟨rfl,nle rfl,nle rfl,nle rfl,rfl⟩ (fun _=>rfl) (.inr (.inr ⟨_,_,rfl,rfl,rfl⟩)) (fun h=>?_);conv=>whnf
    refine And.intro ⟨by omega,by omega⟩ ?_;conv=>whnf
    refine bKo rfl ?_;conv=>whnf
    refine nV (j:=3) (nle rfl) hj rfl rfl rfl rfl ?_;conv=>whnf
    refine hK _ _ _ ?_
    refine tHn ?_
    refine ⟨_,h,?_⟩
    refine aR ?_;conv=>whnf
    exact And.intro rfl (And.intro (aLc (WkR.soN (fun _=>rfl) (by simp)) (aLc (wkr (lsL fun _=>(lsI _ _))) (aLc (wkr (lsL fun _=>(lsL fun _=>(lsI _ _)))) (aLc (WkR.ptr (fun _=>rfl)) (aLc (wkr (lsL fun _=>(lsL fun _=>(lsI _ _)))) (aLc wkI aLn)))))) (aLc ⟨some _,rfl,bRc rfl (mJ (by simp;omega))⟩ (aLc ⟨some _,rfl,aN rfl rfl⟩ aLn)))
   ·refine nQ dCo cG rfl (by kernel_rfl) fun K hK=>?_;conv=>whnf
    refine And.intro ⟨by omega,by omega⟩ ?_;conv=>whnf
    refine nlA rfl ?_;conv=>whnf
    refine bKo rfl ?_;conv=>whnf
    refine gKo (gL (j:=4) rfl hj) ?_;conv=>whnf
    refine dD h fun _ h=>?_;conv=>whnf
    refine gKo rfl ?_;conv=>whnf
    refine dL (enc:=eI) (d:=default) dCo h rfl rfl rfl ⟨nle rfl,nle rfl,rfl⟩ rfl ⟨⟨rfl,rfl,rfl⟩,trivial⟩ (fun h=>?_);conv=>whnf
    refine gX (enc:=eI) (d:=default) dCo h (.inl rfl) rfl rfl rfl ⟨rfl,nle rfl,nle rfl,nle rfl,rfl⟩ (fun _=>rfl) (.inr (.inr ⟨_,_,rfl,rfl,rfl⟩)) (fun h=>?_);conv=>whnf
    refine And.intro ⟨by omega,by omega⟩ ?_;conv=>whnf
    refine bKo rfl ?_;conv=>whnf
    refine nV (j:=4) (nle rfl) hj rfl rfl rfl rfl ?_;conv=>whnf
    refine hK _ _ _ ?_
    refine tHn ?_
    refine ⟨_,h,?_⟩
    refine aR ?_;conv=>whnf
    exact And.intro rfl (And.intro (aLc (WkR.soN (fun _=>rfl) (by simp)) (aLc (wkr (lsL fun _=>(lsI _ _))) (aLc (wkr (lsL fun _=>(lsL fun _=>(lsI _ _)))) (aLc (WkR.ptr (fun _=>rfl)) (aLc (wkr (lsL fun _=>(lsL fun _=>(lsI _ _)))) (aLc wkI aLn)))))) (aLc ⟨some _,rfl,bRc rfl (mJ (by simp;omega))⟩ (aLc ⟨some _,rfl,aN rfl rfl⟩ aLn)))
   ·refine nQ dCo cG rfl (by kernel_rfl) fun K hK=>?_;conv=>whnf
    refine And.intro ⟨by omega,by omega⟩ ?_;conv=>whnf
    refine nlA rfl ?_;conv=>whnf
    refine bKo rfl ?_;conv=>whnf
    refine gKo (gL (j:=5) rfl hj) ?_;conv=>whnf
    refine dD h fun _ h=>?_;conv=>whnf
    refine gKo rfl ?_;conv=>whnf
    refine dL (enc:=eI) (d:=default) dCo h rfl rfl rfl ⟨nle rfl,nle rfl,rfl⟩ rfl ⟨⟨rfl,rfl,rfl⟩,trivial⟩ (fun h=>?_);conv=>whnf
    refine gX (enc:=eI) (d:=default) dCo h (.inl rfl) rfl rfl rfl ⟨rfl,nle rfl,nle rfl,nle rfl,rfl⟩ (fun _=>rfl) (.inr (.inr ⟨_,_,rfl,rfl,rfl⟩)) (fun h=>?_);conv=>whnf
    refine And.intro ⟨by omega,by omega⟩ ?_;conv=>whnf
    refine bKo rfl ?_;conv=>whnf
    refine nV (j:=5) (nle rfl) hj rfl rfl rfl rfl ?_;conv=>whnf
    refine hK _ _ _ ?_
    refine tHn ?_
    refine ⟨_,h,?_⟩
    refine aR ?_;conv=>whnf
    exact And.intro rfl (And.intro (aLc (WkR.soN (fun _=>rfl) (by simp)) (aLc (wkr (lsL fun _=>(lsI _ _))) (aLc (wkr (lsL fun _=>(lsL fun _=>(lsI _ _)))) (aLc (WkR.ptr (fun _=>rfl)) (aLc (wkr (lsL fun _=>(lsL fun _=>(lsI _ _)))) (aLc wkI aLn)))))) (aLc ⟨some _,rfl,bRc rfl (mJ (by simp;omega))⟩ (aLc ⟨some _,rfl,aN rfl rfl⟩ aLn)))
   ·refine nQ dCo cG rfl (by kernel_rfl) fun K hK=>?_;conv=>whnf
    refine And.intro ⟨by omega,by omega⟩ ?_;conv=>whnf
    refine nlA rfl ?_;conv=>whnf
    refine bKo rfl ?_;conv=>whnf
    refine gKo (gL (j:=6) rfl hj) ?_;conv=>whnf
    refine dD h fun _ h=>?_;conv=>whnf
    refine gKo rfl ?_;conv=>whnf
    refine dL (enc:=eI) (d:=default) dCo h rfl rfl rfl ⟨nle rfl,nle rfl,rfl⟩ rfl ⟨⟨rfl,rfl,rfl⟩,trivial⟩ (fun h=>?_);conv=>whnf
    refine gX (enc:=eI) (d:=default) dCo h (.inl rfl) rfl rfl rfl ⟨rfl,nle rfl,nle rfl,nle rfl,rfl⟩ (fun _=>rfl) (.inr (.inr ⟨_,_,rfl,rfl,rfl⟩)) (fun h=>?_);conv=>whnf
    refine And.intro ⟨by omega,by omega⟩ ?_;conv=>whnf
    refine bKo rfl ?_;conv=>whnf
    refine nV (j:=6) (nle rfl) hj rfl rfl rfl rfl ?_;conv=>whnf
    refine hK _ _ _ ?_
    refine tHn ?_
    refine ⟨_,h,?_⟩
    refine aR ?_;conv=>whnf
    exact And.intro rfl (And.intro (aLc (WkR.soN (fun _=>rfl) (by simp)) (aLc (wkr (lsL fun _=>(lsI _ _))) (aLc (wkr (lsL fun _=>(lsL fun _=>(lsI _ _)))) (aLc (WkR.ptr (fun _=>rfl)) (aLc (wkr (lsL fun _=>(lsL fun _=>(lsI _ _)))) (aLc wkI aLn)))))) (aLc ⟨some _,rfl,bRc rfl (mJ (by simp;omega))⟩ (aLc ⟨some _,rfl,aN rfl rfl⟩ aLn)))
   ·refine nQ dCo cG rfl (by kernel_rfl) fun K hK=>?_;conv=>whnf
    refine And.intro ⟨by omega,by omega⟩ ?_;conv=>whnf
    refine nlA rfl ?_;conv=>whnf
    refine bKo rfl ?_;conv=>whnf
    refine gKo (gL (j:=7) rfl hj) ?_;conv=>whnf
    refine dD h fun _ h=>?_;conv=>whnf
    refine gKo rfl ?_;conv=>whnf
    refine dL (enc:=eI) (d:=default) dCo h rfl rfl rfl ⟨nle rfl,nle rfl,rfl⟩ rfl ⟨⟨rfl,rfl,rfl⟩,trivial⟩ (fun h=>?_);conv=>whnf
    refine gX (enc:=eI) (d:=default) dCo h (.inl rfl) rfl rfl rfl ⟨rfl,nle rfl,nle rfl,nle rfl,rfl⟩ (fun _=>rfl) (.inr (.inr ⟨_,_,rfl,rfl,rfl⟩)) (fun h=>?_);conv=>whnf
    refine And.intro ⟨by omega,by omega⟩ ?_;conv=>whnf
    refine bKo rfl ?_;conv=>whnf
    refine nV (j:=7) (nle rfl) hj rfl rfl rfl rfl ?_;conv=>whnf
    refine hK _ _ _ ?_
    refine tHn ?_
    refine ⟨_,h,?_⟩
    refine aR ?_;conv=>whnf
    exact And.intro rfl (And.intro (aLc (WkR.soN (fun _=>rfl) (by simp)) (aLc (wkr (lsL fun _=>(lsI _ _))) (aLc (wkr (lsL fun _=>(lsL fun _=>(lsI _ _)))) (aLc (WkR.ptr (fun _=>rfl)) (aLc (wkr (lsL fun _=>(lsL fun _=>(lsI _ _)))) (aLc wkI aLn)))))) (aLc ⟨some _,rfl,bRc rfl (mJ (by simp;omega))⟩ (aLc ⟨some _,rfl,aN rfl rfl⟩ aLn)))
  refine hK2 ?_
  refine bI ?_
  refine aT ?_
  refine aT ?_
  refine aS ?_
  replace h:=cV h
  replace h:=cU h
  refine tHn ?_
  refine aC dCo rfl fun K hK=>?_;conv=>whnf
  refine hK _ _ _ ?_
  refine aP ?_
  replace h:=aO h
  refine aK dCo fun K hK=>?_;conv=>whnf
  refine hK _ ?_
  cases h
  exact Wk.refl _
theorem aB9 {T:Tbl} (hT:TOk Tryd.prog T) (hpf:cP T PF):FOk Tryd.prog 75 (aH (jB 12)):=
 vH (S:=jB) hT hpf Tryd.func75 rfl (by decide) (by rintro a b ⟨a0,a1,a2,-,h⟩;obtain ⟨_,e,_⟩:=dY h;cases e) (fun k T' hT' hpf' hne h=>aCa k hT' hpf' h) 12
def hZ (a0:aE):Option ((List (List Int))×Int):=bd (fB a0) fun y1=>cn (y1.2 != 0) (some ([],y1.2)) (bd (cC a0) fun y2=>
  bd (fG 12 y2 y1.1 ([])) fun y3=>some (y3,0))
def pT:List AV→AV→Prop:=fun args r=>∃ a0,args=[bF a0]∧W (hZ a0) fun y=>r=(.tup [(eL 1 (eL 1 eI default) default) y.1,eI y.2])
theorem aB7 {T:Tbl} (hT:TOk Tryd.prog T) (hpf:cP T PF) (h14:T 14=aH kX) (h39:T 39=aH cI) (h75:T 75=aH (jB 12)):FOk Tryd.prog 48 (aH pT):=by
 refine bM hT hpf Tryd.func48 rfl Tryd.ntmps48 Tryd.results48 (by decide) ?_
 rintro args r ⟨a0,rfl,h⟩
 refine ⟨nle rfl,?_,?_⟩
 ·exact (lsC (bT _) lsN)
 rw [hZ.eq_1] at h
 refine aC dCo rfl fun K hK=>?_;conv=>whnf
 refine hK _ _ _ ?_
 refine aC dCo rfl fun K hK=>?_;conv=>whnf
 refine nlA rfl ?_;conv=>whnf
 refine bKo rfl ?_;conv=>whnf
 refine nlA rfl ?_;conv=>whnf
 replace h:=bL h
 refine pJ h14 h (WkL.refl _) (fun _ h=>?_);conv=>whnf
 refine hK _ _ _ ?_
 refine aF ?_
 refine aC dCo rfl fun K hK=>?_;conv=>whnf
 refine hK _ _ _ ?_
 refine aW fun K1 K2 hK1 hK2=>?_;conv=>whnf
 refine cLk h (fun _ h=>?_) (fun _ h=>?_)
 ·refine hK1 ?_
  refine aC dCo rfl fun K hK=>?_;conv=>whnf
  refine hK _ _ _ ?_
  refine aP ?_
  refine aQ ?_
  replace h:=aO h
  refine aK dCo fun K hK=>?_;conv=>whnf
  refine hK _ ?_
  cases h
  exact mL (aD iO (aD (Wk.refl _) bE))
 refine hK2 ?_
 refine aG ?_
 refine tHn ?_
 refine aC dCo rfl fun K hK=>?_;conv=>whnf
 refine nlA rfl ?_;conv=>whnf
 refine bKo rfl ?_;conv=>whnf
 refine nlA rfl ?_;conv=>whnf
 replace h:=bL h
 refine cK h39 h (WkL.refl _) (fun _ h=>?_);conv=>whnf
 refine aL ?_;conv=>whnf
 refine aL ?_;conv=>whnf
 replace h:=bL h
 refine rJ h75 h (aD (Wk.refl _) (aD (Wk.refl _) (aD iO bE))) (fun _ h=>?_);conv=>whnf
 refine hK _ _ _ ?_
 refine aP ?_
 replace h:=aO h
 refine aK dCo fun K hK=>?_;conv=>whnf
 refine hK _ ?_
 cases h
 exact Wk.refl _
theorem aAI {T:Tbl} (hT:T 48=aH pT) {args:List AV} {hp:bH} {id:Nat} {k:AV→Prop} {a0:aE} {Φ:(List (List Int))×Int→Prop} (h:W (hZ a0) Φ) (hw:WkL args [bF a0]) (hk:∀ y,Φ y→k (.tup [(eL 1 (eL 1 eI default) default) y.1,eI y.2])):cH T 48 args hp id k:=by
 obtain ⟨y,e,hy⟩:=dY h
 exact aV hT ⟨a0,rfl,lR e rfl⟩ (by exact eJ (lsC (lsL fun _=>(lsL fun _=>(lsI _ _))) (lsC (lsI _ _) lsN))) hw (hk y hy)
theorem aFi {M:List (Nat×Nat)} {q k n:Nat} {b:AB} {α:Type} {ce:α→List AV} {l:List α} {hp:bH} (h1:[q][k]?=some n) (h2:[AB.cells (flE ce l)][k]?=some b) (h:hp q=some (.cells (flE ce l))) (hl:∀ x,∀ a∈ce x,a.loose):∃ b0,hp n=some b0∧BkX (WkB M) b0 b:=by
 cases k with
 | zero=>simp only [List.getElem?_cons_zero,Option.some.injEq] at h1 h2;subst h1 h2;exact ⟨_,h,aCD hl l⟩
 | succ k=>simp at h1
theorem xI {T:Tbl} (hT:TOk Tryd.prog T) (hpf:cP T PF):FOk Tryd.prog 60 (aCF 1 eI default):=by
 refine aGl hT hpf Tryd.func60 rfl Tryd.ntmps60 Tryd.results60 (by decide) ?_
 rintro args H base r H' ⟨l,rfl,hl,rfl,rfl⟩
 refine ⟨[],[eL 1 eI default l],[],[],[.cells (flE (ceE eI) l)],nle rfl,Nat.zero_le _,nle rfl,.nil,rfl,rfl,.cons (cM (lsL fun _=>(lsI _ _))) .nil,(fun j i b h=>by cases h),(fun k b h=>?_),(fun j=>rfl),(fun i b h=>?_),?_⟩
 ·cases k with
  | zero=>cases h;rfl
  | succ k=>cases h
 ·by_cases e:i=base
  ·subst e;rw [mY] at h;exact .inr (.inr ⟨0,rfl,h⟩)
  ·rw [aY _ _ e] at h;exact .inl ⟨by simp,h⟩
 refine aC dCo rfl fun K hK=>?_;conv=>whnf
 refine hK _ _ _ ?_
 refine aF ?_
 refine aLg rfl rfl rfl rfl rfl rfl Tryd.underlying26 rfl rfl fun b hb=>?_
 cases b
 ·refine aW fun K1 K2 hK1 hK2=>?_;conv=>whnf
  refine hK2 ?_
  refine aG ?_
  refine tHn ?_
  refine aC dCo rfl fun K hK=>?_;conv=>whnf
  refine dL (enc:=eI) (d:=default) (l:=[]) (f:=some) (Φ:=fun _=>True) dCo (lR (a:=[]) (by unfold lt;rfl) trivial) rfl rfl rfl ⟨nle rfl,nle rfl,rfl⟩ rfl trivial (fun _=>?_);conv=>whnf
  refine aKG (enc:=eI) (d:=default) dCo rfl rfl rfl ⟨rfl,nle rfl,nle rfl,nle rfl,rfl⟩ (fun _=>rfl) (fun _=>nofun) hl ?_;conv=>whnf
  refine hK _ _ _ ?_
  refine aP ?_
  refine ⟨_,[256],rfl,by simp,by simp,rfl,aJH (by simp [mm]),fun j b h=>by simp at h,fun k n b h1 h2=>?_⟩;exact aFi h1 h2 rfl (fun _=>(lsC (lsI _ _) lsN))
 refine aW fun K1 K2 hK1 hK2=>?_;conv=>whnf
 refine hK1 ?_
 refine aC dCo rfl fun K hK=>?_;conv=>whnf
 refine hK _ _ _ ?_
 have hn:=List.length_eq_zero_iff.1 (hb rfl)
 subst hn
 refine aBA rfl (σ':=⟨ofL [(2,.so 64 0 0 1)],ofH [(64,.cells [])],1024⟩) (aE3 [(64,none)] ⟨WkR.nilso (fun _=>rfl),trivial⟩ ⟨⟨_,rfl,oH⟩,trivial⟩ rfl) ?_
 refine aP ?_
 refine aQ ?_
 refine ⟨_,[64],rfl,by simp,by simp,rfl,aJH (by simp [mm]),fun j b h=>by simp at h,fun k n b h1 h2=>?_⟩;exact aFi h1 h2 rfl (fun _=>(lsC (lsI _ _) lsN))
def gA (a0:aE) (a1:List Int) (a2:Int) (a3:Int):Option Bool:=bd (fK a0) fun y1=>bd (gZ a0) fun y2=>jn (fun p3:Bool=>
  cn p3 (some false) (bd (fU a0) fun y14=>bd (hG a0) fun y15=>bd (fD a0) fun y16=>bd (fY a0) fun y17=>
  bd (fL a0) fun y18=>bd (hO a0) fun y19=>bd (fJ a0) fun y20=>bd (hZ a0) fun y21=>jn (fun p22:Bool=>
  cn p22 (some false) (bd (dX a0) fun y27=>bd (eV a0) fun y28=>bd (gI a0) fun y29=>bd (fB a0) fun y30=>
  bd (eQ a0) fun y31=>bd (fZ a0) fun y32=>bd (fX a0) fun y33=>bd (gY a0) fun y34=>bd (dI a0) fun y35=>
  bd (eE a0) fun y36=>jn (fun p37:Bool=>cn p37 (some false) (jn (fun p39:Bool=>some p39) fun k40=>bd (dA y27.1 y28.1) fun y41=>
  cn y41 (bd (dA y29.1 y30.1) fun y42=>cn y42 (bd (dA y31.1 y32.1) fun y43=>cn y43 (bd (dA y33.1 y34.1) fun y44=>
  cn y44 (bd (dA y35.1 y36.1) fun y45=>k40 y45) (k40 false)) (k40 false)) (k40 false)) (k40 false))) fun k38=>cn (y27.2 != y28.2) (k38 true) (cn (y29.2 !=
  y30.2) (k38 true) (cn (y31.2 != y32.2) (k38 true) (cn (y33.2 != y34.2) (k38 true) (k38 (y35.2 != y36.2))))))) fun k23=>cn (y14.2 != y15.2) (k23 true) (cn (y16.2 !=
  y17.2) (k23 true) (cn (y18.2 != y19.2) (k23 true) (cn (y20.2 != y21.2) (k23 true) (cn (y18.1 != y19.1) (k23 true) (bd (iX y14.1 y15.1) fun y24=>
  cn (!y24) (k23 true) (bd (iX y16.1 y17.1) fun y25=>cn (!y25) (k23 true) (cn ((y20.1.length:Int) != (y21.1.length:Int)) (k23 true) (cn (y20.2 ==
  0) (bd (iN a0 y20.1) fun y26=>k23 (!y26)) (k23 false))))))))))) fun k4=>bd (fE a0) fun y5=>bd (iF a0) fun y6=>cn (!(y5 ==
  y6)) (k4 true) (bd (iW a0) fun y7=>bd (bR a0) fun y8=>cn (!(y7==y8)) (k4 true) (cn (!(y1.2==y2.2)) (k4 true) (bd (dA y1.1 y2.1) fun y9=>
  cn (!y9) (k4 true) (bd (dW a0 a2 a3) fun y10=>bd (gB a0 a2 a3) fun y11=>cn (!(y10==y11)) (k4 true) (bd (eR a0 a1) fun y12=>
  bd (gF a0 a1) fun y13=>k4 (!(y12==y13)))))))
def pZ:List AV→AV→Prop:=fun args r=>∃ a0 a1 a2 a3,args=[bF a0,(eL 1 eI default) a1,eI a2,eI a3]∧W (gA a0 a1 a2 a3) fun y=>r=(eB y)
theorem aCj {T:Tbl} (hT:TOk Tryd.prog T) (hpf:cP T PF) (h14:T 14=aH kX) (h18:T 18=aH iR) (h19:T 19=aH oT) (h20:T 20=aH mX) (h22:T 22=aH lW) (h24:T 24=aH nF) (h25:T 25=aH mE) (h26:T 26=aH oR) (h27:T 27=aH mA) (h28:T 28=aH lU) (h29:T 29=aH nL) (h30:T 30=aH iK) (h31:T 31=aH nI) (h32:T 32=aH nK) (h33:T 33=aH iD) (h34:T 34=aH mZ) (h36:T 36=aH oM) (h38:T 38=aH dM) (h41:T 41=aH pN) (h42:T 42=aH jD) (h43:T 43=aH nZ) (h44:T 44=aH oD) (h45:T 45=aH pE) (h46:T 46=aH nX) (h47:T 47=aH pC) (h48:T 48=aH pT) (h49:T 49=aH mR) (h50:T 50=aH lK) (h51:T 51=aH oE) (h52:T 52=aH pX) (h53:T 53=aH kE):FOk Tryd.prog 15 (aH pZ):=by
 refine bM hT hpf Tryd.func15 rfl Tryd.ntmps15 Tryd.results15 (by decide) ?_
 rintro args r ⟨a0,a1,a2,a3,rfl,h⟩
 refine ⟨nle rfl,?_,?_⟩
 ·exact (lsC (bT _) (lsC (lsL fun _=>(lsI _ _)) (lsC (lsI _ _) (lsC (lsI _ _) lsN))))
 rw [gA.eq_1] at h
 refine aC dCo rfl fun K hK=>?_;conv=>whnf
 refine hK _ _ _ ?_
 refine aC dCo rfl fun K hK=>?_;conv=>whnf
 refine nlA rfl ?_;conv=>whnf
 refine bKo rfl ?_;conv=>whnf
 refine nlA rfl ?_;conv=>whnf
 replace h:=bL h
 refine rL h32 h (WkL.refl _) (fun _ h=>?_);conv=>whnf
 refine hK _ _ _ ?_
 refine aC dCo rfl fun K hK=>?_;conv=>whnf
 refine nlA rfl ?_;conv=>whnf
 refine bKo rfl ?_;conv=>whnf
 refine nlA rfl ?_;conv=>whnf
 replace h:=bL h
 refine aAB h41 h (WkL.refl _) (fun _ h=>?_);conv=>whnf
 refine hK _ _ _ ?_
 refine aF ?_
 refine aCS rfl h [4] [4] [] (fun kl kh ids b s=>⟨ofL ([(101,eB s)]++kl),ofH ([]++kh),b+64⟩) ?_;(conv=>whnf);refine And.intro (fun s h=>cR ?_) (fun k h=>?_)
 ·refine aW fun K1 K2 hK1 hK2=>?_;conv=>whnf
  refine cLk h (fun _ h=>?_) (fun _ h=>?_)
  ·refine hK1 ?_
   refine aC dCo rfl fun K hK=>?_;conv=>whnf
   refine hK _ _ _ ?_
   refine aP ?_
   refine aQ ?_
   replace h:=aO h
   refine aK dCo fun K hK=>?_;conv=>whnf
   refine hK _ ?_
   cases h
   exact Wk.refl _
  refine hK2 ?_
  refine aG ?_
  refine tHn ?_
  refine aC dCo rfl fun K hK=>?_;conv=>whnf
  refine nlA rfl ?_;conv=>whnf
  refine bKo rfl ?_;conv=>whnf
  refine nlA rfl ?_;conv=>whnf
  replace h:=bL h
  refine vA h24 h (WkL.refl _) (fun _ h=>?_);conv=>whnf
  refine bKo rfl ?_;conv=>whnf
  refine And.intro rfl (And.intro (nle rfl) (And.intro rfl ?_));conv=>whnf
  refine hK _ _ _ ?_
  refine aC dCo rfl fun K hK=>?_;conv=>whnf
  refine nlA rfl ?_;conv=>whnf
  refine bKo rfl ?_;conv=>whnf
  refine nlA rfl ?_;conv=>whnf
  replace h:=bL h
  refine aAE h45 h (WkL.refl _) (fun _ h=>?_);conv=>whnf
  refine bKo rfl ?_;conv=>whnf
  refine And.intro rfl (And.intro (nle rfl) (And.intro rfl ?_));conv=>whnf
  refine hK _ _ _ ?_
  refine aC dCo rfl fun K hK=>?_;conv=>whnf
  refine nlA rfl ?_;conv=>whnf
  refine bKo rfl ?_;conv=>whnf
  refine nlA rfl ?_;conv=>whnf
  replace h:=bL h
  refine uI h25 h (WkL.refl _) (fun _ h=>?_);conv=>whnf
  refine bKo rfl ?_;conv=>whnf
  refine And.intro rfl (And.intro (nle rfl) (And.intro rfl ?_));conv=>whnf
  refine hK _ _ _ ?_
  refine aC dCo rfl fun K hK=>?_;conv=>whnf
  refine nlA rfl ?_;conv=>whnf
  refine bKo rfl ?_;conv=>whnf
  refine nlA rfl ?_;conv=>whnf
  replace h:=bL h
  refine aAl h46 h (WkL.refl _) (fun _ h=>?_);conv=>whnf
  refine bKo rfl ?_;conv=>whnf
  refine And.intro rfl (And.intro (nle rfl) (And.intro rfl ?_));conv=>whnf
  refine hK _ _ _ ?_
  refine aC dCo rfl fun K hK=>?_;conv=>whnf
  refine nlA rfl ?_;conv=>whnf
  refine bKo rfl ?_;conv=>whnf
  refine nlA rfl ?_;conv=>whnf
  replace h:=bL h
  refine rD h20 h (WkL.refl _) (fun _ h=>?_);conv=>whnf
  refine hK _ _ _ ?_
  refine aC dCo rfl fun K hK=>?_;conv=>whnf
  refine nlA rfl ?_;conv=>whnf
  refine bKo rfl ?_;conv=>whnf
  refine nlA rfl ?_;conv=>whnf
  replace h:=bL h
  refine aAG h47 h (WkL.refl _) (fun _ h=>?_);conv=>whnf
  refine hK _ _ _ ?_
  refine aC dCo rfl fun K hK=>?_;conv=>whnf
  refine nlA rfl ?_;conv=>whnf
  refine bKo rfl ?_;conv=>whnf
  refine nlA rfl ?_;conv=>whnf
  replace h:=bL h
  refine vB h31 h (WkL.refl _) (fun _ h=>?_);conv=>whnf
  refine hK _ _ _ ?_
  refine aC dCo rfl fun K hK=>?_;conv=>whnf
  refine nlA rfl ?_;conv=>whnf
  refine bKo rfl ?_;conv=>whnf
  refine nlA rfl ?_;conv=>whnf
  replace h:=bL h
  refine aAI h48 h (WkL.refl _) (fun _ h=>?_);conv=>whnf
  refine hK _ _ _ ?_
  refine aF ?_
  refine aCS rfl h [4] [4] [] (fun kl kh ids b s=>⟨ofL ([(193,eB s)]++kl),ofH ([]++kh),b+64⟩) ?_;(conv=>whnf);refine And.intro (fun s h=>cR ?_) (fun k h=>?_)
  ·refine aW fun K1 K2 hK1 hK2=>?_;conv=>whnf
   refine cLk h (fun _ h=>?_) (fun _ h=>?_)
   ·refine hK1 ?_
    refine aC dCo rfl fun K hK=>?_;conv=>whnf
    refine hK _ _ _ ?_
    refine aP ?_
    refine aQ ?_
    replace h:=aO h
    refine aK dCo fun K hK=>?_;conv=>whnf
    refine hK _ ?_
    cases h
    exact Wk.refl _
   refine hK2 ?_
   refine aG ?_
   refine tHn ?_
   refine aC dCo rfl fun K hK=>?_;conv=>whnf
   refine nlA rfl ?_;conv=>whnf
   refine bKo rfl ?_;conv=>whnf
   refine nlA rfl ?_;conv=>whnf
   replace h:=bL h
   refine sW h18 h (WkL.refl _) (fun _ h=>?_);conv=>whnf
   refine hK _ _ _ ?_
   refine aC dCo rfl fun K hK=>?_;conv=>whnf
   refine nlA rfl ?_;conv=>whnf
   refine bKo rfl ?_;conv=>whnf
   refine nlA rfl ?_;conv=>whnf
   replace h:=bL h
   refine xM h50 h (WkL.refl _) (fun _ h=>?_);conv=>whnf
   refine hK _ _ _ ?_
   refine aC dCo rfl fun K hK=>?_;conv=>whnf
   refine nlA rfl ?_;conv=>whnf
   refine bKo rfl ?_;conv=>whnf
   refine nlA rfl ?_;conv=>whnf
   replace h:=bL h
   refine wA h19 h (WkL.refl _) (fun _ h=>?_);conv=>whnf
   refine hK _ _ _ ?_
   refine aC dCo rfl fun K hK=>?_;conv=>whnf
   refine nlA rfl ?_;conv=>whnf
   refine bKo rfl ?_;conv=>whnf
   refine nlA rfl ?_;conv=>whnf
   replace h:=bL h
   refine pJ h14 h (WkL.refl _) (fun _ h=>?_);conv=>whnf
   refine hK _ _ _ ?_
   refine aC dCo rfl fun K hK=>?_;conv=>whnf
   refine nlA rfl ?_;conv=>whnf
   refine bKo rfl ?_;conv=>whnf
   refine nlA rfl ?_;conv=>whnf
   replace h:=bL h
   refine tV h28 h (WkL.refl _) (fun _ h=>?_);conv=>whnf
   refine hK _ _ _ ?_
   refine aC dCo rfl fun K hK=>?_;conv=>whnf
   refine nlA rfl ?_;conv=>whnf
   refine bKo rfl ?_;conv=>whnf
   refine nlA rfl ?_;conv=>whnf
   replace h:=bL h
   refine aAj h51 h (WkL.refl _) (fun _ h=>?_);conv=>whnf
   refine hK _ _ _ ?_
   refine aC dCo rfl fun K hK=>?_;conv=>whnf
   refine nlA rfl ?_;conv=>whnf
   refine bKo rfl ?_;conv=>whnf
   refine nlA rfl ?_;conv=>whnf
   replace h:=bL h
   refine uX h29 h (WkL.refl _) (fun _ h=>?_);conv=>whnf
   refine hK _ _ _ ?_
   refine aC dCo rfl fun K hK=>?_;conv=>whnf
   refine nlA rfl ?_;conv=>whnf
   refine bKo rfl ?_;conv=>whnf
   refine nlA rfl ?_;conv=>whnf
   replace h:=bL h
   refine aAF h52 h (WkL.refl _) (fun _ h=>?_);conv=>whnf
   refine hK _ _ _ ?_
   refine aC dCo rfl fun K hK=>?_;conv=>whnf
   refine nlA rfl ?_;conv=>whnf
   refine bKo rfl ?_;conv=>whnf
   refine nlA rfl ?_;conv=>whnf
   replace h:=bL h
   refine rP h30 h (WkL.refl _) (fun _ h=>?_);conv=>whnf
   refine hK _ _ _ ?_
   refine aC dCo rfl fun K hK=>?_;conv=>whnf
   refine nlA rfl ?_;conv=>whnf
   refine bKo rfl ?_;conv=>whnf
   refine nlA rfl ?_;conv=>whnf
   replace h:=bL h
   refine wR h53 h (WkL.refl _) (fun _ h=>?_);conv=>whnf
   refine hK _ _ _ ?_
   refine aF ?_
   refine aCS rfl h [29,31,33,35,37,39,41,43,45,47] [] [] (fun kl kh ids b s=>⟨ofL ([(266,eB s)]++kl),ofH ([]++kh),b+64⟩) ?_;(conv=>whnf);refine And.intro (fun s h=>cR ?_) (fun k h=>?_)
   ·refine aW fun K1 K2 hK1 hK2=>?_;conv=>whnf
    refine cLk h (fun _ h=>?_) (fun _ h=>?_)
    ·refine hK1 ?_
     refine aC dCo rfl fun K hK=>?_;conv=>whnf
     refine hK _ _ _ ?_
     refine aP ?_
     refine aQ ?_
     replace h:=aO h
     refine aK dCo fun K hK=>?_;conv=>whnf
     refine hK _ ?_
     cases h
     exact Wk.refl _
    refine hK2 ?_
    refine aG ?_
    refine tHn ?_
    refine aC dCo rfl fun K hK=>?_;conv=>whnf
    replace h:=lG h
    replace h:=bL h
    refine dF h36 h (WkL.refl _) (fun _ h=>?_);conv=>whnf
    refine cLk h (fun _ h=>?_) (fun _ h=>?_)<;>(conv=>whnf)
    ·replace h:=bL h
     refine dF h36 h (WkL.refl _) (fun _ h=>?_);conv=>whnf
     refine cLk h (fun _ h=>?_) (fun _ h=>?_)<;>(conv=>whnf)
     ·replace h:=bL h
      refine dF h36 h (WkL.refl _) (fun _ h=>?_);conv=>whnf
      refine cLk h (fun _ h=>?_) (fun _ h=>?_)<;>(conv=>whnf)
      ·replace h:=bL h
       refine dF h36 h (WkL.refl _) (fun _ h=>?_);conv=>whnf
       refine cLk h (fun _ h=>?_) (fun _ h=>?_)<;>(conv=>whnf)
       ·replace h:=bL h
        refine dF h36 h (WkL.refl _) (fun _ h=>?_);conv=>whnf
        refine hK _ _ _ ?_
        refine aP ?_
        replace h:=aO h
        refine aK dCo fun K hK=>?_;conv=>whnf
        refine hK _ ?_
        cases h
        exact Wk.refl _
       refine hK _ _ _ ?_
       refine aP ?_
       replace h:=aO h
       refine aK dCo fun K hK=>?_;conv=>whnf
       refine hK _ ?_
       cases h
       exact Wk.refl _
      refine hK _ _ _ ?_
      refine aP ?_
      replace h:=aO h
      refine aK dCo fun K hK=>?_;conv=>whnf
      refine hK _ ?_
      cases h
      exact Wk.refl _
     refine hK _ _ _ ?_
     refine aP ?_
     replace h:=aO h
     refine aK dCo fun K hK=>?_;conv=>whnf
     refine hK _ ?_
     cases h
     exact Wk.refl _
    refine hK _ _ _ ?_
    refine aP ?_
    replace h:=aO h
    refine aK dCo fun K hK=>?_;conv=>whnf
    refine hK _ ?_
    cases h
    exact Wk.refl _
   refine bY dCo rfl fun K hK=>?_;conv=>whnf
   refine cLk h (fun _ h=>?_) (fun _ h=>?_)<;>(conv=>whnf)
   ·refine hK _ _ _ ?_
    refine tHn ?_
    refine ⟨_,h,?_⟩
    refine bN ?_;conv=>whnf
    exact And.intro rfl (And.intro (aLc (wkr (lsB _)) (aLc (wkr (lsL fun _=>(lsI _ _))) (aLc (wkr (lsL fun _=>(lsI _ _))) (aLc (wkr (lsL fun _=>(lsI _ _))) (aLc (wkr (lsL fun _=>(lsI _ _))) (aLc (wkr (lsL fun _=>(lsI _ _))) (aLc (wkr (lsL fun _=>(lsI _ _))) (aLc (wkr (lsL fun _=>(lsI _ _))) (aLc (wkr (lsL fun _=>(lsI _ _))) (aLc (wkr (lsL fun _=>(lsI _ _))) (aLc (wkr (lsL fun _=>(lsI _ _))) aLn))))))))))) aLn)
   refine cLk h (fun _ h=>?_) (fun _ h=>?_)<;>(conv=>whnf)
   ·refine hK _ _ _ ?_
    refine tHn ?_
    refine ⟨_,h,?_⟩
    refine bN ?_;conv=>whnf
    exact And.intro rfl (And.intro (aLc (wkr (lsB _)) (aLc (wkr (lsL fun _=>(lsI _ _))) (aLc (wkr (lsL fun _=>(lsI _ _))) (aLc (wkr (lsL fun _=>(lsI _ _))) (aLc (wkr (lsL fun _=>(lsI _ _))) (aLc (wkr (lsL fun _=>(lsI _ _))) (aLc (wkr (lsL fun _=>(lsI _ _))) (aLc (wkr (lsL fun _=>(lsI _ _))) (aLc (wkr (lsL fun _=>(lsI _ _))) (aLc (wkr (lsL fun _=>(lsI _ _))) (aLc (wkr (lsL fun _=>(lsI _ _))) aLn))))))))))) aLn)
   refine cLk h (fun _ h=>?_) (fun _ h=>?_)<;>(conv=>whnf)
   ·refine hK _ _ _ ?_
    refine tHn ?_
    refine ⟨_,h,?_⟩
    refine bN ?_;conv=>whnf
    exact And.intro rfl (And.intro (aLc (wkr (lsB _)) (aLc (wkr (lsL fun _=>(lsI _ _))) (aLc (wkr (lsL fun _=>(lsI _ _))) (aLc (wkr (lsL fun _=>(lsI _ _))) (aLc (wkr (lsL fun _=>(lsI _ _))) (aLc (wkr (lsL fun _=>(lsI _ _))) (aLc (wkr (lsL fun _=>(lsI _ _))) (aLc (wkr (lsL fun _=>(lsI _ _))) (aLc (wkr (lsL fun _=>(lsI _ _))) (aLc (wkr (lsL fun _=>(lsI _ _))) (aLc (wkr (lsL fun _=>(lsI _ _))) aLn))))))))))) aLn)
   refine cLk h (fun _ h=>?_) (fun _ h=>?_)<;>(conv=>whnf)
   ·refine hK _ _ _ ?_
    refine tHn ?_
    refine ⟨_,h,?_⟩
    refine bN ?_;conv=>whnf
    exact And.intro rfl (And.intro (aLc (wkr (lsB _)) (aLc (wkr (lsL fun _=>(lsI _ _))) (aLc (wkr (lsL fun _=>(lsI _ _))) (aLc (wkr (lsL fun _=>(lsI _ _))) (aLc (wkr (lsL fun _=>(lsI _ _))) (aLc (wkr (lsL fun _=>(lsI _ _))) (aLc (wkr (lsL fun _=>(lsI _ _))) (aLc (wkr (lsL fun _=>(lsI _ _))) (aLc (wkr (lsL fun _=>(lsI _ _))) (aLc (wkr (lsL fun _=>(lsI _ _))) (aLc (wkr (lsL fun _=>(lsI _ _))) aLn))))))))))) aLn)
   refine hK _ _ _ ?_
   refine tHn ?_
   refine ⟨_,h,?_⟩
   refine bN ?_;conv=>whnf
   exact And.intro rfl (And.intro (aLc (wkr (lsB _)) (aLc (wkr (lsL fun _=>(lsI _ _))) (aLc (wkr (lsL fun _=>(lsI _ _))) (aLc (wkr (lsL fun _=>(lsI _ _))) (aLc (wkr (lsL fun _=>(lsI _ _))) (aLc (wkr (lsL fun _=>(lsI _ _))) (aLc (wkr (lsL fun _=>(lsI _ _))) (aLc (wkr (lsL fun _=>(lsI _ _))) (aLc (wkr (lsL fun _=>(lsI _ _))) (aLc (wkr (lsL fun _=>(lsI _ _))) (aLc (wkr (lsL fun _=>(lsI _ _))) aLn))))))))))) aLn)
  refine bY dCo rfl fun K hK=>?_;conv=>whnf
  refine cLk h (fun _ h=>?_) (fun _ h=>?_)<;>(conv=>whnf)
  ·refine hK _ _ _ ?_
   refine tHn ?_
   refine ⟨_,h,?_⟩
   refine bN ?_;conv=>whnf
   exact And.intro rfl (And.intro (aLc (wkr (lsB _)) (aLc (WkR.ptr (fun _=>rfl)) aLn)) (aLc ⟨some _,rfl,bRc rfl (cKc wkI (cKc (wkr (lsL fun _=>(aI _))) cKn))⟩ aLn))
  refine cLk h (fun _ h=>?_) (fun _ h=>?_)<;>(conv=>whnf)
  ·refine hK _ _ _ ?_
   refine tHn ?_
   refine ⟨_,h,?_⟩
   refine bN ?_;conv=>whnf
   exact And.intro rfl (And.intro (aLc (wkr (lsB _)) (aLc (WkR.ptr (fun _=>rfl)) aLn)) (aLc ⟨some _,rfl,bRc rfl (cKc wkI (cKc (wkr (lsL fun _=>(aI _))) cKn))⟩ aLn))
  refine cLk h (fun _ h=>?_) (fun _ h=>?_)<;>(conv=>whnf)
  ·refine hK _ _ _ ?_
   refine tHn ?_
   refine ⟨_,h,?_⟩
   refine bN ?_;conv=>whnf
   exact And.intro rfl (And.intro (aLc (wkr (lsB _)) (aLc (WkR.ptr (fun _=>rfl)) aLn)) (aLc ⟨some _,rfl,bRc rfl (cKc wkI (cKc (wkr (lsL fun _=>(aI _))) cKn))⟩ aLn))
  refine cLk h (fun _ h=>?_) (fun _ h=>?_)<;>(conv=>whnf)
  ·refine hK _ _ _ ?_
   refine tHn ?_
   refine ⟨_,h,?_⟩
   refine bN ?_;conv=>whnf
   exact And.intro rfl (And.intro (aLc (wkr (lsB _)) (aLc (WkR.ptr (fun _=>rfl)) aLn)) (aLc ⟨some _,rfl,bRc rfl (cKc wkI (cKc (wkr (lsL fun _=>(aI _))) cKn))⟩ aLn))
  refine cLk h (fun _ h=>?_) (fun _ h=>?_)<;>(conv=>whnf)
  ·refine hK _ _ _ ?_
   refine tHn ?_
   refine ⟨_,h,?_⟩
   refine bN ?_;conv=>whnf
   exact And.intro rfl (And.intro (aLc (wkr (lsB _)) (aLc (WkR.ptr (fun _=>rfl)) aLn)) (aLc ⟨some _,rfl,bRc rfl (cKc wkI (cKc (wkr (lsL fun _=>(aI _))) cKn))⟩ aLn))
  refine nlA rfl ?_;conv=>whnf
  refine bKo rfl ?_;conv=>whnf
  refine nlA rfl ?_;conv=>whnf
  refine nlA rfl ?_;conv=>whnf
  refine bKo rfl ?_;conv=>whnf
  refine nlA rfl ?_;conv=>whnf
  replace h:=bL h
  refine pR h26 h (WkL.refl _) (fun _ h=>?_);conv=>whnf
  refine cLk h (fun _ h=>?_) (fun _ h=>?_)<;>(conv=>whnf)
  ·refine hK _ _ _ ?_
   refine tHn ?_
   refine ⟨_,h,?_⟩
   refine bN ?_;conv=>whnf
   exact And.intro rfl (And.intro (aLc (wkr (lsB _)) (aLc (WkR.ptr (fun _=>rfl)) aLn)) (aLc ⟨some _,rfl,bRc rfl (cKc wkI (cKc (wkr (lsL fun _=>(aI _))) cKn))⟩ aLn))
  refine nlA rfl ?_;conv=>whnf
  refine bKo rfl ?_;conv=>whnf
  refine nlA rfl ?_;conv=>whnf
  refine nlA rfl ?_;conv=>whnf
  refine bKo rfl ?_;conv=>whnf
  refine nlA rfl ?_;conv=>whnf
  replace h:=bL h
  refine pR h26 h (WkL.refl _) (fun _ h=>?_);conv=>whnf
  refine cLk h (fun _ h=>?_) (fun _ h=>?_)<;>(conv=>whnf)
  ·refine hK _ _ _ ?_
   refine tHn ?_
   refine ⟨_,h,?_⟩
   refine bN ?_;conv=>whnf
   exact And.intro rfl (And.intro (aLc (wkr (lsB _)) (aLc (WkR.ptr (fun _=>rfl)) aLn)) (aLc ⟨some _,rfl,bRc rfl (cKc wkI (cKc (wkr (lsL fun _=>(aI _))) cKn))⟩ aLn))
  refine cLk h (fun _ h=>?_) (fun _ h=>?_)<;>(conv=>whnf)
  ·refine hK _ _ _ ?_
   refine tHn ?_
   refine ⟨_,h,?_⟩
   refine bN ?_;conv=>whnf
   exact And.intro rfl (And.intro (aLc (wkr (lsB _)) (aLc (WkR.ptr (fun _=>rfl)) aLn)) (aLc ⟨some _,rfl,bRc rfl (cKc wkI (cKc (wkr (lsL fun _=>(aI _))) cKn))⟩ aLn))
  refine cLk h (fun _ h=>?_) (fun _ h=>?_)<;>(conv=>whnf)
  ·refine nlA rfl ?_;conv=>whnf
   refine bKo rfl ?_;conv=>whnf
   refine nlA rfl ?_;conv=>whnf
   replace h:=bL h
   refine yC h49 h (WkL.refl _) (fun _ h=>?_);conv=>whnf
   refine hK _ _ _ ?_
   refine tHn ?_
   refine ⟨_,h,?_⟩
   refine bN ?_;conv=>whnf
   exact And.intro rfl (And.intro (aLc (wkr (lsB _)) (aLc (WkR.ptr (fun _=>rfl)) aLn)) (aLc ⟨some _,rfl,bRc rfl (cKc wkI (cKc (wkr (lsL fun _=>(aI _))) cKn))⟩ aLn))
  refine hK _ _ _ ?_
  refine tHn ?_
  refine ⟨_,h,?_⟩
  refine bN ?_;conv=>whnf
  exact And.intro rfl (And.intro (aLc (wkr (lsB _)) (aLc (WkR.ptr (fun _=>rfl)) aLn)) (aLc ⟨some _,rfl,bRc rfl (cKc wkI (cKc (wkr (lsL fun _=>(aI _))) cKn))⟩ aLn))
 refine nQ dCo cG rfl (by kernel_rfl) fun K hK=>?_;conv=>whnf
 refine nlA rfl ?_;conv=>whnf
 refine bKo rfl ?_;conv=>whnf
 refine nlA rfl ?_;conv=>whnf
 replace h:=bL h
 refine kG h33 h (WkL.refl _) (fun _ h=>?_);conv=>whnf
 refine nlA rfl ?_;conv=>whnf
 refine bKo rfl ?_;conv=>whnf
 refine nlA rfl ?_;conv=>whnf
 replace h:=bL h
 refine qE h42 h (WkL.refl _) (fun _ h=>?_);conv=>whnf
 refine aIp (zC dCo rfl _ _) ?_;conv=>whnf
 refine cLk h (fun _ h=>?_) (fun _ h=>?_)<;>(conv=>whnf)
 ·refine hK _ _ _ ?_
  refine tHn ?_
  refine ⟨_,h,?_⟩
  refine bN ?_;conv=>whnf
  exact And.intro rfl (And.intro (aLc (wkr (lsB _)) (aLc (WkR.ptr (fun _=>rfl)) aLn)) (aLc ⟨some _,rfl,bRc rfl (cKc wkI (cKc (wkr (lsL fun _=>(aI _))) cKn))⟩ aLn))
 refine nlA rfl ?_;conv=>whnf
 refine bKo rfl ?_;conv=>whnf
 refine nlA rfl ?_;conv=>whnf
 replace h:=bL h
 refine rN h34 h (WkL.refl _) (fun _ h=>?_);conv=>whnf
 refine nlA rfl ?_;conv=>whnf
 refine bKo rfl ?_;conv=>whnf
 refine nlA rfl ?_;conv=>whnf
 replace h:=bL h
 refine dV h38 h (WkL.refl _) (fun _ h=>?_);conv=>whnf
 refine aIp (zC dCo rfl _ _) ?_;conv=>whnf
 refine cLk h (fun _ h=>?_) (fun _ h=>?_)<;>(conv=>whnf)
 ·refine hK _ _ _ ?_
  refine tHn ?_
  refine ⟨_,h,?_⟩
  refine bN ?_;conv=>whnf
  exact And.intro rfl (And.intro (aLc (wkr (lsB _)) (aLc (WkR.ptr (fun _=>rfl)) aLn)) (aLc ⟨some _,rfl,bRc rfl (cKc wkI (cKc (wkr (lsL fun _=>(aI _))) cKn))⟩ aLn))
 refine aIp (zC dCo rfl _ _) ?_;conv=>whnf
 refine cLk h (fun _ h=>?_) (fun _ h=>?_)<;>(conv=>whnf)
 ·refine hK _ _ _ ?_
  refine tHn ?_
  refine ⟨_,h,?_⟩
  refine bN ?_;conv=>whnf
  exact And.intro rfl (And.intro (aLc (wkr (lsB _)) (aLc (WkR.ptr (fun _=>rfl)) aLn)) (aLc ⟨some _,rfl,bRc rfl (cKc wkI (cKc (wkr (lsL fun _=>(aI _))) cKn))⟩ aLn))
 replace h:=bL h
 refine dF h36 h (WkL.refl _) (fun _ h=>?_);conv=>whnf
 refine cLk h (fun _ h=>?_) (fun _ h=>?_)<;>(conv=>whnf)
 ·refine hK _ _ _ ?_
  refine tHn ?_
  refine ⟨_,h,?_⟩
  refine bN ?_;conv=>whnf
  exact And.intro rfl (And.intro (aLc (wkr (lsB _)) (aLc (WkR.ptr (fun _=>rfl)) aLn)) (aLc ⟨some _,rfl,bRc rfl (cKc wkI (cKc (wkr (lsL fun _=>(aI _))) cKn))⟩ aLn))
 refine nlA rfl ?_;conv=>whnf
 refine bKo rfl ?_;conv=>whnf
 refine nlA rfl ?_;conv=>whnf
 replace h:=bL h
 refine mT h27 h (WkL.refl _) (fun _ h=>?_);conv=>whnf
 refine nlA rfl ?_;conv=>whnf
 refine bKo rfl ?_;conv=>whnf
 refine nlA rfl ?_;conv=>whnf
 replace h:=bL h
 refine zN h43 h (WkL.refl _) (fun _ h=>?_);conv=>whnf
 refine aIp (zC dCo rfl _ _) ?_;conv=>whnf
 refine cLk h (fun _ h=>?_) (fun _ h=>?_)<;>(conv=>whnf)
 ·refine hK _ _ _ ?_
  refine tHn ?_
  refine ⟨_,h,?_⟩
  refine bN ?_;conv=>whnf
  exact And.intro rfl (And.intro (aLc (wkr (lsB _)) (aLc (WkR.ptr (fun _=>rfl)) aLn)) (aLc ⟨some _,rfl,bRc rfl (cKc wkI (cKc (wkr (lsL fun _=>(aI _))) cKn))⟩ aLn))
 refine nlA rfl ?_;conv=>whnf
 refine bKo rfl ?_;conv=>whnf
 refine nlA rfl ?_;conv=>whnf
 replace h:=bL h
 refine qK h22 h (WkL.refl _) (fun _ h=>?_);conv=>whnf
 refine nlA rfl ?_;conv=>whnf
 refine bKo rfl ?_;conv=>whnf
 refine nlA rfl ?_;conv=>whnf
 replace h:=bL h
 refine zI h44 h (WkL.refl _) (fun _ h=>?_);conv=>whnf
 refine aIp (zC dCo rfl _ _) ?_;conv=>whnf
 refine hK _ _ _ ?_
 refine tHn ?_
 refine ⟨_,h,?_⟩
 refine bN ?_;conv=>whnf
 exact And.intro rfl (And.intro (aLc (wkr (lsB _)) (aLc (WkR.ptr (fun _=>rfl)) aLn)) (aLc ⟨some _,rfl,bRc rfl (cKc wkI (cKc (wkr (lsL fun _=>(aI _))) cKn))⟩ aLn))
theorem lH {T:Tbl} (hT:T 15=aH pZ) {args:List AV} {hp:bH} {id:Nat} {k:AV→Prop} {a0:aE} {a1:List Int} {a2:Int} {a3:Int} {Φ:Bool→Prop} (h:W (gA a0 a1 a2 a3) Φ) (hw:WkL args [bF a0,(eL 1 eI default) a1,eI a2,eI a3]) (hk:∀ y,Φ y→k (eB y)):cH T 15 args hp id k:=by
 obtain ⟨y,e,hy⟩:=dY h
 exact aV hT ⟨a0,a1,a2,a3,rfl,lR e rfl⟩ (by exact (lsB _)) hw (hk y hy)
def nR:List AV→AV→Prop:=fun args r=>∃ a0 a1,args=[eI a0,(eL 2 kT default) a1]∧W (fW a0 a1) fun y=>r=(bF y)
theorem aBn {T:Tbl} (hT:TOk Tryd.prog T) (hpf:cP T PF) (h37:T 37=aH kY):FOk Tryd.prog 17 (aH nR):=by
 refine bM hT hpf Tryd.func17 rfl Tryd.ntmps17 Tryd.results17 (by decide) ?_
 rintro args r ⟨a0,a1,rfl,h⟩
 refine ⟨nle rfl,?_,?_⟩
 ·exact (lsC (lsI _ _) (lsC (lsL fun _=>(aI _)) lsN))
 rw [fW.eq_1] at h
 refine aC dCo rfl fun K hK=>?_;conv=>whnf
 refine hK _ _ _ ?_
 refine aC dCo rfl fun K hK=>?_;conv=>whnf
 replace h:=bL h
 refine dE h37 h (WkL.refl _) (fun _ h=>?_);conv=>whnf
 refine bKo rfl ?_;conv=>whnf
 refine And.intro rfl (And.intro (nle rfl) (And.intro rfl ?_));conv=>whnf
 refine hK _ _ _ ?_
 refine aF ?_
 refine aC dCo rfl fun K hK=>?_;conv=>whnf
 refine hK _ _ _ ?_
 refine aJ ?_
 replace h:=bL h
 refine qU (body:=jK _) rfl h [1,4,5] [4] [5] (fun kl kh ids b s=>⟨ofL ([(6,eI s.1)]++kl),ofH ([(xW ids 0,.cells [eI s.2.N,.lst (.tok (b+0)) 2 s.2.Pairs.length (fun j=>kT (s.2.Pairs.getD j default))]),(b+0,.cells [])]++kh),b+128⟩) ?_;(conv=>whnf);refine And.intro ?_ (fun s m h=>cR ?_)
 ·refine bN ?_;conv=>whnf
  exact And.intro rfl (And.intro (aLc wkI (aLc (wkr (lsL fun _=>(aI _))) (aLc (WkR.ptr (fun _=>rfl)) (aLc (WkR.ptr (fun _=>rfl)) aLn)))) (aLc ⟨some _,rfl,bRc rfl (cKc wkI (cKc (WkR.nil (fun _=>rfl)) cKn))⟩ (aLc ⟨none,rfl,oH⟩ (aLc ⟨some _,rfl,bRc rfl (cKc wkI (cKc (wkr bC) cKn))⟩ aLn))))
 replace h:=bL h;rw [jK.eq_1] at h
 refine aF ?_
 refine aC dCo rfl fun K hK=>?_;conv=>whnf
 replace h:=lG h
 refine cLk h (fun _ h=>?_) (fun _ h=>?_)<;>(conv=>whnf)
 ·refine cLk h (fun _ h=>?_) (fun _ h=>?_)<;>(conv=>whnf)
  ·refine nlA rfl ?_;conv=>whnf
   refine bKo rfl ?_;conv=>whnf
   refine gKo rfl ?_;conv=>whnf
   refine hK _ _ _ ?_
   refine aW fun K1 K2 hK1 hK2=>?_;conv=>whnf
   refine cLk h (fun _ h=>?_) (fun _ h=>?_)
   ·refine hK1 ?_
    refine aG ?_
    refine tHn ?_
    refine aF ?_
    refine aJ ?_
    refine qA dCo cG rfl (by kernel_rfl) fun K hK=>?_;conv=>whnf
    refine dD h fun _ h=>?_;conv=>whnf
    refine And.intro (by decide) ?_;conv=>whnf
    refine gKo rfl ?_;conv=>whnf
    refine nlA rfl ?_;conv=>whnf
    refine bKo rfl ?_;conv=>whnf
    refine gKo rfl ?_;conv=>whnf
    replace h:=bL h
    refine dE h37 h (WkL.refl _) (fun _ h=>?_);conv=>whnf
    refine hK _ _ _ ?_
    refine nQ dCo cG rfl (by kernel_rfl) fun K hK=>?_;conv=>whnf
    refine nlA rfl ?_;conv=>whnf
    refine bKo rfl ?_;conv=>whnf
    refine gKo rfl ?_;conv=>whnf
    refine dD h fun _ h=>?_;conv=>whnf
    refine And.intro (by decide) ?_;conv=>whnf
    refine gKo rfl ?_;conv=>whnf
    refine nlA rfl ?_;conv=>whnf
    refine bKo rfl ?_;conv=>whnf
    refine gKo rfl ?_;conv=>whnf
    replace h:=bL h
    refine dE h37 h (WkL.refl _) (fun _ h=>?_);conv=>whnf
    refine nlA rfl ?_;conv=>whnf
    refine bKo rfl ?_;conv=>whnf
    refine gKo rfl ?_;conv=>whnf
    refine bW h fun _ h=>?_;conv=>whnf
    refine dL (enc:=kT) (d:=default) dCo h rfl rfl rfl ⟨nle rfl,nle rfl,rfl⟩ rfl ⟨⟨rfl,nle rfl⟩,trivial⟩ (fun h=>?_);conv=>whnf
    refine gX (enc:=kT) (d:=default) dCo h (.inl rfl) rfl rfl rfl ⟨rfl,nle rfl,nle rfl,nle rfl,rfl⟩ (fun _=>rfl) (.inr (.inr ⟨_,_,rfl,rfl,rfl⟩)) (fun h=>?_);conv=>whnf
    refine bKo rfl ?_;conv=>whnf
    refine And.intro rfl (And.intro (nle rfl) (And.intro rfl ?_));conv=>whnf
    refine hK _ _ _ ?_
    refine iBn ?_
    refine tHn ?_
    refine bY dCo rfl fun K hK=>?_;conv=>whnf
    refine hK _ _ _ ?_
    refine tHn ?_
    replace h:=bK h
    refine ⟨_,h,?_⟩
    refine bN ?_;conv=>whnf
    exact And.intro rfl (And.intro (aLc wkI (aLc (wkr (lsL fun _=>(aI _))) (aLc (WkR.ptr (fun _=>rfl)) (aLc (WkR.ptr (fun _=>rfl)) aLn)))) (aLc ⟨some _,rfl,bRc rfl (cKc wkI (cKc (WkR.tok (fun _=>rfl) rfl (fun _ _=>Wk.refl _) (fun _=>(aI _))) cKn))⟩ (aLc ⟨some _,rfl,bRc rfl cKn⟩ (aLc ⟨some _,rfl,bRc rfl (cKc wkI (cKc (wkr bC) cKn))⟩ aLn))))
   refine hK2 ?_
   refine bI ?_
   refine aT ?_
   refine aT ?_
   refine aS ?_
   replace h:=cV h
   replace h:=cU h
   refine tHn ?_
   refine aC dCo rfl fun K hK=>?_;conv=>whnf
   refine nlA rfl ?_;conv=>whnf
   refine bKo rfl ?_;conv=>whnf
   refine nlA rfl ?_;conv=>whnf
   refine bKo rfl ?_;conv=>whnf
   refine And.intro rfl (And.intro (nle rfl) (And.intro rfl ?_));conv=>whnf
   refine hK _ _ _ ?_
   refine aP ?_
   replace h:=aO h
   refine aK dCo fun K hK=>?_;conv=>whnf
   refine nlA rfl ?_;conv=>whnf
   refine bKo rfl ?_;conv=>whnf
   refine nlA rfl ?_;conv=>whnf
   refine hK _ ?_
   cases h
   exact (iA (aD (Wk.refl _) (aD cD bE)))
  refine hK _ _ _ ?_
  refine aW fun K1 K2 hK1 hK2=>?_;conv=>whnf
  refine hK2 ?_
  replace h:=rS h
  refine bI ?_
  refine aT ?_
  refine aT ?_
  refine aS ?_
  replace h:=cV h
  replace h:=cU h
  refine tHn ?_
  refine aC dCo rfl fun K hK=>?_;conv=>whnf
  refine nlA rfl ?_;conv=>whnf
  refine bKo rfl ?_;conv=>whnf
  refine nlA rfl ?_;conv=>whnf
  refine bKo rfl ?_;conv=>whnf
  refine And.intro rfl (And.intro (nle rfl) (And.intro rfl ?_));conv=>whnf
  refine hK _ _ _ ?_
  refine aP ?_
  replace h:=aO h
  refine aK dCo fun K hK=>?_;conv=>whnf
  refine nlA rfl ?_;conv=>whnf
  refine bKo rfl ?_;conv=>whnf
  refine nlA rfl ?_;conv=>whnf
  refine hK _ ?_
  cases h
  exact (iA (aD (Wk.refl _) (aD cD bE)))
 refine hK _ _ _ ?_
 refine aW fun K1 K2 hK1 hK2=>?_;conv=>whnf
 refine hK2 ?_
 replace h:=rS h
 refine bI ?_
 refine aT ?_
 refine aT ?_
 refine aS ?_
 replace h:=cV h
 replace h:=cU h
 refine tHn ?_
 refine aC dCo rfl fun K hK=>?_;conv=>whnf
 refine nlA rfl ?_;conv=>whnf
 refine bKo rfl ?_;conv=>whnf
 refine nlA rfl ?_;conv=>whnf
 refine bKo rfl ?_;conv=>whnf
 refine And.intro rfl (And.intro (nle rfl) (And.intro rfl ?_));conv=>whnf
 refine hK _ _ _ ?_
 refine aP ?_
 replace h:=aO h
 refine aK dCo fun K hK=>?_;conv=>whnf
 refine nlA rfl ?_;conv=>whnf
 refine bKo rfl ?_;conv=>whnf
 refine nlA rfl ?_;conv=>whnf
 refine hK _ ?_
 cases h
 exact (iA (aD (Wk.refl _) (aD cD bE)))
theorem yS {T:Tbl} (hT:T 17=aH nR) {args:List AV} {hp:bH} {id:Nat} {k:AV→bH→Prop} {a0:Int} {a1:List (Int×Int)} {Φ:aE→Prop} (h:W (fW a0 a1) Φ) (hw:WkL args [eI a0,(eL 2 kT default) a1]) (hk:∀ y,Φ y→k (bF y) hp):vM T 17 args hp id k:=by
 obtain ⟨y,e,hy⟩:=dY h
 exact yI hw (by rw [hT];exact ⟨⟨a0,a1,rfl,lR e rfl⟩,bT _,rfl⟩) (hk y hy)
theorem aKW:TOk Tryd.prog T0∧cP T0 PF:=⟨aRb _,aMW _⟩
def aS1:Tbl:=ext T0 69 (aH iU)
theorem aQg:FOk Tryd.prog 69 (aH iU):=zY aKW.1 aKW.2
theorem aDj:TOk Tryd.prog aS1∧cP aS1 PF:=⟨bP aKW.1 aQg,bG aKW.2 fun _=>⟨_,rfl⟩⟩
def aSS:Tbl:=ext aS1 85 (aH eA)
theorem aPn:FOk Tryd.prog 85 (aH eA):=tR aDj.1 aDj.2 rfl
theorem aDR:TOk Tryd.prog aSS∧cP aSS PF:=⟨bP aDj.1 aPn,bG aDj.2 fun _=>⟨_,rfl⟩⟩
def aSm:Tbl:=ext aSS 68 (aH eG)
theorem aPJ:FOk Tryd.prog 68 (aH eG):=sL aDR.1 aDR.2 rfl
theorem aEQ:TOk Tryd.prog aSm∧cP aSm PF:=⟨bP aDR.1 aPJ,bG aDR.2 fun _=>⟨_,rfl⟩⟩
def aRX:Tbl:=ext aSm 33 (aH iD)
theorem aRh:FOk Tryd.prog 33 (aH iD):=aBP aEQ.1 aEQ.2 rfl
theorem aC3:TOk Tryd.prog aRX∧cP aRX PF:=⟨bP aEQ.1 aRh,bG aEQ.2 fun _=>⟨_,rfl⟩⟩
def aSR:Tbl:=ext aRX 79 (aH oF)
theorem aPi:FOk Tryd.prog 79 (aH oF):=aBI aC3.1 aC3.2
theorem aEO:TOk Tryd.prog aSR∧cP aSR PF:=⟨bP aC3.1 aPi,bG aC3.2 fun _=>⟨_,rfl⟩⟩
def aRV:Tbl:=ext aSR 54 (aH dJ)
theorem aPK:FOk Tryd.prog 54 (aH dJ):=aDn aEO.1 aEO.2 rfl rfl
theorem aEx:TOk Tryd.prog aRV∧cP aRV PF:=⟨bP aEO.1 aPK,bG aEO.2 fun _=>⟨_,rfl⟩⟩
def aSZ:Tbl:=ext aRV 81 (itR Tryd.prog (fun x=>[Value.int .i64 x]) iZ)
theorem aPp:FOk Tryd.prog 81 (itR Tryd.prog (fun x=>[Value.int .i64 x]) iZ):=xN aEx.1 aEx.2
theorem aDp:TOk Tryd.prog aSZ∧cP aSZ PF:=⟨bP aEx.1 aPp,bG aEx.2 (fun h=>by cases h)⟩
def aSl:Tbl:=ext aSZ 80 (aHw wG rO fN)
theorem aRe:FOk Tryd.prog 80 (aHw wG rO fN):=uV aDp.1 aDp.2 rfl
theorem aC8:TOk Tryd.prog aSl∧cP aSl PF:=⟨bP aDp.1 aRe,bG aDp.2 (fun h=>by cases h)⟩
def aRE:Tbl:=ext aSl 55 (aHw wG rO gV)
theorem aRk:FOk Tryd.prog 55 (aHw wG rO gV):=vR aC8.1 aC8.2 rfl
theorem aDS:TOk Tryd.prog aRE∧cP aRE PF:=⟨bP aC8.1 aRk,bG aC8.2 (fun h=>by cases h)⟩
def aR9:Tbl:=ext aRE 56 (aH gR)
theorem aPZ:FOk Tryd.prog 56 (aH gR):=zT aDS.1 aDS.2
theorem aEl:TOk Tryd.prog aR9∧cP aR9 PF:=⟨bP aDS.1 aPZ,bG aDS.2 fun _=>⟨_,rfl⟩⟩
def aSY:Tbl:=ext aR9 18 (aH iR)
theorem aOW:FOk Tryd.prog 18 (aH iR):=zV aEl.1 aEl.2 rfl rfl rfl
theorem aC6:TOk Tryd.prog aSY∧cP aSY PF:=⟨bP aEl.1 aOW,bG aEl.2 fun _=>⟨_,rfl⟩⟩
def aSv:Tbl:=ext aSY 57 (aH mN)
theorem aOR:FOk Tryd.prog 57 (aH mN):=aDY aC6.1 aC6.2
theorem aDf:TOk Tryd.prog aSv∧cP aSv PF:=⟨bP aC6.1 aOR,bG aC6.2 fun _=>⟨_,rfl⟩⟩
def aSB:Tbl:=ext aSv 19 (aH oT)
theorem aPs:FOk Tryd.prog 19 (aH oT):=aEp aDf.1 aDf.2 rfl rfl
theorem aEY:TOk Tryd.prog aSB∧cP aSB PF:=⟨bP aDf.1 aPs,bG aDf.2 fun _=>⟨_,rfl⟩⟩
def aRT:Tbl:=ext aSB 20 (aH mX)
theorem aO6:FOk Tryd.prog 20 (aH mX):=aCm aEY.1 aEY.2 rfl rfl rfl
theorem aEf:TOk Tryd.prog aRT∧cP aRT PF:=⟨bP aEY.1 aO6,bG aEY.2 fun _=>⟨_,rfl⟩⟩
def aR3:Tbl:=ext aRT 22 (aH lW)
theorem aQq:FOk Tryd.prog 22 (aH lW):=aA9 aEf.1 aEf.2 rfl
theorem aDc:TOk Tryd.prog aR3∧cP aR3 PF:=⟨bP aEf.1 aQq,bG aEf.2 fun _=>⟨_,rfl⟩⟩
def aSA:Tbl:=ext aR3 58 (aH lZ)
theorem aQR:FOk Tryd.prog 58 (aH lZ):=aA6 aDc.1 aDc.2
theorem aE4:TOk Tryd.prog aSA∧cP aSA PF:=⟨bP aDc.1 aQR,bG aDc.2 fun _=>⟨_,rfl⟩⟩
def aRQ:Tbl:=ext aSA 24 (aH nF)
theorem aOM:FOk Tryd.prog 24 (aH nF):=aCd aE4.1 aE4.2 rfl rfl
theorem aDs:TOk Tryd.prog aRQ∧cP aRQ PF:=⟨bP aE4.1 aOM,bG aE4.2 fun _=>⟨_,rfl⟩⟩
def aRu:Tbl:=ext aRQ 25 (aH mE)
theorem aPD:FOk Tryd.prog 25 (aH mE):=aBm aDs.1 aDs.2 rfl rfl
theorem aDI:TOk Tryd.prog aRu∧cP aRu PF:=⟨bP aDs.1 aPD,bG aDs.2 fun _=>⟨_,rfl⟩⟩
def aRZ:Tbl:=ext aRu 26 (aH oR)
theorem aPI:FOk Tryd.prog 26 (aH oR):=aDg aDI.1 aDI.2
theorem aEM:TOk Tryd.prog aRZ∧cP aRZ PF:=⟨bP aDI.1 aPI,bG aDI.2 fun _=>⟨_,rfl⟩⟩
def aSK:Tbl:=ext aRZ 27 (aH mA)
theorem aQy:FOk Tryd.prog 27 (aH mA):=aB0 aEM.1 aEM.2 rfl
theorem aEU:TOk Tryd.prog aSK∧cP aSK PF:=⟨bP aEM.1 aQy,bG aEM.2 fun _=>⟨_,rfl⟩⟩
def aS0:Tbl:=ext aSK 28 (aH lU)
theorem aPf:FOk Tryd.prog 28 (aH lU):=aBE aEU.1 aEU.2 rfl rfl
theorem aDQ:TOk Tryd.prog aS0∧cP aS0 PF:=⟨bP aEU.1 aPf,bG aEU.2 fun _=>⟨_,rfl⟩⟩
def aSb:Tbl:=ext aS0 59 (wS (vQ 10))
theorem aQK:FOk Tryd.prog 59 (wS (vQ 10)):=aN8 aDQ.1 aDQ.2
theorem aDu:TOk Tryd.prog aSb∧cP aSb PF:=⟨bP aDQ.1 aQK,bG aDQ.2 (fun h=>by cases h)⟩
def aRy:Tbl:=ext aSb 60 (aCF 1 eI default)
theorem aPc:FOk Tryd.prog 60 (aCF 1 eI default):=xI aDu.1 aDu.2
theorem aEF:TOk Tryd.prog aRy∧cP aRy PF:=⟨bP aDu.1 aPc,bG aDu.2 (fun h=>by cases h)⟩
def aSO:Tbl:=ext aRy 29 (aH nL)
theorem aPG:FOk Tryd.prog 29 (aH nL):=aCr aEF.1 aEF.2 rfl rfl rfl
theorem aEH:TOk Tryd.prog aSO∧cP aSO PF:=⟨bP aEF.1 aPG,bG aEF.2 fun _=>⟨_,rfl⟩⟩
def aSk:Tbl:=ext aSO 87 (aH dS)
theorem aPA:FOk Tryd.prog 87 (aH dS):=rY aEH.1 aEH.2
theorem aD7:TOk Tryd.prog aSk∧cP aSk PF:=⟨bP aEH.1 aPA,bG aEH.2 fun _=>⟨_,rfl⟩⟩
def aR7:Tbl:=ext aSk 82 (aH eP)
theorem aQp:FOk Tryd.prog 82 (aH eP):=sY aD7.1 aD7.2 rfl
theorem aDa:TOk Tryd.prog aR7∧cP aR7 PF:=⟨bP aD7.1 aQp,bG aD7.2 fun _=>⟨_,rfl⟩⟩
def aSN:Tbl:=ext aR7 61 (aH oB)
theorem aQf:FOk Tryd.prog 61 (aH oB):=aA5 aDa.1 aDa.2 rfl
theorem aEN:TOk Tryd.prog aSN∧cP aSN PF:=⟨bP aDa.1 aQf,bG aDa.2 fun _=>⟨_,rfl⟩⟩
def aRH:Tbl:=ext aSN 62 (aH qX)
theorem aQt:FOk Tryd.prog 62 (aH qX):=aDT aEN.1 aEN.2
theorem aDF:TOk Tryd.prog aRH∧cP aRH PF:=⟨bP aEN.1 aQt,bG aEN.2 fun _=>⟨_,rfl⟩⟩
def aRB:Tbl:=ext aRH 83 (aH mS)
theorem aQA:FOk Tryd.prog 83 (aH mS):=aAD aDF.1 aDF.2
theorem aET:TOk Tryd.prog aRB∧cP aRB PF:=⟨bP aDF.1 aQA,bG aDF.2 fun _=>⟨_,rfl⟩⟩
def aRw:Tbl:=ext aRB 63 (aH iI)
theorem aO1:FOk Tryd.prog 63 (aH iI):=zD aET.1 aET.2 rfl
theorem aEL:TOk Tryd.prog aRw∧cP aRw PF:=⟨bP aET.1 aO1,bG aET.2 fun _=>⟨_,rfl⟩⟩
def aRJ:Tbl:=ext aRw 64 (aH gT)
theorem aQ5:FOk Tryd.prog 64 (aH gT):=vS aEL.1 aEL.2 rfl
theorem aEu:TOk Tryd.prog aRJ∧cP aRJ PF:=⟨bP aEL.1 aQ5,bG aEL.2 fun _=>⟨_,rfl⟩⟩
def aSy:Tbl:=ext aRJ 30 (aH iK)
theorem aPk:FOk Tryd.prog 30 (aH iK):=yT aEu.1 aEu.2 rfl rfl rfl rfl rfl
theorem aEs:TOk Tryd.prog aSy∧cP aSy PF:=⟨bP aEu.1 aPk,bG aEu.2 fun _=>⟨_,rfl⟩⟩
def aRS:Tbl:=ext aSy 65 (wS (rW 10))
theorem aP9:FOk Tryd.prog 65 (wS (rW 10)):=aJP aEs.1 aEs.2
theorem aDo:TOk Tryd.prog aRS∧cP aRS PF:=⟨bP aEs.1 aP9,bG aEs.2 (fun h=>by cases h)⟩
def aSG:Tbl:=ext aRS 31 (aH nI)
theorem aQi:FOk Tryd.prog 31 (aH nI):=aCg aDo.1 aDo.2 rfl rfl rfl
theorem aDK:TOk Tryd.prog aSG∧cP aSG PF:=⟨bP aDo.1 aQi,bG aDo.2 fun _=>⟨_,rfl⟩⟩
def aSQ:Tbl:=ext aSG 84 (wS aBM)
theorem aQd:FOk Tryd.prog 84 (wS aBM):=aDy aDK.1 aDK.2
theorem aC1:TOk Tryd.prog aSQ∧cP aSQ PF:=⟨bP aDK.1 aQd,bG aDK.2 (fun h=>by cases h)⟩
def aR1:Tbl:=ext aSQ 67 (wS sE)
theorem aQw:FOk Tryd.prog 67 (wS sE):=aGS aC1.1 aC1.2 rfl
theorem aDm:TOk Tryd.prog aR1∧cP aR1 PF:=⟨bP aC1.1 aQw,bG aC1.2 (fun h=>by cases h)⟩
def aR5:Tbl:=ext aR1 66 (wS (oI 10))
theorem aPV:FOk Tryd.prog 66 (wS (oI 10)):=aJ4 aDm.1 aDm.2 rfl
theorem aEc:TOk Tryd.prog aR5∧cP aR5 PF:=⟨bP aDm.1 aPV,bG aDm.2 (fun h=>by cases h)⟩
def aST:Tbl:=ext aR5 32 (aH nK)
theorem aQo:FOk Tryd.prog 32 (aH nK):=aCo aEc.1 aEc.2 rfl rfl rfl
theorem aC0:TOk Tryd.prog aST∧cP aST PF:=⟨bP aEc.1 aQo,bG aEc.2 fun _=>⟨_,rfl⟩⟩
def aSD:Tbl:=ext aST 34 (aH mZ)
theorem aQ0:FOk Tryd.prog 34 (aH mZ):=aB6 aC0.1 aC0.2 rfl
theorem aEK:TOk Tryd.prog aSD∧cP aSD PF:=⟨bP aC0.1 aQ0,bG aC0.2 fun _=>⟨_,rfl⟩⟩
def aRG:Tbl:=ext aSD 36 (aH oM)
theorem aQ9:FOk Tryd.prog 36 (aH oM):=aEk aEK.1 aEK.2
theorem aER:TOk Tryd.prog aRG∧cP aRG PF:=⟨bP aEK.1 aQ9,bG aEK.2 fun _=>⟨_,rfl⟩⟩
def aRA:Tbl:=ext aRG 11 (aH qV)
theorem aQ4:FOk Tryd.prog 11 (aH qV):=aD3 aER.1 aER.2 rfl rfl rfl rfl rfl rfl rfl rfl rfl rfl rfl rfl rfl rfl rfl rfl
theorem aDB:TOk Tryd.prog aRA∧cP aRA PF:=⟨bP aER.1 aQ4,bG aER.2 fun _=>⟨_,rfl⟩⟩
def aR6:Tbl:=ext aRA 37 (aH kY)
theorem aPo:FOk Tryd.prog 37 (aH kY):=aEA aDB.1 aDB.2
theorem aEW:TOk Tryd.prog aR6∧cP aR6 PF:=⟨bP aDB.1 aPo,bG aDB.2 fun _=>⟨_,rfl⟩⟩
def aRx:Tbl:=ext aR6 17 (aHw pK kN pI)
theorem aQP:FOk Tryd.prog 17 (aHw pK kN pI):=aB2 aEW.1 aEW.2 rfl
theorem aD2:TOk Tryd.prog aRx∧cP aRx PF:=⟨bP aEW.1 aQP,bG aEW.2 (fun h=>by cases h)⟩
def aSP:Tbl:=ext aRx 12 (aH qP)
theorem aOC:FOk Tryd.prog 12 (aH qP):=aEz aD2.1 aD2.2 rfl rfl
theorem aEa:TOk Tryd.prog aSP∧cP aSP PF:=⟨bP aD2.1 aOC,bG aD2.2 fun _=>⟨_,rfl⟩⟩
def aSs:Tbl:=ext aSP 13 (aH rA)
theorem aPt:FOk Tryd.prog 13 (aH rA):=aD8 aEa.1 aEa.2
theorem aDL:TOk Tryd.prog aSs∧cP aSs PF:=⟨bP aEa.1 aPt,bG aEa.2 fun _=>⟨_,rfl⟩⟩
def aSj:Tbl:=ext aSs 71 (aH mU)
theorem aQM:FOk Tryd.prog 71 (aH mU):=aCf aDL.1 aDL.2
theorem aDi:TOk Tryd.prog aSj∧cP aSj PF:=⟨bP aDL.1 aQM,bG aDL.2 fun _=>⟨_,rfl⟩⟩
def aSW:Tbl:=ext aSj 39 (aH cI)
theorem aPr:FOk Tryd.prog 39 (aH cI):=aBt aDi.1 aDi.2 rfl
theorem aEX:TOk Tryd.prog aSW∧cP aSW PF:=⟨bP aDi.1 aPr,bG aDi.2 fun _=>⟨_,rfl⟩⟩
def aSp:Tbl:=ext aSW 42 (aH jD)
theorem aPg:FOk Tryd.prog 42 (aH jD):=aBL aEX.1 aEX.2
theorem aEg:TOk Tryd.prog aSp∧cP aSp PF:=⟨bP aEX.1 aPg,bG aEX.2 fun _=>⟨_,rfl⟩⟩
def aR0:Tbl:=ext aSp 38 (aH dM)
theorem aP2:FOk Tryd.prog 38 (aH dM):=aCc aEg.1 aEg.2 rfl rfl
theorem aEi:TOk Tryd.prog aR0∧cP aR0 PF:=⟨bP aEg.1 aP2,bG aEg.2 fun _=>⟨_,rfl⟩⟩
def aSn:Tbl:=ext aR0 40 (aH oK)
theorem aPO:FOk Tryd.prog 40 (aH oK):=aFn aEi.1 aEi.2
theorem aDJ:TOk Tryd.prog aSn∧cP aSn PF:=⟨bP aEi.1 aPO,bG aEi.2 fun _=>⟨_,rfl⟩⟩
def aRF:Tbl:=ext aSn 14 (aH kX)
theorem aOY:FOk Tryd.prog 14 (aH kX):=aEB aDJ.1 aDJ.2 rfl rfl rfl
theorem aEC:TOk Tryd.prog aRF∧cP aRF PF:=⟨bP aDJ.1 aOY,bG aDJ.2 fun _=>⟨_,rfl⟩⟩
def aSg:Tbl:=ext aRF 72 (aH (jA 12))
theorem aQL:FOk Tryd.prog 72 (aH (jA 12)):=aCn aEC.1 aEC.2 rfl
theorem aDE:TOk Tryd.prog aSg∧cP aSg PF:=⟨bP aEC.1 aQL,bG aEC.2 fun _=>⟨_,rfl⟩⟩
def aSF:Tbl:=ext aSg 41 (aH pN)
theorem aQQ:FOk Tryd.prog 41 (aH pN):=aB1 aDE.1 aDE.2 rfl rfl rfl
theorem aDM:TOk Tryd.prog aSF∧cP aSF PF:=⟨bP aDE.1 aQQ,bG aDE.2 fun _=>⟨_,rfl⟩⟩
def aSJ:Tbl:=ext aSF 43 (aH nZ)
theorem aPN:FOk Tryd.prog 43 (aH nZ):=aBU aDM.1 aDM.2 rfl rfl
theorem aDx:TOk Tryd.prog aSJ∧cP aSJ PF:=⟨bP aDM.1 aPN,bG aDM.2 fun _=>⟨_,rfl⟩⟩
def aRD:Tbl:=ext aSJ 44 (aH oD)
theorem aQx:FOk Tryd.prog 44 (aH oD):=aBh aDx.1 aDx.2 rfl rfl
theorem aDH:TOk Tryd.prog aRD∧cP aRD PF:=⟨bP aDx.1 aQx,bG aDx.2 fun _=>⟨_,rfl⟩⟩
def aRP:Tbl:=ext aRD 73 (aH lV)
theorem aOG:FOk Tryd.prog 73 (aH lV):=aBo aDH.1 aDH.2
theorem aEG:TOk Tryd.prog aRP∧cP aRP PF:=⟨bP aDH.1 aOG,bG aDH.2 fun _=>⟨_,rfl⟩⟩
def aRR:Tbl:=ext aRP 45 (aH pE)
theorem aPF:FOk Tryd.prog 45 (aH pE):=aB3 aEG.1 aEG.2 rfl rfl rfl
theorem aEI:TOk Tryd.prog aRR∧cP aRR PF:=⟨bP aEG.1 aPF,bG aEG.2 fun _=>⟨_,rfl⟩⟩
def aSa:Tbl:=ext aRR 46 (aH nX)
theorem aQC:FOk Tryd.prog 46 (aH nX):=aBc aEI.1 aEI.2 rfl rfl rfl
theorem aEw:TOk Tryd.prog aSa∧cP aSa PF:=⟨bP aEI.1 aQC,bG aEI.2 fun _=>⟨_,rfl⟩⟩
def aSx:Tbl:=ext aSa 74 (aH (jC 12))
theorem aPR:FOk Tryd.prog 74 (aH (jC 12)):=aCk aEw.1 aEw.2
theorem aCZ:TOk Tryd.prog aSx∧cP aSx PF:=⟨bP aEw.1 aPR,bG aEw.2 fun _=>⟨_,rfl⟩⟩
def aSU:Tbl:=ext aSx 47 (aH pC)
theorem aQz:FOk Tryd.prog 47 (aH pC):=aCi aCZ.1 aCZ.2 rfl rfl rfl
theorem aC5:TOk Tryd.prog aSU∧cP aSU PF:=⟨bP aCZ.1 aQz,bG aCZ.2 fun _=>⟨_,rfl⟩⟩
def aSu:Tbl:=ext aSU 75 (aH (jB 12))
theorem aQG:FOk Tryd.prog 75 (aH (jB 12)):=aB9 aC5.1 aC5.2
theorem aC7:TOk Tryd.prog aSu∧cP aSu PF:=⟨bP aC5.1 aQG,bG aC5.2 fun _=>⟨_,rfl⟩⟩
def aSi:Tbl:=ext aSu 48 (aH pT)
theorem aOD:FOk Tryd.prog 48 (aH pT):=aB7 aC7.1 aC7.2 rfl rfl rfl
theorem aEj:TOk Tryd.prog aSi∧cP aSi PF:=⟨bP aC7.1 aOD,bG aC7.2 fun _=>⟨_,rfl⟩⟩
def aRr:Tbl:=ext aSi 49 (aH mR)
theorem aOZ:FOk Tryd.prog 49 (aH mR):=aAA aEj.1 aEj.2 rfl
theorem aD4:TOk Tryd.prog aRr∧cP aRr PF:=⟨bP aEj.1 aOZ,bG aEj.2 fun _=>⟨_,rfl⟩⟩
def aR8:Tbl:=ext aRr 50 (aH lK)
theorem aQl:FOk Tryd.prog 50 (aH lK):=zS aD4.1 aD4.2 rfl rfl
theorem aEZ:TOk Tryd.prog aR8∧cP aR8 PF:=⟨bP aD4.1 aQl,bG aD4.2 fun _=>⟨_,rfl⟩⟩
def aSc:Tbl:=ext aR8 51 (aH oE)
theorem aQs:FOk Tryd.prog 51 (aH oE):=aBB aEZ.1 aEZ.2 rfl rfl
theorem aD5:TOk Tryd.prog aSc∧cP aSc PF:=⟨bP aEZ.1 aQs,bG aEZ.2 fun _=>⟨_,rfl⟩⟩
def aSC:Tbl:=ext aSc 76 (aH (iY 12))
theorem aQv:FOk Tryd.prog 76 (aH (iY 12)):=aCp aD5.1 aD5.2
theorem aD1:TOk Tryd.prog aSC∧cP aSC PF:=⟨bP aD5.1 aQv,bG aD5.2 fun _=>⟨_,rfl⟩⟩
def aRC:Tbl:=ext aSC 52 (aH pX)
theorem aPS:FOk Tryd.prog 52 (aH pX):=aCq aD1.1 aD1.2 rfl rfl rfl
theorem aEv:TOk Tryd.prog aRC∧cP aRC PF:=⟨bP aD1.1 aPS,bG aD1.2 fun _=>⟨_,rfl⟩⟩
def aSw:Tbl:=ext aRC 77 (aH nW)
theorem aO7:FOk Tryd.prog 77 (aH nW):=aBY aEv.1 aEv.2
theorem aDe:TOk Tryd.prog aSw∧cP aSw PF:=⟨bP aEv.1 aO7,bG aEv.2 fun _=>⟨_,rfl⟩⟩
def aSo:Tbl:=ext aSw 78 (aH oY)
theorem aOH:FOk Tryd.prog 78 (aH oY):=aCb aDe.1 aDe.2
theorem aC9:TOk Tryd.prog aSo∧cP aSo PF:=⟨bP aDe.1 aOH,bG aDe.2 fun _=>⟨_,rfl⟩⟩
def aSX:Tbl:=ext aSo 53 (aH kE)
theorem aOE:FOk Tryd.prog 53 (aH kE):=yV aC9.1 aC9.2 rfl rfl rfl rfl
theorem aDl:TOk Tryd.prog aSX∧cP aSX PF:=⟨bP aC9.1 aOE,bG aC9.2 fun _=>⟨_,rfl⟩⟩
def aSh:Tbl:=ext aSX 15 (aH pZ)
theorem aRa:FOk Tryd.prog 15 (aH pZ):=aCj aDl.1 aDl.2 rfl rfl rfl rfl rfl rfl rfl rfl rfl rfl rfl rfl rfl rfl rfl rfl rfl rfl rfl rfl rfl rfl rfl rfl rfl rfl rfl rfl rfl rfl rfl
theorem aDU:TOk Tryd.prog aSh∧cP aSh PF:=⟨bP aDl.1 aRa,bG aDl.2 fun _=>⟨_,rfl⟩⟩
def aRv:Tbl:=ext aSh 16 (aH qQ)
theorem aPH:FOk Tryd.prog 16 (aH qQ):=aDh aDU.1 aDU.2 rfl
theorem aD0:TOk Tryd.prog aRv∧cP aRv PF:=⟨bP aDU.1 aPH,bG aDU.2 fun _=>⟨_,rfl⟩⟩
def aO2:Tbl:=ext aRv 17 (aH nR)
theorem aOj:FOk Tryd.prog 17 (aH nR):=aBn aD0.1 aD0.2 rfl
theorem aHi:TOk Tryd.prog aO2∧cP aO2 PF:=⟨bP aD0.1 aOj,bG aD0.2 (fun h=>by cases h)⟩
theorem aMk:Opn Tryd.prog 3 eI okI:=aQD Tryd.underlying3
theorem aP0:aMG Tryd.prog 3 eI:=.inr ⟨by rfl,fun _=>⟨rfl,rfl⟩⟩
theorem aLY:OpV Tryd.prog 3 eI okI:=aFI aMk aP0 fun _=>aN2 Tryd.underlying3
def aGV (x:Int×Int):Prop:=okI x.1∧okI x.2
theorem aR4:Opn Tryd.prog 46 kT aGV:=by
 refine aG8 (β:=Int×Int×Unit) (fs:=[(3,0),(3,1)]) Tryd.underlying46 (by kernel_rfl) (by kernel_rfl) (sU (sz:=1) aMk (by kernel_rfl) rfl (sU (sz:=1) aMk (by kernel_rfl) rfl aDW)) (fun p=>(p.1,p.2.1)) (fun _=>rfl) ?_
 intro p h
 exact ⟨h.1,h.2.1⟩
theorem aQj:aMG Tryd.prog 46 kT:=.inl ⟨by rfl,fun _=>rfl⟩
theorem aQ3:Opn Tryd.prog 22 (eL 2 kT default) (okL aGV):=aHJ Tryd.underlying22 (by kernel_rfl) (by decide) aR4 aQj
theorem aOJ:aMG Tryd.prog 22 (eL 2 kT default):=.inr ⟨by rfl,fun _=>⟨rfl,rfl⟩⟩
theorem aON:OpV Tryd.prog 22 (eL 2 kT default) (okL aGV):=aFI aQ3 aOJ fun _=>aF3 Tryd.underlying22
def aNn (x:Int×Int×Int):Prop:=okI x.1∧okI x.2.1∧okI x.2.2
theorem aRK:Opn Tryd.prog 23 aOz aNn:=by
 refine aG8 (β:=Int×Int×Int×Unit) (fs:=[(3,0),(3,1),(3,2)]) Tryd.underlying23 (by kernel_rfl) (by kernel_rfl) (sU (sz:=1) aMk (by kernel_rfl) rfl (sU (sz:=1) aMk (by kernel_rfl) rfl (sU (sz:=1) aMk (by kernel_rfl) rfl aDW))) (fun p=>(p.1,p.2.1,p.2.2.1)) (fun _=>rfl) ?_
 intro p h
 exact ⟨h.1,h.2.1,h.2.2.1⟩
theorem aPe:aMG Tryd.prog 23 aOz:=.inl ⟨by rfl,fun _=>rfl⟩
theorem aPC:OpV Tryd.prog 23 aOz aNn:=aFI aRK aPe (fun h=>by cases (show some true=some false from h))
def aC4 (x:aE):Prop:=okI x.N∧(okL aGV) x.Pairs
theorem aRU:Opn Tryd.prog 25 bF aC4:=by
 refine aJh (β:=Int×(List (Int×Int))×Unit) (fs:=[(3,0),(22,1)]) Tryd.underlying25 rfl (by kernel_rfl) (sU (sz:=1) aMk (by kernel_rfl) rfl (sU (sz:=1) aQ3 (by kernel_rfl) rfl aDW)) (fun p=>⟨p.1,p.2.1⟩) (fun _=>rfl) ?_
 intro p h
 exact ⟨h.1,h.2.1⟩
theorem aQc:aMG Tryd.prog 25 bF:=.inl ⟨by rfl,fun _=>rfl⟩
theorem aQn:OpV Tryd.prog 25 bF aC4:=aFI aRU aQc (fun h=>by cases (show some true=some false from h))
theorem aSM:Opn Tryd.prog 26 (eL 1 eI default) (okL okI):=aHJ Tryd.underlying26 (by kernel_rfl) (by decide) aMk aP0
theorem aQ1:aMG Tryd.prog 26 (eL 1 eI default):=.inr ⟨by rfl,fun _=>⟨rfl,rfl⟩⟩
theorem aPQ:OpV Tryd.prog 26 (eL 1 eI default) (okL okI):=aFI aSM aQ1 fun _=>aF3 Tryd.underlying26
theorem sD {a:Nat} (h:a<4611686018427387904):(BitVec.ofInt IntKind.i64.bits (a:Int)).toNat=a:=by
 show (BitVec.ofInt 64 (a:Int)).toNat=a
 rw [BitVec.toNat_ofInt,Int.emod_eq_of_lt (by omega) (by omega)];rfl
theorem aQh {a b:Nat} (ha:a<4611686018427387904) (hb:b<4611686018427387904):aAo .i64 (a:Int) (b:Int)=((a&&&b:Nat):Int):=by
 show IntKind.i64.wrap _=_
 rw [BitVec.toNat_and,sD ha,sD hb]
 have:a&&&b≤a:=Nat.and_le_left
 exact aFa (by omega) (by omega)
theorem aNl {a b:Nat} (ha:a<4611686018427387904) (hb:b<4611686018427387904):bor .i64 (a:Int) (b:Int)=((a|||b:Nat):Int):=by
 show IntKind.i64.wrap _=_
 rw [BitVec.toNat_or,sD ha,sD hb]
 have:a|||b<2 ^ 62:=Nat.or_lt_two_pow (by omega) (by omega)
 exact aFa (by omega) (by omega)
def vL (a b:Nat):Nat:=a ^^^ (a&&&b)
theorem sJ (a b i:Nat):(vL a b).testBit i=(a.testBit i && !b.testBit i):=by
 unfold vL
 rw [Nat.testBit_xor,Nat.testBit_and]
 cases a.testBit i<;>cases b.testBit i<;>rfl
theorem aDk {a b k:Nat} (h:a<2 ^ k):vL a b<2 ^ k:=Nat.xor_lt_two_pow h (Nat.lt_of_le_of_lt Nat.and_le_left h)
theorem aAL {a b:Nat} (ha:a<4611686018427387904) (hb:b<4611686018427387904):rE .i64 (a:Int) (b:Int)=((vL a b:Nat):Int):=by
 show IntKind.i64.wrap _=_
 have e:(BitVec.ofInt IntKind.i64.bits (a:Int)&&&~~~BitVec.ofInt IntKind.i64.bits (b:Int)).toNat=vL a b:=by
  refine Nat.eq_of_testBit_eq fun i=>?_
  rw [BitVec.testBit_toNat,BitVec.getLsbD_and,BitVec.getLsbD_not,sJ,← BitVec.testBit_toNat,← BitVec.testBit_toNat,sD ha,sD hb]
  by_cases h:i<64
  ·rw [show decide (i<IntKind.i64.bits)=true from decide_eq_true h,Bool.true_and]
  ·rw [Nat.testBit_lt_two_pow (x:=a) (i:=i) (Nat.lt_of_lt_of_le (show a<2 ^ 62 by omega) (Nat.pow_le_pow_right (by omega) (by omega)))]
   rfl
 rw [e]
 have:vL a b<2 ^ 62:=aDk (by omega)
 exact aFa (by omega) (by omega)
theorem aH2 {n m:Nat} (h:n≤m):(2:Int) ^ n≤2 ^ m:=by
 have:=Nat.pow_le_pow_right (n:=2) (by omega) h
 exact_mod_cast this
theorem two_pow_pos (n:Nat):(0:Int)<2 ^ n:=by
 have:=Nat.two_pow_pos n
 exact_mod_cast this
theorem aEo {k:Nat} (h:k≤60):aDv .i64 1 (k:Int)=((2 ^ k:Nat):Int):=by
 show IntKind.i64.wrap (1 * 2 ^ (min (k:Int).toNat 64))=_
 rw [Int.toNat_natCast,Nat.min_eq_left (by omega),Int.one_mul]
 have h1:=aH2 h
 have h2:=two_pow_pos k
 rw [show ((2 ^ k:Nat):Int)=(2:Int) ^ k by norm_cast]
 exact aFa (by omega) (by omega)
theorem aTk {s i:Nat} (hi:i≤60):wW .i64 (s:Int) (i:Int)=((s >>> i:Nat):Int):=by
 show (s:Int).fdiv (2 ^ (min (i:Int).toNat 64))=_
 rw [Int.toNat_natCast,Nat.min_eq_left (by omega),Int.fdiv_eq_ediv_of_nonneg _ (Int.le_of_lt (two_pow_pos i)),Nat.shiftRight_eq_div_pow]
 norm_cast
theorem aGt (n i:Nat):(n >>> i)&&&1=if n.testBit i then 1 else 0:=by
 rw [Nat.testBit_eq_decide_div_mod_eq,Nat.shiftRight_eq_div_pow,Nat.and_one_is_mod]
 have:=Nat.mod_two_eq_zero_or_one (n / 2 ^ i)
 rcases this with h | h<;>simp [h]
theorem aPB {s i:Nat} (h:s<4611686018427387904) (hi:i≤60):aAo .i64 (wW .i64 (s:Int) (i:Int)) 1=if s.testBit i then 1 else 0:=by
 rw [aTk hi]
 have:s >>> i≤s:=by rw [Nat.shiftRight_eq_div_pow];exact Nat.div_le_self _ _
 rw [show (1:Int)=((1:Nat):Int) from rfl,aQh (by omega) (by omega),aGt]
 split<;>rfl
theorem aI8 {s i:Nat} (h:s<4611686018427387904) (hi:i≤60):(aAo .i64 (wW .i64 (s:Int) (i:Int)) 1==1)=s.testBit i:=by
 rw [aPB h hi];cases s.testBit i<;>rfl
theorem aOL {s i:Nat} (h:s<4611686018427387904) (hi:i≤60):(aAo .i64 (wW .i64 (s:Int) (i:Int)) 1==0) = !s.testBit i:=by
 rw [aPB h hi];cases s.testBit i<;>rfl
theorem ntm {s i:Nat} (hi:i≤60):Int.tmod (wW .i64 (s:Int) (i:Int)) 2=if s.testBit i=true then 1 else 0:=by
 rw [aTk hi,Int.tmod_eq_emod_of_nonneg (Int.natCast_nonneg _),Nat.testBit_eq_decide_div_mod_eq,Nat.shiftRight_eq_div_pow,show (2:Int)=((2:Nat):Int) from rfl,← Int.natCast_emod]
 have:=Nat.mod_two_eq_zero_or_one (s / 2 ^ i)
 rcases this with h | h<;>rw [h]<;>rfl
theorem aTd {s i:Nat} (hi:i≤60):(Int.tmod (wW .i64 (s:Int) (i:Int)) 2==1)=s.testBit i:=by
 rw [ntm hi];cases s.testBit i<;>rfl
theorem aTu {s i:Nat} (hi:i≤60):(Int.tmod (wW .i64 (s:Int) (i:Int)) 2==0) = !s.testBit i:=by
 rw [ntm hi];cases s.testBit i<;>rfl
theorem wH (k i:Nat):(2 ^ k).testBit i=decide (i=k):=by
 rw [Nat.testBit_two_pow]
 by_cases h:k=i
 ·rw [decide_eq_true h,decide_eq_true h.symm]
 ·rw [decide_eq_false h,decide_eq_false (fun q=>h q.symm)]
theorem aML {m k i:Nat} (h:m<2 ^ k) (hb:m.testBit i=true):i<k:=by
 refine Nat.lt_of_not_le fun q=>?_
 rw [Nat.testBit_lt_two_pow (Nat.lt_of_lt_of_le h (Nat.pow_le_pow_right (by omega) q))] at hb
 cases hb
theorem aCQ {a b:Nat}:vL a b=0↔∀ i,a.testBit i=true→b.testBit i=true:=by
 constructor
 ·intro h i hi
  have:=sJ a b i
  rw [h,Nat.zero_testBit,hi,Bool.true_and] at this
  simpa using this.symm
 ·intro h
  refine Nat.eq_of_testBit_eq fun i=>?_
  rw [sJ,Nat.zero_testBit]
  cases e:a.testBit i
  ·rfl
  ·rw [h i e];rfl
theorem xQ {a b:Nat} (h:∀ i,a.testBit i=b.testBit i):a=b:=Nat.eq_of_testBit_eq h
theorem fO {k:Nat} (h:k≤8):2 ^ k≤256:=Nat.pow_le_pow_right (n:=2) (by omega) h
def TB (t:Ar 8) (r:Nat→Nat→Bool):Prop:=∀ b:Nat,b<8→∃ m:Nat,t.at1 (b:Int)=(m:Int)∧m<256∧∀ a,m.testBit a=r a b
theorem aI9:TB (Ar.zero 8) fun _ _=>false:=fun b hb=>⟨0,by
 show (List.replicate 8 (0:Int)).getD (b:Int).toNat 0=0
 rw [Int.toNat_natCast,List.getD_eq_getElem?_getD,List.getElem?_replicate,if_pos hb];rfl,by omega,fun a=>Nat.zero_testBit a⟩
theorem aKl (t:Ar 8) {b c:Nat} (hb:b<8) (v:Int):(t.st1 (b:Int) v).at1 (c:Int)=if c=b then v else t.at1 (c:Int):=by
 show (t.l.set (b:Int).toNat v).getD (c:Int).toNat 0=_
 rw [Int.toNat_natCast,Int.toNat_natCast,List.getD_eq_getElem?_getD,List.getElem?_set]
 by_cases h:c=b
 ·subst h;rw [if_pos rfl,if_pos rfl,if_pos (by rw [t.h];exact hb)];rfl
 ·rw [if_neg (fun q=>h q.symm),if_neg h]
  show _=t.l.getD (c:Int).toNat 0
  rw [Int.toNat_natCast,List.getD_eq_getElem?_getD]
theorem aMK {t:Ar 8} {r:Nat→Nat→Bool} (h:TB t r) {b:Nat} (hb:b<8) {m:Nat} (hm:m<256):TB (t.st1 (b:Int) (m:Int)) fun a c=>if c=b then m.testBit a else r a c:=by
 intro c hc
 rw [aKl t hb]
 by_cases e:c=b
 ·rw [if_pos e];exact ⟨m,rfl,hm,fun a=>(if_pos e).symm⟩
 ·rw [if_neg e]
  obtain ⟨q,h1,h2,h3⟩:=h c hc
  exact ⟨q,h1,h2,fun a=>(h3 a).trans (if_neg e).symm⟩
theorem pB {t:Ar 8} {r r':Nat→Nat→Bool} (h:TB t r) (e:∀ a b,b<8→r a b=r' a b):TB t r':=fun b hb=>by
 obtain ⟨q,h1,h2,h3⟩:=h b hb
 exact ⟨q,h1,h2,fun a=>by rw [h3,e a b hb]⟩
theorem aNW {t:Ar 8} {r:Nat→Nat→Bool} (h:TB t r) {b:Nat} (hb:b<8) {m:Nat} (hm:m<256):TB (t.st1 (b:Int) (bor .i64 (t.at1 (b:Int)) (m:Int))) fun a c=>r a c||(decide (c=b)&&m.testBit a):=by
 obtain ⟨q,h1,h2,h3⟩:=h b hb
 rw [h1,aNl (by omega) (by omega)]
 refine pB (aMK h hb (m:=q|||m) (Nat.or_lt_two_pow (n:=8) h2 hm)) fun a c hc=>?_
 by_cases e:c=b
 ·subst e;rw [if_pos rfl,Nat.testBit_or,h3,decide_eq_true rfl,Bool.true_and]
 ·rw [if_neg e,decide_eq_false e,Bool.false_and,Bool.or_false]
theorem aJw {t:Ar 8} {r:Nat→Nat→Bool} (h:TB t r) {b:Nat} (hb:b<8) {m:Nat} (hm:m<256):TB (t.st1 (b:Int) (rE .i64 (t.at1 (b:Int)) (m:Int))) fun a c=>r a c && !(decide (c=b)&&m.testBit a):=by
 obtain ⟨q,h1,h2,h3⟩:=h b hb
 rw [h1,aAL (by omega) (by omega)]
 refine pB (aMK h hb (m:=vL q m) (aDk (k:=8) h2)) fun a c hc=>?_
 by_cases e:c=b
 ·subst e;rw [if_pos rfl,sJ,h3,decide_eq_true rfl,Bool.true_and]
 ·rw [if_neg e,decide_eq_false e,Bool.false_and,Bool.not_false,Bool.and_true]
theorem zF {t:Ar 8} {r:Nat→Nat→Bool} (h:TB t r) {a b:Nat} (hb:b<8) (ha:a≤60):(aAo .i64 (wW .i64 (t.at1 (b:Int)) (a:Int)) 1==1)=r a b:=by
 obtain ⟨q,h1,h2,h3⟩:=h b hb
 rw [h1,aI8 (by omega) ha,h3]
theorem aN1 {t:Ar 8} {r:Nat→Nat→Bool} (h:TB t r) {a b:Nat} (hb:b<8) (ha:a≤60):(aAo .i64 (wW .i64 (t.at1 (b:Int)) (a:Int)) 1==0) = !r a b:=by
 obtain ⟨q,h1,h2,h3⟩:=h b hb
 rw [h1,aOL (by omega) ha,h3]
theorem dN {α:Type} [Inhabited α] {l:List α} {k:Nat} (h:k<l.length):l.getD k default=l[k]:=by simp [List.getD_eq_getElem?_getD,h]
theorem bZ {α:Type} [Inhabited α] {l:List α} {k:Nat} (h:k<l.length):l.getD k default∈l:=by rw [dN h];exact List.getElem_mem h
theorem gW {α:Type} [Inhabited α] {l:List α} {k:Nat} (h:k<l.length):l.take (k+1)=l.take k++[l.getD k default]:=by
 rw [List.take_succ_eq_append_getElem h,dN h]
theorem lA {α:Type} [Inhabited α] {l:List α} {x:α} (h:x∈l):∃ k,k<l.length∧l.getD k default=x:=by
 obtain ⟨k,hk,e⟩:=List.getElem_of_mem h
 exact ⟨k,hk,by rw [dN hk,e]⟩
def Rc (P:List (Int×Int)) (a b:Nat):Prop:=∀ S:Nat→Nat→Prop,(∀ x y:Nat,((x:Int),(y:Int))∈P→S x y)→(∀ x y z,S x y→S y z→S x z)→S a b
theorem aNP {P:List (Int×Int)} {a b:Nat} (h:((a:Int),(b:Int))∈P):Rc P a b:=fun _ h1 _=>h1 a b h
theorem aQe {P:List (Int×Int)} {a b c:Nat} (h:Rc P a b) (g:Rc P b c):Rc P a c:=fun S h1 h2=>h2 a b c (h S h1 h2) (g S h1 h2)
def sX (N:Int) (p:Int×Int):Prop:=(0≤p.1∧p.1<N)∧(0≤p.2∧p.2<N)∧p.1≠p.2
instance (N:Int) (p:Int×Int):Decidable (sX N p):=by unfold sX;infer_instance
structure Fm (o:aE):Prop where
 N:0≤o.N∧o.N≤8
 len:o.Pairs.length≤28
 el:∀ p∈o.Pairs,sX o.N p
theorem aH8 (p:Int×Int) (o:aE):iQ p o=some (!decide (sX o.N p)):=by
 have key:∀ v:Bool,(v=true↔¬sX o.N p)→some v=some (!decide (sX o.N p)):=fun v hv=>by
  congr 1
  by_cases c:sX o.N p
  ·rw [decide_eq_true c];exact Bool.eq_false_iff.2 fun q=>hv.1 q c
  ·rw [decide_eq_false c];exact hv.2 c
 unfold iQ
 simp only [rC,aZ,aH9,aH4]
 by_cases c1:(if p.2<p.1 then p.2 else p.1)<0
 ·rw [if_pos c1]
  exact key _ ⟨fun _ h=>by unfold sX at h;split at c1<;>omega,fun _=>rfl⟩
 rw [if_neg c1]
 by_cases c2:(if p.2>p.1 then p.2 else p.1)≥o.N
 ·rw [if_pos c2]
  exact key _ ⟨fun _ h=>by unfold sX at h;split at c2<;>omega,fun _=>rfl⟩
 rw [if_neg c2]
 refine key _ ?_
 rw [beq_iff_eq];unfold sX
 split at c1<;>split at c2<;>omega
theorem aF4 (l:List (Int×Int)) (o:aE) (hl:l.length≤1048576):∃ i,dB l o=some i∧(i≥0↔∃ p∈l,¬sX o.N p):=by
 obtain ⟨y,e,hy⟩:=lC (body:=dR l o) (fun s=>∃ k:Nat,s=(k:Int)∧k≤l.length∧∀ j,j<k→sX o.N (l.getD j default)) (fun s=>l.length-s.toNat)
  (fun y=>match y with | .inl _=>∀ p∈l,sX o.N p | .inr r=>r≥0∧∃ p∈l,¬sX o.N p)
  (fun s ⟨k,hs,hk,hj⟩=>by
   subst hs
   unfold dR
   simp only [aZ]
   by_cases c:k<l.length
   ·rw [if_pos (by omega),sV c,aH8,bU,cT,aZ]
    by_cases q:sX o.N (l.getD k default)
    ·rw [if_pos q,cE (by omega) (by omega)]
     exact .inl ⟨_,rfl,⟨k+1,by omega,c,fun j h=>by
      by_cases e:j<k
      ·exact hj j e
      ·rw [show j=k by omega];exact q⟩,by omega⟩
    ·rw [if_neg q]
     exact .inr (.inr ⟨_,rfl,by omega,_,bZ c,q⟩)
   ·rw [if_neg (by omega)]
    refine .inr (.inl ⟨_,rfl,fun p hp=>?_⟩)
    obtain ⟨j,h1,rfl⟩:=lA hp
    exact hj j (by omega)) 0 ⟨0,rfl,Nat.zero_le _,fun j h=>absurd h (Nat.not_lt_zero _)⟩ (by omega)
 unfold dB
 rw [e,bU]
 cases y with
 | inl s=>
  rw [dK]
  exact ⟨_,rfl,⟨fun h=>absurd h (by omega),fun ⟨p,h1,h2⟩=>absurd (hy p h1) h2⟩⟩
 | inr r=>
  rw [sZ]
  exact ⟨_,rfl,⟨fun _=>hy.2,fun _=>hy.1⟩⟩
theorem yK (o:aE) (hl:o.Pairs.length≤9223372036854775807):∃ v,fE o=some v∧(v=true↔Fm o):=by
 unfold fE
 simp only [rC,aZ]
 by_cases c1:o.N<0
 ·rw [if_pos c1,mH];exact ⟨_,rfl,⟨fun h=>(by cases h),fun h=>by have:=h.N;omega⟩⟩
 rw [if_neg c1]
 by_cases c2:o.N>8
 ·rw [if_pos c2,mH];exact ⟨_,rfl,⟨fun h=>(by cases h),fun h=>by have:=h.N;omega⟩⟩
 rw [if_neg c2]
 by_cases c3:(o.Pairs.length:Int)>28
 ·rw [if_pos c3];exact ⟨_,rfl,⟨fun h=>(by cases h),fun h=>by have:=h.len;omega⟩⟩
 rw [if_neg c3]
 obtain ⟨i,e,hi⟩:=aF4 o.Pairs o (by omega)
 unfold dG
 rw [e,bU,bU]
 refine ⟨_,rfl,?_⟩
 simp only [Bool.not_eq_true',decide_eq_false_iff_not]
 constructor
 ·intro h
  exact ⟨by omega,by omega,fun p hp=>Decidable.byContradiction fun q=>h (hi.2 ⟨p,hp,q⟩)⟩
 ·intro h q
  obtain ⟨p,h1,h2⟩:=hi.1 q
  exact h2 (h.el p h1)
theorem aKq {o:aE} (h:Fm o):∃ t v r,mD o=some (t,v)∧TB t r∧(∀ a b:Nat,b<8→(r a b=true↔Rc o.Pairs a b))∧(v=true↔∀ a:Nat,¬Rc o.Pairs a a):=by
 obtain ⟨n,hn⟩:∃ n:Nat,o.N=(n:Int):=⟨o.N.toNat,by have:=h.N;omega⟩
 have n8:n≤8:=by have:=h.N;omega
 have hel:∀ k,k<o.Pairs.length→∃ a b:Nat,o.Pairs.getD k default=((a:Int),(b:Int))∧a<n∧b<n:=fun k hk=>by
  obtain ⟨h1,h2,_⟩:=h.el _ (bZ hk)
  exact ⟨_,_,Prod.ext (Int.toNat_of_nonneg h1.1).symm (Int.toNat_of_nonneg h2.1).symm,by omega,by omega⟩
 have hin:∀ a b,Rc o.Pairs a b→a<n∧b<n:=fun a b g=>g (fun a b=>a<n∧b<n) (fun x y hxy=>by
  obtain ⟨h1,h2,_⟩:=h.el _ hxy
  exact ⟨by simp only at h1;omega,by simp only at h2;omega⟩) (fun x y z g1 g2=>⟨g1.1,g2.2⟩)
 obtain ⟨s1,e1,i1,r0,T0,H0⟩:=cJ (body:=kB o) (fun k s=>s.1=(k:Int)∧∃ r,TB s.2 r∧∀ a b:Nat,b<8→(r a b=true↔((a:Int),(b:Int))∈o.Pairs.take k)) o.Pairs.length (by have:=h.len;omega)
  (fun k s hk ⟨hs,r,T,H⟩=>by
   obtain ⟨i,t⟩:=s
   simp only at hs T
   subst hs
   obtain ⟨a,b,he,ha,hb⟩:=hel k hk
   unfold kB
   simp only [aZ]
   have:=h.len
   rw [if_pos (by omega),sV hk,he,dC _ (by omega),dC _ (by omega),dC _ (by omega),cE (by omega) (by omega)]
   have T':=aNW T (b:=b) (by omega) (m:=2 ^ a) (Nat.pow_lt_pow_right (n:=8) (by omega) (by omega))
   rw [← aEo (by omega)] at T'
   refine ⟨_,rfl,by simp only;omega,_,T',?_⟩
   ·intro x y hy
    rw [gW hk,he,List.mem_append,List.mem_singleton,Bool.or_eq_true,H x y hy,wH,Bool.and_eq_true,decide_eq_true_eq,decide_eq_true_eq]
    refine or_congr_right ?_
    rw [Prod.mk.injEq]
    omega) (fun s ⟨hs,_⟩=>by
   unfold kB
   simp only [aZ]
   rw [if_neg (by omega)]) (0,Ar.zero 8) ⟨rfl,_,aI9,fun a b _=>by simp⟩
 rw [List.take_length] at H0
 obtain ⟨s2,e2,i2,r,T2,L2,S2,C2⟩:=cJ (body:=kP o) (fun k s=>s.1=(k:Int)∧∃ r,TB s.2 r∧(∀ a b:Nat,b<8→r0 a b=true→r a b=true)∧(∀ a b:Nat,b<8→r a b=true→Rc o.Pairs a b)∧∀ j a b:Nat,j<k→b<8→r a j=true→r j b=true→r a b=true) n (by omega)
  (fun k s hk ⟨hs,r,T,L,S,C⟩=>by
   obtain ⟨i,t⟩:=s
   simp only at hs T
   subst hs
   obtain ⟨s3,e3,i3,T3⟩:=cJ (body:=kL o ((k:Int),t)) (fun m s=>s.1=(m:Int)∧TB s.2 fun a b=>r a b||(decide (b<m)&&r a k&&r k b)) n (by omega)
    (fun m s hm ⟨hs,T⟩=>by
     obtain ⟨i,u⟩:=s
     simp only at hs T
     subst hs
     unfold kL
     simp only [aZ,rC]
     rw [if_pos (by omega),dC _ (by omega),dC _ (by omega),zF T (by omega) (by omega),iL,cE (by omega) (by omega)]
     simp only [Nat.lt_irrefl,decide_false,Bool.false_and,Bool.or_false]
     by_cases c:r k m=true
     ·rw [if_pos c,dC _ (by omega),dC _ (by omega),dC _ (by omega)]
      refine ⟨_,rfl,by simp only;omega,?_⟩
      obtain ⟨q,h1,h2,h3⟩:=T k (by omega)
      simp only
      rw [h1]
      refine pB (aNW T (by omega) h2) fun a b hb=>?_
      have h4:q.testBit a=r a k:=by
       rw [h3];show (r a k||decide (k<m)&&r a k&&r k k)=r a k;cases r a k<;>simp
      rw [h4]
      by_cases e:b=m
      ·subst e
       rw [c,decide_eq_true rfl,Bool.true_and,decide_eq_false (Nat.lt_irrefl _),decide_eq_true (Nat.lt_succ_self _)]
       cases r a b<;>cases r a k<;>simp
      ·rw [decide_eq_false e,Bool.false_and,Bool.or_false]
       by_cases g:b<m
       ·rw [decide_eq_true g,decide_eq_true (by omega)]
       ·rw [decide_eq_false g,decide_eq_false (by omega)]
     ·rw [if_neg c]
      refine ⟨_,rfl,by simp only;omega,pB T fun a b hb=>?_⟩
      by_cases e:b=m
      ·subst e
       rw [Bool.eq_false_iff.2 c,Bool.and_false,Bool.and_false]
      ·by_cases g:b<m
       ·rw [decide_eq_true g,decide_eq_true (by omega)]
       ·rw [decide_eq_false g,decide_eq_false (by omega)]) (fun s ⟨hs,_⟩=>by
     unfold kL
     simp only [aZ]
     rw [if_neg (by omega)]) (0,t) ⟨rfl,pB T fun a b _=>by simp⟩
   unfold kP
   simp only [aZ]
   rw [if_pos (by omega),e3,bU,dK,cE (by omega) (by omega)]
   refine ⟨_,rfl,by simp only;omega,_,T3,?_,?_,?_⟩
   ·intro a b hb g
    rw [L a b hb g];rfl
   ·intro a b hb g
    rw [Bool.or_eq_true,Bool.and_eq_true,Bool.and_eq_true] at g
    rcases g with g | ⟨⟨_,g1⟩,g2⟩
    ·exact S a b hb g
    ·exact aQe (S a k (by omega) g1) (S k b hb g2)
   ·intro j a b hj hb g1 g2
    have key:∀ x y,y<8→((r x y||(decide (y<n)&&r x k&&r k y))=true↔r x y=true∨r x k=true∧r k y=true):=fun x y hy=>by
     rw [Bool.or_eq_true,Bool.and_eq_true,Bool.and_eq_true,decide_eq_true_eq]
     constructor
     ·rintro (g | ⟨⟨_,g1⟩,g2⟩)
      ·exact .inl g
      ·exact .inr ⟨g1,g2⟩
     ·rintro (g | ⟨g1,g2⟩)
      ·exact .inl g
      ·exact .inr ⟨⟨(hin _ _ (S k y hy g2)).2,g1⟩,g2⟩
    rw [key _ _ hb]
    rw [key _ _ (by omega)] at g1
    rw [key _ _ hb] at g2
    by_cases e:j=k
    ·subst e
     refine .inr ⟨?_,?_⟩
     ·rcases g1 with g | ⟨g,_⟩<;>exact g
     ·rcases g2 with g | ⟨_,g⟩<;>exact g
    ·have hj':j<k:=by omega
     rcases g1 with g1 | ⟨g1,g1'⟩
     ·rcases g2 with g2 | ⟨g2,g2'⟩
      ·exact .inl (C j a b hj' hb g1 g2)
      ·exact .inr ⟨C j a k hj' (by omega) g1 g2,g2'⟩
     ·rcases g2 with g2 | ⟨g2,g2'⟩
      ·exact .inr ⟨g1,C j k b hj' hb g1' g2⟩
      ·exact .inr ⟨g1,g2'⟩) (fun s ⟨hs,_⟩=>by
   unfold kP
   simp only [aZ]
   rw [if_neg (by omega)]) (0,s1.2) ⟨rfl,r0,T0,fun _ _ _ g=>g,fun a b hb g=>aNP ((H0 a b hb).1 g),fun j a b hj=>absurd hj (Nat.not_lt_zero _)⟩
 have full:∀ a b:Nat,b<8→(r a b=true↔Rc o.Pairs a b):=fun a b hb=>⟨S2 a b hb,fun g=>by
  refine (g (fun a b=>b<n∧r a b=true) (fun x y hxy=>?_) (fun x y z g1 g2=>?_)).2
  ·have:=hin _ _ (aNP hxy)
   exact ⟨this.2,L2 x y (by omega) ((H0 x y (by omega)).2 hxy)⟩
  ·exact ⟨g2.1,C2 y x z g1.1 (by omega) g1.2 g2.2⟩⟩
 obtain ⟨y,e4,hy⟩:=lC (body:=mQ o s2) (fun s=>∃ k:Nat,s.1=(k:Int)∧k≤n∧∀ j,j<k→r j j=false) (fun s=>n-s.1.toNat)
  (fun y=>match y with | .inl _=>∀ j,j<n→r j j=false | .inr q=>q=(s2.2,false)∧∃ j,j<n∧r j j=true)
  (fun s ⟨k,hs,hk,hj⟩=>by
   obtain ⟨i,t⟩:=s
   simp only at hs
   subst hs
   unfold mQ
   simp only [aZ]
   by_cases c:k<n
   ·rw [if_pos (by omega),dC _ (by omega),dC _ (by omega),zF T2 (by omega) (by omega),iL]
    by_cases q:r k k=true
    ·rw [if_pos q];exact .inr (.inr ⟨_,rfl,rfl,k,c,q⟩)
    ·rw [if_neg q,cE (by omega) (by omega)]
     exact .inl ⟨_,rfl,⟨k+1,rfl,c,fun j h=>by
      by_cases e:j<k
      ·exact hj j e
      ·rw [show j=k by omega];exact Bool.eq_false_iff.2 q⟩,by simp only;omega⟩
   ·rw [if_neg (by omega)]
    exact .inr (.inl ⟨_,rfl,fun j h=>hj j (by omega)⟩)) (0,Ar.zero 8) ⟨0,rfl,Nat.zero_le _,fun j h=>absurd h (Nat.not_lt_zero _)⟩ (by simp only;omega)
 unfold mD
 rw [e1,bU,dK,e2,bU,dK,e4,bU]
 cases y with
 | inl s=>
  rw [dK]
  refine ⟨_,_,r,rfl,T2,full,⟨fun _ a g=>?_,fun _=>rfl⟩⟩
  have hl:=(hin _ _ g).1
  have:=(full a a (by omega)).2 g
  rw [hy a hl] at this;cases this
 | inr q=>
  obtain ⟨rfl,j,hj,hjj⟩:=hy
  rw [sZ]
  refine ⟨_,_,r,rfl,T2,full,⟨fun g=>(by cases g),fun g=>absurd ((full j j (by omega)).1 hjj) (g j)⟩⟩
structure OV (o:aE) (n:Nat) (t:Ar 8) (r:Nat→Nat→Bool):Prop where
 fm:Fm o
 N:o.N=(n:Int)
 n8:n≤8
 rd:bS o=some (t,true)
 tb:TB t r
 lt:∀ a b,r a b=true→a<n∧b<n
 ir:∀ a,r a a=false
 tr:∀ a b c,r a b=true→r b c=true→r a c=true
 rc:∀ a b,r a b=true↔Rc o.Pairs a b
def Vd (o:aE):Prop:=Fm o∧∀ a:Nat,¬Rc o.Pairs a a
theorem aGi (o:aE) (hl:o.Pairs.length≤9223372036854775807):(Vd o∧∃ n t r,OV o n t r)∨(¬Vd o∧∃ t,bS o=some (t,false)):=by
 obtain ⟨v,e,hv⟩:=yK o hl
 by_cases c:Fm o
 ·obtain ⟨t,w,r,e2,T,R,hw⟩:=aKq c
  have er:bS o=some (t,w):=by
   unfold bS
   rw [e,bU,hv.2 c,cT,mH,e2,bU]
  by_cases g:∀ a:Nat,¬Rc o.Pairs a a
  ·obtain ⟨n,hn⟩:∃ n:Nat,o.N=(n:Int):=⟨o.N.toNat,by have:=c.N;omega⟩
   have n8:n≤8:=by have:=c.N;omega
   have hin:∀ a b,Rc o.Pairs a b→a<n∧b<n:=fun a b g=>g (fun a b=>a<n∧b<n) (fun x y hxy=>by
    obtain ⟨h1,h2,_⟩:=c.el _ hxy
    exact ⟨by simp only at h1;omega,by simp only at h2;omega⟩) (fun x y z g1 g2=>⟨g1.1,g2.2⟩)
   have R':∀ a b,(decide (b<8)&&r a b)=true↔Rc o.Pairs a b:=fun a b=>by
    rw [Bool.and_eq_true,decide_eq_true_eq]
    exact ⟨fun ⟨h1,h2⟩=>(R a b h1).1 h2,fun h=>by
     have:=hin a b h
     exact ⟨by omega,(R a b (by omega)).2 h⟩⟩
   refine .inl ⟨⟨c,g⟩,n,t,fun a b=>decide (b<8)&&r a b,c,hn,n8,by rw [er,hw.2 g],pB T fun a b hb=>by rw [decide_eq_true hb,Bool.true_and],fun a b h=>hin _ _ ((R' a b).1 h),fun a=>Bool.eq_false_iff.2 fun h=>g a ((R' a a).1 h),fun a b d h1 h2=>(R' a d).2 (aQe ((R' a b).1 h1) ((R' b d).1 h2)),R'⟩
  ·refine .inr ⟨fun h=>g h.2,t,?_⟩
   rw [er,Bool.eq_false_iff.2 fun q=>g (hw.1 q)]
 ·refine .inr ⟨fun h=>c h.1,Ar.zero 8,?_⟩
  unfold bS
  rw [e,bU,Bool.eq_false_iff.2 fun q=>c (hv.1 q),cT,mK]
theorem OV.vd {o:aE} {n:Nat} {t:Ar 8} {r:Nat→Nat→Bool} (h:OV o n t r):Vd o:=⟨h.fm,fun a g=>by
 have:=(h.rc a a).2 g
 rw [h.ir] at this;cases this⟩
theorem aJg {o:aE} {n:Nat} {t:Ar 8} {r:Nat→Nat→Bool} (h:OV o n t r) (a b:Int):dW o a b=some (decide (0≤a∧0≤b)&&r a.toNat b.toNat):=by
 have hN:=h.N;have h8:=h.n8
 unfold dW
 rw [h.rd,bU]
 simp only [rC,mH,aZ,aH9,aH4]
 by_cases c:(0≤a∧0≤b)∧a<n∧b<n
 ·rw [if_pos (by split<;>omega),if_pos (by split<;>omega),dC _ (by omega),dC _ (by omega),decide_eq_true c.1,Bool.true_and]
  obtain ⟨x,rfl⟩:∃ x:Nat,a=(x:Int):=⟨a.toNat,by omega⟩
  obtain ⟨y,rfl⟩:∃ y:Nat,b=(y:Int):=⟨b.toNat,by omega⟩
  rw [zF h.tb (by omega) (by omega),Int.toNat_natCast,Int.toNat_natCast]
 ·have e:(decide (0≤a∧0≤b)&&r a.toNat b.toNat)=false:=Bool.eq_false_iff.2 fun g=>by
   rw [Bool.and_eq_true,decide_eq_true_eq] at g
   have:=h.lt _ _ g.2
   omega
  rw [e]
  by_cases d1:(if b<a then b else a)≥0
  ·rw [if_pos d1,if_neg fun d2=>c (by split at d1<;>split at d2<;>omega)]
  ·rw [if_neg d1]
theorem aKa {o:aE} {t:Ar 8} (h:bS o=some (t,false)) (a b:Int):dW o a b=some false:=by
 unfold dW
 rw [h,bU]
 simp only [rC,mK]
def sm:Nat→(Nat→Nat)→Nat
 | 0,_=>0
 | n+1,f=>sm n f+f n
theorem eF:∀ {n:Nat} {f g:Nat→Nat},(∀ i,i<n→f i=g i)→sm n f=sm n g
 | 0,_,_,_=>rfl
 | n+1,f,g,h=>by
  show sm n f+f n=sm n g+g n
  rw [eF fun i hi=>h i (by omega),h n (by omega)]
theorem aDD:∀ {n:Nat} {f g:Nat→Nat},(∀ i,i<n→f i≤g i)→sm n f≤sm n g
 | 0,_,_,_=>Nat.le_refl _
 | n+1,f,g,h=>by
  show sm n f+f n≤sm n g+g n
  have:=aDD (n:=n) fun i hi=>h i (by omega)
  have:=h n (by omega)
  omega
theorem aE6:∀ (n:Nat) (f g:Nat→Nat),sm n (fun i=>f i+g i)=sm n f+sm n g
 | 0,_,_=>rfl
 | n+1,f,g=>by
  show sm n (fun i=>f i+g i)+(f n+g n)=sm n f+f n+(sm n g+g n)
  rw [aE6 n f g];omega
theorem rI:∀ (n:Nat),sm n (fun _=>0)=0
 | 0=>rfl
 | n+1=>by show sm n (fun _=>0)+0=0;rw [rI n]
theorem aGK:∀ (n m:Nat) (f:Nat→Nat→Nat),sm n (fun a=>sm m (fun b=>f a b))=sm m (fun b=>sm n (fun a=>f a b))
 | 0,m,f=>(rI m).symm
 | n+1,m,f=>by
  show sm n (fun a=>sm m (fun b=>f a b))+sm m (fun b=>f n b)=sm m (fun b=>sm n (fun a=>f a b)+f n b)
  rw [aE6,aGK n m f]
theorem aMI:∀ {n:Nat} {f:Nat→Nat} {i:Nat},i<n→0<f i→0<sm n f
 | n+1,f,i,h,hf=>by
  show 0<sm n f+f n
  by_cases e:i=n
  ·subst e;omega
  ·have:=aMI (n:=n) (show i<n by omega) hf;omega
def aIk (m:Nat) (r:Nat→Nat→Bool) (a:Nat):List (Int×Int):=((List.range m).filter fun b=>r a b).map fun (b:Nat)=>((a:Int),(b:Int))
def mG (k n:Nat) (r:Nat→Nat→Bool):List (Int×Int):=(List.range k).flatMap fun a=>aIk n r a
theorem aF5 (m:Nat) (r:Nat→Nat→Bool) (a:Nat):aIk (m+1) r a=aIk m r a++if r a m=true then [((a:Int),(m:Int))] else []:=by
 unfold aIk
 rw [List.range_succ,List.filter_append,List.map_append]
 congr 1
 by_cases h:r a m=true
 ·rw [if_pos h,List.filter_cons_of_pos h];rfl
 ·rw [if_neg h,List.filter_cons_of_neg h];rfl
theorem aDA (k n:Nat) (r:Nat→Nat→Bool):mG (k+1) n r=mG k n r++aIk n r k:=by
 unfold mG
 rw [List.range_succ,List.flatMap_append]
 simp
theorem aAY:∀ (m:Nat) (r:Nat→Nat→Bool) (a:Nat),(aIk m r a).length=sm m fun b=>(r a b).toNat
 | 0,_,_=>rfl
 | m+1,r,a=>by
  rw [aF5,List.length_append,aAY m]
  show _=sm m _+(r a m).toNat
  cases r a m<;>rfl
theorem wN:∀ (k n:Nat) (r:Nat→Nat→Bool),(mG k n r).length=sm k fun a=>sm n fun b=>(r a b).toNat
 | 0,_,_=>rfl
 | k+1,n,r=>by
  rw [aDA,List.length_append,wN k,aAY];rfl
theorem oJ {n:Nat} {f:Nat→Bool}:sm n (fun b=>(f b).toNat)≤n:=by
 have h:=aDD (n:=n) (f:=fun b=>(f b).toNat) (g:=fun _=>1) fun i _=>by cases f i<;>simp
 have e:∀ n:Nat,sm n (fun _=>1)=n:=fun n=>by
  induction n with
  | zero=>rfl
  | succ n ih=>show sm n (fun _=>1)+1=n+1;rw [ih]
 rw [e] at h;exact h
theorem aAx {k n:Nat} {r q:Nat→Nat→Bool} (h:∀ a b,a<k→b<n→r a b=q a b):mG k n r=mG k n q:=by
 unfold mG aIk
 have e:∀ a∈List.range k,((List.range n).filter fun b=>r a b)=(List.range n).filter fun b=>q a b:=fun a ha=>List.filter_congr fun b hb=>h a b (List.mem_range.1 ha) (List.mem_range.1 hb)
 rw [List.flatMap_def,List.flatMap_def]
 congr 1
 exact List.map_congr_left fun a ha=>by rw [e a ha]
theorem aFx {n:Nat} (n8:n≤8) {t:Ar 8} {r:Nat→Nat→Bool} (T:TB t r):jE (n:Int) t=some ⟨(n:Int),mG n n r⟩:=by
 have rl:∀ m a,(aIk m r a).length≤m:=fun m a=>by rw [aAY];exact oJ
 obtain ⟨s,e,h1,h2⟩:=cJ (body:=kJ (n:Int) t) (fun k s=>s.1=(k:Int)∧s.2=⟨(n:Int),mG k n r⟩) n (by omega)
  (fun k s hk ⟨hs,hq⟩=>by
   obtain ⟨i,u⟩:=s
   simp only at hs hq
   subst hs hq
   have pl:(mG k n r).length≤64:=by
    rw [wN]
    have:=aDD (n:=k) (f:=fun a=>sm n fun b=>(r a b).toNat) (g:=fun _=>8) fun a _=>Nat.le_trans oJ n8
    have e:∀ k:Nat,sm k (fun _=>8)=8 * k:=fun k=>by
     induction k with
     | zero=>rfl
     | succ k ih=>show sm k (fun _=>8)+8=_;rw [ih];omega
    rw [e] at this;omega
   obtain ⟨s,e,h1,h2⟩:=cJ (body:=kS (n:Int) t ((k:Int),(⟨(n:Int),mG k n r⟩:aE))) (fun m s=>s.1=(m:Int)∧s.2=⟨(n:Int),mG k n r++aIk m r k⟩) n (by omega)
    (fun m s hm ⟨hs,hq⟩=>by
     obtain ⟨i,u⟩:=s
     simp only at hs hq
     subst hs hq
     have:=rl m k
     unfold kS
     simp only [aZ,rC]
     rw [if_pos (by omega),dC _ (by omega),dC _ (by omega),zF T (by omega) (by omega),iL,cE (by omega) (by omega)]
     by_cases c:r k m=true
     ·rw [if_pos c,aAy,aCe (by simp only [List.length_append,List.length_cons,List.length_nil];omega)]
      exact ⟨_,rfl,by simp only;omega,by rw [aF5,if_pos c,List.append_assoc]⟩
     ·rw [if_neg c]
      exact ⟨_,rfl,by simp only;omega,by rw [aF5,if_neg c,List.append_nil]⟩) (fun s ⟨hs,_⟩=>by
     unfold kS
     simp only [aZ]
     rw [if_neg (by omega)]) (0,⟨(n:Int),mG k n r⟩) ⟨rfl,by simp [aIk]⟩
   unfold kJ
   simp only [aZ]
   rw [if_pos (by omega),e,bU,dK,cE (by omega) (by omega)]
   exact ⟨_,rfl,by simp only;omega,by simp only;rw [h2,aDA]⟩) (fun s ⟨hs,_⟩=>by
   unfold kJ
   simp only [aZ]
   rw [if_neg (by omega)]) (0,⟨(n:Int),[]⟩) ⟨rfl,rfl⟩
 unfold jE
 rw [e,bU,dK,h2]
theorem aL2 {o:aE} {n:Nat} {t:Ar 8} {r:Nat→Nat→Bool} (h:OV o n t r):fU o=some (⟨(n:Int),mG n n r⟩,0):=by
 unfold fU
 rw [h.rd,bU,cT,mH,h.N]
 simp only
 rw [aFx h.n8 h.tb,bU]
theorem aK4 {o:aE} {t:Ar 8} (h:bS o=some (t,false)):fU o=some (⟨0,[]⟩,70):=by
 unfold fU
 rw [h,bU,cT,mK]
def cv (n:Nat) (r:Nat→Nat→Bool) (a b:Nat):Bool:=r a b && !(List.range n).any fun k=>r a k&&r k b
theorem qH (m:Nat) (f:Nat→Bool):(List.range (m+1)).any f=((List.range m).any f||f m):=by
 rw [List.range_succ,List.any_append];simp
theorem aJt {o:aE} {n:Nat} {t:Ar 8} {r:Nat→Nat→Bool} (h:OV o n t r):fD o=some (⟨(n:Int),mG n n (cv n r)⟩,0):=by
 have hN:=h.N;have n8:=h.n8
 obtain ⟨s,e,h1,h2⟩:=cJ (body:=jP o (t,true)) (fun k s=>s.1=(k:Int)∧TB s.2 fun a c=>r a c && !(decide (c<k)&&(List.range n).any fun j=>r a j&&r j c)) n (by omega)
  (fun k s hk ⟨hs,T⟩=>by
   obtain ⟨i,u⟩:=s
   simp only at hs T
   subst hs
   obtain ⟨s,e,h1,h2⟩:=cJ (body:=jS o ((k:Int),u) (t,true)) (fun m s=>s.1=(m:Int)∧TB s.2 fun a c=>r a c && !(decide (c<k)&&(List.range n).any fun j=>r a j&&r j c) && !(decide (c=k)&&(List.range m).any fun j=>r a j&&r j c)) n (by omega)
    (fun m s hm ⟨hs,T⟩=>by
     obtain ⟨i,u⟩:=s
     simp only at hs T
     subst hs
     unfold jS
     simp only [aZ,rC]
     rw [if_pos (by omega),dC _ (by omega),dC _ (by omega),zF h.tb (by omega) (by omega),iL,cE (by omega) (by omega)]
     by_cases c:r m k=true
     ·rw [if_pos c,dC _ (by omega),dC _ (by omega),dC _ (by omega)]
      refine ⟨_,rfl,by simp only;omega,?_⟩
      obtain ⟨q,q1,q2,q3⟩:=h.tb m (by omega)
      simp only
      rw [q1]
      refine pB (aJw T (by omega) q2) fun a b hb=>?_
      rw [q3,qH]
      by_cases e:b=k
      ·subst e
       rw [c,decide_eq_true rfl,Bool.and_true,Bool.true_and,Bool.true_and]
       cases r a b<;>cases (List.range m).any (fun j=>r a j&&r j b)<;>cases r a m<;>simp
      ·rw [decide_eq_false e];simp
     ·rw [if_neg c]
      refine ⟨_,rfl,by simp only;omega,pB T fun a b hb=>?_⟩
      rw [qH]
      by_cases e:b=k
      ·subst e
       rw [Bool.eq_false_iff.2 c,Bool.and_false,Bool.or_false]
      ·rw [decide_eq_false e];simp) (fun s ⟨hs,_⟩=>by
     unfold jS
     simp only [aZ]
     rw [if_neg (by omega)]) (0,u) ⟨rfl,pB T fun a b _=>by simp⟩
   unfold jP
   simp only [aZ]
   rw [if_pos (by omega),e,bU,dK,cE (by omega) (by omega)]
   refine ⟨_,rfl,by simp only;omega,pB h2 fun a b hb=>?_⟩
   by_cases e:b=k
   ·subst e
    rw [decide_eq_true rfl,decide_eq_false (Nat.lt_irrefl _),decide_eq_true (Nat.lt_succ_self _)];simp
   ·rw [decide_eq_false e]
    by_cases g:b<k
    ·rw [decide_eq_true g,decide_eq_true (by omega)];simp
    ·rw [decide_eq_false g,decide_eq_false (by omega)];simp) (fun s ⟨hs,_⟩=>by
   unfold jP
   simp only [aZ]
   rw [if_neg (by omega)]) (0,t) ⟨rfl,pB h.tb fun a b _=>by simp⟩
 unfold fD
 rw [h.rd,bU,cT,mH]
 simp only
 rw [e,bU,dK,hN,aFx n8 h2,bU]
 congr 3
 refine aAx fun a b _ hb=>?_
 rw [decide_eq_true hb,Bool.true_and];rfl
theorem aIU {o:aE} {t:Ar 8} (h:bS o=some (t,false)):fD o=some (⟨0,[]⟩,70):=by
 unfold fD
 rw [h,bU,cT,mK]
theorem wD {R:Type} {body:Int→Option (Ct Int R)} (a N:Nat) (ha:a≤N) (hN:N≤9223372036854775807) (bad:Nat→Bool) (v:Nat→R)
  (step:∀ k,a≤k→k<N→(∀ j,a≤j→j<k→bad j=false)→body (k:Int)=some (if bad k=true then .rt (v k) else .nx ((k:Int)+1))) (stop:body (N:Int)=some (.bk (N:Int))) :
  ((∀ k,a≤k→k<N→bad k=false)∧lp body FU (a:Int)=some (.inl (N:Int)))∨∃ k,a≤k∧k<N∧bad k=true∧(∀ j,a≤j→j<k→bad j=false)∧lp body FU (a:Int)=some (.inr (v k)):=by
 obtain ⟨y,e,hy⟩:=lC (body:=body) (fun s=>∃ k:Nat,s=(k:Int)∧a≤k∧k≤N∧∀ j,a≤j→j<k→bad j=false) (fun s=>N-s.toNat)
  (fun y=>((∀ k,a≤k→k<N→bad k=false)∧y=.inl (N:Int))∨∃ k,a≤k∧k<N∧bad k=true∧(∀ j,a≤j→j<k→bad j=false)∧y=.inr (v k))
  (fun s ⟨k,hs,h1,h2,h3⟩=>by
   subst hs
   by_cases c:k<N
   ·rw [step k h1 c h3]
    by_cases q:bad k=true
    ·rw [if_pos q];exact .inr (.inr ⟨_,rfl,.inr ⟨k,h1,c,q,h3,rfl⟩⟩)
    ·rw [if_neg q]
     exact .inl ⟨_,rfl,⟨k+1,by omega,by omega,c,fun j g1 g2=>by
      by_cases e:j<k
      ·exact h3 j g1 e
      ·rw [show j=k by omega];exact Bool.eq_false_iff.2 q⟩,by omega⟩
   ·obtain rfl:k=N:=by omega
    rw [stop]
    exact .inr (.inl ⟨_,rfl,.inl ⟨h3,rfl⟩⟩)) (a:Int) ⟨a,rfl,Nat.le_refl _,ha,fun j g1 g2=>absurd g2 (by omega)⟩ (by omega)
 rw [e]
 rcases hy with ⟨h,rfl⟩ | ⟨k,h1,h2,h3,h4,rfl⟩
 ·exact .inl ⟨h,rfl⟩
 ·exact .inr ⟨k,h1,h2,h3,h4,rfl⟩
theorem yP {α:Type} [Inhabited α] {a b:List α} (h:a.length=b.length) (h2:∀ j,j<a.length→a.getD j default=b.getD j default):a=b:=by
 refine List.ext_getElem h fun j h3 h4=>?_
 have:=h2 j h3
 rwa [dN h3,dN h4] at this
theorem sM (l m:List Int) (hl:l.length≤9223372036854775807):dA l m=some (decide (l=m)):=by
 unfold dA
 by_cases c:l.length=m.length
 ·rw [vC,if_pos (by omega)]
  rcases wD (body:=nE l m) 0 l.length (Nat.zero_le _) hl (fun k=>l.getD k default != m.getD k default) (fun _=>false)
   (fun k _ hk _=>by
    unfold nE
    simp only [aZ]
    rw [if_pos (by omega),sV hk,sV (by omega),cE (by omega) (by omega),iL]
    split<;>rfl) (by
    unfold nE
    simp only [aZ]
    rw [if_neg (by omega)]) with ⟨h,e⟩ | ⟨k,_,h2,h3,_,e⟩
  ·rw [show (0:Int)=((0:Nat):Int) from rfl,e,bU,dK,decide_eq_true]
   exact yP c fun j hj=>by simpa using h j (Nat.zero_le _) hj
  ·rw [show (0:Int)=((0:Nat):Int) from rfl,e,bU,sZ,decide_eq_false]
   rintro rfl
   simp at h3
 ·rw [vC,if_neg (by omega),decide_eq_false]
  rintro rfl;exact c rfl
theorem aFU {a b:aE} (h1:a.N=b.N) (h2:a.Pairs=b.Pairs):a=b:=by cases a;cases b;simp_all
instance:DecidableEq aE:=fun a b=>if h:a.N=b.N∧a.Pairs=b.Pairs then .isTrue (aFU h.1 h.2) else .isFalse fun e=>h (by subst e;exact ⟨rfl,rfl⟩)
theorem aJi (a b:aE) (hl:a.Pairs.length≤9223372036854775807):iX a b=some (decide (a=b)):=by
 unfold iX
 simp only [rC]
 by_cases c0:a.N=b.N
 ·rw [vC,if_pos c0]
  by_cases c:a.Pairs.length=b.Pairs.length
  ·rw [vC,if_pos (by omega)]
   rcases wD (body:=nH a b) 0 a.Pairs.length (Nat.zero_le _) hl (fun k => !((a.Pairs.getD k default).1==(b.Pairs.getD k default).1&&(a.Pairs.getD k default).2==(b.Pairs.getD k default).2)) (fun _=>false)
    (fun k _ hk _=>by
     unfold nH
     simp only [aZ]
     rw [if_pos (by omega),sV hk,sV (by omega),cE (by omega) (by omega),iL]
     split<;>rfl) (by
     unfold nH
     simp only [aZ]
     rw [if_neg (by omega)]) with ⟨h,e⟩ | ⟨k,_,h2,h3,_,e⟩
   ·rw [show (0:Int)=((0:Nat):Int) from rfl,e,bU,dK,decide_eq_true]
    refine aFU c0 (yP c fun j hj=>?_)
    have:=h j (Nat.zero_le _) hj
    simp only [Bool.not_eq_false',Bool.and_eq_true,beq_iff_eq] at this
    exact Prod.ext this.1 this.2
   ·rw [show (0:Int)=((0:Nat):Int) from rfl,e,bU,sZ,decide_eq_false]
    rintro rfl
    simp at h3
  ·rw [vC,if_neg (by omega),decide_eq_false]
   rintro rfl;exact c rfl
 ·rw [vC,if_neg c0,mH,decide_eq_false]
  rintro rfl;exact c0 rfl
theorem aDC (c n:Int) (hc:okI c) (hn:0<n):mP c n=some (zU c n):=by
 unfold mP
 simp only [rC,iL,decide_eq_true_eq]
 rw [dC _ (by simpa using Int.ne_of_gt hn),dC _ (by simpa using Int.ne_of_gt hn)]
 rw [← aLw c n hc.1 hc.2 hn]
 split<;>rfl
theorem tD (c n:Int) (hc:okI c) (hn:0<n):eZ c n=some (zU c n):=aDC c n hc hn
theorem aOd {α:Type} [Inhabited α] {ok:α→Prop} {l:List α} (h:okL ok l) {k:Nat} (hk:k<l.length):ok (l.getD k default):=h.1 _ (bZ hk)
def dnB (n:Nat) (r:Nat→Nat→Bool) (p:Nat):Bool:=(List.range n).all fun b => !p.testBit b||(List.range n).all fun a => !r a b||p.testBit a
def Dn (r:Nat→Nat→Bool) (p:Nat):Prop:=∀ a b,r a b=true→p.testBit b=true→p.testBit a=true
theorem aA2 {n:Nat} {r:Nat→Nat→Bool} (lt:∀ a b,r a b=true→a<n∧b<n) {p:Nat}:dnB n r p=true↔Dn r p:=by
 unfold dnB Dn
 simp only [List.all_eq_true,List.mem_range,Bool.or_eq_true,Bool.not_eq_true']
 constructor
 ·intro h a b hr hb
  obtain ⟨h1,h2⟩:=lt a b hr
  rcases h b h2 with g | g
  ·rw [hb] at g;cases g
  ·rcases g a h1 with g | g
   ·rw [hr] at g;cases g
   ·exact g
 ·intro h b _
  cases hb:p.testBit b
  ·exact .inl rfl
  ·refine .inr fun a _=>?_
   cases hr:r a b
   ·exact .inl rfl
   ·exact .inr (h a b hr hb)
theorem aKO {n:Nat} (n8:n≤8) {t:Ar 8} {r:Nat→Nat→Bool} (T:TB t r) (lt:∀ a b,r a b=true→a<n∧b<n) {σ:Type} {f:Int→σ→Option σ} (I:Nat→σ→Prop) (g:σ) (h0:I 0 g)
  (step:∀ p s,p<2 ^ n→I p s→(dnB n r p=true→∃ s',f (p:Int) s=some s'∧I (p+1) s')∧(dnB n r p=false→I (p+1) s)):∃ s',eM (n:Int) t σ f g=some s'∧I (2 ^ n) s':=by
 have hp8:=fO n8
 obtain ⟨s,e,h1,h2⟩:=cJ (body:=fS σ (n:Int) t f) (fun p s=>s.1=(p:Int)∧I p s.2) (2 ^ n) (by omega)
  (fun p s hp ⟨hs,hI⟩=>by
   obtain ⟨i,u⟩:=s
   simp only at hs hI
   subst hs
   obtain ⟨s,e,h1,q,h2,h3,h4⟩:=cJ (body:=fT σ (n:Int) t ((p:Int),u)) (fun m s=>s.2=(m:Int)∧∃ q:Nat,s.1=(q:Int)∧q<256∧∀ a,q.testBit a=(List.range m).any fun x=>p.testBit x&&r a x) n (by omega)
    (fun m s hm ⟨hs,q,h2,h3,h4⟩=>by
     obtain ⟨i,j⟩:=s
     simp only at hs h2
     subst hs h2
     unfold fT
     simp only [aZ,rC]
     rw [if_pos (by omega),dC _ (by omega),aI8 (by omega) (by omega),iL,cE (by omega) (by omega)]
     by_cases c:p.testBit m=true
     ·obtain ⟨z,z1,z2,z3⟩:=T m (by omega)
      rw [if_pos c,dC _ (by omega),z1,aNl (by omega) (by omega)]
      refine ⟨_,rfl,by simp only;omega,q|||z,rfl,Nat.or_lt_two_pow (n:=8) h3 z2,fun a=>?_⟩
      rw [Nat.testBit_or,h4,z3,qH,c,Bool.true_and]
     ·rw [if_neg c]
      refine ⟨_,rfl,by simp only;omega,q,rfl,h3,fun a=>?_⟩
      rw [h4,qH,Bool.eq_false_iff.2 c,Bool.false_and,Bool.or_false]) (fun s ⟨hs,_⟩=>by
     unfold fT
     simp only [aZ]
     rw [if_neg (by omega)]) (0,0) ⟨rfl,0,rfl,by omega,fun a=>by simp⟩
   unfold fS
   simp only [aZ,rC]
   rw [aEo (by omega),if_pos (by omega),e,bU,dK,h2,aAL (by omega) (by omega),cE (by omega) (by omega)]
   have key:(((vL q p:Nat):Int)==0)=dnB n r p:=by
    rw [Bool.eq_iff_iff,beq_iff_eq,aA2 lt]
    rw [show (((vL q p:Nat):Int)=0↔vL q p=0) by omega,aCQ]
    constructor
    ·intro h a b hr hb
     exact h a (by rw [h4,List.any_eq_true];exact ⟨b,List.mem_range.2 (lt a b hr).2,by rw [hb,hr];rfl⟩)
    ·intro h a ha
     rw [h4,List.any_eq_true] at ha
     obtain ⟨b,_,hb⟩:=ha
     rw [Bool.and_eq_true] at hb
     exact h a b hb.2 hb.1
   rw [key,iL]
   obtain ⟨k1,k2⟩:=step p u hp hI
   by_cases c:dnB n r p=true
   ·obtain ⟨u',e',hu⟩:=k1 c
    rw [if_pos c,e',bU]
    exact ⟨_,rfl,by simp only;omega,hu⟩
   ·rw [if_neg c]
    exact ⟨_,rfl,by simp only;omega,k2 (Bool.eq_false_iff.2 c)⟩) (fun s ⟨hs,_⟩=>by
   unfold fS
   simp only [aZ]
   rw [aEo (by omega),if_neg (by omega)]) (0,g) ⟨rfl,h0⟩
 unfold eM
 rw [dC _ (by omega),e,bU,dK]
 exact ⟨_,rfl,h2⟩
def dO (l:List Nat):List Int:=l.map fun (x:Nat)=>(x:Int)
theorem aX (l:List Nat):(dO l).length=l.length:=List.length_map _
theorem aC2 {l:List Nat} {x:Nat}:(x:Int)∈dO l↔x∈l:=by
 unfold dO
 rw [List.mem_map]
 exact ⟨fun ⟨y,h,e⟩=>by rwa [← show y=x by omega],fun h=>⟨x,h,rfl⟩⟩
theorem oW (l m:List Nat):dO (l++m)=dO l++dO m:=List.map_append
theorem cQ {l:List Nat} {k:Nat} (h:k<l.length):(dO l).getD k default=((l.getD k default:Nat):Int):=by
 rw [dN (by rw [aX];exact h),dN h];simp [dO]
theorem aLQ {l m:List Nat} (h:dO l=dO m):l=m:=List.map_inj_right (fun _ _ h=>by omega) |>.1 h
def pfx (n:Nat) (r:Nat→Nat→Bool):List Nat:=(List.range (2 ^ n)).filter (dnB n r)
theorem aNu (n:Nat) (r:Nat→Nat→Bool):(pfx n r).length≤2 ^ n:=by
 have:=List.length_filter_le (dnB n r) (List.range (2 ^ n))
 rwa [List.length_range] at this
theorem aGP {o:aE} {n:Nat} {t:Ar 8} {r:Nat→Nat→Bool} (h:OV o n t r):dX o=some (dO (pfx n r),0):=by
 have hN:=h.N;have n8:=h.n8
 obtain ⟨s,e,hs⟩:=aKO n8 h.tb h.lt (f:=aKH) (fun p s=>s=dO ((List.range p).filter (dnB n r))) [] rfl (fun p s hp hs=>by
  subst hs
  have hl:(dO ((List.range p).filter (dnB n r))).length≤256:=by
   rw [aX]
   have:=List.length_filter_le (dnB n r) (List.range p)
   rw [List.length_range] at this
   have:=fO n8
   omega
  constructor
  ·intro c
   unfold aKH
   rw [aCe (by simp only [List.length_cons,List.length_nil];omega)]
   exact ⟨_,rfl,by rw [List.range_succ,List.filter_append,List.filter_cons_of_pos c,oW];rfl⟩
  ·intro c
   rw [List.range_succ,List.filter_append,List.filter_cons_of_neg (by rw [c];decide)];simp)
 unfold dX gU
 rw [h.rd,bU,cT,mH,hN]
 simp only
 rw [e,bU,hs];rfl
theorem aGo {o:aE} {t:Ar 8} (h:bS o=some (t,false)):dX o=some ([],70):=by
 unfold dX
 rw [h,bU,cT,mK]
theorem aOh {a b n:Int} (ha:0≤a∧a<n) (hb:0≤b∧b<n-1):let t:=Int.tmod (a+1+b) n;(0≤t∧t<n)∧a≠t:=by
 have hn:0<n:=by omega
 simp only
 rw [Int.tmod_eq_emod_of_nonneg (by omega)]
 by_cases q:a+1+b<n
 ·rw [Int.emod_eq_of_lt (by omega) q];omega
 ·have:(a+1+b) % n=a+1+b-n:=by
   rw [← Int.sub_emod_right,Int.emod_eq_of_lt (by omega) (by omega)]
  rw [this];omega
theorem aHf (a0:Int) (x:List (Int×Int)) (o0:okI a0) (o1:okL aGV x):∃ o,fW a0 x=some o∧Fm o∧o.Pairs.length≤20:=by
 unfold fW
 obtain ⟨p1,p2⟩:=tE a0 (n:=9) (by omega)
 rw [tD a0 9 o0 (by omega),bU]
 generalize zU a0 9=b0 at p1 p2 ⊢
 have hx:=o1.2
 obtain ⟨y,e,hy⟩:=lC (body:=jK x) (fun s=>∃ k:Nat,s.1=(k:Int)∧k≤20∧k≤x.length∧s.2.N=b0∧s.2.Pairs.length≤k∧∀ p∈s.2.Pairs,sX b0 p) (fun s=>20-s.1.toNat)
  (fun y=>match y with | .inl s=>s.2.N=b0∧s.2.Pairs.length≤20∧∀ p∈s.2.Pairs,sX b0 p | .inr _=>False)
  (fun s ⟨k,hs,hk,hkx,hN,hl,hp⟩=>by
   obtain ⟨i,N,E⟩:=s
   simp only at hs hN hl hp
   subst hs hN
   unfold jK
   simp only [rC,aZ]
   by_cases c:k<x.length∧k<20∧N>1
   ·obtain ⟨c1,c2,c3⟩:=c
    rw [if_pos (by omega),if_pos (by omega),if_pos c3]
    obtain ⟨o1,o2⟩:=aOd o1 c1
    obtain ⟨q1,q2⟩:=tE (x.getD k default).1 (n:=N) (by omega)
    obtain ⟨q3,q4⟩:=tE (x.getD k default).2 (n:=N-1) (by omega)
    simp only [sV c1]
    rw [tD _ _ o1 (by omega),bU,cE (by omega) (by omega),tD _ _ o2 (by omega),bU,dC _ (by omega),aAy,aCe (by simp only [List.length_cons,List.length_nil];omega),cE (by omega) (by omega)]
    generalize zU (x.getD k default).1 N=u at *
    generalize zU (x.getD k default).2 (N-1)=v at *
    obtain ⟨t1,t2⟩:=aOh (a:=u) (b:=v) (n:=N) ⟨q1,q2⟩ ⟨q3,q4⟩
    rw [cE (x:=u+1) (by omega) (by omega),cE (x:=u+1+v) (by omega) (by omega)]
    refine .inl ⟨_,rfl,⟨k+1,by simp only;omega,by omega,by omega,rfl,by simp only [List.length_append,List.length_cons,List.length_nil];omega,fun p hp'=>?_⟩,by simp only;omega⟩
    rcases List.mem_append.1 hp' with hp' | hp'
    ·exact hp p hp'
    ·rw [List.mem_singleton.1 hp'];exact ⟨⟨q1,q2⟩,t1,t2⟩
   ·refine .inr (.inl ⟨((k:Int),⟨N,E⟩),?_,rfl,Nat.le_trans hl hk,hp⟩)
    by_cases c1:(k:Int)<(x.length:Int)
    ·by_cases c2:(k:Int)<20
     ·rw [if_pos c1,if_pos c2,if_neg fun c3=>c ⟨by omega,by omega,c3⟩]
     ·rw [if_pos c1,if_neg c2,mK]
    ·rw [if_neg c1,mK]) (0,⟨b0,[]⟩) ⟨0,rfl,by omega,by omega,rfl,by simp,by simp⟩ (by simp only;omega)
 rw [e,bU]
 cases y with
 | inl s=>
  obtain ⟨h1,h2,h3⟩:=hy
  rw [dK]
  exact ⟨_,rfl,⟨by omega,by omega,fun p hp=>by rw [h1];exact h3 p hp⟩,h2⟩
 | inr s=>exact hy.elim
theorem aLz {α:Type} (l:List α) (k:Nat):sub l 0 (k:Int)=l.take k:=by
 unfold sub;simp
theorem aDN {α:Type} (l:List α) (k:Nat):sub l (k:Int) (l.length:Int)=l.drop k:=by
 unfold sub;simp
theorem aNs (a0:Int) (x:List (Int×Int)) (a2:Int) (o0:okI a0) (o1:okL aGV x) (o2:okI a2):∃ o n t r,oU a0 x a2=some o∧OV o n t r∧o.Pairs.length≤20:=by
 obtain ⟨o,e0,hf,hl⟩:=aHf a0 x o0 o1
 have hN:=hf.N
 obtain ⟨n,hn⟩:∃ n:Nat,o.N=(n:Int):=⟨o.N.toNat,by omega⟩
 have n8:n≤8:=by omega
 unfold oU
 rw [e0,bU]
 obtain ⟨p1,p2⟩:=tE a2 (n:=40320) (by omega)
 rw [tD a2 40320 o2 (by omega),bU]
 generalize zU a2 40320=m0 at p1 p2 ⊢
 obtain ⟨s1,e1,h1,h2⟩:=cJ (body:=nJ o) (fun k s=>s.2=(k:Int)∧s.1=dO (List.range k)) n (by omega)
  (fun k s hk ⟨hs,hq⟩=>by
   obtain ⟨l,i⟩:=s
   simp only at hs hq
   subst hs hq
   unfold nJ
   simp only [aZ]
   rw [if_pos (by omega),aAy,aCe (by rw [aX,List.length_range];simp only [List.length_cons,List.length_nil];omega),cE (by omega) (by omega)]
   exact ⟨_,rfl,by simp only;omega,by rw [List.range_succ,oW];rfl⟩) (fun s ⟨hs,_⟩=>by
   unfold nJ
   simp only [aZ]
   rw [if_neg (by omega)]) ([],0) ⟨rfl,rfl⟩
 rw [e1,bU,dK,h2]
 obtain ⟨y,e2,hy⟩:=lC (body:=pO) (fun s=>0≤s.2.1∧s.2.1<40320∧s.1.length+s.2.2.length=n∧(s.1++s.2.2).Nodup) (fun s=>s.2.2.length)
  (fun y=>match y with | .inl s=>s.1.length=n∧s.1.Nodup | .inr _=>False)
  (fun s ⟨g1,g2,g3,g4⟩=>by
   obtain ⟨P,m,L⟩:=s
   simp only at g1 g2 g3 g4
   unfold pO
   simp only [aZ]
   by_cases c:L.length=0
   ·rw [if_neg (by omega)]
    obtain rfl:=List.length_eq_zero_iff.1 c
    exact .inr (.inl ⟨_,rfl,by simpa using g3,by simpa using g4⟩)
   ·rw [if_pos (by omega),dC _ (by omega),dC _ (by omega)]
    have k1:=Int.emod_nonneg m (show (L.length:Int)≠0 by omega)
    have k2:=Int.emod_lt_of_pos m (show (0:Int)<(L.length:Int) by omega)
    have d1:0≤m / (L.length:Int):=Int.ediv_nonneg g1 (by omega)
    have d2:m / (L.length:Int)≤m:=Int.ediv_le_self _ g1
    rw [Int.tmod_eq_emod_of_nonneg g1,Int.tdiv_eq_ediv_of_nonneg g1]
    generalize m / (L.length:Int)=d at d1 d2 ⊢
    obtain ⟨k,hk⟩:∃ k:Nat,m % (L.length:Int)=(k:Int):=⟨(m % (L.length:Int)).toNat,by omega⟩
    rw [hk] at k1 k2 ⊢
    have hkl:k<L.length:=by omega
    rw [sV hkl,aAy,aCe (by simp only [List.length_cons,List.length_nil];omega),aO0 (by omega) (by omega) (by omega),cE (x:=(k:Int)+1) (by omega) (by omega),aO0 (by omega) (by omega) (by omega),cE (x:=d) (by omega) (by omega),aLz,show (k:Int)+1=((k+1:Nat):Int) by omega,aDN,aCe (by simp only [List.length_take,List.length_drop];omega)]
    have hL:L=L.take k++L.getD k default::L.drop (k+1):=by
     rw [dN hkl,← List.drop_eq_getElem_cons hkl,List.take_append_drop]
    refine .inl ⟨_,rfl,⟨d1,by simp only;omega,by simp only [List.length_append,List.length_cons,List.length_nil,List.length_take,List.length_drop];omega,?_⟩,by simp only [List.length_append,List.length_take,List.length_drop];omega⟩
    refine (List.Perm.nodup_iff ?_).1 g4
    simp only
    rw [List.append_assoc]
    refine List.Perm.append_left P ?_
    conv=>lhs;rw [hL]
    exact List.perm_middle) ([],m0,dO (List.range n)) ⟨p1,p2,by rw [aX,List.length_range];simp,by
     rw [List.nil_append]
     exact List.pairwise_map.2 ((List.nodup_range (n:=n)).imp fun h q=>h (by omega))⟩ (by simp only;rw [aX,List.length_range];omega)
 rw [e2,bU]
 cases y with
 | inr s=>exact hy.elim
 | inl s=>
  obtain ⟨P,m,L⟩:=s
  obtain ⟨P1,P2⟩:=hy
  simp only at P1 P2
  rw [dK]
  have pl:∀ z:Int,0≤z∧z<(n:Int)→z.toNat<P.length:=fun z hz=>by omega
  obtain ⟨s3,e3,q1,q2,q3,q4,q5⟩:=cJ (body:=nG (P,m,L)) (fun k s=>s.1=(k:Int)∧s.2.N=(n:Int)∧s.2.Pairs.length=o.Pairs.length∧(∀ p∈s.2.Pairs,sX (n:Int) p)∧∀ j,j<k→P.getD ((s.2.Pairs.getD j default).1).toNat default<P.getD ((s.2.Pairs.getD j default).2).toNat default) o.Pairs.length (by omega)
   (fun k s hk ⟨hs,g1,g2,g3,g4⟩=>by
    obtain ⟨i,N,E⟩:=s
    simp only at hs g1 g2 g3 g4
    subst hs g1
    have hkE:k<E.length:=by omega
    obtain ⟨v1,v2,v3⟩:=g3 _ (bZ hkE)
    unfold nG
    simp only [aZ,rC,Int.toNat_natCast]
    rw [if_pos (by omega),dC _ (by omega),dC _ (by omega),dC _ (by omega),cE (by omega) (by omega)]
    have hne:P.getD ((E.getD k default).1).toNat default≠P.getD ((E.getD k default).2).toNat default:=by
     rw [dN (pl _ v1),dN (pl _ v2)]
     intro q
     have:=(List.getElem_inj P2).1 q
     omega
    by_cases c:P.getD ((E.getD k default).1).toNat default>P.getD ((E.getD k default).2).toNat default
    ·rw [if_pos c,dC _ (by omega),aO3,Int.toNat_natCast]
     have set_get:∀ j,j<E.length→(E.set k ((E.getD k default).2,(E.getD k default).1)).getD j default=if j=k then ((E.getD k default).2,(E.getD k default).1) else E.getD j default:=fun j hj=>by
      rw [dN (by rw [List.length_set];exact hj),List.getElem_set,dN (l:=E) hj]
      by_cases e:j=k
      ·rw [if_pos e,if_pos e.symm]
      ·rw [if_neg e,if_neg fun q=>e q.symm]
     refine ⟨_,rfl,by simp only;omega,rfl,by simp only [List.length_set];exact g2,fun p hp=>?_,fun j hj=>?_⟩
     ·obtain ⟨j,hj,rfl⟩:=lA hp
      simp only [List.length_set] at hj
      rw [set_get j hj]
      by_cases e:j=k
      ·rw [if_pos e];exact ⟨v2,v1,fun q=>v3 q.symm⟩
      ·rw [if_neg e];exact g3 _ (bZ hj)
     ·simp only
      rw [set_get j (by omega)]
      by_cases e:j=k
      ·rw [if_pos e];exact c
      ·rw [if_neg e];exact g4 j (by omega)
    ·rw [if_neg c]
     refine ⟨_,rfl,by simp only;omega,rfl,g2,g3,fun j hj=>?_⟩
     by_cases e:j=k
     ·subst e;simp only;omega
     ·exact g4 j (by omega)) (fun s ⟨hs,_,g2,_⟩=>by
    unfold nG
    simp only [aZ]
    rw [if_neg (by omega)]) (0,⟨o.N,o.Pairs⟩) ⟨rfl,hn,rfl,by rw [← hn];exact hf.el,fun j hj=>absurd hj (Nat.not_lt_zero _)⟩
  rw [e3,bU,dK]
  have hFm:Fm ⟨s3.2.N,s3.2.Pairs⟩:=⟨by simp only;omega,by simp only;omega,fun p hp=>by simp only;rw [q2];exact q4 p hp⟩
  have hac:∀ a:Nat,¬Rc s3.2.Pairs a a:=fun a g=>by
   have:=g (fun a b=>P.getD a default<P.getD b default) (fun u v huv=>by
    obtain ⟨j,hj,ej⟩:=lA huv
    have:=q5 j (by omega)
    rw [ej] at this
    simpa using this) (fun _ _ _ g1 g2=>Int.lt_trans g1 g2)
   omega
  rcases aGi ⟨s3.2.N,s3.2.Pairs⟩ (by simp only;omega) with ⟨_,n',t,r,hv⟩ | ⟨hno,_⟩
  ·exact ⟨_,n',t,r,rfl,hv,by simp only;omega⟩
  ·exact absurd ⟨hFm,hac⟩ hno
theorem zQ {α:Type} (f:α→Bool) (x:α):List.filter f [x]=if f x=true then [x] else []:=by
 by_cases h:f x=true
 ·rw [if_pos h,List.filter_cons_of_pos h];rfl
 ·rw [if_neg h,List.filter_cons_of_neg h];rfl
theorem aLo:∀ {n:Nat} {f g:Nat→Nat},(∀ i,i<n→f i≤g i)→∀ {j:Nat},j<n→f j<g j→sm n f<sm n g
 | n+1,f,g,h,j,hj,hlt=>by
  show sm n f+f n<sm n g+g n
  by_cases e:j=n
  ·subst e
   have:=aDD (n:=j) (f:=f) (g:=g) fun i hi=>h i (by omega)
   omega
  ·have:=aLo (n:=n) (f:=f) (g:=g) (fun i hi=>h i (by omega)) (j:=j) (by omega) hlt
   have:=h n (by omega)
   omega
section
variable {o:aE} {n:Nat} {t:Ar 8} {r:Nat→Nat→Bool}
end
end Go.Proofs.YtlmboonbfhkfnaaDoor
