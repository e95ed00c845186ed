import Derived.Test.YtkjccabdpeldhaaGreatM2
import Derived.Shelf.SlSortCmp.NoneTotal
set_option linter.unusedVariables false
set_option linter.unusedSimpArgs false
set_option linter.unusedSectionVars false
namespace Go.Eng
open Go Go.Shelf Go.RowKit Go.Lib Go.Sort Go.Proofs
theorem aBD {α β:Type} {g:α→List β} {k:Nat} (h:∀ x,(g x).length=k):∀ (l:List α) (j q:Nat) (x:α),l[j]?=some x→q<k→(l.flatMap g)[j * k+q]?=(g x)[q]?
 | [],j,q,x,hj,_=>by simp at hj
 | a::l,0,q,x,hj,hq=>by
  simp at hj;subst hj
  rw [List.flatMap_cons,Nat.zero_mul,Nat.zero_add,List.getElem?_append_left (by rw [h];exact hq)]
 | a::l,j+1,q,x,hj,hq=>by
  rw [List.flatMap_cons,List.getElem?_append_right (by rw [h,Nat.add_mul];omega),h,show (j+1) * k+q-k=j * k+q by rw [Nat.add_mul];omega]
  exact aBD h l j q x (by simpa using hj) hq
theorem tL {α β:Type} {g:α→List β} {k:Nat} (h:∀ x,(g x).length=k):∀ (l:List α),(l.flatMap g).length=l.length * k
 | []=>by simp
 | a::l=>by rw [List.flatMap_cons,List.length_append,h,tL h l,List.length_cons,Nat.add_mul];omega
section
variable {α:Type} [Inhabited α]
theorem aFK {ev:α→List Value} {k:Nat} (hk:∀ x,(ev x).length=k) (d:Array α):(flatK ev k d).toList=d.toList.flatMap ev:=by
 have hl:(flatK ev k d).toList.length=(d.toList.flatMap ev).length:=by rw [tL hk];simp
 refine List.ext_getElem? fun t=>?_
 by_cases ht:t<d.size * k
 ·have k0:0<k:=by
   rcases Nat.eq_zero_or_pos k with h | h
   ·subst h;simp at ht
   ·exact h
  have hj:t / k<d.size:=Nat.div_lt_of_lt_mul (by rw [Nat.mul_comm];exact ht)
  have e1:(flatK ev k d).toList[t]?=some (flatK ev k d)[t]! := by
   rw [Array.getElem?_toList,getElem!_pos _ t (by simpa using ht),Array.getElem?_eq_getElem (by simpa using ht)]
  have e2:d.toList[t / k]?=some d[t / k]! := by
   rw [Array.getElem?_toList,getElem!_pos d (t / k) hj,Array.getElem?_eq_getElem hj]
  have hq:t % k<k:=Nat.mod_lt _ k0
  have e3:=aBD hk d.toList (t / k) (t % k) _ e2 hq
  rw [Nat.mul_comm,Nat.div_add_mod] at e3
  have hq2:t % k<(ev d[t / k]!).length:=by rw [hk];exact hq
  rw [e1,get_flatK _ _ _ _ ht,e3,getElem!_pos (ev d[t / k]!) (t % k) hq2,List.getElem?_eq_getElem hq2]
 ·rw [List.getElem?_eq_none (by rw [Array.length_toList,size_flatK];omega),List.getElem?_eq_none (by rw [tL hk];simp;omega)]
theorem aEm (ev:α→List Value) (k:Nat) (w:World) (blk off m:Nat) (d:Array α) (os:Array Obj) {c:Nat} (hc:c<w.heap.size) (hne:c≠blk):(sortWorldK ev k w blk off m d os).heap[c]?=w.heap[c]?:=by
 unfold sortWorldK grow putRowK putRow mapBlock
 show ((Array.modify (Sort.ahead w m).heap blk _)++os)[c]?=_
 rw [Array.getElem?_append,if_pos (by simpa [Sort.ahead] using hc),Array.getElem?_modify,if_neg (fun e=>hne e.symm)]
 rfl
theorem aMc (ev:α→List Value) (k:Nat) (w:World) (blk off m:Nat) (d:Array α) (os:Array Obj) {full:Array Value} {e:TypeId} {fr:Nat×Nat} (hb:w.heap[blk]?=some (.cells full e fr)) :
  (sortWorldK ev k w blk off m d os).heap[blk]?=some (.cells (putCells id off (flatK ev k d) full) e fr):=by
 have hc:blk<w.heap.size:=(Array.getElem?_eq_some_iff.1 hb).1
 unfold sortWorldK grow putRowK putRow mapBlock
 show ((Array.modify (Sort.ahead w m).heap blk _)++os)[blk]?=_
 rw [Array.getElem?_append,if_pos (by simpa [Sort.ahead] using hc),Array.getElem?_modify,if_pos rfl]
 show (w.heap[blk]?).map _=_
 rw [hb];rfl
theorem aHO (ev:α→List Value) (k:Nat) (w:World) (blk off m:Nat) (d:Array α) (os:Array Obj) {B:Bd} (hB:B.top w.heap.size) (hb:B blk):bH B w (sortWorldK ev k w blk off m d os):=
 ⟨rfl,rfl,rfl,size_sortWorldK_c ev k w blk off m d os,Nat.le_add_right _ _,fun c hc=>aEm ev k w blk off m d os (Nat.lt_of_not_le fun h=>hc (hB c h)) fun e=>hc (e ▸ hb)⟩
theorem aG3 (off:Nat) (F:Array Value) (full:Array Value) {t:Nat} (ht:t<F.size) (hf:off+t<full.size):(putCells id off F full)[off+t]?=F[t]?:=by
 simp only [putCells,Array.getElem?_mapIdx,Array.getElem?_eq_getElem hf,Option.map_some]
 rw [if_pos ⟨by omega,by omega⟩,show off+t-off=t by omega]
 show some F[t]! = F[t]?
 rw [Array.getElem?_eq_getElem ht,getElem!_pos F t ht]
theorem aAP (off:Nat) (F:Array Value) (full:Array Value) {t:Nat} (ht:t<off∨off+F.size≤t):(putCells id off F full)[t]?=full[t]?:=by
 simp only [putCells,Array.getElem?_mapIdx]
 cases full[t]? with
 | none=>rfl
 | some y=>rw [Option.map_some,if_neg (by omega)]
def wA (cf:α→α→Int) (l:List α):List α:=(pdq (ltOf cf) l.toArray 0 l.length (Lib.bitLen l.length) true true).toList
theorem aBy (cf:α→α→Int) (hO:SWO (ltOf cf)) (l:List α):PermIn 0 l.length l.toArray (wA cf l).toArray∧SortedIn (ltOf cf) 0 l.length (wA cf l).toArray:=by
 have h:=pdq_sorts (ltOf cf) hO l.toArray 0 l.length (Lib.bitLen l.length) true true (Nat.zero_le _) (by simp) (Or.inl rfl)
 simpa [wA] using h
theorem aB0 (cf:α→α→Int) (hO:SWO (ltOf cf)) (l:List α):(wA cf l).length=l.length:=by
 have h:=(aBy cf hO l).1.1
 simpa using h
theorem vF {α:Type} {G:Prop} [Decidable G] {x:Option α} {Φ:α→Prop} {K:Prop} (h:W (gd G x) Φ) (k:G→W x Φ→K):K:=k (aKS h).1 (aKS h).2
def aMQ (enc:α→AV) (okc:List AV→Prop) (cf:List AV→α→α→Int) (g:FuncId):Nat→List AV→List AV→AV→List AV→Prop:=fun n fP bs r bs'=>
 ∃ (l:List α) (caps:List AV),okc caps∧n=l.length∧l.length<4611686018427387904∧fP=[.fn g [] caps]∧bs=flE (ceE enc) l∧r=.tup []∧bs'=flE (ceE enc) (wA (cf caps) l)
def aS6 (P:Program) (vo:α→Value) (cf:List AV→α→α→Int) (g:FuncId) (caps:List AV):Prop:=
 ∀ (β:cN) (cv:List Value) (W:World),Vs β caps cv→(∀ c o v,β.fz c o=some v→W.cell? ⟨c,o,none⟩=some v)→∀ x y:α,
  Calls P g (#[vo x,vo y]++cv.toArray) W fun e w'=>e=.returned (.int .i64 (cf caps x y))∧∃ q os',w'=grow (W.drewN q) os'
theorem yX {β:cN}:∀ {aa bs:List AV} {vs:List Value},Vs β (aa++bs) vs→∃ xs ys,vs=xs++ys∧Vs β aa xs∧Vs β bs ys
 | [],bs,vs,h=>⟨[],vs,rfl,by simp [Vs],h⟩
 | a::aa,bs,vs,h=>by
  simp only [List.cons_append,Vs] at h
  obtain ⟨v,vs',rfl,h1,h2⟩:=h
  obtain ⟨xs,ys,rfl,h3,h4⟩:=yX h2
  exact ⟨v::xs,ys,rfl,⟨v,xs,rfl,h1,h3⟩,h4⟩
omit [Inhabited α] in
theorem aC6 {enc:α→AV} {ev:α→List Value} (hve:∀ β x vs,Vs β (ceE enc x) vs→vs=ev x) {β:cN}:∀ {l:List α} {vs:List Value},Vs β (flE (ceE enc) l) vs→vs=l.flatMap ev
 | [],vs,h=>by simpa [flE,Vs] using h
 | a::l,vs,h=>by
  simp only [flE,List.flatMap_cons] at h
  obtain ⟨xs,ys,rfl,h1,h2⟩:=yX h
  rw [List.flatMap_cons,hve _ _ _ h1,aC6 hve (l:=l) h2]
omit [Inhabited α] in
theorem aHv {enc:α→AV} {ev:α→List Value} (hev:∀ β x,Vs β (ceE enc x) (ev x)) (β:cN):∀ l:List α,Vs β (flE (ceE enc) l) (l.flatMap ev)
 | []=>by simp [flE,Vs]
 | a::l=>by
  simp only [flE,List.flatMap_cons]
  exact oN (hev β a) (aHv hev β l)
theorem aKh {P:Program} {f:FuncId} {k:Nat} (vo:α→Value)
  (enc:α→AV) (ev:α→List Value) (hev:∀ β x,Vs β (ceE enc x) (ev x)) (hve:∀ β x vs,Vs β (ceE enc x) vs→vs=ev x) (hk:∀ x,(ev x).length=k) (hk0:0<k)
  (cf:List AV→α→α→Int) (hO:∀ caps,SWO (ltOf (cf caps))) (g:FuncId) (ef:∀ args w,(callFunc f args).run P w=.ok (.enter f args) w)
  (hcon:∀ (caps:List AV) (cb:Array Value) (blk off cap:Nat) (d:Array α) (w:World),(∀ (m:Nat) (os:Array Obj) (dk:Array α),dk.size=d.size→∀ x y:α,
    Calls P g (#[vo x,vo y]++cb) (sortWorldK ev k w blk off m dk os) fun e w'=>e=.returned (.int .i64 (cf caps x y))∧∃ q os',w'=grow ((sortWorldK ev k w blk off m dk os).drewN q) os') →
   HoldsK ev k w blk off d→blk<w.heap.size→d.size<4611686018427387904→Calls P f #[.slice (some ⟨blk,off,none⟩) d.size cap,.func (.func g) #[] cb] w fun e w'=>
    e=.returned (.tuple #[])∧∃ n os,w'=sortWorldK ev k w blk off n (pdq (ltOf (cf caps)) d 0 d.size (Lib.bitLen d.size) true true) os)
  (hnone:∀ (p:Option Addr) (cap:Nat) (fv:Value) (w:World),Calls P f #[.slice p 0 cap,fv] w fun e w'=>e=.returned (.tuple #[])∧w'=w)
  (okc:List AV→Prop) (hcmp:∀ caps,okc caps→aS6 P vo cf g caps):FOk P f (aMZ k (aMQ enc okc cf g)):=by
 have hce:∀ x,(ceE enc x).length=k:=fun x=>by rw [cO (hev ⟨fun _=>none,fun _ _=>none,fun _=>False⟩ x),hk]
 refine ⟨fun av w=>ef av w,fun args H base r H' e B w β av hβ hH hB hv=>?_⟩
 obtain ⟨i,n,fP,bs,bs',rfl,hi,⟨l,caps,hoc,rfl,hlt,rfl,rfl,rfl,rfl⟩,rfl⟩:=e
 obtain ⟨v0,av1,rfl,hv0,hv1⟩:=hv
 obtain ⟨v1,av2,rfl,hv1,hv2⟩:=hv1
 simp only [Vs] at hv2
 subst hv2
 simp only [V] at hv1
 obtain ⟨fv,cv,rfl,hfv,hcv⟩:=hv1
 simp only [Vs] at hfv
 subst hfv
 have hlen:=aB0 (cf caps) (hO caps) l
 obtain ⟨lc,hl,hll,hblk⟩:=hH.own i _ hi
 rw [uA hce] at hll
 by_cases hn:l=[]
 ·subst hn
  have hs0:wA (cf caps) ([]:List α)=[]:=List.length_eq_zero_iff.1 hlen
  have hup:upd H i (some (.cells (flE (ceE enc) (wA (cf caps) []))))=H:=by
   funext j;unfold upd;split
   ·rename_i e;subst e;rw [hs0,hi]
   ·rfl
  rw [hup]
  simp only [V] at hv0
  obtain ⟨_,_,hv0⟩:=hv0
  have key:∃ p cap,v0=.slice p 0 cap:=by
   rcases hv0 with ⟨_,a,rfl⟩ | ⟨m,_,_,rfl⟩
   ·exact ⟨_,_,rfl⟩
   ·exact ⟨_,_,rfl⟩
  obtain ⟨p,cap,rfl⟩:=key
  refine (hnone p cap _ w).mono ?_
  rintro e w' ⟨rfl,rfl⟩
  exact ⟨.tuple #[],β,rfl,⟨cN.le.refl _,fun j hj=>.inl hj,fun c o hc=>.inl hc⟩,by simp only [V];exact ⟨[],rfl,by simp [Vs]⟩,hH,bH.refl _ _⟩
 ·have hpos:0<l.length:=List.length_pos_iff.2 hn
  simp only [V] at hv0
  obtain ⟨lc',hl',hv0⟩:=hv0
  rw [hl] at hl';cases hl'
  rcases hv0 with ⟨h0,_⟩ | ⟨m,hnm,hmk,rfl⟩
  ·omega
  have hkk:0<lc.k:=by
   have:0<m * k:=Nat.mul_pos (by omega) hk0
   omega
  obtain ⟨hBl,hun,full,t,hfull,hfs,hvals⟩:=hblk hkk
  have hblt:lc.c<w.heap.size:=(Array.getElem?_eq_some_iff.1 hfull).1
  have hcell:∀ j v,(l.flatMap ev)[j]?=some v→full[lc.o+j]?=some v:=by
   have hvs:Vs β (flE (ceE enc) l) ((List.range (l.length * k)).map fun j=>(full[lc.o+j]?).getD undef):=
    qI (by rw [uA hce];simp) fun j a ha=>by
     obtain ⟨u,hu1,hu2⟩:=hvals j a ha
     have hj:j<l.length * k:=by rw [← uA hce];exact (List.getElem?_eq_some_iff.1 ha).1
     exact ⟨u,by simp [hj,hu1],hu2⟩
   have he:=aC6 hve hvs
   intro j v hj
   have hj2:j<l.length * k:=by rw [← tL hk];exact (List.getElem?_eq_some_iff.1 hj).1
   obtain ⟨u,hu1,_⟩:=hvals j _ (List.getElem?_eq_getElem (by rw [uA hce];exact hj2))
   rw [← he] at hj
   simp [hj2,hu1] at hj
   rw [hu1,hj]
  have hF:∀ d:Array α,d.size=l.length→∀ j,j<l.length * k→(flatK ev k d)[j]?=(d.toList.flatMap ev)[j]?:=fun d _ j _=>by rw [← aFK hk,Array.getElem?_toList]
  have hH0:HoldsK ev k w lc.c (lc.o+0) l.toArray:=by
   intro j hj
   rw [size_flatK,List.size_toArray] at hj
   have e1:(flatK ev k l.toArray)[j]?=some (flatK ev k l.toArray)[j]! := by
    rw [getElem!_pos _ j (by simpa using hj),Array.getElem?_eq_getElem (by simpa using hj)]
   rw [hF _ (by simp) j hj] at e1
   have:=hcell j _ e1
   refine ⟨?_,?_⟩
   ·simp only [World.cell?,hfull,Nat.add_zero];simpa using this
   ·simp only [World.frozen?,hfull];simp
  have hC:∀ (m:Nat) (os:Array Obj) (dk:Array α),dk.size=l.toArray.size→∀ x y:α,Calls P g (#[vo x,vo y]++cv.toArray) (sortWorldK ev k w lc.c (lc.o+0) m dk os) fun e w'=>e=.returned (.int .i64 (cf caps x y))∧∃ q os',w'=grow ((sortWorldK ev k w lc.c (lc.o+0) m dk os).drewN q) os':=by
   intro q os dk hdk x y
   refine hcmp caps hoc β cv _ hcv (fun c o v hfz=>?_) x y
   have hw:=hH.fz c o v hfz
   have hclt:=aAr hw
   by_cases hc:c=lc.c
   ·subst hc
    have ho:o<lc.o∨lc.o+lc.k≤o:=by
     rcases Nat.lt_or_ge o lc.o with h | h
     ·exact .inl h
     ·rcases Nat.lt_or_ge o (lc.o+lc.k) with h' | h'
      ·rw [hun o h h'] at hfz;cases hfz
      ·exact .inr h'
    have hs:l.length * k≤lc.k:=by have:=Nat.mul_le_mul_right k hnm;omega
    have hdk:dk.size=l.length:=by simpa using hdk
    simp only [World.cell?,aMc ev k w lc.c (lc.o+0) q dk os hfull] at hw ⊢
    rw [hfull] at hw
    simp only [Option.isSome_none,Bool.false_eq_true,if_false] at hw ⊢
    rw [aAP _ _ _ (by rw [size_flatK,hdk];omega)];exact hw
   ·simp only [World.cell?,aEm ev k w lc.c (lc.o+0) q dk os hclt hc] at hw ⊢
    exact hw
  refine (hcon caps cv.toArray lc.c (lc.o+0) m l.toArray w hC hH0 hblt (by simpa using hlt)).mono ?_
  rintro e w' ⟨rfl,q,os,rfl⟩
  rw [List.size_toArray]
  have hd:(pdq (ltOf (cf caps)) l.toArray 0 l.length (Lib.bitLen l.length) true true)=(wA (cf caps) l).toArray:=by simp [wA]
  rw [hd]
  have hkeep:∀ c,c<w.heap.size→c≠lc.c→(sortWorldK ev k w lc.c (lc.o+0) q (wA (cf caps) l).toArray os).heap[c]?=w.heap[c]?:=fun c h1 h2=>aEm ev k w lc.c (lc.o+0) q _ os h1 h2
  have hown:=aMc ev k w lc.c (lc.o+0) q (wA (cf caps) l).toArray os hfull
  have hyb:bH (fun c=>¬ β.ys c) w (sortWorldK ev k w lc.c (lc.o+0) q (wA (cf caps) l).toArray os):=aHO ev k w lc.c (lc.o+0) q _ os (fun c hc hy=>by have:=(hH.ys c hy).2;omega) (hH.yo i _ lc hi hl hkk)
  have hfz':∀ c o v,β.fz c o=some v→(sortWorldK ev k w lc.c (lc.o+0) q (wA (cf caps) l).toArray os).cell? ⟨c,o,none⟩=some v:=fun c o v hfz=>by
   have hw:=hH.fz c o v hfz
   have hclt:=aAr hw
   by_cases hc:c=lc.c
   ·subst hc
    have ho:o<lc.o∨lc.o+lc.k≤o:=by
     rcases Nat.lt_or_ge o lc.o with h | h
     ·exact .inl h
     ·rcases Nat.lt_or_ge o (lc.o+lc.k) with h' | h'
      ·rw [hun o h h'] at hfz;cases hfz
      ·exact .inr h'
    have hs:l.length * k≤lc.k:=by have:=Nat.mul_le_mul_right k hnm;omega
    simp only [World.cell?,hown] at hw ⊢
    rw [hfull] at hw
    simp only [Option.isSome_none,Bool.false_eq_true,if_false] at hw ⊢
    rw [aAP _ _ _ (by rw [size_flatK,List.size_toArray,hlen];omega)];exact hw
   ·simp only [World.cell?,hkeep c hclt hc] at hw ⊢
    exact hw
  refine ⟨.tuple #[],β,rfl,⟨cN.le.refl _,fun j hj=>.inl hj,fun c o hc=>.inl hc⟩,by simp only [V];exact ⟨[],rfl,by simp [Vs]⟩,⟨hfz',fun j cs hj=>?_,fun j es clk hj=>?_,fun a b ba bb la lb hab ha hb'=>?_,fun c hc=>⟨(hH.ys c hc).1,Nat.lt_of_lt_of_le (hH.ys c hc).2 hyb.size⟩,fun j b lj hj hlj hkj=>?_,fun j S G s hj=>?_,fun j j' S G s S' G' s' hj hj'=>?_,fun j sz es clk ho hj=>?_,fun j j' sz es clk ho b hj hj' hb=>?_⟩,aHO ev k w lc.c (lc.o+0) q _ os hB hBl⟩
  ·unfold upd at hj;split at hj
   ·rename_i e;subst e;cases hj
    refine ⟨lc,hl,by rw [uA hce,hlen];exact hll,fun _=>⟨hBl,hun,_,_,hown,by simpa [putCells] using hfs,fun j a ha=>?_⟩⟩
    have hvs:=aHv (enc:=enc) (ev:=ev) hev β (wA (cf caps) l)
    obtain ⟨u,hu1,hu2⟩:=uX hvs j a ha
    have hj2:j<l.length * k:=by rw [← hlen,← tL hk];exact (List.getElem?_eq_some_iff.1 hu1).1
    have hs:l.length * k≤lc.k:=by have:=Nat.mul_le_mul_right k hnm;omega
    refine ⟨u,?_,hu2⟩
    have:=aG3 (lc.o+0) (flatK ev k (wA (cf caps) l).toArray) full (t:=j) (by rw [size_flatK,List.size_toArray,hlen];exact hj2) (by omega)
    rw [Nat.add_zero] at this ⊢
    rw [this,hF _ (by simpa using hlen) j hj2];exact hu1
   ·rename_i hne
    obtain ⟨lj,g1,g2,g3⟩:=hH.own j cs hj
    refine ⟨lj,g1,g2,fun hkj=>?_⟩
    obtain ⟨b1,b2,full',t',p',q',r'⟩:=g3 hkj
    exact ⟨b1,b2,full',t',(hkeep _ (Array.getElem?_eq_some_iff.1 p').1 (hH.sep j i _ _ lj lc hne hj hi g1 hl hkj hkk)).trans p',q',r'⟩
  ·unfold upd at hj;split at hj
   ·cases hj
   ·rename_i hne
    obtain ⟨lj,g1,g2,g3,ents,g4,mm⟩:=hH.map j es clk hj
    exact ⟨lj,g1,g2,g3,ents,(hkeep _ (Array.getElem?_eq_some_iff.1 g4).1 (hH.sep j i _ _ lj lc hne hj hi g1 hl g2 hkk)).trans g4,mm⟩
  ·have f:∀ k' b,upd H i (some (.cells (flE (ceE enc) (wA (cf caps) l)))) k'=some b→∃ b',H k'=some b':=fun k' b hk'=>by
    unfold upd at hk';split at hk'
    ·rename_i e;subst e;exact ⟨_,hi⟩
    ·exact ⟨_,hk'⟩
   obtain ⟨ba',ha'⟩:=f a ba ha
   obtain ⟨bb',hb''⟩:=f b bb hb'
   exact hH.sep a b ba' bb' la lb hab ha' hb''
  ·unfold upd at hj;split at hj
   ·rename_i e;subst e;exact hH.yo _ _ lj hi hlj hkj
   ·exact hH.yo j b lj hj hlj hkj
  ·unfold upd at hj;split at hj
   ·cases hj
   ·obtain ⟨lj,g1,g2,g3,g4,g5⟩:=hH.gh j S G s hj
    exact ⟨lj,g1,g2,G.stable _ _ _ _ _ g3 hyb (fun c o v hv=>hfz' c o v (g5 c o v hv)),g4,g5⟩
  ·unfold upd at hj hj'
   split at hj
   ·cases hj
   ·split at hj'
    ·cases hj'
    ·exact hH.gh1 j j' S G s S' G' s' hj hj'
  ·unfold upd at hj;split at hj
   ·cases hj
   ·rename_i hne
    obtain ⟨lj,g1,g2,g3,ents,g4,mm,m2⟩:=hH.mps j sz es clk ho hj
    exact ⟨lj,g1,g2,g3,ents,(hkeep _ (Array.getElem?_eq_some_iff.1 g4).1 (hH.sep j i _ _ lj lc hne hj hi g1 hl g2 hkk)).trans g4,mm,m2.mono (fun _ h=>h) (fun _ _ _ h=>h) fun c hc=>hyb.block c fun h=>h hc⟩
  ·unfold upd at hj hj'
   split at hj
   ·cases hj
   ·split at hj'
    ·cases hj';cases hb
    ·exact hH.mp1 j j' sz es clk ho b hj hj' hb
omit [Inhabited α] in
theorem aNn {W w':World} (h:bH (fun c=>W.heap.size≤c) W w'):∃ q os',w'=grow (W.drewN q) os':=by
 refine ⟨w'.drawn-W.drawn,w'.heap.extract W.heap.size w'.heap.size,?_⟩
 obtain ⟨h1,h2,h3,h4,h5,h6⟩:=h
 cases w'
 cases W
 simp only at h1 h2 h3 h4 h5 h6
 simp only [grow,World.drewN,World.mk.injEq]
 refine ⟨?_,h2,by omega,h1,h3⟩
 apply Array.ext_getElem?
 intro i
 rw [Array.getElem?_append]
 split
 ·rename_i hi;exact h6 i (by omega)
 ·rename_i hi
  rw [Array.getElem?_extract]
  split
  ·congr 1;omega
  ·exact Array.getElem?_eq_none (by omega)
theorem aKB {γ:Type} {P:Program} {g:FuncId} {S:List AV→AV→Prop} (h:FOk P g (aH S)) {vo:γ→Value} {enc:γ→AV} {cf:List AV→γ→γ→Int} {caps:List AV} (hvo:∀ β x,V β (enc x) (vo x)) (hl:∀ a∈caps,a.loose)
  (hS:∀ x y,S ([enc x,enc y]++caps) (eI (cf caps x y))):aS6 P vo cf g caps:=by
 intro β cv W hcv hfz x y
 have hH:cQ ⟨fun _=>none,β.fz,fun _=>False⟩ (fun _=>none) W (fun c=>W.heap.size≤c):=⟨hfz,fun i cs hi=>by simp at hi,fun i es clk hi=>by simp at hi,fun i j bi bj li lj _ hi=>by simp at hi,fun c hc=>hc.elim,fun i b l hi=>by simp at hi,fun i S G s hi=>by simp at hi,fun i j S G s S' G' s' hi=>by simp at hi,fun i sz es clk ho hi=>by simp at hi,fun i j sz es clk ho b hi=>by simp at hi⟩
 have hv:Vs ⟨fun _=>none,β.fz,fun _=>False⟩ ([enc x,enc y]++caps) ([vo x,vo y]++cv):=oN ⟨_,_,rfl,hvo _ x,_,_,rfl,hvo _ y,rfl⟩ (aBb hl hcv)
 have:=h.2 _ (fun _=>none) 0 (eI (cf caps x y)) (fun _=>none) ⟨hS x y,aLH _,rfl⟩ (fun c=>W.heap.size≤c) W ⟨fun _=>none,β.fz,fun _=>False⟩ _ (fun j hj=>absurd rfl hj) hH (fun c hc=>hc) hv
 have e:([vo x,vo y]++cv).toArray=#[vo x,vo y]++cv.toArray:=by simp
 rw [e] at this
 refine this.mono fun e w' ⟨v,β',e1,_,e3,_,e5⟩=>?_
 cases (show v=.int .i64 (cf caps x y) by simpa only [eI,V] using e3)
 exact ⟨e1,aNn e5⟩
theorem aPM (enc:α→Value) (d:Array α):flatK (fun x=>[enc x]) 1 d=d.map enc:=by
 refine Array.ext (by simp) fun i h1 h2=>?_
 have hi:i<d.size:=by simpa using h1
 have e:=get_flatK (fun x=>[enc x]) 1 d i (by simpa using hi)
 rw [getElem!_pos _ i h1] at e
 rw [e]
 simp [Nat.mod_one,hi]
theorem aIU (enc:α→Value) (off:Nat) (d:Array α) (c:Array Value):putCells id off (d.map enc) c=putCells enc off d c:=by
 unfold putCells
 congr 1
 funext k x
 simp only [Array.size_map,id]
 split
 ·rename_i h
  have:k-off<d.size:=by omega
  rw [getElem!_pos (d.map enc) _ (by simpa using this),getElem!_pos d _ this];simp
 ·rfl
theorem aIq (enc:α→Value) (w:World) (blk off m:Nat) (dk:Array α) (os:Array Obj):sortWorldK (fun x=>[enc x]) 1 w blk off m dk os=sortWorld enc w blk off m dk os:=by
 unfold sortWorldK sortWorld putRowK putRow
 rw [aPM]
 congr 2
 funext c
 exact aIU enc off dk c
theorem aOP {enc:α→Value} {w:World} {blk off:Nat} {d:Array α} (h:HoldsK (fun x=>[enc x]) 1 w blk off d):Holds enc w blk off d:=fun j hj=>by
 have:=h j (by simpa using hj)
 rw [aPM] at this
 rw [getElem!_pos (d.map enc) j (by simpa using hj)] at this
 rw [getElem!_pos d j hj]
 simpa using this
theorem aKr {P:Program} {ρ ρ0:Shelf.Ren} (L:SlLaysF.n6 P ρ) (L0:SlLaysF0.n6 P ρ0) {f:FuncId} (hf:ρ.f 6=f) (hf0:ρ0.f 6=f)
  (enc:α→AV) (ev:α→Value) (hev:∀ β x,Vs β (ceE enc x) [ev x]) (hve:∀ β x vs,Vs β (ceE enc x) vs→vs=[ev x]) (h1:∀ x,(ev x).oneCell'=true)
  (cf:List AV→α→α→Int) (hO:∀ caps,SWO (ltOf (cf caps))) (g:FuncId) (eg:∀ args w,(callFunc g args).run P w=.ok (.enter g args) w) (ef:∀ args w,(callFunc f args).run P w=.ok (.enter f args) w)
  (okc:List AV→Prop) (hcmp:∀ caps,okc caps→aS6 P ev cf g caps):FOk P f (aMZ 1 (aMQ enc okc cf g)):=by
 refine aKh (k:=1) ev enc (fun x=>[ev x]) hev hve (fun _=>rfl) (by decide) cf hO g ef (fun caps cb blk off cap d w hC hH hb hs=>?_) (fun p cap fv w=>by
  subst hf0;exact AnyF.slices_SortFunc_none (P:=P) (ρ:=ρ0) L0 p cap fv w) okc hcmp
 subst hf
 simp only [aIq] at hC ⊢
 exact Any.slices_SortFunc_eq (P:=P) (ρ:=ρ) L ev h1 (cf caps) (hO caps) g cb blk off cap d w eg hC (aOP hH) hb hs
end
end Go.Eng
namespace Go.Eng
section
variable {α β:Type} {S R:Type}
theorem bL (a:α) (f:α→Option β):bd (some a) f=f a:=by unfold bd;rfl
theorem eE (x y:Option α):cn true x y=x:=by unfold cn;rfl
theorem dN (x y:Option α):cn false x y=y:=by unfold cn;rfl
theorem zE (b:Bool) (x y:Option α):cn b x y=if b=true then x else y:=by unfold cn;cases b<;>rfl
theorem aZ (p:Prop) [Decidable p] (x y:Option α):cn (decide p) x y=if p then x else y:=by
 by_cases h:p
 ·rw [if_pos h,decide_eq_true h,eE]
 ·rw [if_neg h,decide_eq_false h,dN]
theorem iL (a b:Int) (x y:Option α):cn (a==b) x y=if a=b then x else y:=by
 by_cases h:a=b
 ·rw [if_pos h,beq_iff_eq.2 h,eE]
 ·rw [if_neg h,beq_false_of_ne h,dN]
theorem iD (b:Bool) (x y:Option α):cn (!b) x y=cn b y x:=by cases b<;>simp [eE,dN]
theorem fR (a b:Int) (x y:Option α):cn (a != b) x y=if a=b then y else x:=by
 show cn (!(a==b)) x y=_
 rw [iD,iL]
theorem kN {G:Prop} [Decidable G] (x:Option α) (h:G):gd G x=x:=by unfold gd;rw [if_pos h]
theorem iK {V:Type} (f:V→Option β) (g:(V→Option β)→Option β):jn f g=g f:=by unfold jn;rfl
theorem aPe (s:S) (f g:S→Option β) (h:R→Option β):ctK (.nx s) f g h=f s:=by unfold ctK;rfl
theorem aQa (s:S) (f g:S→Option β) (h:R→Option β):ctK (.bk s) f g h=g s:=by unfold ctK;rfl
theorem aR0 (r:R) (f g:S→Option β) (h:R→Option β):ctK (.rt r) f g h=h r:=by unfold ctK;rfl
theorem eJ (s:S) (f:S→Option β) (g:R→Option β):smK (.inl s) f g=f s:=by unfold smK;rfl
theorem tT (r:R) (f:S→Option β) (g:R→Option β):smK (.inr r) f g=g r:=by unfold smK;rfl
theorem aGu {l:List α} {d:α} {i:Int} {f:α→Option β} (h0:0≤i) (h1:i<(l.length:Int)):ix l d i f=f (l.getD i.toNat d):=by unfold ix;exact kN _ ⟨h0,h1⟩
theorem lB {l:List α} {d:α} {k:Nat} {f:α→Option β} (h:k<l.length):ix l d (k:Int) f=f (l.getD k d):=by rw [aGu (by omega) (by omega),Int.toNat_natCast]
theorem wZ (l:List α) (f:List α→Option β):lt l f=f l:=by unfold lt;rfl
theorem aCu {l x:List α} {f:List α→Option β} (h:l.length+x.length≤1048576):ap l x f=f (l++x):=by unfold ap;exact kN _ h
theorem aN0 {l:List α} {lo hi:Int} {f:List α→Option β} (h0:0≤lo) (h1:lo≤hi) (h2:hi≤(l.length:Int)):slc l lo hi f=f (sub l lo hi):=by unfold slc;exact kN _ ⟨h0,h1,h2⟩
theorem aMl:FU=18446744073709551616:=by unfold FU;rfl
theorem aMr {body:S→Option (Ct S R)} (I:S→Prop) (μ:S→Nat) (Q:S ⊕ R→Prop)
  (step:∀ s,I s→(∃ s',body s=some (.nx s')∧I s'∧μ s'<μ s)∨(∃ s',body s=some (.bk s')∧Q (.inl s'))∨(∃ r,body s=some (.rt r)∧Q (.inr r))) :
  ∀ (n:Nat) (s:S),I s→μ s<n→∃ o,lp body n s=some o∧Q o
 | 0,s,_,h=>by omega
 | n+1,s,hI,hm=>by
  unfold lp
  rcases step s hI with ⟨s',e,hI',hm'⟩ | ⟨s',e,q⟩ | ⟨r,e,q⟩
  ·rw [e,bL,aPe];exact aMr I μ Q step n s' hI' (by omega)
  ·rw [e,bL,aQa];exact ⟨_,rfl,q⟩
  ·rw [e,bL,aR0];exact ⟨_,rfl,q⟩
theorem mJ {body:S→Option (Ct S R)} (I:S→Prop) (μ:S→Nat) (Q:S ⊕ R→Prop)
  (step:∀ s,I s→(∃ s',body s=some (.nx s')∧I s'∧μ s'<μ s)∨(∃ s',body s=some (.bk s')∧Q (.inl s'))∨(∃ r,body s=some (.rt r)∧Q (.inr r))) (s:S) (hI:I s) (hm:μ s<18446744073709551616) :
  ∃ o,lp body FU s=some o∧Q o:=aMr I μ Q step FU s hI (by rw [aMl];exact hm)
theorem dD {body:S→Option (Ct S R)} (I:Nat→S→Prop) (N:Nat) (hN:N<18446744073709551616)
  (step:∀ k s,k<N→I k s→∃ s',body s=some (.nx s')∧I (k+1) s') (stop:∀ s,I N s→body s=some (.bk s)) (s:S) (hI:I 0 s) :
  ∃ s',lp body FU s=some (.inl s')∧I N s':=by
 have key:∀ (m n k:Nat) (s:S),k+m=N→I k s→m<n→∃ s',lp body n s=some (.inl s')∧I N s':=by
  intro m
  induction m with
  | zero=>
   intro n k s hk hI hn
   obtain ⟨n',rfl⟩:∃ n',n=n'+1:=⟨n-1,by omega⟩
   have:k=N:=by omega
   subst this
   unfold lp
   rw [stop s hI,bL,aQa];exact ⟨_,rfl,hI⟩
  | succ m ih=>
   intro n k s hk hI hn
   obtain ⟨n',rfl⟩:∃ n',n=n'+1:=⟨n-1,by omega⟩
   obtain ⟨s',e,hI'⟩:=step k s (by omega) hI
   unfold lp
   rw [e,bL,aPe]
   exact ih n' (k+1) s' (by omega) hI' (by omega)
 exact key N FU 0 s (by omega) hI (by rw [aMl];exact hN)
end
theorem bT {x:Int} (h1 : -9223372036854775808≤x) (h2:x≤9223372036854775807):wr x=x:=aHq h1 h2
def oI (c n:Int):Int:=(if c<0 then -(c+1) else c) % n
theorem lN (c:Int) {n:Int} (h:0<n):0≤oI c n∧oI c n<n:=⟨Int.emod_nonneg _ (by omega),Int.emod_lt_of_pos _ h⟩
theorem aLC (c n:Int) (hc : -9223372036854775808≤c) (hc2:c≤9223372036854775807) (_hn:0<n):(if c<0 then Int.tmod (wr (0-wr (c+1))) n else Int.tmod c n)=oI c n:=by
 unfold oI
 split
 ·rw [bT (x:=c+1) (by omega) (by omega),bT (by omega) (by omega),Int.tmod_eq_emod_of_nonneg (by omega)]
  congr 1;omega
 ·rw [Int.tmod_eq_emod_of_nonneg (by omega)]
end Go.Eng
namespace Go.Eng
def sm:Nat→(Nat→Int)→Int
 | 0,_=>0
 | n+1,f=>sm n f+f n
theorem rI {n:Nat} {f g:Nat→Int} (h:∀ i,i<n→f i=g i):sm n f=sm n g:=by
 induction n with
 | zero=>rfl
 | succ n ih=>simp only [sm];rw [ih fun i hi=>h i (by omega),h n (by omega)]
theorem aC3 (n:Nat) (f g:Nat→Int):sm n (fun i=>f i+g i)=sm n f+sm n g:=by
 induction n with
 | zero=>rfl
 | succ n ih=>simp only [sm];rw [ih];omega
theorem aI3 (n:Nat) (f g:Nat→Int):sm n (fun i=>f i-g i)=sm n f-sm n g:=by
 induction n with
 | zero=>rfl
 | succ n ih=>simp only [sm];rw [ih];omega
theorem aMK (n:Nat) (c:Int) (f:Nat→Int):sm n (fun i=>c * f i)=c * sm n f:=by
 induction n with
 | zero=>simp [sm]
 | succ n ih=>simp only [sm];rw [ih,Int.mul_add]
theorem vQ {n:Nat} {f:Nat→Int} (h:∀ i,i<n→f i=0):sm n f=0:=by
 induction n with
 | zero=>rfl
 | succ n ih=>simp only [sm];rw [ih fun i hi=>h i (by omega),h n (by omega)];rfl
theorem aRU {n:Nat} {f g:Nat→Int} (h:∀ i,i<n→f i≤g i):sm n f≤sm n g:=by
 induction n with
 | zero=>exact Int.le_refl _
 | succ n ih=>
  simp only [sm]
  have h1:=ih fun i hi=>h i (by omega)
  have h2:=h n (by omega)
  omega
theorem aOJ {n:Nat} {f:Nat→Int} (h:∀ i,i<n→0≤f i):0≤sm n f:=by
 have:=aRU (n:=n) (f:=fun _=>0) (g:=f) h
 rwa [vQ fun _ _=>rfl] at this
theorem aNP (n m:Nat) (f:Nat→Nat→Int):sm n (fun i=>sm m fun j=>f i j)=sm m fun j=>sm n fun i=>f i j:=by
 induction n with
 | zero=>simp only [sm];exact (vQ fun _ _=>rfl).symm
 | succ n ih=>simp only [sm];rw [ih,← aC3]
theorem aJI (n k:Nat) (c:Int):sm n (fun i=>if i=k then c else 0)=if k<n then c else 0:=by
 induction n with
 | zero=>simp [sm]
 | succ n ih=>
  simp only [sm];rw [ih]
  by_cases h:k<n
  ·rw [if_pos h,if_neg (by omega),if_pos (by omega)];omega
  ·by_cases h2:k=n
   ·rw [if_neg h,if_pos h2.symm,if_pos (by omega)];omega
   ·rw [if_neg h,if_neg (fun e=>h2 e.symm),if_neg (by omega)];rfl
def aFz (n:Nat) (M:Nat→Nat→Int) (S:Nat→Bool):Int:=sm n fun a=>if S a then sm n (fun b=>if S b then 0 else M a b) else 0
theorem aNs {n:Nat} {M:Nat→Nat→Int} {S:Nat→Bool} (h:∀ a b,a<n→b<n→0≤M a b):0≤aFz n M S:=aOJ fun a ha=>by
 try simp only
 split
 ·exact aOJ fun b hb=>by split;exact Int.le_refl _;exact h a b ha hb
 ·exact Int.le_refl _
theorem aII {n:Nat} {M:Nat→Nat→Int} {S:Nat→Bool} (h:∀ a b,a<n→b<n→S a=true→S b=false→M a b=0):aFz n M S=0:=vQ fun a ha=>by
 try simp only
 split
 ·rename_i sa
  exact vQ fun b hb=>by
   try simp only
   split
   ·rfl
   ·rename_i sb;exact h a b ha hb sa (by simpa using sb)
 ·rfl
theorem aLq (n:Nat) (M M':Nat→Nat→Int) (S:Nat→Bool):aFz n (fun a b=>M a b+M' a b) S=aFz n M S+aFz n M' S:=by
 unfold aFz
 rw [← aC3]
 refine rI fun a _=>?_
 try simp only
 split
 ·rw [← aC3]
  exact rI fun b _=>by split<;>omega
 ·rfl
theorem aIj {n:Nat} {M M':Nat→Nat→Int} {S S':Nat→Bool} (h:∀ a b,a<n→b<n→M a b=M' a b) (k:∀ a,a<n→S a=S' a):aFz n M S=aFz n M' S':=by
 unfold aFz
 refine rI fun a ha=>?_
 simp only [k a ha]
 split
 ·exact rI fun b hb=>by simp only [k b hb];split;rfl;exact h a b ha hb
 ·rfl
structure Flo (n:Nat) (M0 M:Nat→Nat→Int) (s t:Nat) (v:Int):Prop where
 nn:∀ a b,a<n→b<n→0≤M a b
 sy:∀ a b,a<n→b<n→M a b+M b a=M0 a b+M0 b a
 co:∀ a,a<n→a≠s→a≠t→sm n (fun b=>M0 a b-M a b)=0
 va:sm n (fun b=>M0 s b-M s b)=v
theorem Flo.start {n:Nat} {M0:Nat→Nat→Int} {s t:Nat} (h:∀ a b,a<n→b<n→0≤M0 a b):Flo n M0 M0 s t 0:=
 ⟨h,fun _ _ _ _=>rfl,fun _ _ _ _=>vQ fun _ _=>by omega,vQ fun _ _=>by omega⟩
theorem aJ8 {n:Nat} {F:Nat→Nat→Int} (h:∀ a b,a<n→b<n→F a b =-F b a):sm n (fun a=>sm n fun b=>F a b)=0:=by
 have e:=aNP n n F
 have e2:sm n (fun j=>sm n fun i=>F i j) =-sm n (fun a=>sm n fun b=>F a b):=by
  have:sm n (fun j=>sm n fun i=>F i j)=sm n (fun j=>(-1) * sm n fun i=>F j i):=rI fun j hj=>by
   try simp only
   rw [← aMK]
   exact rI fun i hi=>by have:=h i j hi hj;omega
  rw [this,aMK];omega
 omega
theorem Flo.cut {n:Nat} {M0 M:Nat→Nat→Int} {s t:Nat} {v:Int} (h:Flo n M0 M s t v) (hs:s<n) {S:Nat→Bool} (Ss:S s=true) (St:S t=false):v=aFz n M0 S-aFz n M S:=by
 have e1:sm n (fun a=>if S a then sm n (fun b=>M0 a b-M a b) else 0)=v:=by
  have:sm n (fun a=>if S a then sm n (fun b=>M0 a b-M a b) else 0)=sm n fun a=>if a=s then v else 0:=rI fun a ha=>by
   try simp only
   by_cases ea:a=s
   ·subst ea;rw [if_pos Ss,if_pos rfl];exact h.va
   ·rw [if_neg ea]
    split
    ·rename_i sa
     exact h.co a ha ea fun et=>by subst et;rw [St] at sa;cases sa
    ·rfl
  rw [this,aJI,if_pos hs]
 have e2:sm n (fun a=>if S a then sm n (fun b=>M0 a b-M a b) else 0)=sm n (fun a=>sm n fun b=>if S a&&S b then M0 a b-M a b else 0)+aFz n (fun a b=>M0 a b-M a b) S:=by
  unfold aFz
  rw [← aC3]
  refine rI fun a ha=>?_
  try simp only
  cases S a with
  | false=>simp only [Bool.false_and,Bool.false_eq_true,if_false];rw [vQ fun _ _=>rfl];rfl
  | true=>
   simp only [Bool.true_and,if_true]
   rw [← aC3]
   exact rI fun b _=>by cases S b<;>simp
 have e3:sm n (fun a=>sm n fun b=>if S a&&S b then M0 a b-M a b else 0)=0:=aJ8 fun a b ha hb=>by
  have:=h.sy a b ha hb
  rw [Bool.and_comm (S b) (S a)]
  split<;>omega
 have e4:aFz n M0 S=aFz n (fun a b=>M0 a b-M a b) S+aFz n M S:=by
  rw [← aLq]
  exact aIj (fun a b _ _=>by omega) fun _ _=>rfl
 omega
theorem Flo.le {n:Nat} {M0 M:Nat→Nat→Int} {s t:Nat} {v:Int} (h:Flo n M0 M s t v) (hs:s<n) {S:Nat→Bool} (Ss:S s=true) (St:S t=false):v≤aFz n M0 S:=by
 have:=h.cut hs Ss St
 have:=aNs (S:=S) h.nn
 omega
theorem Flo.eq {n:Nat} {M0 M:Nat→Nat→Int} {s t:Nat} {v:Int} (h:Flo n M0 M s t v) (hs:s<n) {S:Nat→Bool} (Ss:S s=true) (St:S t=false) (hz:∀ a b,a<n→b<n→S a=true→S b=false→M a b=0):v=aFz n M0 S:=by
 have:=h.cut hs Ss St
 rw [aII hz] at this
 omega
def aug (M:Nat→Nat→Int) (p x:Nat) (r:Int):Nat→Nat→Int:=fun a b=>(if a=p∧b=x then M a b-r else if a=x∧b=p then M a b+r else M a b)
theorem aJL {M:Nat→Nat→Int} {p x:Nat} (r:Int) (h:p≠x) (a b:Nat):aug M p x r a b=M a b+((if a=x then (if b=p then r else 0) else 0)-(if a=p then (if b=x then r else 0) else 0)):=by
 unfold aug
 by_cases h1:a=p<;>by_cases h2:b=x<;>by_cases h3:a=x<;>by_cases h4:b=p<;>simp_all<;>omega
theorem aNV {n:Nat} {M:Nat→Nat→Int} {p x:Nat} (r:Int) (h:p≠x) (hp:p<n) (hx:x<n) (a:Nat):sm n (aug M p x r a)=sm n (M a)+((if a=x then r else 0)-(if a=p then r else 0)):=by
 rw [show sm n (aug M p x r a)=sm n (fun b=>M a b+((if a=x then (if b=p then r else 0) else 0)-(if a=p then (if b=x then r else 0) else 0))) from rI fun b _=>aJL r h a b,aC3,aI3]
 congr 1
 have e1:sm n (fun b=>if a=x then (if b=p then r else 0) else 0)=if a=x then r else 0:=by
  by_cases e:a=x
  ·simp only [e,if_true];rw [aJI,if_pos hp]
  ·simp only [e,if_false];exact vQ fun _ _=>rfl
 have e2:sm n (fun b=>if a=p then (if b=x then r else 0) else 0)=if a=p then r else 0:=by
  by_cases e:a=p
  ·simp only [e,if_true];rw [aJI,if_pos hx]
  ·simp only [e,if_false];exact vQ fun _ _=>rfl
 rw [e1,e2]
structure Way (n:Nat) (M1 M:Nat→Nat→Int) (t at_:Nat) (r:Int):Prop where
 nn:∀ a b,a<n→b<n→0≤M a b
 sy:∀ a b,a<n→b<n→M a b+M b a=M1 a b+M1 b a
 row:∀ a,a<n→sm n (M a)=sm n (M1 a)+((if a=t then r else 0)-(if a=at_ then r else 0))
theorem Way.start {n:Nat} {M:Nat→Nat→Int} {t:Nat} {r:Int} (h:∀ a b,a<n→b<n→0≤M a b):Way n M M t t r:=⟨h,fun _ _ _ _=>rfl,fun a _=>by omega⟩
theorem Way.step {n:Nat} {M1 M:Nat→Nat→Int} {t x p:Nat} {r:Int} (h:Way n M1 M t x r) (hpx:p≠x) (hp:p<n) (hx:x<n) (hr:0≤r) (hm:r≤M p x):Way n M1 (aug M p x r) t p r where
 nn a b ha hb:=by
  have h1:=h.nn a b ha hb
  unfold aug
  split
  ·rename_i e;obtain ⟨rfl,rfl⟩:=e;omega
  ·split<;>omega
 sy a b ha hb:=by
  have h1:=h.sy a b ha hb
  rw [aJL r hpx,aJL r hpx]
  by_cases e1:a=p<;>by_cases e2:b=x<;>by_cases e3:a=x<;>by_cases e4:b=p<;>simp_all<;>omega
 row a ha:=by
  rw [aNV r hpx hp hx,h.row a ha]
  omega
theorem Flo.more {n:Nat} {M0 M1 M:Nat→Nat→Int} {s t:Nat} {v r:Int} (h:Flo n M0 M1 s t v) (k:Way n M1 M t s r) (hs:s<n) (hne:s≠t):Flo n M0 M s t (v+r) where
 nn:=k.nn
 sy a b ha hb:=(k.sy a b ha hb).trans (h.sy a b ha hb)
 co a ha h1 h2:=by
  have e:=h.co a ha h1 h2
  rw [aI3] at e ⊢
  rw [show sm n (fun b=>M a b)=sm n (M a) from rfl,k.row a ha,if_neg h1,if_neg h2]
  have:sm n (fun b=>M1 a b)=sm n (M1 a):=rfl
  omega
 va:=by
  have e:=h.va
  rw [aI3] at e ⊢
  rw [show sm n (fun b=>M s b)=sm n (M s) from rfl,k.row s hs,if_neg hne,if_pos rfl]
  have:sm n (fun b=>M1 s b)=sm n (M1 s):=rfl
  omega
end Go.Eng
