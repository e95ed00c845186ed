import Derived.Test.YtkjccabdpeldhaaGreatM2
import Derived.Laws.Cover3
import Derived.Carry
import Derived.OpenShut
set_option linter.unusedVariables false
set_option linter.unusedSimpArgs false
set_option linter.unusedSectionVars false
namespace Go.Eng
open Go
open Go.RowKit (Below)
universe u v
def AV.a64 (a:AV):Prop:=∀ (β:cN) (loc':Nat→Option Loc) (ys':Nat→Prop) (v:Value),(∀ i,i<64→β.loc i≠none→loc' i=β.loc i)→V β a v→V ⟨loc',β.fz,ys'⟩ a v
theorem rW {a:AV} (h:a.loose):a.a64:=fun β loc' ys' v _ hv=>h β loc' ys' v hv
theorem aNa {β:cN} {loc':Nat→Option Loc} {i:Nat} {l:Loc} (hi:i<64) (h:∀ i,i<64→β.loc i≠none→loc' i=β.loc i) (hl:β i=some l):loc' i=some l:=by
 rw [h i hi (by rw [hl];simp)];exact hl
theorem aDY {i o:Nat} (hi:i<64):(AV.ptr i o).a64:=fun β loc' ys' v h hv=>by
 simp only [V] at hv ⊢;obtain ⟨l,h1,h2⟩:=hv;exact ⟨l,aNa hi h h1,h2⟩
theorem aJ4 {aa:List AV} (h:∀ a∈aa,a.a64) {β:cN} {loc':Nat→Option Loc} {ys':Nat→Prop} (hl:∀ i,i<64→β.loc i≠none→loc' i=β.loc i):∀ {vs:List Value},Vs β aa vs→Vs ⟨loc',β.fz,ys'⟩ aa vs:=by
 induction aa with
 | nil=>intro vs hv;simpa [Vs] using hv
 | cons a aa ih=>
  intro vs hv
  simp only [Vs] at hv ⊢
  obtain ⟨v,vs',e,h1,h2⟩:=hv
  exact ⟨v,vs',e,h a (by simp) _ _ _ _ hl h1,ih (fun b hb=>h b (by simp [hb])) h2⟩
theorem aFI {cs:List AV} {o:Nat} (h:∀ a∈cs,a.a64):(AV.ep cs o).a64:=fun β loc' ys' v hl hv=>by
 simp only [V] at hv ⊢
 obtain ⟨c,q,vs,e,h1,h2⟩:=hv
 exact ⟨c,q,vs,e,h1,aJ4 h hl h2⟩
theorem aMx {f:FuncId} {fs cs:List AV} (h:∀ a∈fs,a.a64) (k:∀ a∈cs,a.a64):(AV.fn f fs cs).a64:=fun β loc' ys' v hl hv=>by
 simp only [V] at hv ⊢
 obtain ⟨x,y,e,h1,h2⟩:=hv
 exact ⟨x,y,e,aJ4 h hl h1,aJ4 k hl h2⟩
theorem vN:∀ a∈([]:List AV),a.a64:=fun a h=>by simp at h
theorem oY {a:AV} {aa:List AV} (h:a.a64) (k:∀ a∈aa,a.a64):∀ b∈a::aa,b.a64:=fun b hb=>by
 rcases List.mem_cons.1 hb with rfl | hb
 ·exact h
 ·exact k b hb
theorem cQ.poke {β:cN} {H:bF} {w:World} {B:Bd} (h:cQ β H w B) {l:Nat} {o o':Obj} (hl:w.heap[l]?=some o) (hc:∀ k,w.cell? ⟨l,k,none⟩=none) (hown:∀ i b li,H i=some b→β i=some li→0<li.k→li.c≠l) (hy:¬ β.ys l):cQ β H (w.putObj l o') B:=
 h.world (fun c k v hv=>by
   have h0:=h.fz c k v hv
   have hne:c≠l:=fun e=>by subst e;rw [hc k] at h0;cases h0
   exact (World.cell?_of_block (w:=w) (a:=⟨c,k,none⟩) (World.putObj_heap_other hne)).trans h0)
  (fun i b li hi hli hk=>World.putObj_heap_other (hown i b li hi hli hk))
  ⟨rfl,rfl,rfl,by simp,Nat.le_refl _,fun k hk=>World.putObj_heap_other fun e=>hk (e ▸ hy)⟩
theorem cQ.supL {β:cN} {H:bF} {w:World} {B B':Bd} (h:cQ β H w B) (k:∀ c,c<w.heap.size→B c→B' c):cQ β H w B':=
 ⟨h.fz,fun i cs hi=>let ⟨l,h1,h2,h3⟩:=h.own i cs hi;⟨l,h1,h2,fun hk=>let ⟨a,b⟩:=h3 hk;⟨k _ (h.lt_of_own hi h1 hk).1 a,b⟩⟩,fun i es clk hi=>let ⟨l,h1,h2,h3,h4⟩:=h.map i es clk hi;⟨l,h1,h2,k _ (h.lt_of_own hi h1 h2).1 h3,h4⟩,h.sep,
  fun c hc=>⟨k _ (h.ys c hc).2 (h.ys c hc).1,(h.ys c hc).2⟩,h.yo,h.gh,h.gh1,fun i sz es clk ho hi=>let ⟨l,h1,h2,h3,h4⟩:=h.mps i sz es clk ho hi;⟨l,h1,h2,k _ (h.lt_of_own hi h1 h2).1 h3,h4⟩,h.mp1⟩
theorem cQ.supI {β:cN} {H:bF} {w:World} {B B':Bd} (h:cQ β H w B) (k:∀ i b l,H i=some b→β i=some l→0<l.k→B' l.c) (ky:∀ c,β.ys c→B' c):cQ β H w B':=
 ⟨h.fz,fun i cs hi=>let ⟨l,h1,h2,h3⟩:=h.own i cs hi;⟨l,h1,h2,fun hk=>let ⟨_,b⟩:=h3 hk;⟨k i _ l hi h1 hk,b⟩⟩,fun i es clk hi=>let ⟨l,h1,h2,_,h4⟩:=h.map i es clk hi;⟨l,h1,h2,k i _ l hi h1 h2,h4⟩,h.sep,
  fun c hc=>⟨ky c hc,(h.ys c hc).2⟩,h.yo,h.gh,h.gh1,fun i sz es clk ho hi=>let ⟨l,h1,h2,_,h4⟩:=h.mps i sz es clk ho hi;⟨l,h1,h2,k i _ l hi h1 h2,h4⟩,h.mp1⟩
theorem aTq {β:cN} {ys':Nat→Prop} {a:AV} {v:Value} (h:V β a v):V ⟨β.loc,β.fz,ys'⟩ a v:=lJ (β:=β) (β':=⟨β.loc,β.fz,ys'⟩) ⟨fun _ _ h=>h,fun _ _ _ h=>h⟩ _ _ h
theorem cQ.noys {β:cN} {H:bF} {w:World} {B:Bd} (h:cQ β H w B) (hn:∀ i b,H i=some b→aGv b=true):cQ ⟨β.loc,β.fz,fun _=>False⟩ H w B:=
 ⟨h.fz,fun i cs hi=>let ⟨l,h1,h2,h3⟩:=h.own i cs hi;⟨l,h1,h2,fun hk=>let ⟨a,b,full,e,p,q,r⟩:=h3 hk;⟨a,b,full,e,p,q,fun j x hx=>let ⟨v,y,z⟩:=r j x hx;⟨v,y,aTq z⟩⟩⟩,
  fun i es clk hi=>let ⟨l,h1,h2,h3,ents,h4,m⟩:=h.map i es clk hi;⟨l,h1,h2,h3,ents,h4,aBd.mono (β:=β) (β':=⟨β.loc,β.fz,fun _=>False⟩) ⟨fun _ _ h=>h,fun _ _ _ h=>h⟩ m⟩,h.sep,fun c hc=>hc.elim,fun _ _ _ _ _ _ hc=>hc.elim,
  fun i S G s hi=>(by have:=hn i _ hi;cases this),h.gh1,fun i sz es clk ho hi=>(by have:=hn i _ hi;cases this),h.mp1⟩
theorem aBS {w:World} {l:Nat} {r:Loop} (h:w.heap[l]?=some (.loop r)) (k:Nat):w.cell? ⟨l,k,none⟩=none:=by simp [World.cell?,h]
def aOf (sl:Nat→AV):List Tmp→List AV→Nat→AV
 | [],_=>sl
 | _,[]=>sl
 | p::ps,a::aa=>aOf (aAd sl p a) ps aa
theorem aJs {β:cN} {N:Nat}:∀ (ps:List Tmp) (aa:List AV) (vs:List Value) (sl:Nat→AV) (tmps:Array Value),(∀ p∈ps,p<N)→tmps.size=N→Vs β aa vs→(∀ t,V β (sl t) (tmps.getD t undef)) →
  ((ps.zip vs).foldl (fun t p=>t.setIfInBounds p.1 p.2) tmps).size=N∧∀ t,V β (aOf sl ps aa t) (((ps.zip vs).foldl (fun t p=>t.setIfInBounds p.1 p.2) tmps).getD t undef)
 | [],aa,vs,sl,tmps,_,hN,_,h=>by cases aa<;>exact ⟨hN,h⟩
 | p::ps,[],vs,sl,tmps,_,hN,hv,h=>by simp [Vs] at hv;subst hv;exact ⟨hN,h⟩
 | p::ps,a::aa,vs,sl,tmps,hp,hN,hv,h=>by
  obtain ⟨v,vs',rfl,h1,h2⟩:=hv
  simp only [aOf,List.zip_cons_cons,List.foldl_cons]
  refine aJs ps aa vs' _ _ (fun q hq=>hp q (by simp [hq])) (by simpa using hN) h2 fun t=>?_
  have hpN:p<tmps.size:=by rw [hN];exact hp p (by simp)
  by_cases e:t=p
  ·subst e
   simp only [aAd,oW]
   rw [Array.getD_eq_getD_getElem?,Array.getElem?_setIfInBounds_self_of_lt hpN]
   exact h1
  ·rw [aJ9,if_neg e,Array.getD_eq_getD_getElem?,Array.getElem?_setIfInBounds_ne (Ne.symm e),← Array.getD_eq_getD_getElem?]
   exact h t
def aTj (out:Nat) (b:Bool):Exit→Prop
 | .normal=>b=true
 | .exit id=>b=false∧id=out
 | _=>False
set_option maxHeartbeats 2000000 in
theorem aPr {E:Env} {N:Nat} {Q:Exit→AS→Prop} {g:Operand} {ps:Array Tmp} {assign body:Code} {sl0:Nat→AV} {hp0:bF} {b0:Nat} (hrd:E.rd=false) (hcl:E.cl=true)
  {X S:Type} (encX:X→List AV) (encV:X→List Value) (hX:∀ β x,Vs β (encX x) (encV x)) (hps:∀ x,(encV x).length=ps.size) (hpN:∀ p∈ps.toList,p<N)
  {gf:FuncId} {caps caps':List AV} (hg:evA sl0 g=.fn gf [] caps) (hcaps:WkL caps caps') (out:Nat) (hb0:64≤b0) (h64:∀ t,(sl0 t).a64)
  (bw:Nat→Bool) (hbw:∀ i,bw i=true→i<64∧∃ es clk,hp0 i=some (.map es clk)∧∀ p∈es,p.2.1.plain∧p.2.2.plain)
  (hpS:S→bF) (hng:∀ s i b,hpS s i=some b→aGv b=true∧bw i=false) (y:X→S→Option (Bool×S)) (s0:S) (hs0:∀ i b,hpS s0 i=some b→hp0 i=some b) (fin:Bool×S)
  (hrow:∀ G:Gh (Bool×S),G.P=E.P→(∀ x s b s',y x s=some (b,s')→G.Y (encV x) (true,s) b (b,s')) →
   ∃ r,E.T gf (.yld b0::caps') (fun i=>if i=b0 then some (.gh (Bool×S) G (true,s0)) else bif bw i then hp0 i else none) (b0+64) r (fun i=>if i=b0 then some (.gh (Bool×S) G fin) else bif bw i then hp0 i else none))
  (hround:∀ x s b s',y x s=some (b,s')→HT { E with rd:=true } N assign ⟨aOf sl0 ps.toList (encX x),hpS s,b0+64⟩ (aIM (fun σ1=>HT { E with rd:=true } N body σ1 fun e σ2=>
   aTj out b e∧∃ L,aBk L ⟨fun _=>.top,σ2.hp,σ2.b⟩ ⟨fun _=>.top,hpS s',b0+64⟩) fun _ _=>False))
  (hend1:fin.1=true→Q .normal ⟨sl0,fun i=>bif bw i then hp0 i else hpS fin.2 i,b0+64⟩) (hend2:fin.1=false→Q (.exit out) ⟨sl0,fun i=>bif bw i then hp0 i else hpS fin.2 i,b0+64⟩) :
  HT E N (.rangeFunc g ps assign body) ⟨sl0,hp0,b0⟩ Q:=by
 intro ro F a w hro hF hr
 obtain rfl:=hro hrd
 obtain ⟨β,ds,hsince,hs,hH,hnm,hbel,htop,hdf,hmk,hN⟩:=hr
 obtain ⟨hF1,hF2⟩:=hF hcl
 have hF32:∀ i,F.β0.loc i≠none→i<32:=fun i hi=>by have:=hF1 i hi;rw [hrd] at this;simpa using this
 have hgv:=gH hs g
 simp only at hgv
 rw [hg] at hgv
 simp only [V] at hgv
 obtain ⟨fv,cv,hgv,hfv,hcv⟩:=hgv
 simp only [Vs] at hfv
 subst hfv
 refine wpIn_rangeFunc (F:=fen none) ?_
 intro fn _
 obtain ⟨D,hD⟩:∃ D,D=w.heap.size:=⟨_,rfl⟩
 obtain ⟨l,hl⟩:∃ l,l=w.heap.size+1:=⟨_,rfl⟩
 obtain ⟨rec,hrec⟩:∃ rec:LoopState→Option Code→Loop,rec=fun st pe=>{ state:=st,pending:=pe,fn,tmps:=a.tmps,params:=ps,assign,body,defers:=w.heap.size }:=⟨_,rfl⟩
 obtain ⟨W1,hW1⟩:∃ W1,W1=(w.alloc (.deferred (some []))).alloc (.loop (rec .ready none)):=⟨_,rfl⟩
 have hL1:W1.heap[l]?=some (.loop (rec .ready none)):=by
  rw [hW1,hl];have:=World.alloc_heap_new (w.alloc (.deferred (some []))) (.loop (rec .ready none));rwa [World.size_alloc] at this
 have hD1:W1.heap[D]?=some (.deferred (some [])):=by
  rw [hW1,hD];exact (Below.heap_alloc _ _ _ (by simp)).trans (World.alloc_heap_new w _)
 have hbw1:bH (fun c=>w.heap.size≤c) w W1:=by
  rw [hW1];exact (bH.alloc w (Nat.le_refl _) _).trans (bH.alloc _ (by simp) _)
 have hsz1:W1.heap.size=w.heap.size+2:=by rw [hW1];simp
 have hgf:b0 ∉ []:=by simp
 have hβb0:β b0=none:=by
  cases e:β b0 with
  | none=>rfl
  | some x=>exact absurd (hnm b0 (by rw [e];simp)) (Nat.lt_irrefl _)
 let B1:Bd:=F.Bx ds
 have hB1top:B1.top w.heap.size:=hmk.top htop
 let Ys0:Nat→Prop:=fun c=>B1 c∧c<W1.heap.size∧∀ i li,bw i=true→β i=some li→c≠li.c
 have hbwlt:∀ i li,bw i=true→β i=some li→li.c<w.heap.size∧0<li.k:=fun i li h1 h2=>by
  obtain ⟨_,es,clk,h3,_⟩:=hbw i h1
  obtain ⟨l',g1,g2,g3,_⟩:=hH.map i es clk h3
  rw [h2] at g1;cases g1
  exact ⟨(hH.lt_of_own h3 h2 g2).1,g2⟩
 have hlD:l≠D:=by omega
 have ysl:Ys0 l:=⟨hB1top l (by omega),by omega,fun i li h1 h2=>by have:=(hbwlt i li h1 h2).1;omega⟩
 have ysD:Ys0 D:=⟨hB1top D (by omega),by omega,fun i li h1 h2=>by have:=(hbwlt i li h1 h2).1;omega⟩
 let Bd':(Nat→Prop)→Bd:=fun Ys c=>Ys c∧c≠l∧c≠D
 let recOf:Bool→Loop:=fun b=>if b then rec .ready none else rec .done (some (.exit out))
 let JJ:Bool×S→(Nat→Prop)→Nat→World→Prop:=fun t Ys l' w'=>l'=l∧Ys l∧Ys D∧w'.heap[D]?=some (.deferred (some []))∧w'.heap[l]?=some (.loop (recOf t.1)) ∧
  ∃ β':cN,(∀ i,i<64→β.loc i≠none→β'.loc i=β.loc i)∧(∀ c o v,β.fz c o=some v→β'.fz c o=some v)∧(∀ c o v,β'.fz c o=some v→Ys c∨β.fz c o=some v)∧(∀ j,β' j≠none→j<b0+64) ∧
   β'.ys=(fun _=>False)∧cQ β' (hpS t.2) w' (Bd' Ys)
 have hngS:∀ s i b,hpS s i=some b→aGv b=true:=fun s i b h=>(hng s i b h).1
 have hslots:∀ (β':cN),(∀ i,i<64→β.loc i≠none→β'.loc i=β.loc i)→(∀ c o v,β.fz c o=some v→β'.fz c o=some v)→∀ t,V β' (sl0 t) (a.tmps.getD t undef):=fun β' h1 h2 t=>
  lJ (β:=⟨β'.loc,β.fz,β'.ys⟩) (β':=β') ⟨fun _ _ h=>h,h2⟩ _ _ (h64 t β β'.loc β'.ys _ h1 (hs t))
 let G:Gh (Bool×S):={
  P:=E.P
  J:=JJ
  Y:=fun args t b t'=>∃ x,args=encV x∧t.1=true∧y x t.2=some (b,t'.2)∧t'.1=b
  fz:=β.fz
  stable:=fun t Ys l' w1 w2 hJ hb hfz=>by
   obtain ⟨h1,h2,h3,h4,h5,β',k1,k2,k3,k4,k5,k6⟩:=hJ
   have same:∀ c,Ys c→w2.heap[c]?=w1.heap[c]?:=fun c hc=>hb.block c fun h=>h hc
   refine ⟨h1,h2,h3,(same D h3).trans h4,(same l h2).trans h5,β',k1,k2,k3,k4,k5,k6.world (fun c o v hv=>?_) (fun i b li hi hli hk=>same _ (k6.lt_of_own hi hli hk).2.1) ⟨hb.os,hb.tape,hb.output,hb.size,hb.drawn,fun c hc=>by rw [k5] at hc;exact absurd (fun h=>h) hc⟩⟩
   rcases k3 c o v hv with h | h
   ·exact (World.cell?_of_block (w:=w1) (a:=⟨c,o,none⟩) (same c h)).trans (k6.fz c o v hv)
   ·exact hfz c o v h
  cells:=fun t Ys l' w1 c o v hJ hv=>by
   obtain ⟨h1,h2,h3,h4,h5,β',k1,k2,k3,k4,k5,k6⟩:=hJ
   exact k6.fz c o v (k2 c o v hv)
  yield:=fun t Ys l' w1 args b t' hJ hlt hY=>by
   obtain ⟨rfl,h2,h3,h4,h5,β',k1,k2,k3,k4,k5,k6⟩:=hJ
   obtain ⟨x,rfl,hrun,hy,hb'⟩:=hY
   obtain ⟨run,s⟩:=t
   obtain ⟨run',s'⟩:=t'
   simp only at hrun hy hb' h5 k6
   subst hrun hb'
   have hR1:w1.heap[l']?=some (.loop (rec .ready none)):=h5
   have hll:l'<w1.heap.size:=hlt l' h2
   have hDl:D<w1.heap.size:=hlt D h3
   have hrecf:(rec .ready none).fn=fn∧(rec .ready none).tmps=a.tmps∧(rec .ready none).params=ps∧(rec .ready none).assign=assign∧(rec .ready none).body=body:=by rw [hrec];exact ⟨rfl,rfl,rfl,rfl,rfl⟩
   have hyl:=run_yield (P:=E.P) (args:=(encV x).toArray) hR1 (by rw [hrecf.2.2.1,List.size_toArray];exact hps x)
   rw [hrecf.1,hrecf.2.1,hrecf.2.2.1,hrecf.2.2.2.1,hrecf.2.2.2.2] at hyl
   refine ⟨fn,_,assign,body,hyl,?_⟩
   let Bb:Bd:=fun c=>Bd' Ys c∨w1.heap.size≤c
   have hnl:¬ Bb l':=fun h=>h.elim (fun h=>h.2.1 rfl) fun h=>by omega
   have hnD:¬ Bb D:=fun h=>h.elim (fun h=>h.2.2 rfl) fun h=>by omega
   let Fb:World→Fr:=fun w0=>⟨Bb,w0,⟨fun i=>bif decide (i<64) then β'.loc i else none,β'.fz,fun _=>False⟩,0⟩
   have hFb:∀ w0,(Fb w0).ok true true:=fun w0 _=>⟨fun i hi=>by
    by_cases h:i<64
    ·exact h
    ·exfalso;apply hi;show (bif decide (i<64) then β'.loc i else none)=none;rw [decide_eq_false h];rfl,rfl⟩
   have hset:=aJs (β:=β') (N:=N) ps.toList (encX x) (encV x) sl0 a.tmps hpN hN (hX β' x) (hslots β' k1 k2)
   have hfold:(ps.zip (encV x).toArray).foldl (fun tmps p=>tmps.setIfInBounds p.1 p.2) a.tmps=(ps.toList.zip (encV x)).foldl (fun t p=>t.setIfInBounds p.1 p.2) a.tmps:=by
    rw [← Array.foldl_toList,Array.toList_zip]
   have hrep1:Rep (Fb w1) N ⟨aOf sl0 ps.toList (encX x),hpS s,b0+64⟩ { tmps:=(ps.zip (encV x).toArray).foldl (fun tmps p=>tmps.setIfInBounds p.1 p.2) a.tmps,defers:=[] } w1:=by
    refine ⟨β',[],⟨⟨fun i li hi=>?_,fun _ _ _ h=>h⟩,fun _ _=>.inr (Nat.zero_le _),Nat.zero_le _,fun c o h=>.inl h⟩,?_,?_,k4,bH.refl _ _,fun c hc=>.inr hc,rfl,aGT.nil _ _,?_⟩
    ·change (bif decide (i<64) then β'.loc i else none)=some li at hi
     cases h:decide (i<64) with
     | true=>rw [h] at hi;exact hi
     | false=>rw [h] at hi;cases hi
    ·rw [hfold];exact hset.2
    ·rw [Fr.Bx_nil];exact k6.supL fun c _ h=>.inl h
    ·rw [hfold];exact hset.1
   have hro2:(({ E with rd:=true }:Env).rd=false→(some l':Option Nat)=none):=fun h=>by cases h
   have hok2:∀ w0,(Fb w0).ok ({ E with rd:=true }:Env).cl ({ E with rd:=true }:Env).rd:=fun w0=>by show (Fb w0).ok E.cl true;rw [hcl];exact hFb w0
   refine roundIn_of_wpIn (F:=Fence.wide) trivial ?_
   refine wpIn_mono (hround x s _ s' hy (some l') (Fb w1) _ w1 hro2 (hok2 w1) hrep1) ?_
   intro e a1 w2 hq
   obtain ⟨σ1,q1,hr1⟩:=hq
   cases e with
   | normal=>
    obtain ⟨β1,ds1,g1,g2,g3,g4,g5,g6,g7,g8,g9⟩:=hr1
    have hR2:w2.heap[l']?=some (.loop (rec .ready none)):=(g5.block l' hnl).trans hR1
    refine ⟨_,run_beginRound hR2 (by rw [hrec]),?_⟩
    obtain ⟨w2',hw2'⟩:∃ w2',w2'=w2.putObj l' (.loop { rec .ready none with state:=.busy }):=⟨_,rfl⟩
    rw [← hw2']
    have hs2:w2'.heap.size=w2.heap.size:=by rw [hw2'];simp
    have hR2':w2'.heap[l']?=some (.loop { rec .ready none with state:=.busy }):=by rw [hw2'];exact World.putObj_heap_same (by have:w1.heap.size≤w2.heap.size:=g5.size;omega)
    have ho2:∀ k,k≠l'→w2'.heap[k]?=w2.heap[k]?:=fun k hk=>by rw [hw2'];exact World.putObj_heap_other hk
    have hmk1:∀ E',E'∈ds1→E'≠l':=fun E' hE e=>hnl (e ▸ (g8.at_ E' hE).1)
    have hrep2:Rep (Fb w2') N σ1 a1 w2':=by
     refine ⟨β1,ds1,⟨g1.le,g1.dom,g1.b,g1.fz⟩,g2,?_,g4,bH.refl _ _,fun c hc=>g6 c (by omega),g7,⟨g8.nodup,fun E' hE=>⟨(g8.at_ E' hE).1,(ho2 E' (hmk1 E' hE)).trans (g8.at_ E' hE).2⟩⟩,g9⟩
     rw [hw2']
     exact g3.poke hR2 (aBS hR2) (fun i b li hi hli hk e=>hnl (e ▸ (g3.lt_of_own hi hli hk).2.1)) fun hy=>hnl (g3.ys l' hy).1.1
    refine wpIn_mono (q1 (some l') (Fb w2') a1 w2' hro2 (hok2 w2') hrep2) ?_
    intro e2 a3 w3 hq2
    obtain ⟨σ2,⟨hre,L,hweak⟩,hr2⟩:=hq2
    have hr2':Rep (Fb w2') N ⟨fun _=>.top,σ2.hp,σ2.b⟩ a3 w3:=by
     obtain ⟨β2,ds2,p1,p2,p3⟩:=hr2
     exact ⟨β2,ds2,p1,fun t=>by simp [V],p3⟩
    obtain ⟨β3,ds3,p1,_,p3,p4,p5,p6,_,p8,_⟩:=aBk.rep hweak (hFb w2') hr2'
    simp only at p3 p4
    have hR3:w3.heap[l']?=some (.loop { rec .ready none with state:=.busy }):=(p5.block l' hnl).trans hR2'
    have hle13:w1.heap.size≤w3.heap.size:=by
     have e1:w1.heap.size≤w2.heap.size:=g5.size
     have e2:w2'.heap.size≤w3.heap.size:=p5.size
     omega
    have finish:∀ o':Obj,o'=.loop (recOf run')→∃ Ys',JJ (run',s') Ys' l' (w3.putObj l' o')∧(∀ c,Ys' c→Ys c∨w1.heap.size≤c)∧(∀ c,Ys' c→c<(w3.putObj l' o').heap.size)∧bH (fun c=>Ys c∨w1.heap.size≤c) w1 (w3.putObj l' o'):=by
     intro o' ho'
     have hoth:∀ k,k≠l'→(w3.putObj l' o').heap[k]?=w3.heap[k]?:=fun k hk=>World.putObj_heap_other hk
     refine ⟨fun c=>(Bb c∧c<w3.heap.size)∨c=l'∨c=D,⟨rfl,.inr (.inl rfl),.inr (.inr rfl),?_,?_,⟨β3.loc,β3.fz,fun _=>False⟩,fun i hi hne=>?_,fun c o v hv=>p1.le.fz c o v (k2 c o v hv),fun c o v hv=>?_,p4,rfl,?_⟩,?_,?_,?_⟩
     ·rw [hoth D (by omega),p5.block D hnD,ho2 D (by omega),g5.block D hnD];exact h4
     ·rw [World.putObj_heap_same (by omega),ho']
     ·have hb:β'.loc i=β.loc i:=k1 i hi hne
      cases e:β.loc i with
      | none=>exact absurd e hne
      | some li=>
       rw [e] at hb
       exact p1.le.loc i li (by show (bif decide (i<64) then β'.loc i else none)=some li;rw [decide_eq_true hi];exact hb)
     ·have hcl3:=aAr (p3.fz c o v hv)
      rcases p1.fz c o (by rw [show β3.fz c o=some v from hv];simp) with h | h
      ·change β'.fz c o≠none at h
       cases e:β'.fz c o with
       | none=>exact absurd e h
       | some u=>
        have:=p1.le.fz c o u e
        rw [show β3.fz c o=some v from hv] at this
        cases this
        rcases k3 c o v e with h | h
        ·left
         by_cases e1:c=l'
         ·exact .inr (.inl e1)
         ·by_cases e2:c=D
          ·exact .inr (.inr e2)
          ·exact .inl ⟨.inl ⟨h,e1,e2⟩,hcl3⟩
        ·exact .inr h
      ·exact .inl (.inl ⟨h,hcl3⟩)
     ·have hq3:=(p3.noys (hngS s')).poke (o':=o') hR3 (aBS hR3) (fun i b li hi hli hk e=>hnl (e ▸ (p3.lt_of_own hi hli hk).2.1)) (fun h=>h)
      refine hq3.supL fun c hc h=>⟨.inl ⟨h.1,by simpa using hc⟩,fun e=>hnl (e ▸ h.1),fun e=>hnD (e ▸ h.1)⟩
     ·rintro c (⟨h | h,_⟩ | rfl | rfl)
      ·exact .inl h.1
      ·exact .inr h
      ·exact .inl h2
      ·exact .inl h3
     ·rintro c (⟨_,h⟩ | rfl | rfl)
      ·simpa using h
      ·simp;omega
      ·simp;omega
     ·have hBb:∀ c,Bb c→Ys c∨w1.heap.size≤c:=fun c h=>h.imp (fun h=>h.1) id
      have c1:=g5.weaken hBb
      have c2:bH (fun c=>Ys c∨w1.heap.size≤c) w2 w2':=by rw [hw2'];exact ⟨rfl,rfl,rfl,by simp,Nat.le_refl _,fun k hk=>World.putObj_heap_other fun e=>hk (.inl (e ▸ h2))⟩
      have c3:=p5.weaken hBb
      have c4:bH (fun c=>Ys c∨w1.heap.size≤c) w3 (w3.putObj l' o'):=⟨rfl,rfl,rfl,by simp,Nat.le_refl _,fun k hk=>World.putObj_heap_other fun e=>hk (.inl (e ▸ h2))⟩
      exact ((c1.trans c2).trans c3).trans c4
    cases e2 with
    | normal=>
     have hb1:run'=true:=hre
     subst hb1
     refine ⟨_,_,run_endRound none hR3,rfl,finish _ ?_⟩
     show _=Obj.loop (rec .ready none)
     rw [hrec];rfl
    | exit id=>
     obtain ⟨hb1,hid⟩:run'=false∧id=out:=hre
     subst hb1 hid
     refine ⟨_,_,run_endRound (some (.exit id)) hR3,rfl,finish _ ?_⟩
     show _=Obj.loop (rec .done (some (.exit id)))
     rw [hrec];rfl
    | _=>exact hre.elim
   | _=>exact q1.elim }
 obtain ⟨r,hTr⟩:=hrow G rfl fun x s b s' hy=>⟨x,rfl,rfl,hy,rfl⟩
 obtain ⟨henter,hcalls⟩:=E.hT _ _ _ _ _ _ hTr
 let βg:cN:=⟨fun i=>if i=b0 then some ⟨l,0,0⟩ else β.loc i,β.fz,Ys0⟩
 have hβg:∀ i,i≠b0→βg i=β i:=fun i hi=>by show (if i=b0 then _ else _)=_;rw [if_neg hi]
 have hleg:∀ i li,β i=some li→βg i=some li:=fun i li h=>(hβg i fun e=>by rw [e,hβb0] at h;cases h).trans h
 have hβγ:βg b0=some ⟨l,0,0⟩:=by show (if b0=b0 then _ else _)=_;simp
 have hH1:cQ β hp0 W1 B1:=hH.keep hbw1
 let Hit:Bool×S→bF:=fun t i=>if i=b0 then some (.gh (Bool×S) G t) else bif bw i then hp0 i else none
 have hit:∀ {t i b},Hit t i=some b→(i=b0∧b=.gh (Bool×S) G t)∨(i≠b0∧bw i=true∧hp0 i=some b):=fun {t i b} h=>by
  change (if i=b0 then _ else _)=some b at h
  split at h
  ·rename_i e;cases h;exact .inl ⟨e,rfl⟩
  ·rename_i e
   cases e':bw i with
   | true=>rw [e'] at h;exact .inr ⟨e,rfl,h⟩
   | false=>rw [e'] at h;cases h
 have mapOnly:∀ {i cs},bw i=true→hp0 i=some (.cells cs)→False:=fun {i cs} h1 h2=>by obtain ⟨_,es,clk,h3,_⟩:=hbw i h1;rw [h2] at h3;cases h3
 have ghOnly:∀ {i S' G' s'},bw i=true→hp0 i=some (.gh S' G' s')→False:=fun {i S' G' s'} h1 h2=>by obtain ⟨_,es,clk,h3,_⟩:=hbw i h1;rw [h2] at h3;cases h3
 have mapsOnly:∀ {t i sz es clk ho},Hit t i=some (.maps sz es clk ho)→False:=fun {t i sz es clk ho} h=>by
  rcases hit h with ⟨_,h⟩ | ⟨_,h1,h2⟩
  ·cases h
  ·obtain ⟨_,es,clk,h3,_⟩:=hbw i h1;rw [h2] at h3;cases h3
 have hVg:∀ (a:AV) (v:Value),V β a v→V βg a v:=fun a v h=>lJ (β:=β) (β':=βg) ⟨hleg,fun _ _ _ h=>h⟩ _ _ h
 have hHg:cQ βg (Hit (true,s0)) W1 B1:=by
  refine ⟨hH1.fz,fun i cs hi=>?_,fun i es clk hi=>?_,fun i j bi bj li lj hij hi hj ei ej pi pj=>?_,fun c hc=>⟨hc.1,hc.2.1⟩,fun i b li hi hli hk hc=>?_,fun i S' G' s' hi=>?_,fun i j S1 G1 s1 S2 G2 s2 hi hj=>?_,fun i sz es clk ho hi=>(mapsOnly hi).elim,fun i j sz es clk ho b hi _ _=>(mapsOnly hi).elim⟩
  ·rcases hit hi with ⟨_,h⟩ | ⟨_,h1,h2⟩
   ·cases h
   ·exact (mapOnly h1 h2).elim
  ·rcases hit hi with ⟨_,h⟩ | ⟨h0,h1,h2⟩
   ·cases h
   ·obtain ⟨li,g1,g2,g3,ents,g4,m⟩:=hH1.map i es clk h2
    exact ⟨li,hleg i li g1,g2,g3,ents,g4,m.mono (β':=βg) ⟨hleg,fun _ _ _ h=>h⟩⟩
  ·rcases hit hi with ⟨e1,h1⟩ | ⟨e1,h1,h2⟩
   ·rw [e1,hβγ] at ei;cases ei;simp at pi
   ·rcases hit hj with ⟨e2,k1⟩ | ⟨e2,k1,k2⟩
    ·rw [e2,hβγ] at ej;cases ej;simp at pj
    ·rw [hβg i e1] at ei;rw [hβg j e2] at ej
     exact hH1.sep i j bi bj li lj hij h2 k2 ei ej pi pj
  ·rcases hit hi with ⟨e1,h1⟩ | ⟨e1,h1,h2⟩
   ·rw [e1,hβγ] at hli;cases hli;simp at hk
   ·rw [hβg i e1] at hli
    exact hc.2.2 i li h1 hli rfl
  ·rcases hit hi with ⟨e1,h1⟩ | ⟨e1,h1,h2⟩
   ·cases h1
    rw [e1]
    refine ⟨⟨l,0,0⟩,hβγ,rfl,⟨rfl,ysl,ysD,hD1,hL1,⟨β.loc,β.fz,fun _=>False⟩,fun i _ _=>rfl,fun c o v h=>h,fun c o v h=>.inr h,fun j hj=>Nat.lt_of_lt_of_le (hnm j hj) (by show b0≤b0+64;omega),rfl,?_⟩,fun c o v _ h=>h,fun c o v h=>h⟩
    have hsub:cQ β (hpS s0) W1 B1:=hH1.sub hs0
    refine (hsub.noys (hngS s0)).supI (fun i b li hi hli hk=>?_) (fun c hc=>hc.elim)
    obtain ⟨q1,q2⟩:=hH.lt_of_own (hs0 i b hi) hli hk
    refine ⟨⟨q2,by omega,fun i' li' g1 g2 e=>?_⟩,by omega,by omega⟩
    obtain ⟨_,es,clk,g3,_⟩:=hbw i' g1
    exact hH.sep i i' b _ li li' (fun e=>by subst e;have:=(hng s0 i b hi).2;rw [g1] at this;cases this) (hs0 i b hi) g3 hli g2 hk (hbwlt i' li' g1 g2).2 e
   ·exact (ghOnly h1 h2).elim
  ·rcases hit hi with ⟨e1,_⟩ | ⟨e1,h1,h2⟩
   ·rcases hit hj with ⟨e2,_⟩ | ⟨e2,k1,k2⟩
    ·rw [e1,e2]
    ·exact (ghOnly k1 k2).elim
   ·exact (ghOnly h1 h2).elim
 have hargs:Vs βg (.yld b0::caps') (.func (.yield l) #[] #[]::cv):=by
  refine ⟨_,_,rfl,?_,hcaps βg cv ?_⟩
  ·simp only [V];exact ⟨_,hβγ,rfl⟩
  ·exact sH (β:=β) (β':=βg) ⟨hleg,fun _ _ _ h=>h⟩ _ _ hcv
 have hcall:=hcalls B1 W1 βg (.func (.yield l) #[] #[]::cv) (fun j hj=>by
  by_cases e:j=b0
  ·subst e;omega
  ·rw [hβg j e] at hj;have:=hnm j hj;simp only at this;omega) hHg (fun c hc=>hB1top c (by omega)) hargs
 refine ⟨l,[aPc D],W1,{ target:=.fn (.func gf) cv.toArray,args:=#[.func (.yield l) #[] #[]] },W1,gf,(.func (.yield l) #[] #[]::cv).toArray,W1,?_,?_,fun _ _=>trivial,?_,(by intro h;cases h),aCf (hcall.mono ?_)⟩
 ·rw [hW1,hrec,hl,hD];exact run_enterLoop_outer _ _ _ _ _
 ·simp only [resolve,hgv]
  simp [Deferred.ofValue,Act.eval]
 ·simp [invoke,henter]
 rintro e we ⟨v,βf,rfl,hext,_,hHf,hbelf⟩
 have hγf:βf b0=some ⟨l,0,0⟩:=hext.le.loc _ _ hβγ
 have hitb0:(fun i=>if i=b0 then some (AB.gh (Bool×S) G fin) else bif bw i then hp0 i else none) b0=some (AB.gh (Bool×S) G fin):=by simp
 obtain ⟨lf,q1,_,hJ,_,_⟩:=hHf.gh b0 _ G fin hitb0
 rw [hγf] at q1;cases q1
 obtain ⟨_,h2,h3,h4,h5,β',k1,k2,k3,k4,k5,k6⟩:=hJ
 have hnb:(recOf fin.1).state≠.busy:=by
  show (if fin.1 then rec .ready none else rec .done (some (.exit out))).state≠.busy
  rw [hrec];cases fin.1<;>simp
 refine ⟨_,_,run_endLoop h5 hnb,?_⟩
 obtain ⟨o',ho'⟩:∃ o',o'=Obj.loop { recOf fin.1 with state:=.exhausted }:=⟨_,rfl⟩
 rw [← ho']
 have hoth:∀ k,k≠l→(we.putObj l o').heap[k]?=we.heap[k]?:=fun k hk=>World.putObj_heap_other hk
 have hsz:(we.putObj l o').heap.size=we.heap.size:=by simp
 have hsame:∀ c,¬ B1 c→we.heap[c]?=W1.heap[c]?:=fun c hc=>hbelf.block c hc
 have hbwf:∀ i li,bw i=true→β i=some li→βf i=some li∧i≠b0:=fun i li h1 h2=>⟨hext.le.loc _ _ (hleg i li h2),fun e=>by subst e;rw [hβb0] at h2;cases h2⟩
 have hbwm:∀ i,bw i=true→∃ es clk li,hp0 i=some (.map es clk)∧β i=some li∧β' i=some li∧0<li.k∧B1 li.c∧li.c≠l∧li.c≠D∧¬ βf.ys li.c∧∃ ents,we.heap[li.c]?=some (.map ents clk)∧aBd β' es ents:=fun i hi=>by
  obtain ⟨hi64,es,clk,g1,g2⟩:=hbw i hi
  obtain ⟨li,p1,p2,p3,_⟩:=hH.map i es clk g1
  obtain ⟨r1,r2⟩:=hbwf i li hi p1
  have hitI:(fun i=>if i=b0 then some (AB.gh (Bool×S) G fin) else bif bw i then hp0 i else none) i=some (.map es clk):=by simp [r2,hi,g1]
  obtain ⟨li',t1,t2,t3,ents,t4,m⟩:=hHf.map i es clk hitI
  rw [r1] at t1;cases t1
  have hlt:=(hbwlt i li hi p1).1
  refine ⟨es,clk,li,g1,p1,(k1 i hi64 (by rw [p1];simp)).trans p1,p2,p3,by omega,by omega,hHf.yo i _ li hitI r1 p2,ents,t4,m.len,fun j p hp=>?_⟩
  obtain ⟨e,e1,e2,e3,e4⟩:=m.rel j p hp
  obtain ⟨pl1,pl2⟩:=g2 p (List.mem_of_getElem? hp)
  exact ⟨e,e1,e2,pl1 _ _ _ e3,pl2 _ _ _ e4⟩
 have hE:∀ i b,(bif bw i then hp0 i else hpS fin.2 i)=some b→(bw i=true∧hp0 i=some b)∨(bw i=false∧hpS fin.2 i=some b):=fun i b h=>by
  cases e:bw i with
  | true=>rw [e] at h;exact .inl ⟨rfl,h⟩
  | false=>rw [e] at h;exact .inr ⟨rfl,h⟩
 have mapsE:∀ {i sz es clk ho},(bif bw i then hp0 i else hpS fin.2 i)=some (.maps sz es clk ho)→False:=fun {i sz es clk ho} h=>by
  rcases hE i _ h with ⟨h1,h2⟩ | ⟨h1,h2⟩
  ·obtain ⟨_,es,clk,h3,_⟩:=hbw i h1;rw [h2] at h3;cases h3
  ·have:=(hng fin.2 i _ h2).1;cases this
 have hysB:∀ c,βf.ys c→B1 c:=fun c hc=>(hHf.ys c hc).1
 have hfin:cQ β' (fun i=>bif bw i then hp0 i else hpS fin.2 i) we (fun c=>(F.Bx ds) c∧c≠D∧c≠l):=by
  refine ⟨k6.fz,fun i cs hi=>?_,fun i es clk hi=>?_,fun i j bi bj li lj hij hi hj ei ej pi pj=>?_,fun c hc=>by rw [k5] at hc;exact hc.elim,fun i b li hi hli hk hc=>by rw [k5] at hc;exact hc.elim,fun i S' G' s' hi=>?_,fun i j S1 G1 s1 S2 G2 s2 hi hj=>?_,fun i sz es clk ho hi=>(mapsE hi).elim,fun i j sz es clk ho b hi _ _=>(mapsE hi).elim⟩
  ·rcases hE i _ hi with ⟨g1,g2⟩ | ⟨g1,g2⟩
   ·exact (mapOnly g1 g2).elim
   ·obtain ⟨li,p1,p2,p3⟩:=k6.own i cs g2
    refine ⟨li,p1,p2,fun hk=>?_⟩
    obtain ⟨a1,a2⟩:=p3 hk
    exact ⟨⟨hysB _ a1.1,a1.2.2,a1.2.1⟩,a2⟩
  ·rcases hE i _ hi with ⟨g1,g2⟩ | ⟨g1,g2⟩
   ·obtain ⟨es',clk',li,p1,p2,p3,p4,p5,p6,p7,_,ents,p8,p9⟩:=hbwm i g1
    rw [g2] at p1;cases p1
    exact ⟨li,p3,p4,⟨p5,p7,p6⟩,ents,p8,p9⟩
   ·obtain ⟨li,p1,p2,p3,p4⟩:=k6.map i es clk g2
    exact ⟨li,p1,p2,⟨hysB _ p3.1,p3.2.2,p3.2.1⟩,p4⟩
  ·rcases hE i _ hi with ⟨g1,g2⟩ | ⟨g1,g2⟩
   ·obtain ⟨es',clk',li',p1,p2,p3,p4,p5,p6,p7,p8,_⟩:=hbwm i g1
    rw [p3] at ei;cases ei
    rcases hE j _ hj with ⟨q1,q2⟩ | ⟨q1,q2⟩
    ·obtain ⟨es2,clk2,lj',r1,r2,r3,r4,_⟩:=hbwm j q1
     rw [r3] at ej;cases ej
     exact hH.sep i j _ _ _ _ hij g2 q2 p2 r2 pi pj
    ·exact fun e=>p8 (e ▸ (k6.lt_of_own q2 ej pj).2.1)
   ·rcases hE j _ hj with ⟨q1,q2⟩ | ⟨q1,q2⟩
    ·obtain ⟨es2,clk2,lj',r1,r2,r3,r4,r5,r6,r7,r8,_⟩:=hbwm j q1
     rw [r3] at ej;cases ej
     exact fun e=>r8 (e ▸ (k6.lt_of_own g2 ei pi).2.1)
    ·exact k6.sep i j _ _ _ _ hij g2 q2 ei ej pi pj
  ·rcases hE i _ hi with ⟨g1,g2⟩ | ⟨g1,g2⟩
   ·exact (ghOnly g1 g2).elim
   ·have:=hngS _ _ _ g2;cases this
  ·rcases hE i _ hi with ⟨g1,g2⟩ | ⟨g1,g2⟩
   ·exact (ghOnly g1 g2).elim
   ·have:=hngS _ _ _ g2;cases this
 have hrep:Rep F N ⟨sl0,fun i=>bif bw i then hp0 i else hpS fin.2 i,b0+64⟩ { a with defers:=[aPc D]++a.defers } (we.putObj l o'):=by
  refine ⟨β',D::ds,⟨⟨fun i li hi=>?_,fun c o v h=>k2 c o v (hsince.le.fz c o v h)⟩,fun j _=>.inr (by rw [hF2];exact Nat.zero_le _),by rw [hF2];exact Nat.zero_le _,fun c o hc=>?_⟩,hslots β' k1 k2,?_,k4,?_,htop.mono ?_,?_,⟨?_,fun D' hD'=>?_⟩,hN⟩
  ·have h32:=hF32 i (by rw [show F.β0.loc i=some li from hi];simp)
   have hb:=hsince.le.loc i li hi
   exact (k1 i (by omega) (by rw [show β.loc i=some li from hb];simp)).trans hb
  ·cases e:β'.fz c o with
   | none=>exact absurd e hc
   | some u=>
    rcases k3 c o u e with h | h
    ·exact .inr (hysB c h).1
    ·exact hsince.fz c o (by rw [h];simp)
  ·have:=hfin.poke (o':=o') h5 (aBS h5) (fun i b li hi hli hk e=>(hfin.lt_of_own hi hli hk).2.2.2 e) (by rw [k5];exact fun h=>h)
   exact this.sup fun c hc=>⟨hc.1.1,fun hm=>by
    rcases List.mem_cons.1 hm with h | h
    ·exact hc.2.1 h
    ·exact hc.1.2 h⟩
  ·refine (hbel.trans (.of htop hbw1)).trans ((hbelf.weaken fun c hc=>hc.1).trans ⟨rfl,rfl,rfl,by simp,Nat.le_refl _,fun k hk=>World.putObj_heap_other fun e=>hk (e ▸ (ysl.1).1)⟩)
  ·rw [hsz];have:=hbelf.size;omega
  ·simp [hdf]
  ·rw [List.nodup_cons]
   refine ⟨fun hm=>?_,hmk.nodup⟩
   have:=(Array.getElem?_eq_some_iff.1 (hmk.at_ D hm).2).1
   omega
  ·rcases List.mem_cons.1 hD' with rfl | hm
   ·exact ⟨(ysD.1).1,by rw [hoth _ (by omega)];exact h4⟩
   ·obtain ⟨m1,m2⟩:=hmk.at_ D' hm
    have hlt:=(Array.getElem?_eq_some_iff.1 m2).1
    exact ⟨m1,by rw [hoth _ (by omega),hsame D' (fun h=>h.2 hm),hbw1.block D' (Nat.not_le.2 hlt)];exact m2⟩
 have hpend:(recOf fin.1).pending=if fin.1 then none else some (.exit out):=by
  show (if fin.1 then rec .ready none else rec .done (some (.exit out))).pending=_
  rw [hrec];cases fin.1<;>rfl
 rw [hpend]
 cases hfc:fin.1 with
 | true=>exact ⟨_,hend1 hfc,hrep⟩
 | false=>exact wpIn_exit ⟨_,hend2 hfc,hrep⟩
end Go.Eng
namespace Go.Eng
open Go
universe u v
structure GM (α:Type) where
 es:List (Nat×Int×α)
 clk:Nat
instance {α:Type}:Inhabited (GM α):=⟨⟨[],0⟩⟩
namespace GM
variable {α:Type}
def get (m:GM α) (n:Int) (d:α):α:=match aFD n m.es with | some p=>p.2.2 | none=>d
def put (m:GM α) (n:Int) (v:α):GM α:=⟨aNF n v m.es m.clk,aKu n m.es m.clk⟩
def len (m:GM α):Int:=m.es.length
end GM
section
variable {P:Program} {D:DT} {α:Type} {enc:α→AV} {t e:TypeId} {z:AV} {s b:Nat} {zs:List AV} {lim i:Nat} {n:Int} {m:GM α} {hp:bF}
end
theorem aKq {P:Program} {t e:TypeId} (h:P.underlying t=some (.slice e)) (w:World) (a:Option Addr) (n c:Nat) (ox oy:Operand) :
  (do eqGuard .eql t ox oy (.slice a n c) (.slice none 0 0);binOp .eql t (.slice a n c) (.slice none 0 0):Sem Value).run P w=.ok (.bool a.isNone) w:=by
 have e1:=Go.run_equal_slice_nil (P:=P) w t e a n c h
 simp [eqGuard,binOp,e1]
theorem aHt {E:Env} {N:Nat} {id:Nat} {o1 o2:Oper} {y:Code} {σ:AS} {Q:Exit→AS→Prop} {t0 t3 t4:Tmp} {T e:TypeId} {m:LM} {sz n:Nat} {f:Nat→AV} (h1:o1.op=.move (.tmp t0)) (h2:o1.dst=some t3) (h3:o1.guard=none)
  (h4:o2.op=.binOp .eql T (.tmp t3) (.const (.slice none 0 0)) T) (h5:o2.dst=some t4) (h6:o2.guard=none) (hT:E.P.underlying T=some (.slice e)) (h0:σ.sl t0=.lst m sz n f) (hd:aBx N #[o1,o2]=true)
  (h:∀ b:Bool,(b=true→n=0)→HT E N y ⟨aAd (aAd σ.sl t3 (.lst m sz n f)) t4 (.bool b),σ.hp,σ.b⟩ Q):HT E N (.seq (.region id #[o1,o2] false) y) σ Q:=by
 intro ro F a w hro hF hr
 obtain ⟨β,ds,g1,g2,g3,g4,g5,g6,g7,g8,g9⟩:=hr
 have hv:=g2 t0
 rw [h0] at hv
 have hv':=hv
 simp only [V] at hv'
 obtain ⟨base,cap,hval,_,_,hel⟩:=hv'
 have hd3:t3<N:=uR hd 0 o1 t3 rfl h2
 have hd4:t4<N:=uR hd 1 o2 t4 rfl h5
 have s1:(execOp a.eval o1).run E.P w=.ok (.value (a.tmps.getD t0 undef)) w:=by
  unfold execOp;rw [h1];simp [Act.eval]
 have e3:(a.put o1.dst (a.tmps.getD t0 undef)).tmps.getD t3 undef=.slice base n cap:=by
  rw [h2,← hval];simp [Act.put,g9,hd3]
 have s2:(execOp (a.put o1.dst (a.tmps.getD t0 undef)).eval o2).run E.P w=.ok (.value (.bool base.isNone)) w:=by
  have:=aKq hT w base n cap (.tmp t3) (.const (.slice none 0 0))
  unfold execOp;rw [h4]
  simp only [Act.eval,e3,Sem.run_bind] at this ⊢
  simp only [this];rfl
 refine wpIn_seq (wpIn_region ?_)
 show wpOpsIn (fen ro) 0 E.P #[o1,o2] _ [0,1] a w
 have w1:Region.wanted o1 (yielded #[o1,o2] a.tmps)=true:=by simp [Region.wanted,h3]
 have w2:Region.wanted o2 (yielded #[o1,o2] (a.put o1.dst (a.tmps.getD t0 undef)).tmps)=true:=by simp [Region.wanted,h6]
 simp only [wpOpsIn,List.getElem?_toArray,List.getElem?_cons_zero,w1,if_true]
 refine qD (fun c hc=>by rw [h1] at hc;cases hc) s1 ?_
 simp only [List.getElem?_cons_succ,List.getElem?_cons_zero,w2,if_true]
 refine qD (fun c hc=>by rw [h4] at hc;cases hc) s2 ?_
 refine h base.isNone (fun hb=>?_) ro F _ w hro hF ⟨β,ds,g1,?_,g3,g4,g5,g6,?_,g8,?_⟩
 ·cases base with
  | some _=>cases hb
  | none=>
   cases n with
   | zero=>rfl
   | succ k=>obtain ⟨_,_,_,hx,_⟩:=hel 0 (Nat.succ_pos _);cases hx
 ·intro t
  have k1:=aK5 (β:=β) (N:=N) g2 g9 (d:=o1.dst) (fun t ht=>by rw [h2] at ht;cases ht;exact hd3) hv
  have k2:=aK5 (β:=β) (N:=N) k1 (by rw [zY];exact g9) (d:=o2.dst) (fun t ht=>by rw [h5] at ht;cases ht;exact hd4) (r:=.bool base.isNone) (v:=.bool base.isNone) (by simp [V])
  have:=k2 t
  rw [h2,h5] at this
  rw [h2,h5];exact this
 ·rw [xB,xB];exact g7
 ·rw [zY,zY];exact g9
def xN {α:Type} (sz:Nat) (enc:α→AV) (d:α):aAI:=fun args H base r H'=>
 ∃ l:List α,args=[eL sz enc d l]∧l.length≤1048576∧r=.so base 0 l.length sz∧H'=upd H base (some (.cells (flE (ceE enc) l)))
theorem aLv {α:Type} {enc:α→AV} {d:α} (l:List α):((List.range l.length).flatMap fun j=>nL (enc (l.getD j d)))=flE (ceE enc) l:=by
 have:l=(List.range l.length).map fun j=>l.getD j d:=by
  refine List.ext_getElem? fun i=>?_
  rw [List.getElem?_map]
  by_cases h:i<l.length
  ·simp [h,List.getD_eq_getElem?_getD]
  ·simp [h]
 conv=>rhs;rw [this]
 simp [flE,ceE,List.flatMap_map]
theorem aGd {M:List (Nat×Nat)} {g i n sz:Nat} (h:(g,i)∈M):WkB M (.so g 0 n sz) (.so i 0 n sz):=fun β0 loc ys v hM hv=>by
 simp only [V] at hv ⊢
 obtain ⟨l,h1,h2⟩:=hv
 exact ⟨l,(hM _ h).trans h1,h2⟩
theorem rU {M:List (Nat×Nat)} {a a':AV} (hw:Wk a a') (h:a'.loose):WkB M a a':=fun _β0 _loc _ys _v _ hv=>h _ _ _ _ (hw _ _ hv)
theorem zL {ids:List Nat} {a:AV} (h:a.loose):WkA ids a a:=fun _β _ys _v hv=>h _ _ _ _ hv
theorem zJ {α:Type} {R:α→α→Prop}:∀ {l:List α},(∀ a∈l,R a a)→aGX R l l
 | [],_=>.nil
 | a::l,h=>.cons (h a (by simp)) (zJ fun b hb=>h b (by simp [hb]))
theorem aDb {M:List (Nat×Nat)} {α:Type} {ce:α→List AV} (h:∀ x,∀ a∈ce x,a.loose) (l:List α):BkX (WkB M) (.cells (flE ce l)) (.cells (flE ce l)):=
 .cells (zJ fun a ha=>rU (Wk.refl _) (aDm h l a ha))
theorem xW {P:Program} {D:DT} (hD:DOk P D) {α:Type} {enc:α→AV} {d:α} {t u:TypeId} {e e':TypeId} {de:TD} {s1 s2 b1 b2:Nat} {z1 z2:List AV} {m':LM} {sz:Nat} {l:List α} {id:Nat} {hp:bF} {k:AV→bF→Prop} {f:Nat→AV}
  (ht:D t=some ⟨.slice e,s1,z1,b1⟩) (hu:D u=some ⟨.slice e',s2,z2,b2⟩) (he:D e=some de)
  (h0:de.size=sz∧0<sz∧0<de.bytes∧de.bytes≤1048576∧de.zero.length=sz) (hfl:∀ y,(ceE enc y).all AV.flat=true) (hc:∀ y,(enc y).cells≠none)
  (hl2:l.length≤1048576) (hk:k (.so id 0 l.length sz) (upd hp id (some (.cells (flE (ceE enc) l))))) :
  wX P t u (.lst .cap sz 0 f) (.lst m' sz l.length fun j=>enc (l.getD j d)) id hp k:=by
 have k1:=(hD _ _ ht).k
 have k2:=(hD _ _ hu).k
 simp only [aCs] at k1 k2
 obtain ⟨rfl,h1,h2,h3,h4⟩:=h0
 have hde:=hD _ _ he
 by_cases hl:l=[]
 ·subst hl
  exact yF ⟨_,.inr fun H=>⟨e,e',_,_,_,0,0,f,(fun j=>enc (([]:List α).getD j d)),f,k1,k2,hde.size,hde.bytes,hde.zero,h1,h2,h3,h4,by omega,.lst _ _ _,.lst _ _ _,fun j hj=>absurd hj (Nat.not_lt_zero _),rfl,fun j hj=>absurd hj (Nat.not_lt_zero _),fun j hj=>absurd hj (Nat.not_lt_zero _),.inr (.inl ⟨rfl,rfl⟩)⟩,aL2⟩ hk
 ·have hall:(flE (ceE enc) l).all AV.flat=true:=by
   simp only [List.all_eq_true,flE,List.mem_flatMap]
   rintro a ⟨y,_,hy⟩
   exact List.all_eq_true.1 (hfl y) a hy
  have hpos:0<l.length:=List.length_pos_iff.2 hl
  refine yF ⟨_,.inl ⟨fun j hj=>absurd hj (Nat.not_lt_zero _),fun j hj=>hc _,fun H=>?_⟩,Wk.refl _⟩ hk
  unfold vI
  simp only [k1,k2,hde.size,hde.bytes,hde.zero,Option.bind_some,aQB,cellsOf,if_true,aLv,hall,h1,h2,h3,h4,and_self,hpos,Nat.zero_add,hl2,List.range_zero,List.flatMap_nil,List.nil_append]
theorem aLy {E:Env} {N n:Nat} {L:Ren} {c:Code} {σ σ':AS} {Q:Exit→AS→Prop} (hcl:E.cl=true) (hrd:E.rd=false) (hn:32≤n) (h:aAW n L σ σ') (k:HT E N c σ' Q):HT E N c σ Q:=fun ro F a w hro hF hr=>
 k ro F a w hro hF (aAW.rep (rd:=false) hn h (by rw [hcl,hrd] at hF;exact hF) hr)
theorem aEn {sl:Nat→AV} {hp:bF} {b b':Nat} {l:List (Nat×AV)} {hs:List (Nat×AB)}
  (h:aDa sl l fun ps=>aAM ((0,some 0)::(aNB ps++aQe (aNB ps) hp hs)) fun L=>aDc 32 L b'=true∧aC4 (fun p=>WkR L p.1 p.2) ps∧aC4 (fun p=>∃ o,tN L p.1=some o∧BkR L hp p.1 o p.2) hs):∃ L,aAW 32 L ⟨sl,hp,b⟩ ⟨ofL l,ofH hs,b'⟩:=by
 rw [zH,wQ] at h
 exact ⟨_,wON (by decide) _ (aA7 (β:=AV×AV) (p:=fun p=>WkR _ p.1 p.2) h.2.1) h.2.2 h.1⟩
def aRh (n:Nat):AV→AV
 | .ptr _ o=>.ptr n o
 | .mp _=>.mp n
 | .sl _ o a b c=>.sl n o a b c
 | .so _ o a b=>.so n o a b
 | .lst (.tok _) a b c=>.lst (.tok n) a b c
 | a=>a
def aMJ (rs:List (Nat×Nat)) (t:Nat):Option Nat:=match rs with
 | []=>none
 | (u,n)::l=>bif t==u then some n else aMJ l t
def aSq (σ:AS) (rs:List (Nat×Nat)) (ts:List Nat):List (Nat×AV):=ts.map fun t=>(t,match aMJ rs t with | some n=>aRh n (σ.sl t) | none=>σ.sl t)
def aR6 (σ:AS) (rs:List (Nat×Nat)):List (Nat×AB):=rs.map fun p=>(p.2,atN (zM (σ.sl p.1)) fun n=>(σ.hp n).getD (.cells []))
theorem aDt {E:Env} {N:Nat} {c:Code} {σ:AS} {Q:Exit→AS→Prop} (hcl:E.cl=true) (hrd:E.rd=false) (ts:List Nat) (rs:List (Nat×Nat))
  (H:aAb (aSq σ rs ts) fun l=>mP (aR6 σ rs) fun hs=>iN σ.b fun b=>(∃ L,aAW 32 L σ ⟨ofL l,ofH hs,b⟩)∧HT E N c ⟨ofL l,ofH hs,b⟩ Q):HT E N c σ Q:=by
 rw [tO,jU,dQ] at H
 obtain ⟨⟨L,h1⟩,h2⟩:=H
 exact aLy hcl hrd (Nat.le_refl _) h1 h2
theorem oH {L:Ren} {i i':Nat} (h:∀ loc,aFX loc L i'=loc i):WkR L (.yld i) (.yld i'):=fun β v hv=>by
 simp only [V] at hv ⊢
 obtain ⟨l,h1,h2⟩:=hv
 exact ⟨l,(h β.loc).trans h1,h2⟩
def VsB (M:List (Nat×Nat)) (as bs:List AV):Prop:=∀ (β0:cN) (loc:Nat→Option Loc) (ys:Nat→Prop) (vs:List Value),(∀ p∈M,loc p.2=β0.loc p.1)→Vs β0 as vs→Vs ⟨loc,β0.fz,ys⟩ bs vs
theorem aGz {M:List (Nat×Nat)}:VsB M [] []:=fun _ _ _ _ _ h=>by simpa [Vs] using h
theorem oX {M:List (Nat×Nat)} {a b:AV} {as bs:List AV} (h:WkB M a b) (k:VsB M as bs):VsB M (a::as) (b::bs):=fun β0 loc ys vs hm hv=>by
 obtain ⟨v,vs',rfl,h1,h2⟩:=hv
 exact ⟨v,vs',rfl,h β0 loc ys v hm h1,k β0 loc ys vs' hm h2⟩
theorem aNT {M:List (Nat×Nat)} {as bs:List AV} (h:VsB M as bs):WkB M (.tup as) (.tup bs):=fun β0 loc ys v hm hv=>by
 simp only [V] at hv ⊢
 obtain ⟨fv,h1,h2⟩:=hv
 exact ⟨fv,h1,h β0 loc ys fv hm h2⟩
theorem aMS {ids:List Nat} {i j:Nat} (h:ids[j]?=some i):WkA ids (.yld i) (.yld j):=fun β ys v hv=>by
 simp only [V] at hv ⊢
 obtain ⟨l,h1,h2⟩:=hv
 exact ⟨l,by show aLV β.loc ids j=_;unfold aLV;rw [h];exact h1,h2⟩
theorem aJc:∀ {l:List (Nat×AV)},aC4 (fun p=>p.2.a64) l→∀ t,(ofL l t).a64
 | [],_,t=>rW aJx
 | (u,a)::l,h,t=>by
  show (bif t==u then a else ofL l t).a64
  cases t==u
  ·exact aJc h.2 t
  ·exact h.1
def AB.a64:AB→Prop
 | .cells cs=>∀ a∈cs,a.a64
 | _=>False
def mo {α β:Type} (y:Option α) (x:Option β) (f:α→Option β):Option β:=match y with | none=>x | some a=>f a
attribute [irreducible] mo
section
variable {E:Env} {N:Nat} {c:Code} {σ:AS} {Q:Exit→AS→Prop}
end
theorem aBd.modify {β:cN} {es:List (Nat×AV×AV)} {ents:Array MapEntry} (m:aBd β es ents) {j0:Nat} {a:AV} (h:∀ e,ents[j0]?=some e→V β a e.val):aBd β (es.modify j0 fun p=>(p.1,p.2.1,a)) ents:=
 ⟨m.len.trans (by simp),fun j p hp=>by
  rw [List.getElem?_modify] at hp
  split at hp
  ·rename_i ej;subst ej
   obtain ⟨p0,h1,rfl⟩:=Option.map_eq_some_iff.1 hp
   obtain ⟨e,e1,e2,e3,e4⟩:=m.rel _ p0 h1
   exact ⟨e,e1,e2,e3,h e e1⟩
  ·exact m.rel j p (by simpa using hp)⟩
section
variable {α:Type} {L:List (Nat×Int×α)} {n:Int} {a v:α} {clk:Nat}
end
section
variable {P:Program} {D:DT} {α:Type} {enc:α→AV} {d:α} {t e:TypeId} {s b:Nat} {zs:List AV} {lim i sz:Nat} {n:Int} {m:GM (List α)} {hp:bF}
end
section
variable {E:Env} {N:Nat} {c:Code} {σ:AS} {Q:Exit→AS→Prop}
end
end Go.Eng
namespace Go.Eng
open Go.RowKit (Below)
def itR (P:Program) {X:Type} (encV:X→List Value) (C:List AV→(∀ σ:Type,(X→σ→Option σ)→σ→Option σ)→Prop):aAI:=fun args H _ r H'=>
 ∃ (S:Type) (G:Gh S) (σ:Type) (ι:σ→S) (y:X→σ→Option σ) (s fin:σ) (b0:Nat) (caps:List AV) (F:∀ σ:Type,(X→σ→Option σ)→σ→Option σ),
  args=.yld b0::caps∧C caps F∧H b0=some (.gh S G (ι s))∧G.P=P∧(∀ x s s',y x s=some s'→G.Y (encV x) (ι s) true (ι s'))∧F σ y s=some fin∧r=.tup []∧H'=upd H b0 (some (.gh S G (ι fin)))
theorem aKL {E:Env} {N:Nat} {Q:Exit→AS→Prop} {g:Operand} {ps:Array Tmp} {assign body:Code} {l:List (Nat×AV)} {b0:Nat} (hrd:E.rd=false) (hcl:E.cl=true)
  {X S:Type} (encX:X→List AV) {encV:X→List Value} (hX:∀ β x,Vs β (encX x) (encV x)) (hps:∀ x,(encV x).length=ps.size) (hpN:∀ p∈ps.toList,p<N)
  {gf:FuncId} {caps:List AV} {C:List AV→(∀ σ:Type,(X→σ→Option σ)→σ→Option σ)→Prop} (hT:E.T gf=itR E.P encV C) (hg:evA (ofL l) g=.fn gf [] caps) {F:∀ σ:Type,(X→σ→Option σ)→σ→Option σ} {y:X→S→Option S} {s0 fin:S} (hF:F S y s0=some fin) (hC:C caps F)
  (hb0:64≤b0) (h64:aC4 (fun p=>p.2.a64) l) (hpS:S→List (Nat×AB)) (hng:∀ s,aC4 (fun p=>aGv p.2=true) (hpS s))
  (hround:∀ x s s',W (y x s) (fun t=>t=s')→HT { E with rd:=true } N assign ⟨aOf (ofL l) ps.toList (encX x),ofH (hpS s),b0+64⟩ (aIM (fun σ1=>HT { E with rd:=true } N body σ1 fun e σ2=>
   e=.normal∧∃ L,aBk L ⟨ofL [],σ2.hp,σ2.b⟩ ⟨ofL [],ofH (hpS s'),b0+64⟩) fun _ _=>False))
  (hend:Q .normal ⟨ofL l,ofH (hpS fin),b0+64⟩) :
  HT E N (.rangeFunc g ps assign body) ⟨ofL l,ofH (hpS s0),b0⟩ Q:=by
 refine aPr (X:=X) (S:=S) hrd hcl encX encV hX hps hpN hg (WkL.refl _) 999 hb0 (aJc h64) (fun _=>false) (fun i hi=>by cases hi) (fun s=>ofH (hpS s)) (fun s i b h=>⟨aBp (hng s) _ (aG6 h),rfl⟩)
  (fun x s=>(y x s).map fun s'=>(true,s')) s0 (fun i b h=>h) (true,fin) (fun G hP hy=>?_) (fun x s b s' hy=>?_) (fun _=>hend) (fun h=>by cases h)
 ·refine ⟨.tup [],?_⟩
  have e:(fun i=>if i=b0 then some (AB.gh (Bool×S) G (true,fin)) else bif (fun _=>false) i then ofH (hpS s0) i else none)=upd (fun i=>if i=b0 then some (.gh (Bool×S) G (true,s0)) else bif (fun _=>false) i then ofH (hpS s0) i else none) b0 (some (.gh (Bool×S) G (true,fin))):=by
   funext i;unfold upd;split
   ·rfl
   ·rename_i h;simp only [h,if_false]
  rw [e,hT]
  exact ⟨Bool×S,G,S,fun s=>(true,s),y,s0,fin,b0,caps,F,rfl,hC,by simp,hP,fun x s s' h=>hy x s true s' (by simp [h]),hF,rfl,rfl⟩
 ·obtain ⟨s1,h1,h2⟩:=Option.map_eq_some_iff.1 hy
  obtain ⟨rfl,rfl⟩:b=true∧s1=s':=by cases h2;exact ⟨rfl,rfl⟩
  refine (hround x s s1 (kS h1 rfl)).mono fun e σ h=>?_
  cases e with
  | normal=>exact HT.mono h fun e' σ' ⟨h1,h2⟩=>⟨by rw [h1];rfl,h2⟩
  | _=>exact h
def aSW {S:Type} (P:Program) (rs:Array ResultVar) (G:Gh S) (fin:S):Exit→AS→Prop:=fun e σ=>match e with
 | .normal | .ret=>aIO P rs σ=some (.tup [])∧σ.hp 0=some (.gh S G fin)
 | _=>False
theorem aMa {P:Program} {T:Tbl} {pf:FuncId→Bool} (hT:TOk P T) (hpf:cI T pf) {f:FuncId} {fn:Func} {c:Code} {X:Type} {encV:X→List Value} {C:List AV→(∀ σ:Type,(X→σ→Option σ)→σ→Option σ)→Prop} {N:Nat} {rs:Array ResultVar}
  (hf:P.funcs[f]?=some fn) (hb:fn.body=some c) (hN:fn.ntmps=N) (hrs:fn.results=rs) (hn:(fn.name == "runtime.NumGoroutine")=false)
  (h:∀ caps F,C caps F→(∀ a∈caps,a.loose)∧caps.length+1≤N∧∀ (S:Type) (G:Gh S) (σ:Type) (ι:σ→S) (y:X→σ→Option σ) (s fin:σ),G.P=P→(∀ x s s',y x s=some s'→G.Y (encV x) (ι s) true (ι s'))→W (F σ y s) (fun z=>z=fin) →
   HT ⟨P,T,pf,true,false,hT,hpf⟩ N c ⟨aGq (.yld 0::caps),ofB [.gh S G (ι s)],64⟩ (aSW P rs G (ι fin))):FOk P f (itR P encV C):=by
 refine aEc hT hpf hf hb hN hrs hn ?_
 rintro args H base r H' ⟨S,G,σ,ι,y,s,fin,b0,caps,F,rfl,hC,hb0,hP,hy,hF,rfl,rfl⟩
 obtain ⟨hlo,hle,hh⟩:=h caps F hC
 refine ⟨[b0],.yld 0::caps,[.gh S G (ι s)],[.gh S G (ι fin)],[],by simpa using hle,by simp,by simp,by simp,rfl,rfl,.cons (aMS rfl) (zJ fun a ha=>zL (hlo a ha)),(fun j i b h1 h2=>?_),(fun k b h=>by simp at h),(fun j=>?_),(fun i b h=>?_),?_⟩
 ·cases j with
  | zero=>cases h1;cases h2;exact ⟨_,hb0,.gh⟩
  | succ j=>simp at h1
 ·cases j<;>rfl
 ·by_cases e:i=b0
  ·subst e;rw [oW] at h;cases h;exact .inr (.inl ⟨0,rfl,rfl⟩)
  ·rw [aU _ _ e] at h;exact .inl ⟨by simpa using e,h⟩
 ·refine (hh S G σ ι y s fin hP hy (kS hF rfl)).mono fun e σ' h=>?_
  have key:(aIO P rs σ'=some (.tup [])∧σ'.hp 0=some (.gh S G (ι fin)))→∃ (r1:AV) (ns:List Nat),ns.length=([]:List AB).length∧ns.Nodup∧(∀ n∈ns,64≤n)∧aIO P rs σ'=some r1∧WkB (mm [b0] ns base) r1 (.tup []) ∧
    (∀ (j:Nat) (b:AB),[AB.gh S G (ι fin)][j]?=some b→∃ b0',σ'.hp j=some b0'∧BkX (WkB (mm [b0] ns base)) b0' b) ∧
    (∀ (k n:Nat) (b:AB),ns[k]?=some n→([]:List AB)[k]?=some b→∃ b0',σ'.hp n=some b0'∧BkX (WkB (mm [b0] ns base)) b0' b):=fun ⟨h1,h2⟩=>
   ⟨_,[],rfl,by simp,by simp,h1,aNT aGz,fun j b hj=>by
    cases j with
    | zero=>cases hj;exact ⟨_,h2,.gh⟩
    | succ j=>simp at hj,fun k n b h1 _=>by simp at h1⟩
  cases e with
  | normal=>exact key h
  | ret=>exact key h
  | _=>exact h
theorem aMz {P:Program} {S:Type} {G:Gh S} {σ β:Type} {ι:σ→S} {X:Type} {encV:X→List Value} {y:X→σ→Option σ} (hy:∀ x s s',y x s=some s'→G.Y (encV x) (ι s) true (ι s')) (hP:G.P=P) {x:X} {s:σ} {f:σ→Option β} {Φ:β→Prop} {args:List AV} {hp:bF} {j:Nat} {k:AV→bF→Prop}
  (h:W (bd (y x s) f) Φ) (hj:hp j=some (.gh S G (ι s))) (hv:∀ b vs,Vs b args vs→vs=encV x) (hk:∀ s',W (f s') Φ→k (.bool true) (upd hp j (some (.gh S G (ι s'))))):aOd P j args hp k:=by
 obtain ⟨s',e,h⟩:=dL (bE h)
 exact aNL ⟨S,G,_,true,_,_,hj,hP,hv,hy _ _ _ e,rfl,rfl⟩ (hk s' h)
theorem aJB {E:Env} {N:Nat} {c:Code} {σ:AS} {Q:Exit→AS→Prop} (i b:Nat) (hib:b≠i) {cs bs bs':List AV} (hi:σ.hp i=some (.cells cs)) (hb:σ.hp b=some (.cells bs)) (hbl:bs'.length≤bs.length)
  (hbr:∀ (β':cN) (l:Loc) (vs:List Value),β' i=some l→β' σ.b=some ⟨l.c,l.o+cs.length,l.k-cs.length⟩→cs.length≤l.k→Vs β' cs vs→laid β'.fz l.c l.o vs→∀ (j:Nat) (a':AV),bs'[j]?=some a'→∃ a,bs[j]?=some a∧∀ v,V β' a v→V β' a' v)
  (h:HT E N c ⟨σ.sl,upd (upd (upd σ.hp i none) σ.b (some (.cells []))) b (some (.cells bs')),σ.b+64⟩ Q):HT E N c σ Q:=fun ro F a w hro hF hr=>by
 obtain ⟨β,ds,h0,h1,h2,h3,h4⟩:=hr
 obtain ⟨l,hl,hlen,hblk⟩:=h2.own i cs hi
 have hgn:β σ.b=none:=by
  cases e:β σ.b with
  | none=>rfl
  | some x=>exact absurd (h3 σ.b (by rw [e];simp)) (Nat.lt_irrefl _)
 have hbn:b≠σ.b:=fun e=>by
  subst e
  obtain ⟨x,hx⟩:=h2.locOf hb;rw [hgn] at hx;cases hx
 obtain ⟨β',f1,f2,f3,f4,f5,f6⟩:=h2.freezeRaw (m:=cs.length) hi hl hgn hlen
 obtain ⟨vs,hvs,hcell⟩:∃ vs:List Value,Vs β cs vs∧∀ (j:Nat) (v:Value),vs[j]?=some v→w.cell? ⟨l.c,l.o+j,none⟩=some v:=by
  have key:∀ (j:Nat) (a:AV),cs[j]?=some a→∃ v,w.cell? ⟨l.c,l.o+j,none⟩=some v∧V β a v:=fun j a ha=>h2.cell hi hl ha
  refine ⟨(List.range cs.length).map fun j=>(w.cell? ⟨l.c,l.o+j,none⟩).getD undef,qI (by simp) fun j a ha=>?_,fun j v hv=>?_⟩
  ·obtain ⟨v,x,y⟩:=key j a ha
   have hj:j<cs.length:=(List.getElem?_eq_some_iff.1 ha).1
   exact ⟨v,by simp [hj,x],y⟩
  ·have hj:j<cs.length:=by
    have:=(List.getElem?_eq_some_iff.1 hv).1;simpa using this
   obtain ⟨v',x,y⟩:=key j cs[j] (List.getElem?_eq_some_iff.2 ⟨hj,rfl⟩)
   simp [hj,x] at hv;rw [x,hv]
 refine h ro F a w hro hF ⟨β',ds,⟨cN.le.trans h0.le f1,fun j hj=>?_,Nat.le_trans h0.b (Nat.le_add_right _ _),fun c o hc=>?_⟩,fun t=>lJ f1 _ _ (h1 t),?_,fun j hj=>?_,h4⟩
 ·rcases f2 j hj with e | e
  ·exact h0.dom j e
  ·exact .inr (e ▸ h0.b)
 ·rcases f6 c o hc with e | e
  ·exact h0.fz c o e
  ·exact .inr e.1
 ·refine f4.recell (cs:=bs) (by rw [aU _ _ hbn,aU _ _ hib];exact hb) hbl (hbr β' l vs (f1.loc _ _ hl) f3 hlen (sH f1 _ _ hvs) fun j v hv=>?_)
  have hj:j<cs.length:=by
   have:=(List.getElem?_eq_some_iff.1 hv).1;rw [← cO hvs] at this;exact this
  rw [f5 j hj];exact hcell j v hv
 ·rcases f2 j hj with e | e
  ·exact Nat.lt_of_lt_of_le (h3 j e) (Nat.le_add_right _ _)
  ·subst e;show σ.b<σ.b+64;omega
theorem aPF {P:Program} {β':cN} {l:Loc} {i g n sz:Nat} {cs:List AV} {vs:List Value} {f:Nat→AV} {e:TypeId} (hl:β' i=some l) (hg:β' g=some ⟨l.c,l.o+cs.length,l.k-cs.length⟩) (hlen:cs.length=n * sz) (hvs:Vs β' cs vs) (hlaid:laid β'.fz l.c l.o vs) (hsz:szT P e=some sz)
  (hf:∀ j,j<n→vR P e cs (j * sz)=some (f j)∧okE P e sz (f j)) {v:Value} (hv:V β' (.so i 0 n sz) v):V β' (.lst (.tok g) sz n f) v:=by
 simp only [V] at hv ⊢
 obtain ⟨l',e1,e2⟩:=hv
 rw [hl] at e1;cases e1
 rcases e2 with ⟨rfl,a,rfl⟩ | ⟨mm,h1,h2,rfl⟩
 ·exact ⟨_,_,rfl,Nat.le_refl _,⟨_,hg,.inl rfl⟩,fun j hj=>by omega⟩
 ·refine ⟨_,_,rfl,h1,⟨_,hg,.inr ⟨_,rfl,?_,?_⟩⟩,fun j hj=>?_⟩
  ·simp only [hlen];omega
  ·have:=Nat.mul_le_mul_right sz h1
   simp only [hlen];omega
  obtain ⟨hp,hok⟩:=hf j hj
  obtain ⟨u,u1,u2,u3⟩:=yT hsz hvs hp hok
  refine ⟨_,_,u,rfl,u1,fun k v hk=>?_,u3⟩
  rw [u2] at hk
  rw [Nat.add_zero,Nat.add_assoc]
  exact hlaid _ _ (eC _ _ _ _ _ hk)
theorem aLt {E:Env} {N:Nat} {c:Code} {σ:AS} {Q:Exit→AS→Prop} (t q:Nat) {α:Type} {enc:α→AV} (d:α) {e:TypeId} {sz:Nat} (he:aMn E.P enc e sz)
  (h:iN (zM (σ.sl t)) fun b=>iN (aS1 (aHs σ.hp b q)) fun i=>iN σ.b fun g=>∃ (bs:List AV) (n:Nat) (l:List α),b≠i∧σ.hp b=some (.cells bs)∧bs[q]?=some (.so i 0 n sz)∧n=l.length∧σ.hp i=some (.cells (flE (ceE enc) l)) ∧
   oM (bs.set q (.lst (.tok g) sz l.length fun j=>enc (l.getD j d))) fun bs'=>HT E N c ⟨σ.sl,upd (upd (upd σ.hp i none) g (some (.cells []))) b (some (.cells bs')),g+64⟩ Q):HT E N c σ Q:=by
 simp only [dQ,jF] at h
 obtain ⟨bs,_,l,h1,h2,h3,rfl,h4,h5⟩:=h
 refine aJB _ _ h1 h4 h2 (by simp) (fun β' lc vs g1 g0 _ g2 g3 j a' ha=>?_) h5
 rw [List.getElem?_set] at ha
 split at ha
 ·rename_i ej;subst ej
  split at ha
  ·cases ha;exact ⟨_,h3,fun v hv=>aPF g1 g0 (uA he.len l) g2 g3 he.size (he.part l) hv⟩
  ·cases ha
 ·exact ⟨a',ha,fun v hv=>hv⟩
theorem aIS {M:List (Nat×Nat)} {as bs:List AV} (h:VsB M as bs):WkB M (.agg as) (.agg bs):=fun β0 loc ys v hM hv=>by
 simp only [V] at hv ⊢
 obtain ⟨l,h1,h2⟩:=hv
 exact ⟨l,h1,h β0 loc ys l hM h2⟩
theorem aCn {M:List (Nat×Nat)} {g i n m sz:Nat} (h:(g,i)∈M) (hn:n=m):WkB M (.so g 0 n sz) (.so i 0 m sz):=by subst hn;exact aGd h
def aQK (H:bF):Nat→List AB→bF
 | _,[]=>H
 | b,x::xs=>upd (aQK H (b+1) xs) b (some x)
theorem aHX:∀ {xs:List AB} {H:bF} {b i:Nat} {x:AB},aQK H b xs i=some x→H i=some x∨∃ k,i=b+k∧xs[k]?=some x
 | [],_,_,_,_,h=>.inl h
 | y::ys,H,b,i,x,h=>by
  unfold aQK at h
  by_cases e:i=b
  ·subst e;rw [oW] at h;exact .inr ⟨0,rfl,by simpa using h⟩
  ·rw [aU _ _ e] at h
   rcases aHX h with h | ⟨k,h1,h2⟩
   ·exact .inl h
   ·exact .inr ⟨k+1,by omega,by simpa using h2⟩
def aKT {Y:Type} (res:Y→Nat→AV) (blk:Y→List AB) (S:List AV→Y→Prop):aAI:=fun args H base r H'=>∃ y,S args y∧r=res y base∧H'=aQK H base (blk y)
theorem aJn {P:Program} {T:Tbl} {pf:FuncId→Bool} (hT:TOk P T) (hpf:cI T pf) {f:FuncId} {fn:Func} {c:Code} {Y:Type} {res:Y→Nat→AV} {blk:Y→List AB} {S:List AV→Y→Prop} {N:Nat} {rs:Array ResultVar}
  (hf:P.funcs[f]?=some fn) (hb:fn.body=some c) (hN:fn.ntmps=N) (hrs:fn.results=rs) (hn:(fn.name == "runtime.NumGoroutine")=false) (hblk:∀ y,(blk y).length≤64∧(blk y).all aGv=true)
  (h:∀ args y,S args y→args.length≤N∧(∀ a∈args,a.loose)∧∀ base:Nat,HT ⟨P,T,pf,true,false,hT,hpf⟩ N c ⟨aGq args,fun _=>none,64⟩ (aNp P rs [] base (res y base) [] (blk y))):FOk P f (aKT res blk S):=by
 refine aEc hT hpf hf hb hN hrs hn ?_
 rintro args H base r H' ⟨y,hS,rfl,rfl⟩
 obtain ⟨h1,h2,h3⟩:=h args y hS
 obtain ⟨b1,b2⟩:=hblk y
 refine ⟨[],args,[],[],blk y,h1,by simp,b1,.nil,rfl,rfl,zJ fun a ha=>zL (h2 a ha),(fun j i b h=>by simp at h),(fun k b hk=>List.all_eq_true.1 b2 b (List.mem_of_getElem? hk)),(fun j=>rfl),(fun i b hi=>?_),?_⟩
 ·rcases aHX hi with h | h
  ·exact .inl ⟨by simp,h⟩
  ·exact .inr (.inr h)
 ·have e:ofB []=fun _=>none:=by funext j;simp [ofB]
  rw [e];exact h3 base
theorem aAi {T:Tbl} {f:FuncId} {Y β:Type} {res:Y→Nat→AV} {blk:Y→List AB} {S:List AV→Y→Prop} (hT:T f=aKT res blk S) {args args':List AV} {hp:bF} {id:Nat} {k:AV→bF→Prop} {x:Option Y} {g:Y→Option β} {Φ:β→Prop}
  (h:W (bd x g) Φ) (hS:∀ y,x=some y→S args' y) (hw:WkL args args') (hk:∀ y,W (g y) Φ→k (res y id) (aQK hp id (blk y))):uU T f args hp id k:=by
 obtain ⟨y,e,h⟩:=dL (bE h)
 exact aBF hw (by rw [hT];exact ⟨y,hS y e,rfl,rfl⟩) (hk y h)
def aNE:List AV→List Nat
 | []=>[]
 | .so i _ _ _::l=>i::aNE l
 | _::l=>aNE l
def aBW:AV→List Nat
 | .agg cs=>aNE cs
 | .so i _ _ _=>[i]
 | .ptr i _=>[i]
 | _=>[]
def aHm:List Nat→Bool
 | []=>true
 | a::l=>l.all (fun b => !(a==b))&&aHm l
theorem aGs:∀ {l:List Nat},aHm l=true→l.Nodup
 | [],_=>List.nodup_nil
 | a::l,h=>by
  simp only [aHm,Bool.and_eq_true,List.all_eq_true,Bool.not_eq_true',beq_eq_false_iff_ne] at h
  exact List.nodup_cons.2 ⟨fun hm=>h.1 a hm rfl,aGs h.2⟩
def aSO (base:Nat) (r:AV) (nb:List AB) (hp:bF) (r1:AV):Prop:=
 (aBW r1).length=nb.length∧aHm (aBW r1)=true∧((aBW r1).all fun n=>decide (64≤n))=true∧WkB (mm [] (aBW r1) base) r1 r ∧
  ∀ (k n:Nat) (x:AB),(aBW r1)[k]?=some n→nb[k]?=some x→∃ b0,hp n=some b0∧BkX (WkB (mm [] (aBW r1) base)) b0 x
theorem aKp {P:Program} {D:DT} (hD:DOk P D) {rs:Array ResultVar} {base:Nat} {r:AV} {nb:List AB} {σ:AS} (h:∀ K:AV→Prop,(∀ r1,aSO base r nb σ.hp r1→K r1)→aLb D σ.b σ.sl σ.hp rs.toList fun l=>K (aKf l)) :
  ∃ (r1:AV) (ns:List Nat),ns.length=nb.length∧ns.Nodup∧(∀ n∈ns,64≤n)∧aIO P rs σ=some r1∧WkB (mm [] ns base) r1 r∧(∀ (j:Nat) (b:AB),([]:List AB)[j]?=some b→∃ b0,σ.hp j=some b0∧BkX (WkB (mm [] ns base)) b0 b) ∧
   (∀ (k n:Nat) (b:AB),ns[k]?=some n→nb[k]?=some b→∃ b0,σ.hp n=some b0∧BkX (WkB (mm [] ns base)) b0 b):=by
 obtain ⟨r1,h1,h2⟩:=aIa (k:=aSO base r nb σ.hp) hD (h _ fun _ h=>h)
 obtain ⟨k1,k2,k3,k4,k5⟩:=h2
 exact ⟨r1,aBW r1,k1,aGs k2,fun n hn=>by simpa using List.all_eq_true.1 k3 n hn,h1,k4,fun j b h=>by simp at h,k5⟩
theorem aKs {P:Program} {D:DT} (hD:DOk P D) {rs:Array ResultVar} {base:Nat} {r:AV} {nb:List AB} {σ:AS} (h:∀ K:AV→Prop,(∀ r1,aSO base r nb σ.hp r1→K r1)→aLb D σ.b σ.sl σ.hp rs.toList fun l=>K (aKf l)):aNp P rs [] base r [] nb .ret σ:=aKp hD h
theorem aNC {α:Type} {enc:α→AV} {d:α} {l:List α} {pre post cs:List AV} {o:Nat} {i:Int} {k:AV→Prop} (hcs:cs=pre++(l.map enc++post)) (ho:o=pre.length) (hi:0≤i∧i<(l.length:Int)) (hk:uE (enc (l.getD i.toNat d)) k):aMb cs (o+i.toNat * 1) k:=by
 refine gKo (a:=enc (l.getD i.toNat d)) ?_ hk
 subst hcs ho
 have h1:i.toNat<l.length:=by omega
 rw [List.getElem?_append_right (by omega),show pre.length+i.toNat * 1-pre.length=i.toNat by omega,List.getElem?_append_left (by simpa using h1),List.getElem?_map,List.getElem?_eq_getElem h1]
 simp [h1]
def aFb (σ:AS) (ts:List (Nat×Nat)):List (Nat×AB):=ts.map fun t=>atN (zM (σ.sl t.1)) fun n=>atN (zM (aHs σ.hp n t.2)) fun n=>(n,(σ.hp n).getD (.cells []))
def aNq (σ:AS):List (Nat×AB):=[(0,(σ.hp 0).getD (.cells []))]
section
variable {E:Env} {N:Nat}
theorem aFY {S R:Type} {c:Code} {σ:AS} {Q:Exit→AS→Prop} {body:S→Option (Ct S R)} {n:Nat} {s:S} {Φ:S ⊕ R→Prop} (hcl:E.cl=true) (h:W (lp body n s) Φ) (ts:List Nat) (hs0:AS→List (Nat×AB)) (bsl:List Nat)
  (I:List (Nat×AV)→List (Nat×AB)→List Nat→Nat→S→AS)
  (H:aAb (aKF σ ts) fun kl=>mP (hs0 σ) fun kh=>wN (bsl.map fun t=>zM (σ.sl t)) fun ids=>iN σ.b fun b=>
   (∃ L,aBk L σ (I kl kh ids b s))∧∀ (s:S) (m:Nat),W (bd (body s) fun c=>ctK c (lp body m) (fun s=>some (.inl s)) (fun r=>some (.inr r))) Φ →
    HT E N c (I kl kh ids b s) (aIM (fun σ'=>∃ s',W (lp body m s') Φ∧∃ L,aBk L σ' (I kl kh ids b s')) Q)):HT E N (.loop c) σ Q:=by
 rw [tO,jU,sX,dQ] at H
 exact aK6 hcl h (fun _ s=>I _ _ _ _ s) H.1 H.2
theorem aMH {S R:Type} {c:Code} {σ:AS} {Q:Exit→AS→Prop} {body:S→Option (Ct S R)} {n:Nat} {s:S} {Φ:S ⊕ R→Prop} (hcl:E.cl=true) (h:W (lp body n s) Φ) (ts:List Nat) (hs0 hr0:AS→List (Nat×AB)) (bsl:List Nat)
  (I:List (Nat×AV)→List (Nat×AB)→List (Nat×AB)→List Nat→Nat→S→AS)
  (H:aAb (aKF σ ts) fun kl=>mP (hs0 σ) fun kh=>mP (hr0 σ) fun kr=>wN (bsl.map fun t=>zM (σ.sl t)) fun ids=>iN σ.b fun b=>
   (∃ L,aBk L σ (I kl kh kr ids b s))∧∀ (s:S) (m:Nat),W (bd (body s) fun c=>ctK c (lp body m) (fun s=>some (.inl s)) (fun r=>some (.inr r))) Φ →
    HT E N c (I kl kh kr ids b s) (aIM (fun σ'=>∃ s',W (lp body m s') Φ∧∃ L,aBk L σ' (I kl kh kr ids b s')) Q)):HT E N (.loop c) σ Q:=by
 rw [tO,jU,jU,sX,dQ] at H
 exact aK6 hcl h (fun _ s=>I _ _ _ _ _ s) H.1 H.2
end
theorem wT {T:Tbl} {f:FuncId} {α:Type} {sz:Nat} {enc:α→AV} {d:α} {l:List α} {args:List AV} {hp:bF} {id:Nat} {k:AV→bF→Prop} (hT:T f=xN sz enc d) (hw:WkL args [eL sz enc d l]) (hl:l.length≤1048576) (hlo:∀ x,∀ a∈ceE enc x,a.loose)
  (hk:k (.so id 0 l.length sz) (upd hp id (some (.cells (flE (ceE enc) l))))):aFJ T f args hp id k:=
 aJT ⟨_,sz,l.length,flE (ceE enc) l,hw,rfl,rfl,aDm hlo l,fun b H=>by rw [hT];exact ⟨l,rfl,hl,rfl,rfl⟩⟩ hk
theorem aMV {i o n m z:Nat}:Wk (.sl i o n m z) (.so i o n z):=fun β v h=>by
 simp only [V] at h ⊢
 obtain ⟨l,h1,h2⟩:=h
 refine ⟨l,h1,?_⟩
 rcases h2 with ⟨h3,h4,h5⟩ | ⟨h3,h4,h5⟩
 ·exact .inl ⟨h3,h5⟩
 ·exact .inr ⟨m,h3,h4,h5⟩
theorem aQp {P:Program} {D:DT} (hD:DOk P D) {α β:Type} {enc:α→AV} {t:TypeId} {parts:List (Nat×AV)} {id:Nat} {e:TypeId} {de:TD} {s1 b1:Nat} {z1:List AV} {cs:List AV} {k:AV→AB→Prop} {l:List α} {f:List α→Option β} {Φ:β→Prop} {n:Nat}
  (h:W (lt l f) Φ) (ht:D t=some ⟨.slice e,s1,z1,b1⟩) (he:D e=some de) (hn:n=l.length) (h0:n * de.size≤2 ^ 24∧0<de.size∧de.zero.length=de.size)
  (hf:yK (fun i=>some (i * de.size,de.size)) (wF de.zero n) parts=some cs) (hc:WkL cs (flE (ceE enc) l))
  (hk:W (f l) Φ→k (.so id 0 l.length de.size) (.cells (flE (ceE enc) l))):bsK P t n parts id k:=by
 replace hk:=hk (aKQ h)
 subst hn
 have k1:=(hD _ _ ht).k
 simp only [aCs] at k1
 have hde:=hD _ _ he
 refine aMk ⟨e,de.size,cs,?_,.inl ⟨_,aMV,hc,rfl⟩⟩ hk
 simp only [tM,k1,hde.size,hde.zero,Option.bind_some]
 rw [if_pos h0,hf];rfl
end Go.Eng
namespace Go.Eng
theorem aH9 {β:cN}:∀ {as bs:List AV} {vs:List Value},Vs β (as++bs) vs↔∃ us ws,vs=us++ws∧Vs β as us∧Vs β bs ws
 | [],bs,vs=>⟨fun h=>⟨[],vs,rfl,by simp [Vs],h⟩,fun ⟨us,ws,e,h1,h2⟩=>by
  simp only [Vs] at h1;subst h1;subst e;exact h2⟩
 | a::as,bs,vs=>by
  constructor
  ·intro h
   simp only [List.cons_append,Vs] at h
   obtain ⟨v,vs',rfl,h1,h2⟩:=h
   obtain ⟨us,ws,rfl,h3,h4⟩:=aH9.1 h2
   exact ⟨v::us,ws,rfl,by simp only [Vs];exact ⟨v,us,rfl,h1,h3⟩,h4⟩
  ·rintro ⟨us,ws,rfl,h1,h2⟩
   simp only [Vs] at h1
   obtain ⟨v,us',rfl,h3,h4⟩:=h1
   simp only [List.cons_append,Vs]
   exact ⟨v,us'++ws,rfl,h3,aH9.2 ⟨us',ws,rfl,h4,h2⟩⟩
theorem aJb {a a' b b':List AV} (h:WkL a a') (k:WkL b b'):WkL (a++b) (a'++b'):=fun β vs hv=>by
 obtain ⟨us,ws,e,h1,h2⟩:=aH9.1 hv
 exact aH9.2 ⟨us,ws,e,h β us h1,k β ws h2⟩
theorem aIN {cs vs vs':List AV} {o:Nat} (h:WkL vs vs') (hl:vs.length=vs'.length):WkL (iM cs o vs) (iM cs o vs'):=by
 unfold iM
 rw [hl]
 exact aJb (aJb (WkL.refl _) h) (WkL.refl _)
theorem aMq {α β:Type} {enc:α→AV} {d:α} {sz:Nat} {l:List α} {i:Int} {n q m:Nat} {x:α} {xs:List AV} {f:List α→Option β} {Φ:β→Prop} {k:List AV→Prop} (h:W (st l i x f) Φ) (hsz:∀ x,(ceE enc x).length=sz) (hn:l.length=n) (hi:0≤i∧i<(n:Int)) (hm:xs.length=m) (hq:q+m≤sz) (hf:xs.all AV.flat=true)
  (hk:W (f (l.set i.toNat x)) Φ→k (iM (flE (ceE enc) l) (0+i.toNat * sz+q) xs)) :
  xs.length=m∧0+i.toNat * sz+q+m≤(flE (ceE enc) l).length∧xs.all AV.flat=true∧oM (iM (flE (ceE enc) l) (0+i.toNat * sz+q) xs) k:=by
 have hi':=aQ6 hn hi
 have hle:=aND (enc:=enc) hsz hi'
 refine ⟨hm,by omega,hf,?_⟩
 rw [jF]
 exact hk (aTg h)
theorem aFE {α:Type} {enc:α→AV} {d:α} {sz:Nat} {l:List α} {i:Int} {n q:Nat} {x:α} {xs xs':List AV} (hsz:∀ x,(ceE enc x).length=sz) (hn:l.length=n) (hi:0≤i∧i<(n:Int)) (hq:q+xs'.length≤sz) (hx:iM (ceE enc (l.getD i.toNat d)) q xs'=ceE enc x) (hf:xs'.all AV.flat=true) (hw:WkL xs xs') (hl:xs.length=xs'.length) :
  WkL (iM (flE (ceE enc) l) (0+i.toNat * sz+q) xs) (flE (ceE enc) (l.set i.toNat x)):=by
 have h:=aJd (d:=d) (k:=fun c=>WkL (iM (flE (ceE enc) l) (0+i.toNat * sz+q) xs) c) hsz hn hi rfl hq hx hf
 have h2:=aIN (cs:=flE (ceE enc) l) (o:=0+i.toNat * sz+q) hw hl
 have e:iM (flE (ceE enc) l) (0+i.toNat * sz+q) xs'=flE (ceE enc) (l.set i.toNat x):=by
  have:=(aJd (d:=d) (k:=fun c=>c=flE (ceE enc) (l.set i.toNat x)) hsz hn hi rfl hq hx hf rfl).2.2.2
  rw [jF] at this
  exact this
 rw [← e];exact h2
theorem aHA {E:Env} {N:Nat} {c:Code} {σ:AS} {Q:Exit→AS→Prop} (t q:Nat) {α:Type} {enc:α→AV} (d:α) {e:TypeId} {sz:Nat} (he:aMn E.P enc e sz)
  (h:iN (zM (σ.sl t)) fun b=>iN (aS1 (aHs σ.hp b q)) fun i=>iN σ.b fun g=>∃ (bs cs:List AV) (n:Nat) (l:List α),b≠i∧σ.hp b=some (.cells bs)∧bs[q]?=some (.so i 0 n sz)∧n=l.length∧σ.hp i=some (.cells cs)∧WkL cs (flE (ceE enc) l) ∧
   oM (bs.set q (.lst .free sz l.length fun j=>enc (l.getD j d))) fun bs'=>HT E N c ⟨σ.sl,upd (upd σ.hp i none) b (some (.cells bs')),g+64⟩ Q):HT E N c σ Q:=by
 simp only [dQ,jF] at h
 obtain ⟨bs,cs,_,l,h1,h2,h3,rfl,h4,hw,h5⟩:=h
 refine aHw _ _ h1 h4 h2 (by simp) (fun β' lc vs g1 g2 g3 j a' ha=>?_) σ.sl (fun β β' l vs hle _ _ _ t v hv=>lJ hle _ _ hv) h5
 rw [List.getElem?_set] at ha
 split at ha
 ·rename_i ej;subst ej
  split at ha
  ·cases ha;exact ⟨_,h3,fun v hv=>aMw g1 (hw _ _ g2) g3 he.size (he.part l) hv⟩
  ·cases ha
 ·exact ⟨a',ha,fun v hv=>hv⟩
end Go.Eng
namespace Go.Eng
open Go.RowKit (Below)
structure Ar (n:Nat) where
 l:List Int
 h:l.length=n
def Ar.zero (n:Nat):Ar n:=⟨List.replicate n 0,List.length_replicate⟩
instance {n:Nat}:Inhabited (Ar n):=⟨Ar.zero n⟩
def Ar.st1 {n:Nat} (x:Ar n) (i v:Int):Ar n:=⟨x.l.set i.toNat v,by rw [List.length_set,x.h]⟩
def Ar.st2 {n:Nat} (x:Ar n) (w:Nat) (i j v:Int):Ar n:=⟨x.l.set (i.toNat * w+j.toNat) v,by rw [List.length_set,x.h]⟩
def aPQ (σ:AS) (ns:List Nat):List (Nat×AB):=ns.map fun n=>(n,(σ.hp n).getD (.cells []))
end Go.Eng
namespace Go.Eng
open Go Go.ChangeShapes Go.WideShapes Go.RowKit
def aMm (w:World):cN:=⟨fun _=>none,fun c o=>w.cell? ⟨c,o,none⟩,fun _=>False⟩
def Opn (P:Program) (t:TypeId) {α:Type} (enc:α→AV) (ok:α→Prop):Prop:=
 ∀ {H:Type} (eh:TypeId×Value→H) (w:World) (fuel:Nat) (cs:List Value) (x:DataW H×List MemPlace),DataW.trod eh P w 0 (fun _=>true) true fuel t cs=some x→∃ a:α,ok a∧Vs (aMm w) (nL (enc a)) cs
def aKR (P:Program) (t:TypeId) {α:Type} (enc:α→AV):Prop:=
 (aIo P t=some true∧∀ a,enc a=.agg (nL (enc a)))∨(aIo P t=some false∧∀ a,nL (enc a)=[enc a]∧(enc a).flat=true)
def OpV (P:Program) (t:TypeId) {α:Type} (enc:α→AV) (ok:α→Prop):Prop:=
 ∀ {H:Type} (eh:TypeId×Value→H) (w:World) (r:Reach) (b:Nat) (v:Value) (d:DataW H) (ps:List MemPlace),Value.okWide P w r b t v→DataW.Trod eh P w 0 (fun _=>true) true t v d ps→∃ a:α,ok a∧V (aMm w) (enc a) v
def okI (n:Int):Prop := -9223372036854775808≤n∧n≤9223372036854775807
def okL {α:Type} (ok:α→Prop) (l:List α):Prop:=(∀ a∈l,ok a)∧l.length≤9223372036854775807
theorem aOT {P:Program} {t:TypeId} (h:P.underlying t=some (.int .i64)):Opn P t eI okI:=fun eh w fuel cs x hx=>by
 obtain ⟨n,rfl,_,hw⟩:=DataW.trod_int h hx
 refine ⟨n,?_,by simp [nL,AV.cells,eI,Vs,V]⟩
 simp only [Lit.wf,Bool.and_eq_true,decide_eq_true_eq] at hw
 unfold okI
 have h1:IntKind.i64.min = -9223372036854775808:=by decide
 have h2:IntKind.i64.max=9223372036854775807:=by decide
 rw [h1,h2] at hw;exact hw
theorem aF9 {P:Program} {t:TypeId} {α:Type} {enc:α→AV} {ok:α→Prop} (h:Opn P t enc ok) (h1:aKR P t enc) (h2:aIo P t=some false→∀ (w:World) (r:Reach) (b:Nat) (v:Value),Value.okWide P w r b t v→v.cells=#[v]):OpV P t enc ok:=fun eh w r b v d ps hv hd=>by
 obtain ⟨fuel,hx⟩:=hd
 obtain ⟨a,ha,hs⟩:=h eh w fuel _ _ hx
 refine ⟨a,ha,?_⟩
 rcases h1 with ⟨ht,he⟩ | ⟨ht,he⟩
 ·have hagg:∃ cs,v=.agg cs:=by
   unfold aIo at ht
   unfold Value.okWide at hv
   cases hu:P.underlying t with
   | none=>rw [hu] at ht;cases ht
   | some u=>
    rw [hu] at ht hv
    cases u with
    | struct fs=>obtain ⟨cs,rfl,_⟩:=hv;exact ⟨cs,rfl⟩
    | array n e=>obtain ⟨cs,rfl,_⟩:=hv;exact ⟨cs,rfl⟩
    | _=>cases ht
  obtain ⟨cs,rfl⟩:=hagg
  rw [he]
  simp only [V]
  exact ⟨cs.toList,by simp,by simpa [Value.cells] using hs⟩
 ·rw [(he a).1,h2 ht w r b v hv] at hs
  simp only [Vs] at hs
  obtain ⟨v',vs',e,hV,rfl⟩:=hs
  simp at e;subst e;exact hV
theorem aM1 {P:Program} {t:TypeId} (h:P.underlying t=some (.int .i64)) (w:World) (r:Reach) (b:Nat) (v:Value) (hv:Value.okWide P w r b t v):v.cells=#[v]:=by
 obtain ⟨n,rfl⟩:=okWide_int h hv;rfl
def aPx (P:Program) (o:Nat) (fs:List (TypeId×Nat)) {α:Type} (encs:α→List AV) (ok:α→Prop):Prop:=
 ∀ {H:Type} (eh:TypeId×Value→H) (w:World) (fuel:Nat) (cs:List Value) (xs:List (DataW H×List MemPlace)),
  (fs.mapM fun f=>DataW.trod eh P w 0 (fun _=>true) true fuel f.1 ((cs.drop f.2).take (P.cellsOf f.1)))=some xs→cs.length=o+(fs.map fun f=>P.cellsOf f.1).sum→∃ a:α,ok a∧Vs (aMm w) (encs a) (cs.drop o)
theorem tX {P:Program} {o:Nat}:aPx P o [] (fun _:Unit=>[]) (fun _=>True):=fun eh w fuel cs xs _ hl=>by
 simp at hl
 exact ⟨(),trivial,by rw [List.drop_eq_nil_of_le (by omega)];simp [Vs]⟩
theorem cZ {P:Program} {o o' sz:Nat} {t:TypeId} {fs:List (TypeId×Nat)} {α β:Type} {enc:α→AV} {ok:α→Prop} {encs:β→List AV} {oks:β→Prop} (h:Opn P t enc ok) (hsz:P.cellsOf t=sz) (ho:o'=o+sz) (k:aPx P o' fs encs oks) :
  aPx P o ((t,o)::fs) (fun p:α×β=>nL (enc p.1)++encs p.2) (fun p=>ok p.1∧oks p.2):=fun eh w fuel cs xs hx hl=>by
 subst ho hsz
 simp only [List.mapM_cons,List.map_cons,List.sum_cons] at hx hl
 cases h1:DataW.trod eh P w 0 (fun _=>true) true fuel t ((cs.drop o).take (P.cellsOf t)) with
 | none=>rw [h1] at hx;simp at hx
 | some y=>
  rw [h1] at hx
  cases h2:(fs.mapM fun f=>DataW.trod eh P w 0 (fun _=>true) true fuel f.1 ((cs.drop f.2).take (P.cellsOf f.1))) with
  | none=>rw [h2] at hx;simp at hx
  | some ys=>
   obtain ⟨a,ha,hva⟩:=h eh w fuel _ _ h1
   obtain ⟨b,hb,hvb⟩:=k eh w fuel cs ys h2 (by omega)
   refine ⟨(a,b),⟨ha,hb⟩,?_⟩
   have:=oN hva hvb
   rw [show cs.drop (o+P.cellsOf t)=(cs.drop o).drop (P.cellsOf t) by rw [List.drop_drop],List.take_append_drop] at this
   exact this
theorem uM {P:Program} {t:TypeId} {F:Array Field} {fs:List (TypeId×Nat)} {α β:Type} {encs:β→List AV} {oks:β→Prop} {enc:α→AV} {ok:α→Prop} (ht:P.underlying t=some (.struct F)) (hF:F.toList.map (fun f=>(f.type,f.offset))=fs)
  (hn:P.cellsOf t=(fs.map fun f=>P.cellsOf f.1).sum) (k:aPx P 0 fs encs oks) (g:β→α) (he:∀ p,nL (enc (g p))=encs p) (hk:∀ p,oks p→ok (g p)):Opn P t enc ok:=fun eh w fuel cs x hx=>by
 cases fuel with
 | zero=>simp [DataW.trod] at hx
 | succ n=>
  subst hF
  have key:cs.length=P.cellsOf t∧∃ xs,(F.toList.mapM fun f=>DataW.trod eh P w 0 (fun _=>true) true n f.type ((cs.drop f.offset).take (P.cellsOf f.type)))=some xs:=by
   unfold DataW.trod at hx
   rw [ht] at hx
   simp only at hx
   split at hx
   ·rename_i hl
    refine ⟨hl,?_⟩
    cases hm:(F.toList.mapM fun f=>DataW.trod eh P w 0 (fun _=>true) true n f.type ((cs.drop f.offset).take (P.cellsOf f.type))) with
    | none=>rw [hm] at hx;simp at hx
    | some xs=>exact ⟨xs,rfl⟩
   ·cases hx
  obtain ⟨hl,xs,hm⟩:=key
  obtain ⟨p,hp,hv⟩:=k eh w n cs xs (by rw [List.mapM_map];exact hm) (by rw [hl,hn];omega)
  exact ⟨g p,hk p hp,by rw [he];exact hv⟩
theorem aHM {P:Program} {t e:TypeId} {n:Nat} {fs:List (TypeId×Nat)} {α β:Type} {encs:β→List AV} {oks:β→Prop} {enc:α→AV} {ok:α→Prop} (ht:P.underlying t=some (.array n e)) (hF:(List.range n).map (fun i=>(e,i * P.cellsOf e))=fs)
  (hn:P.cellsOf t=(fs.map fun f=>P.cellsOf f.1).sum) (k:aPx P 0 fs encs oks) (g:β→α) (he:∀ p,nL (enc (g p))=encs p) (hk:∀ p,oks p→ok (g p)):Opn P t enc ok:=fun eh w fuel cs x hx=>by
 cases fuel with
 | zero=>simp [DataW.trod] at hx
 | succ m=>
  subst hF
  have key:cs.length=P.cellsOf t∧∃ xs,((List.range n).mapM fun i=>DataW.trod eh P w 0 (fun _=>true) true m e ((cs.drop (i * P.cellsOf e)).take (P.cellsOf e)))=some xs:=by
   unfold DataW.trod at hx
   rw [ht] at hx
   simp only at hx
   split at hx
   ·rename_i hl
    refine ⟨hl,?_⟩
    cases hm:((List.range n).mapM fun i=>DataW.trod eh P w 0 (fun _=>true) true m e ((cs.drop (i * P.cellsOf e)).take (P.cellsOf e))) with
    | none=>rw [hm] at hx;simp at hx
    | some xs=>exact ⟨xs,rfl⟩
   ·cases hx
  obtain ⟨hl,xs,hm⟩:=key
  obtain ⟨p,hp,hv⟩:=k eh w m cs xs (by rw [List.mapM_map];exact hm) (by rw [hl,hn];omega)
  exact ⟨g p,hk p hp,by rw [he];exact hv⟩
theorem aEE {α β:Type} {f:α→Option β}:∀ {l:List α} {ys:List β},l.mapM f=some ys→ys.length=l.length∧∀ (j:Nat) (a:α),l[j]?=some a→∃ y,f a=some y
 | [],ys,h=>by simp at h;subst h;exact ⟨rfl,fun j a ha=>by simp at ha⟩
 | x::l,ys,h=>by
  simp only [List.mapM_cons] at h
  cases h1:f x with
  | none=>rw [h1] at h;simp at h
  | some y=>
   cases h2:l.mapM f with
   | none=>rw [h1,h2] at h;simp at h
   | some zs=>
    rw [h1,h2] at h;simp at h;subst h
    obtain ⟨e1,e2⟩:=aEE h2
    refine ⟨by simp [e1],fun j a ha=>?_⟩
    cases j with
    | zero=>simp at ha;subst ha;exact ⟨y,h1⟩
    | succ j=>exact e2 j a (by simpa using ha)
theorem aJg {α β:Type} {f:α→Option β}:∀ {l:List α} {ys:List β},l.mapM f=some ys→∀ (j:Nat) (a:α),l[j]?=some a→∃ y,f a=some y∧ys[j]?=some y
 | [],ys,h=>fun j a ha=>by simp at ha
 | x::l,ys,h=>by
  simp only [List.mapM_cons] at h
  cases h1:f x with
  | none=>rw [h1] at h;simp at h
  | some y=>
   cases h2:l.mapM f with
   | none=>rw [h1,h2] at h;simp at h
   | some zs=>
    rw [h1,h2] at h;simp at h;subst h
    intro j a ha
    cases j with
    | zero=>simp at ha;subst ha;exact ⟨y,h1,by simp⟩
    | succ j=>
     obtain ⟨y',e1,e2⟩:=aJg h2 j a (by simpa using ha)
     exact ⟨y',e1,by simpa using e2⟩
theorem aGp {α:Type} [Inhabited α] {p:Nat→α→Prop}:∀ n:Nat,(∀ j,j<n→∃ a,p j a)→∃ l:List α,l.length=n∧∀ j,j<n→p j (l.getD j default)
 | 0,_=>⟨[],rfl,fun j hj=>by omega⟩
 | n+1,h=>by
  obtain ⟨l,hl,hp⟩:=aGp n fun j hj=>h j (by omega)
  obtain ⟨a,ha⟩:=h n (by omega)
  refine ⟨l++[a],by simp [hl],fun j hj=>?_⟩
  by_cases e:j<n
  ·have:=hp j e
   simp only [List.getD_eq_getElem?_getD,List.getElem?_append_left (show j<l.length by omega)] at this ⊢
   exact this
  ·have:j=n:=by omega
   subst this
   simp only [List.getD_eq_getElem?_getD,List.getElem?_append_right (Nat.le_of_eq hl),hl,Nat.sub_self]
   exact ha
theorem yZ {P:Program} {t e:TypeId} {sz:Nat} {α:Type} [Inhabited α] {enc:α→AV} {ok:α→Prop} (ht:P.underlying t=some (.slice e)) (hsz:P.cellsOf e=sz) (hpos:0<sz) (h:Opn P e enc ok) (h1:aKR P e enc):Opn P t (eL sz enc default) (okL ok):=fun eh w fuel cs x hx=>by
 cases fuel with
 | zero=>simp [DataW.trod] at hx
 | succ n=>
  unfold DataW.trod at hx
  rw [ht] at hx
  simp only at hx
  split at hx
  all_goals try (cases hx;done)
  all_goals try (rename_i e' ; cases e';done)
  ·exact ⟨[],⟨fun a ha=>by simp at ha,by simp⟩,by simp only [nL,AV.cells,eL,Vs,V,List.length_nil];exact ⟨_,_,rfl,⟨none,0,rfl,Nat.le_refl _,trivial,fun j hj=>by omega⟩,rfl⟩⟩
  ·rename_i e' a len cap heq
   cases heq
   subst hsz
   split at hx
   ·rename_i hc
    cases hm:(List.range len).mapM fun i=>(w.cells? 0 (a.add (i * P.cellsOf e)) (P.cellsOf e)).bind (DataW.trod eh P w 0 (fun _=>true) true n e) with
    | none=>rw [hm] at hx;simp at hx
    | some ys=>
     have key:∀ j,j<len→∃ y:α,ok y∧∃ us:List Value,us.length=P.cellsOf e∧(∀ (q:Nat) (v:Value),us[q]?=some v→w.cell? ((a.add (j * P.cellsOf e)).add q)=some v)∧Vs (aMm w) (nL (enc y)) us:=fun j hj=>by
      obtain ⟨_,e2⟩:=aEE hm
      obtain ⟨y,hy⟩:=e2 j j (by simp [hj])
      cases hcs:w.cells? 0 (a.add (j * P.cellsOf e)) (P.cellsOf e) with
      | none=>rw [hcs] at hy;simp at hy
      | some us=>
       rw [hcs] at hy
       simp only [Option.bind_some] at hy
       obtain ⟨b,hb,hv⟩:=h eh w n us _ hy
       unfold World.cells? at hcs
       rw [if_pos (Nat.zero_le _)] at hcs
       have hl:=(aEE hcs).1
       refine ⟨b,hb,us,by simpa using hl,fun q v hq=>?_,hv⟩
       have hq2:q<P.cellsOf e:=by
        have:=(List.getElem?_eq_some_iff.1 hq).1
        rw [hl] at this;simpa using this
       obtain ⟨v',g1,g2⟩:=aJg hcs q q (by simp [hq2])
       rw [hq] at g2;cases g2;exact g1
     obtain ⟨l,hl,hp⟩:=aGp (p:=fun j y=>ok y∧∃ us:List Value,us.length=P.cellsOf e∧(∀ (q:Nat) (v:Value),us[q]?=some v→w.cell? ((a.add (j * P.cellsOf e)).add q)=some v)∧Vs (aMm w) (nL (enc y)) us) len key
     refine ⟨l,⟨fun b hb=>?_,?_⟩,?_⟩
     ·obtain ⟨j,hj,rfl⟩:=List.getElem_of_mem hb
      have:=(hp j (by omega)).1
      rw [List.getD_eq_getElem?_getD,List.getElem?_eq_getElem hj] at this
      exact this
     ·have:cap≤maxLen:=hc.2.2
      have:=hc.2.1
      unfold maxLen at *
      omega
     ·simp only [nL,AV.cells,eL,Vs,V]
      refine ⟨_,_,rfl,⟨some a,cap,by rw [hl],by rw [hl];exact hc.2.1,trivial,fun j hj=>?_⟩,rfl⟩
      rw [hl] at hj
      obtain ⟨_,us,hul,hcell,hv⟩:=hp j hj
      have hsp:a.spot=none:=by
       obtain ⟨_,us0,hul0,hcell0,_⟩:=hp 0 (by omega)
       have h0:∃ v,us0[0]?=some v:=⟨us0[0]'(by omega),List.getElem?_eq_getElem (by omega)⟩
       obtain ⟨v,hv0⟩:=h0
       have:=hcell0 0 v hv0
       rw [Nat.zero_mul] at this
       unfold World.cell? at this
       split at this
       ·split at this
        ·cases this
        ·rename_i hs
         cases hsa:a.spot with
         | none=>rfl
         | some s=>exact absurd (by simp [Addr.add,hsa]) hs
       ·cases this
      obtain ⟨ab,ao,asp⟩:=a
      simp only at hsp;subst hsp
      rcases h1 with ⟨_,he⟩ | ⟨_,he⟩
      ·refine ⟨ab,ao,.agg us.toArray,rfl,by simp [Value.cells,hul],fun q v hq=>?_,by rw [he];simp only [V];exact ⟨us,rfl,hv⟩⟩
       have:=hcell q v (by simpa [Value.cells] using hq)
       rw [gN,gN] at this;exact this
      ·rw [(he _).1] at hv
       simp only [Vs] at hv
       obtain ⟨u,us',rfl,hV,rfl⟩:=hv
       have hu:u.cells=#[u]:=by
        have hone:=(he (l.getD j default)).2
        generalize enc (l.getD j default)=r at hone hV
        cases r<;>simp only [AV.flat,Bool.false_eq_true] at hone
        all_goals simp only [V] at hV
        case int=>subst hV;rfl
        case bool=>subst hV;rfl
        case str=>subst hV;rfl
        case nilp=>subst hV;rfl
        case ptr=>obtain ⟨_,_,rfl⟩:=hV;rfl
        case ep=>obtain ⟨_,_,_,rfl,_⟩:=hV;rfl
        case nils=>subst hV;rfl
        case sl=>obtain ⟨_,_,⟨_,_,_,rfl⟩ | ⟨_,_,rfl⟩⟩:=hV<;>rfl
        case so=>obtain ⟨_,_,⟨_,_,rfl⟩ | ⟨_,_,_,rfl⟩⟩:=hV<;>rfl
        case lst=>obtain ⟨_,_,rfl,_⟩:=hV;rfl
        case nilm=>subst hV;rfl
        case mp=>obtain ⟨_,_,rfl⟩:=hV;rfl
        case yld=>obtain ⟨_,_,rfl⟩:=hV;rfl
        case nilf=>subst hV;rfl
        case fn=>obtain ⟨_,_,rfl,_⟩:=hV;rfl
       refine ⟨ab,ao,u,rfl,by rw [hu];simpa using hul,fun q v hq=>?_,hV⟩
       rw [hu] at hq
       have:=hcell q v (by simpa using hq)
       rw [gN,gN] at this;exact this
   ·cases hx
theorem aLa (w:World):cQ (aMm w) (fun _=>none) w (fun c=>w.heap.size≤c) where
 fz c o v h:=h
 own i cs h:=by cases h
 map i es clk h:=by cases h
 sep i j bi bj li lj _ hi:=by cases hi
 ys c h:=h.elim
 yo i b l h:=by cases h
 gh i S G s h:=by cases h
 gh1 i j S G s S' G' s' h:=by cases h
 mps i sz es clk ho h:=by cases h
 mp1 i j sz es clk ho b h:=by cases h
theorem aNH {P:Program} {f:FuncId} {S:List AV→AV→Prop} (h:FOk P f (aH S)) {args:List AV} {r:AV} (hs:S args r) (hl:r.loose) (W:World) (av:List Value) (hv:Vs (aMm W) args av) :
  Calls P f av.toArray W fun e W'=>∃ v β,e=.returned v∧V β r v∧Below W.heap.size W W':=
 (h.2 args (fun _=>none) 0 r (fun _=>none) ⟨hs,hl,rfl⟩ (fun c=>W.heap.size≤c) W (aMm W) av (fun _j hj=>absurd rfl hj) (aLa W) (fun _c hc=>hc) hv).mono fun _e _W' ⟨v,β,e1,_,e3,_,e5⟩=>⟨v,β,e1,e3,e5.to⟩
theorem zW {H:Type} {eh:TypeId×Value→H} {P:Program} (hl:laidOutB P=true) {W W':World} (hb:Below W.heap.size W W') {sp:Nat→Bool}:∀ {ts:List TypeId} {vs:List Value} {ds:List (DataW H)} {ps:List MemPlace},
  (∀ t∈ts,P.readableRec t=true∧t<P.types.size)→DataW.TrodAll eh P W 0 (fun _=>true) true ts vs ds ps→(∀ x∈ps,x.block<W.heap.size)→(∀ x∈ps,sp x.block=true)→DataW.TrodAll eh P W' 0 sp true ts vs ds ps
 | [],[],[],ps,_,h,_,_=>h
 | t::ts,v::vs,d::ds,ps,hr,⟨p,q,h1,h2,e⟩,hlt,hsp=>by
  subst e
  exact ⟨p,q,WideElems.Trod_stays hl (hr t (by simp)).1 (hr t (by simp)).2 h1 (fun x hx=>hb.same (hlt x (by simp [hx]))) (fun x hx=>hsp x (by simp [hx])),
   zW hl hb (fun t' ht'=>hr t' (by simp [ht'])) h2 (fun x hx=>hlt x (by simp [hx])) (fun x hx=>hsp x (by simp [hx])),rfl⟩
 | [],[],_::_,_,_,h,_,_=>h.elim
 | [],_::_,_,_,_,h,_,_=>by cases h
 | _::_,[],_,_,_,h,_,_=>h.elim
 | _::_,_::_,[],_,_,h,_,_=>h.elim
theorem aLD {H:Type} {eh:TypeId×Value→H} {P:Program} (hl:laidOutB P=true) {f:Func} {s:ChangeSpec} {apart fresh handsOn again:Bool} {W W':World} {args:Array Value} {v:Value} {ds:List (DataW H)} {before:List MemPlace}
  (hW:DataW.Whole eh P f.params.toList s.vars apart W args.toList ds [] before) (hvar:s.vars=[]) (hr:∀ t∈f.params.toList,P.readableRec t=true∧t<P.types.size) (hbel:Below W.heap.size W W')
  (hres:∀ (b:Nat) (sp:Nat→Bool) (hd:Bool),DataW.TrodAll eh P W' b sp hd f.resultTypes.toList (v.resultList f.resultTypes.size) (s.fn H ds).results []) (hargs:(s.fn H ds).args=ds) (hvars:(s.fn H ds).vars=[])
  (hok:∀ (j:Nat) (t:TypeId) (r:Value),f.resultTypes[j]?=some t→(v.resultList f.resultTypes.size)[j]?=some r→Value.okWide P W' .any 0 t r) :
  s.post eh P f apart fresh handsOn again W args v W':=by
 have hlt:=hW.lt
 obtain ⟨p,q,hA,hV,hpq,hz,hn⟩:=id hW
 rw [hvar] at hV
 obtain ⟨_,rfl⟩:=trodVars_none hV
 rw [List.append_nil] at hpq
 subst hpq
 have hst:∀ sp:Nat→Bool,(∀ x∈before,sp x.block=true)→DataW.TrodAll eh P W' 0 sp true f.params.toList args.toList (s.fn H (ds++[])).args before:=fun sp hsp=>by
  rw [List.append_nil,hargs];exact zW hl hbel hr hA hlt hsp
 have hvv:∀ sp:Nat→Bool,DataW.TrodVars eh P W' sp s.vars (s.fn H (ds++[])).vars []:=fun sp=>by
  rw [List.append_nil,hvars,hvar];rfl
 have hrr:∀ (b:Nat) (sp:Nat→Bool) (hd:Bool),DataW.TrodAll eh P W' b sp hd f.resultTypes.toList (v.resultList f.resultTypes.size) (s.fn H (ds++[])).results []:=fun b sp hd=>by
  rw [List.append_nil];exact hres b sp hd
 refine ⟨ds,[],before,[],before,[],hW,hrr _ _ _,hst _ fun x hx=>by simpa using hlt x hx,hvv _,hbel.frame _,fun _=>?_⟩
 refine ⟨hok,_,_,([]++before)++[],⟨[]++before,[],trodAll_append (hst _ fun _ _=>rfl) (hrr _ _ _),hvv _,rfl,?_,?_⟩,?_⟩
 ·intro b off hp
  have hp':MemPlace.cell b off∈before:=by simpa using hp
  rw [hbel.frozen (p:=⟨b,off,none⟩) (hlt _ hp')]
  exact hz b off hp'
 ·intro ha;simpa using hn ha
 ·intro x hx _;simpa using hx
theorem aNw (pf:FuncId→Bool):cI T0 pf:=fun _f _ _args _H _base _r _H' h=>h.elim
theorem aY {T:Tbl} {pf:FuncId→Bool} {f:FuncId} {s:aAI} (h:cI T pf) (k:pf f=true→∃ S,s=aH S):cI (ext T f s) pf:=fun g hg args H base r H' e=>by
 by_cases hgf:g=f
 ·subst hgf
  obtain ⟨S,rfl⟩:=k hg
  rw [aHK] at e
  refine ⟨e.2.2,e.2.1,fun base' H1=>?_⟩
  rw [aHK];exact ⟨e.1,e.2.1,rfl⟩
 ·rw [aFS _ _ hgf] at e
  obtain ⟨a,b,c⟩:=h g hg args H base r H' e
  refine ⟨a,b,fun base' H1=>?_⟩
  rw [aFS _ _ hgf];exact c base' H1
end Go.Eng
