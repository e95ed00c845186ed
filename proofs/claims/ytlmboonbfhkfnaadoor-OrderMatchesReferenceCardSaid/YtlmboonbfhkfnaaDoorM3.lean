import Derived.Test.YtlmboonbfhkfnaaDoorM2
import Derived.Laws.Cover3
set_option linter.unusedVariables false
set_option linter.unusedSimpArgs false
set_option linter.unusedSectionVars false
namespace Go.Eng
open Go
open Go.RowKit (Below)
universe u v
def AV.a64 (a:AV):Prop:=∀ (β:cN) (loc':Nat→Option Loc) (ys':Nat→Prop) (v:Value),(∀ i,i<64→β.loc i≠none→loc' i=β.loc i)→V β a v→V ⟨loc',β.fz,ys'⟩ a v
theorem aBT {a:AV} (h:a.loose):a.a64:=fun β loc' ys' v _ hv=>h β loc' ys' v hv
theorem aJG {β:cN} {loc':Nat→Option Loc} {i:Nat} {l:Loc} (hi:i<64) (h:∀ i,i<64→β.loc i≠none→loc' i=β.loc i) (hl:β i=some l):loc' i=some l:=by
 rw [h i hi (by rw [hl];simp)];exact hl
theorem aKI {i o:Nat} (hi:i<64):(AV.ptr i o).a64:=fun β loc' ys' v h hv=>by
 simp only [V] at hv ⊢;obtain ⟨l,h1,h2⟩:=hv;exact ⟨l,aJG hi h h1,h2⟩
theorem aQX {i:Nat} (hi:i<64):(AV.mp i).a64:=fun β loc' ys' v h hv=>by
 simp only [V] at hv ⊢;obtain ⟨l,h1,h2⟩:=hv;exact ⟨l,aJG hi h h1,h2⟩
theorem aJ2 {aa:List AV} (h:∀ a∈aa,a.a64) {β:cN} {loc':Nat→Option Loc} {ys':Nat→Prop} (hl:∀ i,i<64→β.loc i≠none→loc' i=β.loc i):∀ {vs:List Value},Vs β aa vs→Vs ⟨loc',β.fz,ys'⟩ aa vs:=by
 induction aa with
 | nil=>intro vs hv;simpa [Vs] using hv
 | cons a aa ih=>
  intro vs hv
  simp only [Vs] at hv ⊢
  obtain ⟨v,vs',e,h1,h2⟩:=hv
  exact ⟨v,vs',e,h a (by simp) _ _ _ _ hl h1,ih (fun b hb=>h b (by simp [hb])) h2⟩
theorem aPw {cs:List AV} {o:Nat} (h:∀ a∈cs,a.a64):(AV.ep cs o).a64:=fun β loc' ys' v hl hv=>by
 simp only [V] at hv ⊢
 obtain ⟨c,q,vs,e,h1,h2⟩:=hv
 exact ⟨c,q,vs,e,h1,aJ2 h hl h2⟩
theorem aPl {f:FuncId} {fs cs:List AV} (h:∀ a∈fs,a.a64) (k:∀ a∈cs,a.a64):(AV.fn f fs cs).a64:=fun β loc' ys' v hl hv=>by
 simp only [V] at hv ⊢
 obtain ⟨x,y,e,h1,h2⟩:=hv
 exact ⟨x,y,e,aJ2 h hl h1,aJ2 k hl h2⟩
theorem aGe:∀ a∈([]:List AV),a.a64:=fun a h=>by simp at h
theorem aEJ {a:AV} {aa:List AV} (h:a.a64) (k:∀ a∈aa,a.a64):∀ b∈a::aa,b.a64:=fun b hb=>by
 rcases List.mem_cons.1 hb with rfl | hb
 ·exact h
 ·exact k b hb
theorem cL.poke {β:cN} {H:bH} {w:World} {B:Bd} (h:cL β H w B) {l:Nat} {o o':Obj} (hl:w.heap[l]?=some o) (hc:∀ k,w.cell? ⟨l,k,none⟩=none) (hown:∀ i b li,H i=some b→β i=some li→0<li.k→li.c≠l) (hy:¬ β.ys l):cL β H (w.putObj l o') B:=
 h.world (fun c k v hv=>by
   have h0:=h.fz c k v hv
   have hne:c≠l:=fun e=>by subst e;rw [hc k] at h0;cases h0
   exact (World.cell?_of_block (w:=w) (a:=⟨c,k,none⟩) (World.putObj_heap_other hne)).trans h0)
  (fun i b li hi hli hk=>World.putObj_heap_other (hown i b li hi hli hk))
  ⟨rfl,rfl,rfl,by simp,Nat.le_refl _,fun k hk=>World.putObj_heap_other fun e=>hk (e ▸ hy)⟩
theorem cL.supL {β:cN} {H:bH} {w:World} {B B':Bd} (h:cL β H w B) (k:∀ c,c<w.heap.size→B c→B' c):cL β H w B':=
 ⟨h.fz,h.gb,fun i cs hi=>let ⟨l,h1,h2,h3⟩:=h.own i cs hi;⟨l,h1,h2,fun hk=>let ⟨a,b⟩:=h3 hk;⟨k _ (h.lt_of_own hi h1 hk).1 a,b⟩⟩,fun i es clk hi=>let ⟨l,h1,h2,h3,h4⟩:=h.map i es clk hi;⟨l,h1,h2,k _ (h.lt_of_own hi h1 h2).1 h3,h4⟩,h.sep,
  fun c hc=>⟨k _ (h.ys c hc).2 (h.ys c hc).1,(h.ys c hc).2⟩,h.yo,h.gh,h.gh1,fun i sz es clk ho hi=>let ⟨l,h1,h2,h3,h4⟩:=h.mps i sz es clk ho hi;⟨l,h1,h2,k _ (h.lt_of_own hi h1 h2).1 h3,h4⟩,h.mp1⟩
theorem cL.supI {β:cN} {H:bH} {w:World} {B B':Bd} (h:cL β H w B) (k:∀ i b l,H i=some b→β i=some l→0<l.k→B' l.c) (ky:∀ c,β.ys c→B' c):cL β H w B':=
 ⟨h.fz,h.gb,fun i cs hi=>let ⟨l,h1,h2,h3⟩:=h.own i cs hi;⟨l,h1,h2,fun hk=>let ⟨_,b⟩:=h3 hk;⟨k i _ l hi h1 hk,b⟩⟩,fun i es clk hi=>let ⟨l,h1,h2,_,h4⟩:=h.map i es clk hi;⟨l,h1,h2,k i _ l hi h1 h2,h4⟩,h.sep,
  fun c hc=>⟨ky c hc,(h.ys c hc).2⟩,h.yo,h.gh,h.gh1,fun i sz es clk ho hi=>let ⟨l,h1,h2,_,h4⟩:=h.mps i sz es clk ho hi;⟨l,h1,h2,k i _ l hi h1 h2,h4⟩,h.mp1⟩
theorem aTz {β:cN} {ys':Nat→Prop} {a:AV} {v:Value} (h:V β a v):V ⟨β.loc,β.fz,ys'⟩ a v:=kU (β:=β) (β':=⟨β.loc,β.fz,ys'⟩) ⟨fun _ _ h=>h,fun _ _ _ h=>h⟩ _ _ h
theorem cL.noys {β:cN} {H:bH} {w:World} {B:Bd} (h:cL β H w B) (hn:∀ i b,H i=some b→aAK b=true):cL ⟨β.loc,β.fz,fun _=>False⟩ H w B:=
 ⟨h.fz,h.gb,fun i cs hi=>let ⟨l,h1,h2,h3⟩:=h.own i cs hi;⟨l,h1,h2,fun hk=>let ⟨a,b,full,e,p,q,r⟩:=h3 hk;⟨a,b,full,e,p,q,fun j x hx=>let ⟨v,y,z⟩:=r j x hx;⟨v,y,aTz z⟩⟩⟩,
  fun i es clk hi=>let ⟨l,h1,h2,h3,ents,h4,m⟩:=h.map i es clk hi;⟨l,h1,h2,h3,ents,h4,aAC.mono (β:=β) (β':=⟨β.loc,β.fz,fun _=>False⟩) ⟨fun _ _ h=>h,fun _ _ _ h=>h⟩ m⟩,h.sep,fun c hc=>hc.elim,fun _ _ _ _ _ _ hc=>hc.elim,
  fun i S G s hi=>(by have:=hn i _ hi;cases this),h.gh1,fun i sz es clk ho hi=>(by have:=hn i _ hi;cases this),h.mp1⟩
theorem tO {w:World} {l:Nat} {r:Loop} (h:w.heap[l]?=some (.loop r)) (k:Nat):w.cell? ⟨l,k,none⟩=none:=by simp [World.cell?,h]
def aK3 (sl:Nat→AV):List Tmp→List AV→Nat→AV
 | [],_=>sl
 | _,[]=>sl
 | p::ps,a::aa=>aK3 (wY sl p a) ps aa
theorem aGX {β:cN} {N:Nat}:∀ (ps:List Tmp) (aa:List AV) (vs:List Value) (sl:Nat→AV) (tmps:Array Value),(∀ p∈ps,p<N)→tmps.size=N→Vs β aa vs→(∀ t,V β (sl t) (tmps.getD t undef)) →
  ((ps.zip vs).foldl (fun t p=>t.setIfInBounds p.1 p.2) tmps).size=N∧∀ t,V β (aK3 sl ps aa t) (((ps.zip vs).foldl (fun t p=>t.setIfInBounds p.1 p.2) tmps).getD t undef)
 | [],aa,vs,sl,tmps,_,hN,_,h=>by cases aa<;>exact ⟨hN,h⟩
 | p::ps,[],vs,sl,tmps,_,hN,hv,h=>by simp [Vs] at hv;subst hv;exact ⟨hN,h⟩
 | p::ps,a::aa,vs,sl,tmps,hp,hN,hv,h=>by
  obtain ⟨v,vs',rfl,h1,h2⟩:=hv
  simp only [aK3,List.zip_cons_cons,List.foldl_cons]
  refine aGX ps aa vs' _ _ (fun q hq=>hp q (by simp [hq])) (by simpa using hN) h2 fun t=>?_
  have hpN:p<tmps.size:=by rw [hN];exact hp p (by simp)
  by_cases e:t=p
  ·subst e
   simp only [wY,mY]
   rw [Array.getD_eq_getD_getElem?,Array.getElem?_setIfInBounds_self_of_lt hpN]
   exact h1
  ·rw [aGf,if_neg e,Array.getD_eq_getD_getElem?,Array.getElem?_setIfInBounds_ne (Ne.symm e),← Array.getD_eq_getD_getElem?]
   exact h t
def aTi (out:Nat) (b:Bool):Exit→Prop
 | .normal=>b=true
 | .exit id=>b=false∧id=out
 | _=>False
set_option maxHeartbeats 2000000 in
theorem aQI {E:Env} {N:Nat} {Q:Exit→AS→Prop} {g:Operand} {ps:Array Tmp} {assign body:Code} {sl0:Nat→AV} {hp0:bH} {b0:Nat} (hrd:E.rd=false) (hcl:E.cl=true)
  {X S:Type} (encX:X→List AV) (encV:X→List Value) (hX:∀ β x,Vs β (encX x) (encV x)) (hps:∀ x,(encV x).length=ps.size) (hpN:∀ p∈ps.toList,p<N)
  {gf:FuncId} {caps caps':List AV} (hg:evA sl0 g=.fn gf [] caps) (hcaps:WkL caps caps') (out:Nat) (hb0:64≤b0) (h64:∀ t,(sl0 t).a64)
  (bw:Nat→Bool) (hbw:∀ i,bw i=true→i<64∧∃ es clk,hp0 i=some (.map es clk)∧∀ p∈es,p.2.1.plain∧p.2.2.plain)
  (hpS:S→bH) (hng:∀ s i b,hpS s i=some b→aAK b=true∧bw i=false) (y:X→S→Option (Bool×S)) (s0:S) (hs0:∀ i b,hpS s0 i=some b→hp0 i=some b) (fin:Bool×S)
  (hrow:∀ G:Gh (Bool×S),G.P=E.P→(∀ x s b s',y x s=some (b,s')→G.Y (encV x) (true,s) b (b,s')) →
   ∃ r,E.T gf (.yld b0::caps') (fun i=>if i=b0 then some (.gh (Bool×S) G (true,s0)) else bif bw i then hp0 i else none) (b0+64) r (fun i=>if i=b0 then some (.gh (Bool×S) G fin) else bif bw i then hp0 i else none))
  (hround:∀ x s b s',y x s=some (b,s')→HT { E with rd:=true } N assign ⟨aK3 sl0 ps.toList (encX x),hpS s,b0+64⟩ (aFA (fun σ1=>HT { E with rd:=true } N body σ1 fun e σ2=>
   aTi out b e∧∃ L,zH L ⟨fun _=>.top,σ2.hp,σ2.b⟩ ⟨fun _=>.top,hpS s',b0+64⟩) fun _ _=>False))
  (hend1:fin.1=true→Q .normal ⟨sl0,fun i=>bif bw i then hp0 i else hpS fin.2 i,b0+64⟩) (hend2:fin.1=false→Q (.exit out) ⟨sl0,fun i=>bif bw i then hp0 i else hpS fin.2 i,b0+64⟩) :
  HT E N (.rangeFunc g ps assign body) ⟨sl0,hp0,b0⟩ Q:=by
 intro ro F a w hro hF hr
 obtain rfl:=hro hrd
 obtain ⟨β,ds,hsince,hs,hH,hnm,hbel,htop,hdf,hmk,hN⟩:=hr
 obtain ⟨hF1,hF2⟩:=hF hcl
 have hF32:∀ i,F.β0.loc i≠none→i<32:=fun i hi=>by have:=hF1 i hi;rw [hrd] at this;simpa using this
 have hgv:=fM hs g
 simp only at hgv
 rw [hg] at hgv
 simp only [V] at hgv
 obtain ⟨fv,cv,hgv,hfv,hcv⟩:=hgv
 simp only [Vs] at hfv
 subst hfv
 refine wpIn_rangeFunc (F:=fen none) ?_
 intro fn _
 obtain ⟨D,hD⟩:∃ D,D=w.heap.size:=⟨_,rfl⟩
 obtain ⟨l,hl⟩:∃ l,l=w.heap.size+1:=⟨_,rfl⟩
 obtain ⟨rec,hrec⟩:∃ rec:LoopState→Option Code→Loop,rec=fun st pe=>{ state:=st,pending:=pe,fn,tmps:=a.tmps,params:=ps,assign,body,defers:=w.heap.size }:=⟨_,rfl⟩
 obtain ⟨W1,hW1⟩:∃ W1,W1=(w.alloc (.deferred (some []))).alloc (.loop (rec .ready none)):=⟨_,rfl⟩
 have hL1:W1.heap[l]?=some (.loop (rec .ready none)):=by
  rw [hW1,hl];have:=World.alloc_heap_new (w.alloc (.deferred (some []))) (.loop (rec .ready none));rwa [World.size_alloc] at this
 have hD1:W1.heap[D]?=some (.deferred (some [])):=by
  rw [hW1,hD];exact (Below.heap_alloc _ _ _ (by simp)).trans (World.alloc_heap_new w _)
 have hbw1:bJ (fun c=>w.heap.size≤c) w W1:=by
  rw [hW1];exact (bJ.alloc w (Nat.le_refl _) _).trans (bJ.alloc _ (by simp) _)
 have hsz1:W1.heap.size=w.heap.size+2:=by rw [hW1];simp
 have hgf:b0 ∉ []:=by simp
 have hβb0:β b0=none:=by
  cases e:β b0 with
  | none=>rfl
  | some x=>exact absurd (hnm b0 (by rw [e];simp)) (Nat.lt_irrefl _)
 let B1:Bd:=F.Bx ds
 have hB1top:B1.top w.heap.size:=hmk.top htop
 let Ys0:Nat→Prop:=fun c=>B1 c∧c<W1.heap.size∧∀ i li,bw i=true→β i=some li→c≠li.c
 have hbwlt:∀ i li,bw i=true→β i=some li→li.c<w.heap.size∧0<li.k:=fun i li h1 h2=>by
  obtain ⟨_,es,clk,h3,_⟩:=hbw i h1
  obtain ⟨l',g1,g2,g3,_⟩:=hH.map i es clk h3
  rw [h2] at g1;cases g1
  exact ⟨(hH.lt_of_own h3 h2 g2).1,g2⟩
 have hlD:l≠D:=by omega
 have ysl:Ys0 l:=⟨hB1top l (by omega),by omega,fun i li h1 h2=>by have:=(hbwlt i li h1 h2).1;omega⟩
 have ysD:Ys0 D:=⟨hB1top D (by omega),by omega,fun i li h1 h2=>by have:=(hbwlt i li h1 h2).1;omega⟩
 let Bd':(Nat→Prop)→Bd:=fun Ys c=>Ys c∧c≠l∧c≠D
 let recOf:Bool→Loop:=fun b=>if b then rec .ready none else rec .done (some (.exit out))
 let JJ:Bool×S→(Nat→Prop)→Nat→World→Prop:=fun t Ys l' w'=>l'=l∧Ys l∧Ys D∧w'.heap[D]?=some (.deferred (some []))∧w'.heap[l]?=some (.loop (recOf t.1)) ∧
  ∃ β':cN,(∀ i,i<64→β.loc i≠none→β'.loc i=β.loc i)∧(∀ c o v,β.fz c o=some v→β'.fz c o=some v)∧(∀ c o v,β'.fz c o=some v→Ys c∨β.fz c o=some v)∧(∀ j,β' j≠none→j<b0+64) ∧
   β'.ys=(fun _=>False)∧cL β' (hpS t.2) w' (Bd' Ys)
 have hngS:∀ s i b,hpS s i=some b→aAK b=true:=fun s i b h=>(hng s i b h).1
 have hslots:∀ (β':cN),(∀ i,i<64→β.loc i≠none→β'.loc i=β.loc i)→(∀ c o v,β.fz c o=some v→β'.fz c o=some v)→∀ t,V β' (sl0 t) (a.tmps.getD t undef):=fun β' h1 h2 t=>
  kU (β:=⟨β'.loc,β.fz,β'.ys⟩) (β':=β') ⟨fun _ _ h=>h,h2⟩ _ _ (h64 t β β'.loc β'.ys _ h1 (hs t))
 let G:Gh (Bool×S):={
  P:=E.P
  J:=JJ
  Y:=fun args t b t'=>∃ x,args=encV x∧t.1=true∧y x t.2=some (b,t'.2)∧t'.1=b
  fz:=β.fz
  stable:=fun t Ys l' w1 w2 hJ hb hfz=>by
   obtain ⟨h1,h2,h3,h4,h5,β',k1,k2,k3,k4,k5,k6⟩:=hJ
   have same:∀ c,Ys c→w2.heap[c]?=w1.heap[c]?:=fun c hc=>hb.block c fun h=>h hc
   refine ⟨h1,h2,h3,(same D h3).trans h4,(same l h2).trans h5,β',k1,k2,k3,k4,k5,k6.world (fun c o v hv=>?_) (fun i b li hi hli hk=>same _ (k6.lt_of_own hi hli hk).2.1) ⟨hb.os,hb.tape,hb.output,hb.size,hb.drawn,fun c hc=>by rw [k5] at hc;exact absurd (fun h=>h) hc⟩⟩
   rcases k3 c o v hv with h | h
   ·exact (World.cell?_of_block (w:=w1) (a:=⟨c,o,none⟩) (same c h)).trans (k6.fz c o v hv)
   ·exact hfz c o v h
  cells:=fun t Ys l' w1 c o v hJ hv=>by
   obtain ⟨h1,h2,h3,h4,h5,β',k1,k2,k3,k4,k5,k6⟩:=hJ
   exact k6.fz c o v (k2 c o v hv)
  yield:=fun t Ys l' w1 args b t' hJ hlt hY=>by
   obtain ⟨rfl,h2,h3,h4,h5,β',k1,k2,k3,k4,k5,k6⟩:=hJ
   obtain ⟨x,rfl,hrun,hy,hb'⟩:=hY
   obtain ⟨run,s⟩:=t
   obtain ⟨run',s'⟩:=t'
   simp only at hrun hy hb' h5 k6
   subst hrun hb'
   have hR1:w1.heap[l']?=some (.loop (rec .ready none)):=h5
   have hll:l'<w1.heap.size:=hlt l' h2
   have hDl:D<w1.heap.size:=hlt D h3
   have hrecf:(rec .ready none).fn=fn∧(rec .ready none).tmps=a.tmps∧(rec .ready none).params=ps∧(rec .ready none).assign=assign∧(rec .ready none).body=body:=by rw [hrec];exact ⟨rfl,rfl,rfl,rfl,rfl⟩
   have hyl:=run_yield (P:=E.P) (args:=(encV x).toArray) hR1 (by rw [hrecf.2.2.1,List.size_toArray];exact hps x)
   rw [hrecf.1,hrecf.2.1,hrecf.2.2.1,hrecf.2.2.2.1,hrecf.2.2.2.2] at hyl
   refine ⟨fn,_,assign,body,hyl,?_⟩
   let Bb:Bd:=fun c=>Bd' Ys c∨w1.heap.size≤c
   have hnl:¬ Bb l':=fun h=>h.elim (fun h=>h.2.1 rfl) fun h=>by omega
   have hnD:¬ Bb D:=fun h=>h.elim (fun h=>h.2.2 rfl) fun h=>by omega
   let Fb:World→Fr:=fun w0=>⟨Bb,w0,⟨fun i=>bif decide (i<64) then β'.loc i else none,β'.fz,fun _=>False⟩,0⟩
   have hFb:∀ w0,(Fb w0).ok true true:=fun w0 _=>⟨fun i hi=>by
    by_cases h:i<64
    ·exact h
    ·exfalso;apply hi;show (bif decide (i<64) then β'.loc i else none)=none;rw [decide_eq_false h];rfl,rfl⟩
   have hset:=aGX (β:=β') (N:=N) ps.toList (encX x) (encV x) sl0 a.tmps hpN hN (hX β' x) (hslots β' k1 k2)
   have hfold:(ps.zip (encV x).toArray).foldl (fun tmps p=>tmps.setIfInBounds p.1 p.2) a.tmps=(ps.toList.zip (encV x)).foldl (fun t p=>t.setIfInBounds p.1 p.2) a.tmps:=by
    rw [← Array.foldl_toList,Array.toList_zip]
   have hrep1:Rep (Fb w1) N ⟨aK3 sl0 ps.toList (encX x),hpS s,b0+64⟩ { tmps:=(ps.zip (encV x).toArray).foldl (fun tmps p=>tmps.setIfInBounds p.1 p.2) a.tmps,defers:=[] } w1:=by
    refine ⟨β',[],⟨⟨fun i li hi=>?_,fun _ _ _ h=>h⟩,fun _ _=>.inr (Nat.zero_le _),Nat.zero_le _,fun c o h=>.inl h⟩,?_,?_,k4,bJ.refl _ _,fun c hc=>.inr hc,rfl,aFW.nil _ _,?_⟩
    ·change (bif decide (i<64) then β'.loc i else none)=some li at hi
     cases h:decide (i<64) with
     | true=>rw [h] at hi;exact hi
     | false=>rw [h] at hi;cases hi
    ·rw [hfold];exact hset.2
    ·rw [Fr.Bx_nil];exact k6.supL fun c _ h=>.inl h
    ·rw [hfold];exact hset.1
   have hro2:(({ E with rd:=true }:Env).rd=false→(some l':Option Nat)=none):=fun h=>by cases h
   have hok2:∀ w0,(Fb w0).ok ({ E with rd:=true }:Env).cl ({ E with rd:=true }:Env).rd:=fun w0=>by show (Fb w0).ok E.cl true;rw [hcl];exact hFb w0
   refine roundIn_of_wpIn (F:=Fence.wide) trivial ?_
   refine wpIn_mono (hround x s _ s' hy (some l') (Fb w1) _ w1 hro2 (hok2 w1) hrep1) ?_
   intro e a1 w2 hq
   obtain ⟨σ1,q1,hr1⟩:=hq
   cases e with
   | normal=>
    obtain ⟨β1,ds1,g1,g2,g3,g4,g5,g6,g7,g8,g9⟩:=hr1
    have hR2:w2.heap[l']?=some (.loop (rec .ready none)):=(g5.block l' hnl).trans hR1
    refine ⟨_,run_beginRound hR2 (by rw [hrec]),?_⟩
    obtain ⟨w2',hw2'⟩:∃ w2',w2'=w2.putObj l' (.loop { rec .ready none with state:=.busy }):=⟨_,rfl⟩
    rw [← hw2']
    have hs2:w2'.heap.size=w2.heap.size:=by rw [hw2'];simp
    have hR2':w2'.heap[l']?=some (.loop { rec .ready none with state:=.busy }):=by rw [hw2'];exact World.putObj_heap_same (by have:w1.heap.size≤w2.heap.size:=g5.size;omega)
    have ho2:∀ k,k≠l'→w2'.heap[k]?=w2.heap[k]?:=fun k hk=>by rw [hw2'];exact World.putObj_heap_other hk
    have hmk1:∀ E',E'∈ds1→E'≠l':=fun E' hE e=>hnl (e ▸ (g8.at_ E' hE).1)
    have hrep2:Rep (Fb w2') N σ1 a1 w2':=by
     refine ⟨β1,ds1,⟨g1.le,g1.dom,g1.b,g1.fz⟩,g2,?_,g4,bJ.refl _ _,fun c hc=>g6 c (by omega),g7,⟨g8.nodup,fun E' hE=>⟨(g8.at_ E' hE).1,(ho2 E' (hmk1 E' hE)).trans (g8.at_ E' hE).2⟩⟩,g9⟩
     rw [hw2']
     exact g3.poke hR2 (tO hR2) (fun i b li hi hli hk e=>hnl (e ▸ (g3.lt_of_own hi hli hk).2.1)) fun hy=>hnl (g3.ys l' hy).1.1
    refine wpIn_mono (q1 (some l') (Fb w2') a1 w2' hro2 (hok2 w2') hrep2) ?_
    intro e2 a3 w3 hq2
    obtain ⟨σ2,⟨hre,L,hweak⟩,hr2⟩:=hq2
    have hr2':Rep (Fb w2') N ⟨fun _=>.top,σ2.hp,σ2.b⟩ a3 w3:=by
     obtain ⟨β2,ds2,p1,p2,p3⟩:=hr2
     exact ⟨β2,ds2,p1,fun t=>by simp [V],p3⟩
    obtain ⟨β3,ds3,p1,_,p3,p4,p5,p6,_,p8,_⟩:=zH.rep hweak (hFb w2') hr2'
    simp only at p3 p4
    have hR3:w3.heap[l']?=some (.loop { rec .ready none with state:=.busy }):=(p5.block l' hnl).trans hR2'
    have hle13:w1.heap.size≤w3.heap.size:=by
     have e1:w1.heap.size≤w2.heap.size:=g5.size
     have e2:w2'.heap.size≤w3.heap.size:=p5.size
     omega
    have finish:∀ o':Obj,o'=.loop (recOf run')→∃ Ys',JJ (run',s') Ys' l' (w3.putObj l' o')∧(∀ c,Ys' c→Ys c∨w1.heap.size≤c)∧(∀ c,Ys' c→c<(w3.putObj l' o').heap.size)∧bJ (fun c=>Ys c∨w1.heap.size≤c) w1 (w3.putObj l' o'):=by
     intro o' ho'
     have hoth:∀ k,k≠l'→(w3.putObj l' o').heap[k]?=w3.heap[k]?:=fun k hk=>World.putObj_heap_other hk
     refine ⟨fun c=>(Bb c∧c<w3.heap.size)∨c=l'∨c=D,⟨rfl,.inr (.inl rfl),.inr (.inr rfl),?_,?_,⟨β3.loc,β3.fz,fun _=>False⟩,fun i hi hne=>?_,fun c o v hv=>p1.le.fz c o v (k2 c o v hv),fun c o v hv=>?_,p4,rfl,?_⟩,?_,?_,?_⟩
     ·rw [hoth D (by omega),p5.block D hnD,ho2 D (by omega),g5.block D hnD];exact h4
     ·rw [World.putObj_heap_same (by omega),ho']
     ·have hb:β'.loc i=β.loc i:=k1 i hi hne
      cases e:β.loc i with
      | none=>exact absurd e hne
      | some li=>
       rw [e] at hb
       exact p1.le.loc i li (by show (bif decide (i<64) then β'.loc i else none)=some li;rw [decide_eq_true hi];exact hb)
     ·have hcl3:=aBr (p3.fz c o v hv)
      rcases p1.fz c o (by rw [show β3.fz c o=some v from hv];simp) with h | h
      ·change β'.fz c o≠none at h
       cases e:β'.fz c o with
       | none=>exact absurd e h
       | some u=>
        have:=p1.le.fz c o u e
        rw [show β3.fz c o=some v from hv] at this
        cases this
        rcases k3 c o v e with h | h
        ·left
         by_cases e1:c=l'
         ·exact .inr (.inl e1)
         ·by_cases e2:c=D
          ·exact .inr (.inr e2)
          ·exact .inl ⟨.inl ⟨h,e1,e2⟩,hcl3⟩
        ·exact .inr h
      ·exact .inl (.inl ⟨h,hcl3⟩)
     ·have hq3:=(p3.noys (hngS s')).poke (o':=o') hR3 (tO hR3) (fun i b li hi hli hk e=>hnl (e ▸ (p3.lt_of_own hi hli hk).2.1)) (fun h=>h)
      refine hq3.supL fun c hc h=>⟨.inl ⟨h.1,by simpa using hc⟩,fun e=>hnl (e ▸ h.1),fun e=>hnD (e ▸ h.1)⟩
     ·rintro c (⟨h | h,_⟩ | rfl | rfl)
      ·exact .inl h.1
      ·exact .inr h
      ·exact .inl h2
      ·exact .inl h3
     ·rintro c (⟨_,h⟩ | rfl | rfl)
      ·simpa using h
      ·simp;omega
      ·simp;omega
     ·have hBb:∀ c,Bb c→Ys c∨w1.heap.size≤c:=fun c h=>h.imp (fun h=>h.1) id
      have c1:=g5.weaken hBb
      have c2:bJ (fun c=>Ys c∨w1.heap.size≤c) w2 w2':=by rw [hw2'];exact ⟨rfl,rfl,rfl,by simp,Nat.le_refl _,fun k hk=>World.putObj_heap_other fun e=>hk (.inl (e ▸ h2))⟩
      have c3:=p5.weaken hBb
      have c4:bJ (fun c=>Ys c∨w1.heap.size≤c) w3 (w3.putObj l' o'):=⟨rfl,rfl,rfl,by simp,Nat.le_refl _,fun k hk=>World.putObj_heap_other fun e=>hk (.inl (e ▸ h2))⟩
      exact ((c1.trans c2).trans c3).trans c4
    cases e2 with
    | normal=>
     have hb1:run'=true:=hre
     subst hb1
     refine ⟨_,_,run_endRound none hR3,rfl,finish _ ?_⟩
     show _=Obj.loop (rec .ready none)
     rw [hrec];rfl
    | exit id=>
     obtain ⟨hb1,hid⟩:run'=false∧id=out:=hre
     subst hb1 hid
     refine ⟨_,_,run_endRound (some (.exit id)) hR3,rfl,finish _ ?_⟩
     show _=Obj.loop (rec .done (some (.exit id)))
     rw [hrec];rfl
    | _=>exact hre.elim
   | _=>exact q1.elim }
 obtain ⟨r,hTr⟩:=hrow G rfl fun x s b s' hy=>⟨x,rfl,rfl,hy,rfl⟩
 obtain ⟨henter,hcalls⟩:=E.hT _ _ _ _ _ _ hTr
 let βg:cN:=⟨fun i=>if i=b0 then some ⟨l,0,0⟩ else β.loc i,β.fz,Ys0⟩
 have hβg:∀ i,i≠b0→βg i=β i:=fun i hi=>by show (if i=b0 then _ else _)=_;rw [if_neg hi]
 have hleg:∀ i li,β i=some li→βg i=some li:=fun i li h=>(hβg i fun e=>by rw [e,hβb0] at h;cases h).trans h
 have hβγ:βg b0=some ⟨l,0,0⟩:=by show (if b0=b0 then _ else _)=_;simp
 have hH1:cL β hp0 W1 B1:=hH.keep hbw1
 let Hit:Bool×S→bH:=fun t i=>if i=b0 then some (.gh (Bool×S) G t) else bif bw i then hp0 i else none
 have hit:∀ {t i b},Hit t i=some b→(i=b0∧b=.gh (Bool×S) G t)∨(i≠b0∧bw i=true∧hp0 i=some b):=fun {t i b} h=>by
  change (if i=b0 then _ else _)=some b at h
  split at h
  ·rename_i e;cases h;exact .inl ⟨e,rfl⟩
  ·rename_i e
   cases e':bw i with
   | true=>rw [e'] at h;exact .inr ⟨e,rfl,h⟩
   | false=>rw [e'] at h;cases h
 have mapOnly:∀ {i cs},bw i=true→hp0 i=some (.cells cs)→False:=fun {i cs} h1 h2=>by obtain ⟨_,es,clk,h3,_⟩:=hbw i h1;rw [h2] at h3;cases h3
 have ghOnly:∀ {i S' G' s'},bw i=true→hp0 i=some (.gh S' G' s')→False:=fun {i S' G' s'} h1 h2=>by obtain ⟨_,es,clk,h3,_⟩:=hbw i h1;rw [h2] at h3;cases h3
 have mapsOnly:∀ {t i sz es clk ho},Hit t i=some (.maps sz es clk ho)→False:=fun {t i sz es clk ho} h=>by
  rcases hit h with ⟨_,h⟩ | ⟨_,h1,h2⟩
  ·cases h
  ·obtain ⟨_,es,clk,h3,_⟩:=hbw i h1;rw [h2] at h3;cases h3
 have hVg:∀ (a:AV) (v:Value),V β a v→V βg a v:=fun a v h=>kU (β:=β) (β':=βg) ⟨hleg,fun _ _ _ h=>h⟩ _ _ h
 have hHg:cL βg (Hit (true,s0)) W1 B1:=by
  refine ⟨hH1.fz,hH1.gb,fun i cs hi=>?_,fun i es clk hi=>?_,fun i j bi bj li lj hij hi hj ei ej pi pj=>?_,fun c hc=>⟨hc.1,hc.2.1⟩,fun i b li hi hli hk hc=>?_,fun i S' G' s' hi=>?_,fun i j S1 G1 s1 S2 G2 s2 hi hj=>?_,fun i sz es clk ho hi=>(mapsOnly hi).elim,fun i j sz es clk ho b hi _ _=>(mapsOnly hi).elim⟩
  ·rcases hit hi with ⟨_,h⟩ | ⟨_,h1,h2⟩
   ·cases h
   ·exact (mapOnly h1 h2).elim
  ·rcases hit hi with ⟨_,h⟩ | ⟨h0,h1,h2⟩
   ·cases h
   ·obtain ⟨li,g1,g2,g3,ents,g4,m⟩:=hH1.map i es clk h2
    exact ⟨li,hleg i li g1,g2,g3,ents,g4,m.mono (β':=βg) ⟨hleg,fun _ _ _ h=>h⟩⟩
  ·rcases hit hi with ⟨e1,h1⟩ | ⟨e1,h1,h2⟩
   ·rw [e1,hβγ] at ei;cases ei;simp at pi
   ·rcases hit hj with ⟨e2,k1⟩ | ⟨e2,k1,k2⟩
    ·rw [e2,hβγ] at ej;cases ej;simp at pj
    ·rw [hβg i e1] at ei;rw [hβg j e2] at ej
     exact hH1.sep i j bi bj li lj hij h2 k2 ei ej pi pj
  ·rcases hit hi with ⟨e1,h1⟩ | ⟨e1,h1,h2⟩
   ·rw [e1,hβγ] at hli;cases hli;simp at hk
   ·rw [hβg i e1] at hli
    exact hc.2.2 i li h1 hli rfl
  ·rcases hit hi with ⟨e1,h1⟩ | ⟨e1,h1,h2⟩
   ·cases h1
    rw [e1]
    refine ⟨⟨l,0,0⟩,hβγ,rfl,⟨rfl,ysl,ysD,hD1,hL1,⟨β.loc,β.fz,fun _=>False⟩,fun i _ _=>rfl,fun c o v h=>h,fun c o v h=>.inr h,fun j hj=>Nat.lt_of_lt_of_le (hnm j hj) (by show b0≤b0+64;omega),rfl,?_⟩,fun c o v _ h=>h,fun c o v h=>h⟩
    have hsub:cL β (hpS s0) W1 B1:=hH1.sub hs0
    refine (hsub.noys (hngS s0)).supI (fun i b li hi hli hk=>?_) (fun c hc=>hc.elim)
    obtain ⟨q1,q2⟩:=hH.lt_of_own (hs0 i b hi) hli hk
    refine ⟨⟨q2,by omega,fun i' li' g1 g2 e=>?_⟩,by omega,by omega⟩
    obtain ⟨_,es,clk,g3,_⟩:=hbw i' g1
    exact hH.sep i i' b _ li li' (fun e=>by subst e;have:=(hng s0 i b hi).2;rw [g1] at this;cases this) (hs0 i b hi) g3 hli g2 hk (hbwlt i' li' g1 g2).2 e
   ·exact (ghOnly h1 h2).elim
  ·rcases hit hi with ⟨e1,_⟩ | ⟨e1,h1,h2⟩
   ·rcases hit hj with ⟨e2,_⟩ | ⟨e2,k1,k2⟩
    ·rw [e1,e2]
    ·exact (ghOnly k1 k2).elim
   ·exact (ghOnly h1 h2).elim
 have hargs:Vs βg (.yld b0::caps') (.func (.yield l) #[] #[]::cv):=by
  refine ⟨_,_,rfl,?_,hcaps βg cv ?_⟩
  ·simp only [V];exact ⟨_,hβγ,rfl⟩
  ·exact rK (β:=β) (β':=βg) ⟨hleg,fun _ _ _ h=>h⟩ _ _ hcv
 have hcall:=hcalls B1 W1 βg (.func (.yield l) #[] #[]::cv) (fun j hj=>by
  by_cases e:j=b0
  ·subst e;omega
  ·rw [hβg j e] at hj;have:=hnm j hj;simp only at this;omega) hHg (fun c hc=>hB1top c (by omega)) hargs
 refine ⟨l,[aOi D],W1,{ target:=.fn (.func gf) cv.toArray,args:=#[.func (.yield l) #[] #[]] },W1,gf,(.func (.yield l) #[] #[]::cv).toArray,W1,?_,?_,fun _ _=>trivial,?_,(by intro h;cases h),xH (hcall.mono ?_)⟩
 ·rw [hW1,hrec,hl,hD];exact run_enterLoop_outer _ _ _ _ _
 ·simp only [resolve,hgv]
  simp [Deferred.ofValue,Act.eval]
 ·simp [invoke,henter]
 rintro e we ⟨v,βf,rfl,hext,_,hHf,hbelf⟩
 have hγf:βf b0=some ⟨l,0,0⟩:=hext.le.loc _ _ hβγ
 have hitb0:(fun i=>if i=b0 then some (AB.gh (Bool×S) G fin) else bif bw i then hp0 i else none) b0=some (AB.gh (Bool×S) G fin):=by simp
 obtain ⟨lf,q1,_,hJ,_,_⟩:=hHf.gh b0 _ G fin hitb0
 rw [hγf] at q1;cases q1
 obtain ⟨_,h2,h3,h4,h5,β',k1,k2,k3,k4,k5,k6⟩:=hJ
 have hnb:(recOf fin.1).state≠.busy:=by
  show (if fin.1 then rec .ready none else rec .done (some (.exit out))).state≠.busy
  rw [hrec];cases fin.1<;>simp
 refine ⟨_,_,run_endLoop h5 hnb,?_⟩
 obtain ⟨o',ho'⟩:∃ o',o'=Obj.loop { recOf fin.1 with state:=.exhausted }:=⟨_,rfl⟩
 rw [← ho']
 have hoth:∀ k,k≠l→(we.putObj l o').heap[k]?=we.heap[k]?:=fun k hk=>World.putObj_heap_other hk
 have hsz:(we.putObj l o').heap.size=we.heap.size:=by simp
 have hsame:∀ c,¬ B1 c→we.heap[c]?=W1.heap[c]?:=fun c hc=>hbelf.block c hc
 have hbwf:∀ i li,bw i=true→β i=some li→βf i=some li∧i≠b0:=fun i li h1 h2=>⟨hext.le.loc _ _ (hleg i li h2),fun e=>by subst e;rw [hβb0] at h2;cases h2⟩
 have hbwm:∀ i,bw i=true→∃ es clk li,hp0 i=some (.map es clk)∧β i=some li∧β' i=some li∧0<li.k∧B1 li.c∧li.c≠l∧li.c≠D∧¬ βf.ys li.c∧∃ ents,we.heap[li.c]?=some (.map ents clk)∧aAC β' es ents:=fun i hi=>by
  obtain ⟨hi64,es,clk,g1,g2⟩:=hbw i hi
  obtain ⟨li,p1,p2,p3,_⟩:=hH.map i es clk g1
  obtain ⟨r1,r2⟩:=hbwf i li hi p1
  have hitI:(fun i=>if i=b0 then some (AB.gh (Bool×S) G fin) else bif bw i then hp0 i else none) i=some (.map es clk):=by simp [r2,hi,g1]
  obtain ⟨li',t1,t2,t3,ents,t4,m⟩:=hHf.map i es clk hitI
  rw [r1] at t1;cases t1
  have hlt:=(hbwlt i li hi p1).1
  refine ⟨es,clk,li,g1,p1,(k1 i hi64 (by rw [p1];simp)).trans p1,p2,p3,by omega,by omega,hHf.yo i _ li hitI r1 p2,ents,t4,m.len,fun j p hp=>?_⟩
  obtain ⟨e,e1,e2,e3,e4⟩:=m.rel j p hp
  obtain ⟨pl1,pl2⟩:=g2 p (List.mem_of_getElem? hp)
  exact ⟨e,e1,e2,pl1 _ _ _ e3,pl2 _ _ _ e4⟩
 have hE:∀ i b,(bif bw i then hp0 i else hpS fin.2 i)=some b→(bw i=true∧hp0 i=some b)∨(bw i=false∧hpS fin.2 i=some b):=fun i b h=>by
  cases e:bw i with
  | true=>rw [e] at h;exact .inl ⟨rfl,h⟩
  | false=>rw [e] at h;exact .inr ⟨rfl,h⟩
 have mapsE:∀ {i sz es clk ho},(bif bw i then hp0 i else hpS fin.2 i)=some (.maps sz es clk ho)→False:=fun {i sz es clk ho} h=>by
  rcases hE i _ h with ⟨h1,h2⟩ | ⟨h1,h2⟩
  ·obtain ⟨_,es,clk,h3,_⟩:=hbw i h1;rw [h2] at h3;cases h3
  ·have:=(hng fin.2 i _ h2).1;cases this
 have hysB:∀ c,βf.ys c→B1 c:=fun c hc=>(hHf.ys c hc).1
 have hfin:cL β' (fun i=>bif bw i then hp0 i else hpS fin.2 i) we (fun c=>(F.Bx ds) c∧c≠D∧c≠l):=by
  refine ⟨k6.fz,k6.gb,fun i cs hi=>?_,fun i es clk hi=>?_,fun i j bi bj li lj hij hi hj ei ej pi pj=>?_,fun c hc=>by rw [k5] at hc;exact hc.elim,fun i b li hi hli hk hc=>by rw [k5] at hc;exact hc.elim,fun i S' G' s' hi=>?_,fun i j S1 G1 s1 S2 G2 s2 hi hj=>?_,fun i sz es clk ho hi=>(mapsE hi).elim,fun i j sz es clk ho b hi _ _=>(mapsE hi).elim⟩
  ·rcases hE i _ hi with ⟨g1,g2⟩ | ⟨g1,g2⟩
   ·exact (mapOnly g1 g2).elim
   ·obtain ⟨li,p1,p2,p3⟩:=k6.own i cs g2
    refine ⟨li,p1,p2,fun hk=>?_⟩
    obtain ⟨a1,a2⟩:=p3 hk
    exact ⟨⟨hysB _ a1.1,a1.2.2,a1.2.1⟩,a2⟩
  ·rcases hE i _ hi with ⟨g1,g2⟩ | ⟨g1,g2⟩
   ·obtain ⟨es',clk',li,p1,p2,p3,p4,p5,p6,p7,_,ents,p8,p9⟩:=hbwm i g1
    rw [g2] at p1;cases p1
    exact ⟨li,p3,p4,⟨p5,p7,p6⟩,ents,p8,p9⟩
   ·obtain ⟨li,p1,p2,p3,p4⟩:=k6.map i es clk g2
    exact ⟨li,p1,p2,⟨hysB _ p3.1,p3.2.2,p3.2.1⟩,p4⟩
  ·rcases hE i _ hi with ⟨g1,g2⟩ | ⟨g1,g2⟩
   ·obtain ⟨es',clk',li',p1,p2,p3,p4,p5,p6,p7,p8,_⟩:=hbwm i g1
    rw [p3] at ei;cases ei
    rcases hE j _ hj with ⟨q1,q2⟩ | ⟨q1,q2⟩
    ·obtain ⟨es2,clk2,lj',r1,r2,r3,r4,_⟩:=hbwm j q1
     rw [r3] at ej;cases ej
     exact hH.sep i j _ _ _ _ hij g2 q2 p2 r2 pi pj
    ·exact fun e=>p8 (e ▸ (k6.lt_of_own q2 ej pj).2.1)
   ·rcases hE j _ hj with ⟨q1,q2⟩ | ⟨q1,q2⟩
    ·obtain ⟨es2,clk2,lj',r1,r2,r3,r4,r5,r6,r7,r8,_⟩:=hbwm j q1
     rw [r3] at ej;cases ej
     exact fun e=>r8 (e ▸ (k6.lt_of_own g2 ei pi).2.1)
    ·exact k6.sep i j _ _ _ _ hij g2 q2 ei ej pi pj
  ·rcases hE i _ hi with ⟨g1,g2⟩ | ⟨g1,g2⟩
   ·exact (ghOnly g1 g2).elim
   ·have:=hngS _ _ _ g2;cases this
  ·rcases hE i _ hi with ⟨g1,g2⟩ | ⟨g1,g2⟩
   ·exact (ghOnly g1 g2).elim
   ·have:=hngS _ _ _ g2;cases this
 have hrep:Rep F N ⟨sl0,fun i=>bif bw i then hp0 i else hpS fin.2 i,b0+64⟩ { a with defers:=[aOi D]++a.defers } (we.putObj l o'):=by
  refine ⟨β',D::ds,⟨⟨fun i li hi=>?_,fun c o v h=>k2 c o v (hsince.le.fz c o v h)⟩,fun j _=>.inr (by rw [hF2];exact Nat.zero_le _),by rw [hF2];exact Nat.zero_le _,fun c o hc=>?_⟩,hslots β' k1 k2,?_,k4,?_,htop.mono ?_,?_,⟨?_,fun D' hD'=>?_⟩,hN⟩
  ·have h32:=hF32 i (by rw [show F.β0.loc i=some li from hi];simp)
   have hb:=hsince.le.loc i li hi
   exact (k1 i (by omega) (by rw [show β.loc i=some li from hb];simp)).trans hb
  ·cases e:β'.fz c o with
   | none=>exact absurd e hc
   | some u=>
    rcases k3 c o u e with h | h
    ·exact .inr (hysB c h).1
    ·exact hsince.fz c o (by rw [h];simp)
  ·have:=hfin.poke (o':=o') h5 (tO h5) (fun i b li hi hli hk e=>(hfin.lt_of_own hi hli hk).2.2.2 e) (by rw [k5];exact fun h=>h)
   exact this.sup fun c hc=>⟨hc.1.1,fun hm=>by
    rcases List.mem_cons.1 hm with h | h
    ·exact hc.2.1 h
    ·exact hc.1.2 h⟩
  ·refine (hbel.trans (.of htop hbw1)).trans ((hbelf.weaken fun c hc=>hc.1).trans ⟨rfl,rfl,rfl,by simp,Nat.le_refl _,fun k hk=>World.putObj_heap_other fun e=>hk (e ▸ (ysl.1).1)⟩)
  ·rw [hsz];have:=hbelf.size;omega
  ·simp [hdf]
  ·rw [List.nodup_cons]
   refine ⟨fun hm=>?_,hmk.nodup⟩
   have:=(Array.getElem?_eq_some_iff.1 (hmk.at_ D hm).2).1
   omega
  ·rcases List.mem_cons.1 hD' with rfl | hm
   ·exact ⟨(ysD.1).1,by rw [hoth _ (by omega)];exact h4⟩
   ·obtain ⟨m1,m2⟩:=hmk.at_ D' hm
    have hlt:=(Array.getElem?_eq_some_iff.1 m2).1
    exact ⟨m1,by rw [hoth _ (by omega),hsame D' (fun h=>h.2 hm),hbw1.block D' (Nat.not_le.2 hlt)];exact m2⟩
 have hpend:(recOf fin.1).pending=if fin.1 then none else some (.exit out):=by
  show (if fin.1 then rec .ready none else rec .done (some (.exit out))).pending=_
  rw [hrec];cases fin.1<;>rfl
 rw [hpend]
 cases hfc:fin.1 with
 | true=>exact ⟨_,hend1 hfc,hrep⟩
 | false=>exact wpIn_exit ⟨_,hend2 hfc,hrep⟩
end Go.Eng
namespace Go.Eng
open Go
universe u v
structure GM (α:Type) where
 es:List (Nat×Int×α)
 clk:Nat
instance {α:Type}:Inhabited (GM α):=⟨⟨[],0⟩⟩
namespace GM
variable {α:Type}
def mt (α:Type):GM α:=⟨[],0⟩
def get (m:GM α) (n:Int) (d:α):α:=match jI n m.es with | some p=>p.2.2 | none=>d
def has (m:GM α) (n:Int):Bool:=(jI n m.es).isSome
def put (m:GM α) (n:Int) (v:α):GM α:=⟨xX n v m.es m.clk,aCA n m.es m.clk⟩
def len (m:GM α):Int:=m.es.length
end GM
def aJW {α:Type} (enc:α→AV) (L:List (Nat×Int×α)):List (Nat×Int×AV):=L.map fun p=>(p.1,p.2.1,enc p.2.2)
def abM {α:Type} (enc:α→AV) (m:GM α):AB:=.map (wZ .i64 (aJW enc m.es)) m.clk
theorem uH {α:Type} (enc:α→AV) (n:Int) (L:List (Nat×Int×α)):jI n (aJW enc L)=(jI n L).map fun p=>(p.1,p.2.1,enc p.2.2):=by
 unfold jI aJW;rw [List.find?_map];rfl
theorem aG6 {α:Type} (enc:α→AV) (n:Int) (L:List (Nat×Int×α)):(aJW enc L).findIdx? (fun p=>p.2.1==n)=L.findIdx? fun p=>p.2.1==n:=by
 unfold aJW;rw [List.findIdx?_map];rfl
theorem aHV {α β:Type} (g:α→β) (f:α→α) (f':β→β) (h:∀ a,f' (g a)=g (f a)):∀ (L:List α) (j:Nat),(L.map g).modify j f'=(L.modify j f).map g:=fun L j=>by
 refine List.ext_getElem? fun i=>?_
 rw [List.getElem?_modify,List.getElem?_map,List.getElem?_map,List.getElem?_modify]
 by_cases e:j=i
 ·subst e;cases L[j]?<;>simp [h]
 ·simp [e]
theorem aLs {α:Type} (enc:α→AV) (n:Int) (v:α) (L:List (Nat×Int×α)) (clk:Nat):xX n (enc v) (aJW enc L) clk=aJW enc (xX n v L clk):=by
 unfold xX
 rw [aG6]
 cases L.findIdx? fun p=>p.2.1==n with
 | some j=>exact aHV (fun p:Nat×Int×α=>(p.1,p.2.1,enc p.2.2)) (fun p=>(p.1,p.2.1,v)) (fun p=>(p.1,p.2.1,enc v)) (fun _=>rfl) L j
 | none=>simp [aJW]
theorem aLA {α:Type} (enc:α→AV) (n:Int) (L:List (Nat×Int×α)) (clk:Nat):aCA n (aJW enc L) clk=aCA n L clk:=by
 unfold aCA;rw [aG6]
section
variable {P:Program} {D:DT} {α:Type} {enc:α→AV} {t e:TypeId} {z:AV} {s b:Nat} {zs:List AV} {lim i:Nat} {n:Int} {m:GM α} {hp:bH}
theorem aGC (hD:DOk P D) (ht:D t=some ⟨.map .i64 e z,s,zs,b⟩) (d:α) (hz:z=enc d) (hi:hp i=some (abM enc m)) (hlim:i<lim) {k:AV→Prop} (hk:k (enc (m.get n d))):aAu P lim t (.mp i) (.int .i64 n) false hp k:=by
 have k1:=(hD _ _ ht).k
 simp only [xC] at k1
 refine tX ⟨.i64,e,z,n,enc (m.get n d),m.has n,k1.1,k1.2,rfl,.inr ⟨i,_,m.clk,rfl,hlim,.inl hi,?_⟩,Wk.refl _⟩ hk
 rw [uH]
 unfold GM.get GM.has
 cases jI n m.es with
 | some p=>exact ⟨rfl,rfl⟩
 | none=>exact ⟨hz.symm,rfl⟩
theorem aLK (hD:DOk P D) (ht:D t=some ⟨.map .i64 e z,s,zs,b⟩) (d:α) (hz:z=enc d) (hi:hp i=some (abM enc m)) (hlim:i<lim) {k:AV→Prop} (hk:k (.tup [enc (m.get n d),.bool (m.has n)])):aAu P lim t (.mp i) (.int .i64 n) true hp k:=by
 have k1:=(hD _ _ ht).k
 simp only [xC] at k1
 refine tX ⟨.i64,e,z,n,enc (m.get n d),m.has n,k1.1,k1.2,rfl,.inr ⟨i,_,m.clk,rfl,hlim,.inl hi,?_⟩,Wk.refl _⟩ hk
 rw [uH]
 unfold GM.get GM.has
 cases jI n m.es with
 | some p=>exact ⟨rfl,rfl⟩
 | none=>exact ⟨hz.symm,rfl⟩
theorem kZ (hD:DOk P D) (ht:D t=some ⟨.map .i64 e z,s,zs,b⟩) (hi:hp i=some (abM enc m)) {v:α} {k:AV→bH→Prop} (hk:k .und (upd hp i (some (abM enc (m.put n v))))):aPq P t (.mp i) (.int .i64 n) (enc v) hp k:=by
 have k1:=(hD _ _ ht).k
 simp only [xC] at k1
 refine aOc ⟨.i64,e,n,i,_,m.clk,k1.1,rfl,rfl,rfl,.inl ⟨hi,rfl⟩⟩ ?_
 rw [aLs,aLA];exact hk
end
theorem pQ {L:Ren} {hp:bH} {i o:Nat} {α:Type} {enc:α→AV} {m:GM α} (h:hp o=some (abM enc m)) (hl:∀ x,(enc x).loose):BkR L hp i (some o) (abM enc m):=by
 unfold abM at h ⊢
 simp only [BkR,h]
 refine ⟨trivial,trivial,fun j p hp=>⟨p,hp,rfl,?_⟩⟩
 unfold wZ at hp
 rw [List.getElem?_map] at hp
 obtain ⟨q,h1,rfl⟩:=Option.map_eq_some_iff.1 hp
 unfold aJW at h1
 rw [List.getElem?_map] at h1
 obtain ⟨r,_,rfl⟩:=Option.map_eq_some_iff.1 h1
 exact ⟨wkr (lsI _ _),wkr (hl _)⟩
theorem aBV {P:Program} {t e:TypeId} (h:P.underlying t=some (.slice e)) (w:World) (a:Option Addr) (n c:Nat) (ox oy:Operand) :
  (do eqGuard .eql t ox oy (.slice a n c) (.slice none 0 0);binOp .eql t (.slice a n c) (.slice none 0 0):Sem Value).run P w=.ok (.bool a.isNone) w:=by
 have e1:=Go.run_equal_slice_nil (P:=P) w t e a n c h
 simp [eqGuard,binOp,e1]
theorem aLg {E:Env} {N:Nat} {id:Nat} {o1 o2:Oper} {y:Code} {σ:AS} {Q:Exit→AS→Prop} {t0 t3 t4:Tmp} {T e:TypeId} {m:LM} {sz n:Nat} {f:Nat→AV} (h1:o1.op=.move (.tmp t0)) (h2:o1.dst=some t3) (h3:o1.guard=none)
  (h4:o2.op=.binOp .eql T (.tmp t3) (.const (.slice none 0 0)) T) (h5:o2.dst=some t4) (h6:o2.guard=none) (hT:E.P.underlying T=some (.slice e)) (h0:σ.sl t0=.lst m sz n f) (hd:aAc N #[o1,o2]=true)
  (h:∀ b:Bool,(b=true→n=0)→HT E N y ⟨wY (wY σ.sl t3 (.lst m sz n f)) t4 (.bool b),σ.hp,σ.b⟩ Q):HT E N (.seq (.region id #[o1,o2] false) y) σ Q:=by
 intro ro F a w hro hF hr
 obtain ⟨β,ds,g1,g2,g3,g4,g5,g6,g7,g8,g9⟩:=hr
 have hv:=g2 t0
 rw [h0] at hv
 have hv':=hv
 simp only [V] at hv'
 obtain ⟨base,cap,hval,_,_,hel⟩:=hv'
 have hd3:t3<N:=lO hd 0 o1 t3 rfl h2
 have hd4:t4<N:=lO hd 1 o2 t4 rfl h5
 have s1:(execOp a.eval o1).run E.P w=.ok (.value (a.tmps.getD t0 undef)) w:=by
  unfold execOp;rw [h1];simp [Act.eval]
 have e3:(a.put o1.dst (a.tmps.getD t0 undef)).tmps.getD t3 undef=.slice base n cap:=by
  rw [h2,← hval];simp [Act.put,g9,hd3]
 have s2:(execOp (a.put o1.dst (a.tmps.getD t0 undef)).eval o2).run E.P w=.ok (.value (.bool base.isNone)) w:=by
  have:=aBV hT w base n cap (.tmp t3) (.const (.slice none 0 0))
  unfold execOp;rw [h4]
  simp only [Act.eval,e3,Sem.run_bind] at this ⊢
  simp only [this];rfl
 refine wpIn_seq (wpIn_region ?_)
 show wpOpsIn (fen ro) 0 E.P #[o1,o2] _ [0,1] a w
 have w1:Region.wanted o1 (yielded #[o1,o2] a.tmps)=true:=by simp [Region.wanted,h3]
 have w2:Region.wanted o2 (yielded #[o1,o2] (a.put o1.dst (a.tmps.getD t0 undef)).tmps)=true:=by simp [Region.wanted,h6]
 simp only [wpOpsIn,List.getElem?_toArray,List.getElem?_cons_zero,w1,if_true]
 refine lD (fun c hc=>by rw [h1] at hc;cases hc) s1 ?_
 simp only [List.getElem?_cons_succ,List.getElem?_cons_zero,w2,if_true]
 refine lD (fun c hc=>by rw [h4] at hc;cases hc) s2 ?_
 refine h base.isNone (fun hb=>?_) ro F _ w hro hF ⟨β,ds,g1,?_,g3,g4,g5,g6,?_,g8,?_⟩
 ·cases base with
  | some _=>cases hb
  | none=>
   cases n with
   | zero=>rfl
   | succ k=>obtain ⟨_,_,_,hx,_⟩:=hel 0 (Nat.succ_pos _);cases hx
 ·intro t
  have k1:=aFV (β:=β) (N:=N) g2 g9 (d:=o1.dst) (fun t ht=>by rw [h2] at ht;cases ht;exact hd3) hv
  have k2:=aFV (β:=β) (N:=N) k1 (by rw [oV];exact g9) (d:=o2.dst) (fun t ht=>by rw [h5] at ht;cases ht;exact hd4) (r:=.bool base.isNone) (v:=.bool base.isNone) (by simp [V])
  have:=k2 t
  rw [h2,h5] at this
  rw [h2,h5];exact this
 ·rw [oS,oS];exact g7
 ·rw [oV,oV];exact g9
def aCF {α:Type} (sz:Nat) (enc:α→AV) (d:α):aAb:=fun args H base r H'=>
 ∃ l:List α,args=[eL sz enc d l]∧l.length≤1048576∧r=.so base 0 l.length sz∧H'=upd H base (some (.cells (flE (ceE enc) l)))
theorem aL4 {α:Type} {enc:α→AV} {d:α} (l:List α):((List.range l.length).flatMap fun j=>lL (enc (l.getD j d)))=flE (ceE enc) l:=by
 have:l=(List.range l.length).map fun j=>l.getD j d:=by
  refine List.ext_getElem? fun i=>?_
  rw [List.getElem?_map]
  by_cases h:i<l.length
  ·simp [h,List.getD_eq_getElem?_getD]
  ·simp [h]
 conv=>rhs;rw [this]
 simp [flE,ceE,List.flatMap_map]
theorem aJH {M:List (Nat×Nat)} {g i n sz:Nat} (h:(g,i)∈M):WkB M (.so g 0 n sz) (.so i 0 n sz):=fun β0 loc ys v hM hv=>by
 simp only [V] at hv ⊢
 obtain ⟨l,h1,h2⟩:=hv
 exact ⟨l,(hM _ h).trans h1,h2⟩
theorem sI {M:List (Nat×Nat)} {a a':AV} (hw:Wk a a') (h:a'.loose):WkB M a a':=fun _β0 _loc _ys _v _ hv=>h _ _ _ _ (hw _ _ hv)
theorem cM {ids:List Nat} {a:AV} (h:a.loose):WkA ids a a:=fun _β _ys _v hv=>h _ _ _ _ hv
theorem tU {α:Type} {R:α→α→Prop}:∀ {l:List α},(∀ a∈l,R a a)→aBb R l l
 | [],_=>.nil
 | a::l,h=>.cons (h a (by simp)) (tU fun b hb=>h b (by simp [hb]))
theorem aCD {M:List (Nat×Nat)} {α:Type} {ce:α→List AV} (h:∀ x,∀ a∈ce x,a.loose) (l:List α):BkX (WkB M) (.cells (flE ce l)) (.cells (flE ce l)):=
 .cells (tU fun a ha=>sI (Wk.refl _) (qN h l a ha))
theorem aKG {P:Program} {D:DT} (hD:DOk P D) {α:Type} {enc:α→AV} {d:α} {t u:TypeId} {e e':TypeId} {de:TD} {s1 s2 b1 b2:Nat} {z1 z2:List AV} {m':LM} {sz:Nat} {l:List α} {id:Nat} {hp:bH} {k:AV→bH→Prop} {f:Nat→AV}
  (ht:D t=some ⟨.slice e,s1,z1,b1⟩) (hu:D u=some ⟨.slice e',s2,z2,b2⟩) (he:D e=some de)
  (h0:de.size=sz∧0<sz∧0<de.bytes∧de.bytes≤1048576∧de.zero.length=sz) (hfl:∀ y,(ceE enc y).all AV.flat=true) (hc:∀ y,(enc y).cells≠none)
  (hl2:l.length≤1048576) (hk:k (.so id 0 l.length sz) (upd hp id (some (.cells (flE (ceE enc) l))))) :
  uN P t u (.lst .cap sz 0 f) (.lst m' sz l.length fun j=>enc (l.getD j d)) id hp k:=by
 have k1:=(hD _ _ ht).k
 have k2:=(hD _ _ hu).k
 simp only [xC] at k1 k2
 obtain ⟨rfl,h1,h2,h3,h4⟩:=h0
 have hde:=hD _ _ he
 by_cases hl:l=[]
 ·subst hl
  exact uP ⟨_,.inr fun H=>⟨e,e',_,_,_,0,0,f,(fun j=>enc (([]:List α).getD j d)),f,k1,k2,hde.size,hde.bytes,hde.zero,h1,h2,h3,h4,by omega,.lst _ _ _,.lst _ _ _,fun j hj=>absurd hj (Nat.not_lt_zero _),rfl,fun j hj=>absurd hj (Nat.not_lt_zero _),fun j hj=>absurd hj (Nat.not_lt_zero _),.inr (.inl ⟨rfl,rfl⟩)⟩,aK9⟩ hk
 ·have hall:(flE (ceE enc) l).all AV.flat=true:=by
   simp only [List.all_eq_true,flE,List.mem_flatMap]
   rintro a ⟨y,_,hy⟩
   exact List.all_eq_true.1 (hfl y) a hy
  have hpos:0<l.length:=List.length_pos_iff.2 hl
  refine uP ⟨_,.inl ⟨fun j hj=>absurd hj (Nat.not_lt_zero _),fun j hj=>hc _,fun H=>?_⟩,Wk.refl _⟩ hk
  unfold pH
  simp only [k1,k2,hde.size,hde.bytes,hde.zero,Option.bind_some,aL6,cellsOf,if_true,aL4,hall,h1,h2,h3,h4,and_self,hpos,Nat.zero_add,hl2,List.range_zero,List.flatMap_nil,List.nil_append]
theorem aE0 {E:Env} {N n:Nat} {L:Ren} {c:Code} {σ σ':AS} {Q:Exit→AS→Prop} (hcl:E.cl=true) (hrd:E.rd=false) (hn:32≤n) (h:wT n L σ σ') (k:HT E N c σ' Q):HT E N c σ Q:=fun ro F a w hro hF hr=>
 k ro F a w hro hF (wT.rep (rd:=false) hn h (by rw [hcl,hrd] at hF;exact hF) hr)
theorem aNB {sl:Nat→AV} {hp:bH} {b b':Nat} {l:List (Nat×AV)} {hs:List (Nat×AB)}
  (h:aBf sl l fun ps=>yL ((0,some 0)::(aLy ps++aOu (aLy ps) hp hs)) fun L=>aCE 32 L b'=true∧aAw (fun p=>WkR L p.1 p.2) ps∧aAw (fun p=>∃ o,qI L p.1=some o∧BkR L hp p.1 o p.2) hs):∃ L,wT 32 L ⟨sl,hp,b⟩ ⟨ofL l,ofH hs,b'⟩:=by
 rw [vP,uB] at h
 exact ⟨_,wON (by decide) _ (yY (β:=AV×AV) (p:=fun p=>WkR _ p.1 p.2) h.2.1) h.2.2 h.1⟩
def aSE (n:Nat):AV→AV
 | .ptr _ o=>.ptr n o
 | .mp _=>.mp n
 | .sl _ o a b c=>.sl n o a b c
 | .so _ o a b=>.so n o a b
 | .lst (.tok _) a b c=>.lst (.tok n) a b c
 | a=>a
def aMN (rs:List (Nat×Nat)) (t:Nat):Option Nat:=match rs with
 | []=>none
 | (u,n)::l=>bif t==u then some n else aMN l t
def aRW (σ:AS) (rs:List (Nat×Nat)) (ts:List Nat):List (Nat×AV):=ts.map fun t=>(t,match aMN rs t with | some n=>aSE n (σ.sl t) | none=>σ.sl t)
def aSf (σ:AS) (rs:List (Nat×Nat)):List (Nat×AB):=rs.map fun p=>(p.2,atN (yX (σ.sl p.1)) fun n=>(σ.hp n).getD (.cells []))
theorem zZ {L:Ren} {i i':Nat} (h:∀ loc,aDZ loc L i'=loc i):WkR L (.yld i) (.yld i'):=fun β v hv=>by
 simp only [V] at hv ⊢
 obtain ⟨l,h1,h2⟩:=hv
 exact ⟨l,(h β.loc).trans h1,h2⟩
theorem vO {L:Ren} {cs cs':List AV} {o:Nat} (h:VsR L cs cs'):WkR L (.ep cs o) (.ep cs' o):=fun β v hv=>by
 simp only [V] at hv ⊢
 obtain ⟨c,q,vs,h1,h2,h3⟩:=hv
 exact ⟨c,q,vs,h1,h2,h _ _ h3⟩
def VsB (M:List (Nat×Nat)) (as bs:List AV):Prop:=∀ (β0:cN) (loc:Nat→Option Loc) (ys:Nat→Prop) (vs:List Value),(∀ p∈M,loc p.2=β0.loc p.1)→Vs β0 as vs→Vs ⟨loc,β0.fz,ys⟩ bs vs
theorem xF {M:List (Nat×Nat)}:VsB M [] []:=fun _ _ _ _ _ h=>by simpa [Vs] using h
theorem tG {M:List (Nat×Nat)} {a b:AV} {as bs:List AV} (h:WkB M a b) (k:VsB M as bs):VsB M (a::as) (b::bs):=fun β0 loc ys vs hm hv=>by
 obtain ⟨v,vs',rfl,h1,h2⟩:=hv
 exact ⟨v,vs',rfl,h β0 loc ys v hm h1,k β0 loc ys vs' hm h2⟩
theorem aQ8 {M:List (Nat×Nat)} {g i:Nat} (h:(g,i)∈M):WkB M (.mp g) (.mp i):=fun β0 loc ys v hm hv=>by
 simp only [V] at hv ⊢
 obtain ⟨l,h1,h2⟩:=hv
 exact ⟨l,(hm _ h).trans h1,h2⟩
theorem aQN {M:List (Nat×Nat)} {cs cs':List AV} {o:Nat} (h:VsB M cs cs'):WkB M (.ep cs o) (.ep cs' o):=fun β0 loc ys v hm hv=>by
 simp only [V] at hv ⊢
 obtain ⟨c,q,vs,h1,h2,h3⟩:=hv
 exact ⟨c,q,vs,h1,h2,h β0 loc ys vs hm h3⟩
theorem aQS {M:List (Nat×Nat)} {f:FuncId} {as bs cs ds:List AV} (h:VsB M as bs) (k:VsB M cs ds):WkB M (.fn f as cs) (.fn f bs ds):=fun β0 loc ys v hm hv=>by
 simp only [V] at hv ⊢
 obtain ⟨fv,cv,h1,h2,h3⟩:=hv
 exact ⟨fv,cv,h1,h β0 loc ys fv hm h2,k β0 loc ys cv hm h3⟩
theorem aM8 {M:List (Nat×Nat)} {as bs:List AV} (h:VsB M as bs):WkB M (.tup as) (.tup bs):=fun β0 loc ys v hm hv=>by
 simp only [V] at hv ⊢
 obtain ⟨fv,h1,h2⟩:=hv
 exact ⟨fv,h1,h β0 loc ys fv hm h2⟩
theorem aFS {ids:List Nat} {i j:Nat} (h:ids[j]?=some i):WkA ids (.mp i) (.mp j):=fun β ys v hv=>by
 simp only [V] at hv ⊢
 obtain ⟨l,h1,h2⟩:=hv
 exact ⟨l,by show aGa β.loc ids j=_;unfold aGa;rw [h];exact h1,h2⟩
theorem aNZ {ids:List Nat} {i j:Nat} (h:ids[j]?=some i):WkA ids (.yld i) (.yld j):=fun β ys v hv=>by
 simp only [V] at hv ⊢
 obtain ⟨l,h1,h2⟩:=hv
 exact ⟨l,by show aGa β.loc ids j=_;unfold aGa;rw [h];exact h1,h2⟩
def VsA (ids:List Nat) (as bs:List AV):Prop:=∀ (β:cN) (ys:Nat→Prop) (vs:List Value),Vs β as vs→Vs ⟨aGa β.loc ids,β.fz,ys⟩ bs vs
theorem xD {ids:List Nat}:VsA ids [] []:=fun _ _ _ h=>by simpa [Vs] using h
theorem wI {ids:List Nat} {a b:AV} {as bs:List AV} (h:WkA ids a b) (k:VsA ids as bs):VsA ids (a::as) (b::bs):=fun β ys vs hv=>by
 obtain ⟨v,vs',rfl,h1,h2⟩:=hv
 exact ⟨v,vs',rfl,h β ys v h1,k β ys vs' h2⟩
theorem aFR {ids:List Nat} {cs cs':List AV} {o:Nat} (h:VsA ids cs cs'):WkA ids (.ep cs o) (.ep cs' o):=fun β ys v hv=>by
 simp only [V] at hv ⊢
 obtain ⟨c,q,vs,h1,h2,h3⟩:=hv
 exact ⟨c,q,vs,h1,h2,h β ys vs h3⟩
theorem aJO:∀ {l:List (Nat×AV)},aAw (fun p=>p.2.a64) l→∀ t,(ofL l t).a64
 | [],_,t=>aBT xZ
 | (u,a)::l,h,t=>by
  show (bif t==u then a else ofL l t).a64
  cases t==u
  ·exact aJO h.2 t
  ·exact h.1
def AB.a64:AB→Prop
 | .cells cs=>∀ a∈cs,a.a64
 | _=>False
def mo {α β:Type} (y:Option α) (x:Option β) (f:α→Option β):Option β:=match y with | none=>x | some a=>f a
attribute [irreducible] mo
section
variable {E:Env} {N:Nat} {c:Code} {σ:AS} {Q:Exit→AS→Prop}
end
theorem yZ {α:Type} {n:Int} {L:List (Nat×Int×α)} {p:Nat×Int×α} (h:jI n L=some p):p.2.1=n∧p∈L:=by
 unfold jI at h
 exact ⟨by simpa using List.find?_some h,List.mem_of_find?_eq_some h⟩
theorem aAC.modify {β:cN} {es:List (Nat×AV×AV)} {ents:Array MapEntry} (m:aAC β es ents) {j0:Nat} {a:AV} (h:∀ e,ents[j0]?=some e→V β a e.val):aAC β (es.modify j0 fun p=>(p.1,p.2.1,a)) ents:=
 ⟨m.len.trans (by simp),fun j p hp=>by
  rw [List.getElem?_modify] at hp
  split at hp
  ·rename_i ej;subst ej
   obtain ⟨p0,h1,rfl⟩:=Option.map_eq_some_iff.1 hp
   obtain ⟨e,e1,e2,e3,e4⟩:=m.rel _ p0 h1
   exact ⟨e,e1,e2,e3,h e e1⟩
  ·exact m.rel j p (by simpa using hp)⟩
section
variable {α:Type} {L:List (Nat×Int×α)} {n:Int} {a v:α} {clk:Nat}
theorem aFK (h:(jI n L).isSome=false):L.findIdx? (fun p=>p.2.1==n)=none:=by
 rw [List.findIdx?_eq_none_iff]
 intro x hx
 cases e:jI n L with
 | some p=>rw [e] at h;cases h
 | none=>have:=List.find?_eq_none.1 e x hx;simpa using this
theorem aIV (h:(jI n L).isSome=true):∃ j p,L.findIdx? (fun p=>p.2.1==n)=some j∧jI n L=some p∧L[j]?=some p∧p.2.1=n:=by
 cases e:jI n L with
 | none=>rw [e] at h;cases h
 | some p=>
  cases e2:L.findIdx? (fun p=>p.2.1==n) with
  | none=>
   have:=List.findIdx?_eq_none_iff.1 e2 p (yZ e).2
   have hk:=(yZ e).1
   simp [hk] at this
  | some j=>
   refine ⟨j,p,rfl,rfl,?_,(yZ e).1⟩
   have h3:=List.find?_eq_some_iff_getElem.1 e
   obtain ⟨_,k,hk,hk2,hk3⟩:=h3
   have h4:=List.findIdx?_eq_some_iff_getElem.1 e2
   obtain ⟨hj,hj2,hj3⟩:=h4
   have:k=j:=by
    rcases Nat.lt_trichotomy k j with h | h | h
    ·have h5:=hj3 k h
     have h6:L[k].2.1=n:=by rw [hk2];exact (yZ e).1
     simp [h6] at h5
    ·exact h
    ·have:=hk3 j h
     simp at this hj2
     exact absurd hj2 this
   subst this
   rw [List.getElem?_eq_getElem hj,hk2]
theorem aKD (h:(jI n L).isSome=false):xX n v L clk=L++[(clk,n,v)]:=by simp [xX,aFK h]
theorem aOg (h:(jI n L).isSome=false):aCR n L=L.length:=by simp [aCR,aFK h]
theorem aG9 (n:Int) (v:α):∀ (L:List (Nat×Int×α)) (clk:Nat),∃ b,jI n (xX n v L clk)=some (b,n,v)∧(xX n v L clk)[aCR n L]?=some (b,n,v):=by
 intro L clk
 cases h:(jI n L).isSome with
 | false=>
  refine ⟨clk,?_,?_⟩
  ·rw [aKD h]
   unfold jI at h ⊢
   rw [List.find?_append]
   have:List.find? (fun p=>p.2.1==n) L=none:=by simpa using h
   rw [this];simp
  ·rw [aKD h,aOg h];simp
 | true=>
  obtain ⟨j,p,h1,h2,h3,h4⟩:=aIV h
  refine ⟨p.1,?_,?_⟩
  ·have hm:xX n v L clk=L.modify j fun p=>(p.1,p.2.1,v):=by simp [xX,h1]
   rw [hm]
   have h5:=List.findIdx?_eq_some_iff_getElem.1 h1
   obtain ⟨hj,hj2,hj3⟩:=h5
   unfold jI
   rw [List.find?_eq_some_iff_getElem]
   refine ⟨by simp,j,by simpa using hj,?_,fun k hk=>?_⟩
   ·rw [List.getElem_modify]
    have:L[j]=p:=by rw [List.getElem?_eq_getElem hj] at h3;exact Option.some.inj h3
    simp [this,h4]
   ·rw [List.getElem_modify]
    have:=hj3 k hk
    simp only [show j≠k by omega,if_false]
    simpa using this
  ·have hm:xX n v L clk=L.modify j fun p=>(p.1,p.2.1,v):=by simp [xX,h1]
   rw [hm]
   simp [aCR,h1,h3,h4]
end
section
variable {P:Program} {D:DT} {α:Type} {enc:α→AV} {d:α} {t e:TypeId} {s b:Nat} {zs:List AV} {lim i sz:Nat} {n:Int} {m:GM (List α)} {hp:bH}
end
section
variable {E:Env} {N:Nat} {c:Code} {σ:AS} {Q:Exit→AS→Prop}
end
end Go.Eng
namespace Go.Eng
open Go.RowKit (Below)
def itR (P:Program) {X:Type} (encV:X→List Value) (C:List AV→(∀ σ:Type,(X→σ→Option σ)→σ→Option σ)→Prop):aAb:=fun args H _ r H'=>
 ∃ (S:Type) (G:Gh S) (σ:Type) (ι:σ→S) (y:X→σ→Option σ) (s fin:σ) (b0:Nat) (caps:List AV) (F:∀ σ:Type,(X→σ→Option σ)→σ→Option σ),
  args=.yld b0::caps∧C caps F∧H b0=some (.gh S G (ι s))∧G.P=P∧(∀ x s s',y x s=some s'→G.Y (encV x) (ι s) true (ι s'))∧F σ y s=some fin∧r=.tup []∧H'=upd H b0 (some (.gh S G (ι fin)))
theorem aN0 {E:Env} {N:Nat} {Q:Exit→AS→Prop} {g:Operand} {ps:Array Tmp} {assign body:Code} {l:List (Nat×AV)} {b0:Nat} (hrd:E.rd=false) (hcl:E.cl=true)
  {X S:Type} (encX:X→List AV) {encV:X→List Value} (hX:∀ β x,Vs β (encX x) (encV x)) (hps:∀ x,(encV x).length=ps.size) (hpN:∀ p∈ps.toList,p<N)
  {gf:FuncId} {caps:List AV} {C:List AV→(∀ σ:Type,(X→σ→Option σ)→σ→Option σ)→Prop} (hT:E.T gf=itR E.P encV C) (hg:evA (ofL l) g=.fn gf [] caps) {F:∀ σ:Type,(X→σ→Option σ)→σ→Option σ} {y:X→S→Option S} {s0 fin:S} (hF:F S y s0=some fin) (hC:C caps F)
  (hb0:64≤b0) (h64:aAw (fun p=>p.2.a64) l) (hpS:S→List (Nat×AB)) (hng:∀ s,aAw (fun p=>aAK p.2=true) (hpS s))
  (hround:∀ x s s',W (y x s) (fun t=>t=s')→HT { E with rd:=true } N assign ⟨aK3 (ofL l) ps.toList (encX x),ofH (hpS s),b0+64⟩ (aFA (fun σ1=>HT { E with rd:=true } N body σ1 fun e σ2=>
   e=.normal∧∃ L,zH L ⟨ofL [],σ2.hp,σ2.b⟩ ⟨ofL [],ofH (hpS s'),b0+64⟩) fun _ _=>False))
  (hend:Q .normal ⟨ofL l,ofH (hpS fin),b0+64⟩) :
  HT E N (.rangeFunc g ps assign body) ⟨ofL l,ofH (hpS s0),b0⟩ Q:=by
 refine aQI (X:=X) (S:=S) hrd hcl encX encV hX hps hpN hg (WkL.refl _) 999 hb0 (aJO h64) (fun _=>false) (fun i hi=>by cases hi) (fun s=>ofH (hpS s)) (fun s i b h=>⟨uL (hng s) _ (aBX h),rfl⟩)
  (fun x s=>(y x s).map fun s'=>(true,s')) s0 (fun i b h=>h) (true,fin) (fun G hP hy=>?_) (fun x s b s' hy=>?_) (fun _=>hend) (fun h=>by cases h)
 ·refine ⟨.tup [],?_⟩
  have e:(fun i=>if i=b0 then some (AB.gh (Bool×S) G (true,fin)) else bif (fun _=>false) i then ofH (hpS s0) i else none)=upd (fun i=>if i=b0 then some (.gh (Bool×S) G (true,s0)) else bif (fun _=>false) i then ofH (hpS s0) i else none) b0 (some (.gh (Bool×S) G (true,fin))):=by
   funext i;unfold upd;split
   ·rfl
   ·rename_i h;simp only [h,if_false]
  rw [e,hT]
  exact ⟨Bool×S,G,S,fun s=>(true,s),y,s0,fin,b0,caps,F,rfl,hC,by simp,hP,fun x s s' h=>hy x s true s' (by simp [h]),hF,rfl,rfl⟩
 ·obtain ⟨s1,h1,h2⟩:=Option.map_eq_some_iff.1 hy
  obtain ⟨rfl,rfl⟩:b=true∧s1=s':=by cases h2;exact ⟨rfl,rfl⟩
  refine (hround x s s1 (lR h1 rfl)).mono fun e σ h=>?_
  cases e with
  | normal=>exact HT.mono h fun e' σ' ⟨h1,h2⟩=>⟨by rw [h1];rfl,h2⟩
  | _=>exact h
def aSI {S:Type} (P:Program) (rs:Array ResultVar) (G:Gh S) (fin:S):Exit→AS→Prop:=fun e σ=>match e with
 | .normal | .ret=>aGH P rs σ=some (.tup [])∧σ.hp 0=some (.gh S G fin)
 | _=>False
theorem aQV {P:Program} {T:Tbl} {pf:FuncId→Bool} (hT:TOk P T) (hpf:cP T pf) {f:FuncId} {fn:Func} {c:Code} {X:Type} {encV:X→List Value} {C:List AV→(∀ σ:Type,(X→σ→Option σ)→σ→Option σ)→Prop} {N:Nat} {rs:Array ResultVar}
  (hf:P.funcs[f]?=some fn) (hb:fn.body=some c) (hN:fn.ntmps=N) (hrs:fn.results=rs) (hn:(fn.name == "runtime.NumGoroutine")=false)
  (h:∀ caps F,C caps F→(∀ a∈caps,a.loose)∧caps.length+1≤N∧∀ (S:Type) (G:Gh S) (σ:Type) (ι:σ→S) (y:X→σ→Option σ) (s fin:σ),G.P=P→(∀ x s s',y x s=some s'→G.Y (encV x) (ι s) true (ι s'))→W (F σ y s) (fun z=>z=fin) →
   HT ⟨P,T,pf,true,false,hT,hpf⟩ N c ⟨aCs (.yld 0::caps),ofB [.gh S G (ι s)],64⟩ (aSI P rs G (ι fin))):FOk P f (itR P encV C):=by
 refine aGl hT hpf hf hb hN hrs hn ?_
 rintro args H base r H' ⟨S,G,σ,ι,y,s,fin,b0,caps,F,rfl,hC,hb0,hP,hy,hF,rfl,rfl⟩
 obtain ⟨hlo,hle,hh⟩:=h caps F hC
 refine ⟨[b0],.yld 0::caps,[.gh S G (ι s)],[.gh S G (ι fin)],[],by simpa using hle,by simp,by simp,by simp,rfl,rfl,.cons (aNZ rfl) (tU fun a ha=>cM (hlo a ha)),(fun j i b h1 h2=>?_),(fun k b h=>by simp at h),(fun j=>?_),(fun i b h=>?_),?_⟩
 ·cases j with
  | zero=>cases h1;cases h2;exact ⟨_,hb0,.gh⟩
  | succ j=>simp at h1
 ·cases j<;>rfl
 ·by_cases e:i=b0
  ·subst e;rw [mY] at h;cases h;exact .inr (.inl ⟨0,rfl,rfl⟩)
  ·rw [aY _ _ e] at h;exact .inl ⟨by simpa using e,h⟩
 ·refine (hh S G σ ι y s fin hP hy (lR hF rfl)).mono fun e σ' h=>?_
  have key:(aGH P rs σ'=some (.tup [])∧σ'.hp 0=some (.gh S G (ι fin)))→∃ (r1:AV) (ns:List Nat),ns.length=([]:List AB).length∧ns.Nodup∧(∀ n∈ns,64≤n)∧aGH P rs σ'=some r1∧WkB (mm [b0] ns base) r1 (.tup []) ∧
    (∀ (j:Nat) (b:AB),[AB.gh S G (ι fin)][j]?=some b→∃ b0',σ'.hp j=some b0'∧BkX (WkB (mm [b0] ns base)) b0' b) ∧
    (∀ (k n:Nat) (b:AB),ns[k]?=some n→([]:List AB)[k]?=some b→∃ b0',σ'.hp n=some b0'∧BkX (WkB (mm [b0] ns base)) b0' b):=fun ⟨h1,h2⟩=>
   ⟨_,[],rfl,by simp,by simp,h1,aM8 xF,fun j b hj=>by
    cases j with
    | zero=>cases hj;exact ⟨_,h2,.gh⟩
    | succ j=>simp at hj,fun k n b h1 _=>by simp at h1⟩
  cases e with
  | normal=>exact key h
  | ret=>exact key h
  | _=>exact h
theorem aOI {P:Program} {S:Type} {G:Gh S} {σ β:Type} {ι:σ→S} {X:Type} {encV:X→List Value} {y:X→σ→Option σ} (hy:∀ x s s',y x s=some s'→G.Y (encV x) (ι s) true (ι s')) (hP:G.P=P) {x:X} {s:σ} {f:σ→Option β} {Φ:β→Prop} {args:List AV} {hp:bH} {j:Nat} {k:AV→bH→Prop}
  (h:W (bd (y x s) f) Φ) (hj:hp j=some (.gh S G (ι s))) (hv:∀ b vs,Vs b args vs→vs=encV x) (hk:∀ s',W (f s') Φ→k (.bool true) (upd hp j (some (.gh S G (ι s'))))):aOx P j args hp k:=by
 obtain ⟨s',e,h⟩:=dY (bL h)
 exact aNw ⟨S,G,_,true,_,_,hj,hP,hv,hy _ _ _ e,rfl,rfl⟩ (hk s' h)
theorem aGL {M:List (Nat×Nat)} {as bs:List AV} (h:VsB M as bs):WkB M (.agg as) (.agg bs):=fun β0 loc ys v hM hv=>by
 simp only [V] at hv ⊢
 obtain ⟨l,h1,h2⟩:=hv
 exact ⟨l,h1,h β0 loc ys l hM h2⟩
theorem aBl {M:List (Nat×Nat)} {g i n m sz:Nat} (h:(g,i)∈M) (hn:n=m):WkB M (.so g 0 n sz) (.so i 0 m sz):=by subst hn;exact aJH h
def aP1 (H:bH):Nat→List AB→bH
 | _,[]=>H
 | b,x::xs=>upd (aP1 H (b+1) xs) b (some x)
theorem aHo:∀ {xs:List AB} {H:bH} {b i:Nat} {x:AB},aP1 H b xs i=some x→H i=some x∨∃ k,i=b+k∧xs[k]?=some x
 | [],_,_,_,_,h=>.inl h
 | y::ys,H,b,i,x,h=>by
  unfold aP1 at h
  by_cases e:i=b
  ·subst e;rw [mY] at h;exact .inr ⟨0,rfl,by simpa using h⟩
  ·rw [aY _ _ e] at h
   rcases aHo h with h | ⟨k,h1,h2⟩
   ·exact .inl h
   ·exact .inr ⟨k+1,by omega,by simpa using h2⟩
def aHw {Y:Type} (res:Y→Nat→AV) (blk:Y→List AB) (S:List AV→Y→Prop):aAb:=fun args H base r H'=>∃ y,S args y∧r=res y base∧H'=aP1 H base (blk y)
theorem aGQ {P:Program} {T:Tbl} {pf:FuncId→Bool} (hT:TOk P T) (hpf:cP T pf) {f:FuncId} {fn:Func} {c:Code} {Y:Type} {res:Y→Nat→AV} {blk:Y→List AB} {S:List AV→Y→Prop} {N:Nat} {rs:Array ResultVar}
  (hf:P.funcs[f]?=some fn) (hb:fn.body=some c) (hN:fn.ntmps=N) (hrs:fn.results=rs) (hn:(fn.name == "runtime.NumGoroutine")=false) (hblk:∀ y,(blk y).length≤64∧(blk y).all aAK=true)
  (h:∀ args y,S args y→args.length≤N∧(∀ a∈args,a.loose)∧∀ base:Nat,HT ⟨P,T,pf,true,false,hT,hpf⟩ N c ⟨aCs args,fun _=>none,64⟩ (aLC P rs [] base (res y base) [] (blk y))):FOk P f (aHw res blk S):=by
 refine aGl hT hpf hf hb hN hrs hn ?_
 rintro args H base r H' ⟨y,hS,rfl,rfl⟩
 obtain ⟨h1,h2,h3⟩:=h args y hS
 obtain ⟨b1,b2⟩:=hblk y
 refine ⟨[],args,[],[],blk y,h1,by simp,b1,.nil,rfl,rfl,tU fun a ha=>cM (h2 a ha),(fun j i b h=>by simp at h),(fun k b hk=>List.all_eq_true.1 b2 b (List.mem_of_getElem? hk)),(fun j=>rfl),(fun i b hi=>?_),?_⟩
 ·rcases aHo hi with h | h
  ·exact .inl ⟨by simp,h⟩
  ·exact .inr (.inr h)
 ·have e:ofB []=fun _=>none:=by funext j;simp [ofB]
  rw [e];exact h3 base
theorem zL {T:Tbl} {f:FuncId} {Y β:Type} {res:Y→Nat→AV} {blk:Y→List AB} {S:List AV→Y→Prop} (hT:T f=aHw res blk S) {args args':List AV} {hp:bH} {id:Nat} {k:AV→bH→Prop} {x:Option Y} {g:Y→Option β} {Φ:β→Prop}
  (h:W (bd x g) Φ) (hS:∀ y,x=some y→S args' y) (hw:WkL args args') (hk:∀ y,W (g y) Φ→k (res y id) (aP1 hp id (blk y))):vM T f args hp id k:=by
 obtain ⟨y,e,h⟩:=dY (bL h)
 exact yI hw (by rw [hT];exact ⟨y,hS y e,rfl,rfl⟩) (hk y h)
def aOf:List AV→List Nat
 | []=>[]
 | .so i _ _ _::l=>i::aOf l
 | _::l=>aOf l
def aBd:AV→List Nat
 | .agg cs=>aOf cs
 | .so i _ _ _=>[i]
 | .ptr i _=>[i]
 | _=>[]
def aCO:List Nat→Bool
 | []=>true
 | a::l=>l.all (fun b => !(a==b))&&aCO l
theorem aBz:∀ {l:List Nat},aCO l=true→l.Nodup
 | [],_=>List.nodup_nil
 | a::l,h=>by
  simp only [aCO,Bool.and_eq_true,List.all_eq_true,Bool.not_eq_true',beq_eq_false_iff_ne] at h
  exact List.nodup_cons.2 ⟨fun hm=>h.1 a hm rfl,aBz h.2⟩
def aSq (base:Nat) (r:AV) (nb:List AB) (hp:bH) (r1:AV):Prop:=
 (aBd r1).length=nb.length∧aCO (aBd r1)=true∧((aBd r1).all fun n=>decide (64≤n))=true∧WkB (mm [] (aBd r1) base) r1 r ∧
  ∀ (k n:Nat) (x:AB),(aBd r1)[k]?=some n→nb[k]?=some x→∃ b0,hp n=some b0∧BkX (WkB (mm [] (aBd r1) base)) b0 x
theorem aJ3 {P:Program} {D:DT} (hD:DOk P D) {rs:Array ResultVar} {base:Nat} {r:AV} {nb:List AB} {σ:AS} (h:∀ K:AV→Prop,(∀ r1,aSq base r nb σ.hp r1→K r1)→aKR D σ.b σ.sl σ.hp rs.toList fun l=>K (aHT l)) :
  ∃ (r1:AV) (ns:List Nat),ns.length=nb.length∧ns.Nodup∧(∀ n∈ns,64≤n)∧aGH P rs σ=some r1∧WkB (mm [] ns base) r1 r∧(∀ (j:Nat) (b:AB),([]:List AB)[j]?=some b→∃ b0,σ.hp j=some b0∧BkX (WkB (mm [] ns base)) b0 b) ∧
   (∀ (k n:Nat) (b:AB),ns[k]?=some n→nb[k]?=some b→∃ b0,σ.hp n=some b0∧BkX (WkB (mm [] ns base)) b0 b):=by
 obtain ⟨r1,h1,h2⟩:=aDr (k:=aSq base r nb σ.hp) hD (h _ fun _ h=>h)
 obtain ⟨k1,k2,k3,k4,k5⟩:=h2
 exact ⟨r1,aBd r1,k1,aBz k2,fun n hn=>by simpa using List.all_eq_true.1 k3 n hn,h1,k4,fun j b h=>by simp at h,k5⟩
theorem aBZ {P:Program} {D:DT} (hD:DOk P D) {rs:Array ResultVar} {base:Nat} {r:AV} {nb:List AB} {σ:AS} (h:∀ K:AV→Prop,(∀ r1,aSq base r nb σ.hp r1→K r1)→aKR D σ.b σ.sl σ.hp rs.toList fun l=>K (aHT l)):aLC P rs [] base r [] nb .ret σ:=aJ3 hD h
def yN (σ:AS) (ts:List (Nat×Nat)):List (Nat×AB):=ts.map fun t=>atN (yX (σ.sl t.1)) fun n=>atN (yX (aMv σ.hp n t.2)) fun n=>(n,(σ.hp n).getD (.cells []))
def aRM (σ:AS):List (Nat×AB):=[(0,(σ.hp 0).getD (.cells []))]
section
variable {E:Env} {N:Nat}
theorem aMx {S R:Type} {c:Code} {σ:AS} {Q:Exit→AS→Prop} {body:S→Option (Ct S R)} {n:Nat} {s:S} {Φ:S ⊕ R→Prop} (hcl:E.cl=true) (h:W (lp body n s) Φ) (ts:List Nat) (hs0:AS→List (Nat×AB)) (bsl:List Nat)
  (I:List (Nat×AV)→List (Nat×AB)→List Nat→Nat→S→AS)
  (H:vX (aGx σ ts) fun kl=>jR (hs0 σ) fun kh=>tK (bsl.map fun t=>yX (σ.sl t)) fun ids=>iP σ.b fun b=>
   (∃ L,zH L σ (I kl kh ids b s))∧∀ (s:S) (m:Nat),W (bd (body s) fun c=>ctK c (lp body m) (fun s=>some (.inl s)) (fun r=>some (.inr r))) Φ →
    HT E N c (I kl kh ids b s) (aFA (fun σ'=>∃ s',W (lp body m s') Φ∧∃ L,zH L σ' (I kl kh ids b s')) Q)):HT E N (.loop c) σ Q:=by
 rw [pW,fP,oQ,cZ] at H
 exact aL0 hcl h (fun _ s=>I _ _ _ _ s) H.1 H.2
theorem aHn {V β:Type} {x y:Code} {σ:AS} {Q:Exit→AS→Prop} {f:V→Option β} {g:(V→Option β)→Option β} {Φ:β→Prop} (hcl:E.cl=true) (h:W (jn f g) Φ) (ts:List Nat) (hs0:AS→List (Nat×AB)) (bsl:List Nat)
  (I:List (Nat×AV)→List (Nat×AB)→List Nat→Nat→V→AS)
  (H:vX (aGx σ ts) fun kl=>jR (hs0 σ) fun kh=>tK (bsl.map fun t=>yX (σ.sl t)) fun ids=>iP σ.b fun b=>
   (∀ s:V,W (f s) Φ→HT E N y (I kl kh ids b s) Q)∧∀ k:V→Option β,W (g k) Φ →
    HT E N x σ (aFA (fun σ'=>∃ s,W (k s) Φ∧∃ L,zH L σ' (I kl kh ids b s)) Q)):HT E N (.seq x y) σ Q:=by
 rw [pW,fP,oQ,cZ] at H
 refine aF ((H.2 f (lG h)).mono fun e σ' q=>?_)
 cases e with
 | normal=>obtain ⟨s,h1,L,h2⟩:=q;exact aBA hcl h2 (H.1 s h1)
 | _=>exact q
theorem aHa {S R:Type} {c:Code} {σ:AS} {Q:Exit→AS→Prop} {body:S→Option (Ct S R)} {n:Nat} {s:S} {Φ:S ⊕ R→Prop} (hcl:E.cl=true) (h:W (lp body n s) Φ) (ts:List Nat) (hs0 hr0:AS→List (Nat×AB)) (bsl:List Nat)
  (I:List (Nat×AV)→List (Nat×AB)→List (Nat×AB)→List Nat→Nat→S→AS)
  (H:vX (aGx σ ts) fun kl=>jR (hs0 σ) fun kh=>jR (hr0 σ) fun kr=>tK (bsl.map fun t=>yX (σ.sl t)) fun ids=>iP σ.b fun b=>
   (∃ L,zH L σ (I kl kh kr ids b s))∧∀ (s:S) (m:Nat),W (bd (body s) fun c=>ctK c (lp body m) (fun s=>some (.inl s)) (fun r=>some (.inr r))) Φ →
    HT E N c (I kl kh kr ids b s) (aFA (fun σ'=>∃ s',W (lp body m s') Φ∧∃ L,zH L σ' (I kl kh kr ids b s')) Q)):HT E N (.loop c) σ Q:=by
 rw [pW,fP,fP,oQ,cZ] at H
 exact aL0 hcl h (fun _ s=>I _ _ _ _ _ s) H.1 H.2
end
theorem aAq {T:Tbl} {f:FuncId} {α:Type} {sz:Nat} {enc:α→AV} {d:α} {l:List α} {args:List AV} {hp:bH} {id:Nat} {k:AV→bH→Prop} (hT:T f=aCF sz enc d) (hw:WkL args [eL sz enc d l]) (hl:l.length≤1048576) (hlo:∀ x,∀ a∈ceE enc x,a.loose)
  (hk:k (.so id 0 l.length sz) (upd hp id (some (.cells (flE (ceE enc) l))))):aFT T f args hp id k:=
 aJF ⟨_,sz,l.length,flE (ceE enc) l,hw,rfl,rfl,qN hlo l,fun b H=>by rw [hT];exact ⟨l,rfl,hl,rfl,rfl⟩⟩ hk
theorem aIH {i o n m z:Nat}:Wk (.sl i o n m z) (.so i o n z):=fun β v h=>by
 simp only [V] at h ⊢
 obtain ⟨l,h1,h2⟩:=h
 refine ⟨l,h1,?_⟩
 rcases h2 with ⟨h3,h4,h5⟩ | ⟨h3,h4,h5⟩
 ·exact .inl ⟨h3,h5⟩
 ·exact .inr ⟨m,h3,h4,h5⟩
theorem aQT {P:Program} {D:DT} (hD:DOk P D) {α β:Type} {enc:α→AV} {t:TypeId} {parts:List (Nat×AV)} {id:Nat} {e:TypeId} {de:TD} {s1 b1:Nat} {z1:List AV} {cs:List AV} {k:AV→AB→Prop} {l:List α} {f:List α→Option β} {Φ:β→Prop} {n:Nat}
  (h:W (lt l f) Φ) (ht:D t=some ⟨.slice e,s1,z1,b1⟩) (he:D e=some de) (hn:n=l.length) (h0:n * de.size≤2 ^ 24∧0<de.size∧de.zero.length=de.size)
  (hf:xR (fun i=>some (i * de.size,de.size)) (wB de.zero n) parts=some cs) (hc:WkL cs (flE (ceE enc) l))
  (hk:W (f l) Φ→k (.so id 0 l.length de.size) (.cells (flE (ceE enc) l))):bsK P t n parts id k:=by
 replace hk:=hk (aRo h)
 subst hn
 have k1:=(hD _ _ ht).k
 simp only [xC] at k1
 have hde:=hD _ _ he
 refine aMF ⟨e,de.size,cs,?_,.inl ⟨_,aIH,hc,rfl⟩⟩ hk
 simp only [sG,k1,hde.size,hde.zero,Option.bind_some]
 rw [if_pos h0,hf];rfl
end Go.Eng
namespace Go.Eng
end Go.Eng
namespace Go.Eng
open Go.RowKit (Below)
structure Ar (n:Nat) where
 l:List Int
 h:l.length=n
def Ar.zero (n:Nat):Ar n:=⟨List.replicate n 0,List.length_replicate⟩
instance {n:Nat}:Inhabited (Ar n):=⟨Ar.zero n⟩
def Ar.at1 {n:Nat} (x:Ar n) (i:Int):Int:=x.l.getD i.toNat 0
def Ar.st1 {n:Nat} (x:Ar n) (i v:Int):Ar n:=⟨x.l.set i.toNat v,by rw [List.length_set,x.h]⟩
def Ar.at2 {n:Nat} (x:Ar n) (w:Nat) (i j:Int):Int:=x.l.getD (i.toNat * w+j.toNat) 0
def Ar.st2 {n:Nat} (x:Ar n) (w:Nat) (i j v:Int):Ar n:=⟨x.l.set (i.toNat * w+j.toNat) v,by rw [List.length_set,x.h]⟩
def cA {n:Nat} (x:Ar n):List AV:=x.l.map eI
theorem aA3 {n:Nat} (x:Ar n):(cA x).length=n:=by unfold cA;rw [List.length_map,x.h]
theorem bD {n:Nat} (x:Ar n):∀ a∈cA x,a.loose:=fun a h=>by
 obtain ⟨v,_,rfl⟩:=List.mem_map.1 h
 exact aHt v
theorem aM2 {n:Nat} (x:Ar n):(cA x).all AV.flat=true:=by
 simp only [List.all_eq_true]
 intro a h
 obtain ⟨v,_,rfl⟩:=List.mem_map.1 h
 rfl
theorem aQ6 {n:Nat} (x:Ar n) {j:Nat} (hj:j<n):(cA x)[j]?=some (eI (x.l.getD j 0)):=by
 unfold cA
 have h:j<x.l.length:=by rw [x.h];exact hj
 rw [List.getElem?_map,List.getElem?_eq_getElem h,List.getD_eq_getElem?_getD,List.getElem?_eq_getElem h]
 rfl
theorem aPX {n:Nat} (x:Ar n) {j:Nat} (v:Int) (hj:j<n):dZ (cA x) j [eI v]=(x.l.set j v).map eI:=by
 have h:j<x.l.length:=by rw [x.h];exact hj
 unfold dZ cA
 rw [List.set_eq_take_append_cons_drop,if_pos h]
 simp [List.map_take,List.map_drop]
theorem aTe {m w:Nat} {i j:Int} (hi:0≤i∧i<(m:Int)) (hj:0≤j∧j<(w:Int)):i.toNat * w+j.toNat<m * w:=by
 have h1:i.toNat+1≤m:=by omega
 have h2:j.toNat<w:=by omega
 have:=Nat.mul_le_mul_right w h1
 rw [Nat.add_mul] at this
 omega
theorem iM {n:Nat} {x:Ar n} {cs:List AV} {i:Int} {k:AV→Prop} (hcs:cs=cA x) (hi:0≤i∧i<(n:Int)) (hk:k (eI (x.at1 i))):aIB cs (0+i.toNat * 1) k:=by
 subst hcs
 refine gKo (a:=eI (x.at1 i)) ?_ hk
 rw [show 0+i.toNat * 1=i.toNat by omega]
 exact aQ6 x (by omega)
def gTz (g:Nat) (i:Int):Int:=(((aNS g).getD i.toNat 0:Nat):Int)
theorem aO9 {cs:List AV} {i:Int} {k:AV→Prop} (g n:Nat) (hcs:cs=(aNS g).map fun n:Nat=>AV.int .u8 (n:Int)) (hn:(aNS g).length=n) (hi:0≤i∧i<(n:Int)) (hk:k (.int .u8 (gTz g i))):aIB cs (0+i.toNat * 1) k:=by
 subst hcs hn
 refine gKo (a:=.int .u8 (gTz g i)) ?_ hk
 have h:i.toNat<(aNS g).length:=by omega
 rw [show 0+i.toNat * 1=i.toNat by omega,List.getElem?_map,List.getElem?_eq_getElem h]
 unfold gTz
 rw [List.getD_eq_getElem?_getD,List.getElem?_eq_getElem h]
 rfl
theorem aCL {n q:Nat} {x:Ar n} {cs xs:List AV} {i v:Int} {k:List AV→Prop} (hcs:cs=cA x) (hi:0≤i∧i<(n:Int)) (hx:xs=[eI v]) (hq:q=1) (hk:k (cA (x.st1 i v))) :
  xs.length=q∧0+i.toNat * 1+q≤cs.length∧xs.all AV.flat=true∧jM (dZ cs (0+i.toNat * 1) xs) k:=by
 subst hcs hx hq
 rw [eY,aA3,show 0+i.toNat * 1=i.toNat by omega,aPX x v (by omega)]
 exact ⟨rfl,by omega,rfl,hk⟩
theorem yH {n:Nat} {x:Ar n} {cs:List AV} {k:List AV→Prop} (hcs:cs=cA x) (hk:k (cA x)):0+n≤cs.length∧jM ((cs.drop 0).take n) k:=by
 subst hcs
 refine ⟨by rw [aA3];omega,?_⟩
 rw [eY,List.drop_zero,List.take_of_length_le (by rw [aA3];exact Nat.le_refl _)]
 exact hk
theorem vY {n q:Nat} {x:Ar n} {cs xs:List AV} {k:List AV→Prop} (hcs:cs.length=n) (hx:xs=cA x) (hq:q=n) (hk:k (cA x)) :
  xs.length=q∧0+q≤cs.length∧xs.all AV.flat=true∧jM (dZ cs 0 xs) k:=by
 subst hx hq
 refine ⟨aA3 x,by omega,aM2 x,?_⟩
 rw [eY]
 have:dZ cs 0 (cA x)=cA x:=by
  unfold dZ
  rw [aA3,List.drop_of_length_le (by omega)];simp
 rw [this];exact hk
theorem bO {n:Nat} {L:Ren} {hp:bH} {i o:Nat} {cs:List AV} {x:Ar n} (h:hp o=some (.cells cs)) (e:cs=cA x):BkR L hp i (some o) (.cells (cA x)):=bRc h (by subst e;exact aES (bD x))
theorem wE {n:Nat} (x:Ar n):(AV.agg (cA x)).loose:=vZ (bD x)
theorem jJ {ids:List Nat} {i j o:Nat} (h:ids[j]?=some i):WkA ids (.ptr i o) (.ptr j o):=fun β ys v hv=>by
 simp only [V] at hv ⊢
 obtain ⟨l,h1,h2⟩:=hv
 exact ⟨l,by show aGa β.loc ids j=_;unfold aGa;rw [h];exact h1,h2⟩
theorem aOX {ids:List Nat} {f:FuncId} {as bs cs ds:List AV} (h:VsA ids as bs) (k:VsA ids cs ds):WkA ids (.fn f as cs) (.fn f bs ds):=fun β ys v hv=>by
 simp only [V] at hv ⊢
 obtain ⟨fv,cv,h1,h2,h3⟩:=hv
 exact ⟨fv,cv,h1,h β ys fv h2,k β ys cv h3⟩
theorem aMZ {M:List (Nat×Nat)} {g i o:Nat} (h:(g,i)∈M):WkB M (.ptr g o) (.ptr i o):=fun β0 loc ys v hm hv=>by
 simp only [V] at hv ⊢
 obtain ⟨l,h1,h2⟩:=hv
 exact ⟨l,(hm _ h).trans h1,h2⟩
def aGy (σ:AS) (ns:List Nat):List (Nat×AB):=ns.map fun n=>(n,(σ.hp n).getD (.cells []))
theorem aKc (v:Int):∀ a∈[eI v],a.loose:=fun a h=>by simp at h;subst h;exact aHt v
def eAr {n:Nat} (x:Ar n):AV:=.agg (cA x)
theorem yD {ids:List Nat} {a b:AV} (h:Wk a b) (k:b.loose):WkA ids a b:=fun _β _ys _v hv=>k _ _ _ _ (h _ _ hv)
end Go.Eng
namespace Go.Eng
open Go
open Go.RowKit (Below)
universe u v
def AV.am (m:Nat) (a:AV):Prop:=∀ (β:cN) (loc':Nat→Option Loc) (ys':Nat→Prop) (v:Value),(∀ i,i<m→β.loc i≠none→loc' i=β.loc i)→V β a v→V ⟨loc',β.fz,ys'⟩ a v
theorem aG2 {m:Nat} {a:AV} (h:a.loose):a.am m:=fun β loc' ys' v _ hv=>h β loc' ys' v hv
theorem aQm {m i o:Nat} (hi:i<m):(AV.ptr i o).am m:=fun β loc' ys' v h hv=>by
 simp only [V] at hv ⊢;obtain ⟨l,h1,h2⟩:=hv;exact ⟨l,(h i hi (by rw [show β.loc i=some l from h1];simp)).trans h1,h2⟩
set_option maxHeartbeats 2000000 in
theorem aM0 {E:Env} {N:Nat} (m:Nat) (hm:m≤64) (hm32:32≤m) {Q:Exit→AS→Prop} {g:Operand} {ps:Array Tmp} {assign body:Code} {sl0:Nat→AV} {hp0:bH} {b0:Nat} (hrd:E.rd=false) (hcl:E.cl=true)
  {X S:Type} (encX:X→List AV) (encV:X→List Value) (hX:∀ β x,Vs β (encX x) (encV x)) (hps:∀ x,(encV x).length=ps.size) (hpN:∀ p∈ps.toList,p<N)
  {gf:FuncId} {caps caps':List AV} (hg:evA sl0 g=.fn gf [] caps) (hcaps:WkL caps caps') (out:Nat) (hb0:64≤b0) (h64:∀ t,(sl0 t).am m)
  (bw:Nat→Bool) (hbw:∀ i,bw i=true→i<m∧∃ es clk,hp0 i=some (.map es clk)∧∀ p∈es,p.2.1.plain∧p.2.2.plain)
  (hpS:S→bH) (hng:∀ s i b,hpS s i=some b→aAK b=true∧bw i=false) (y:X→S→Option (Bool×S)) (s0:S) (hs0:∀ i b,hpS s0 i=some b→hp0 i=some b) (fin:Bool×S)
  (hrow:∀ G:Gh (Bool×S),G.P=E.P→(∀ x s b s',y x s=some (b,s')→G.Y (encV x) (true,s) b (b,s')) →
   ∃ r,E.T gf (.yld b0::caps') (fun i=>if i=b0 then some (.gh (Bool×S) G (true,s0)) else bif bw i then hp0 i else none) (b0+64) r (fun i=>if i=b0 then some (.gh (Bool×S) G fin) else bif bw i then hp0 i else none))
  (hround:∀ x s b s',y x s=some (b,s')→HT { E with rd:=true } N assign ⟨aK3 sl0 ps.toList (encX x),hpS s,b0+64⟩ (aFA (fun σ1=>HT { E with rd:=true } N body σ1 fun e σ2=>
   aTi out b e∧∃ L,wT m L ⟨fun _=>.top,σ2.hp,σ2.b⟩ ⟨fun _=>.top,hpS s',b0+64⟩) fun _ _=>False))
  (hend1:fin.1=true→Q .normal ⟨sl0,fun i=>bif bw i then hp0 i else hpS fin.2 i,b0+64⟩) (hend2:fin.1=false→Q (.exit out) ⟨sl0,fun i=>bif bw i then hp0 i else hpS fin.2 i,b0+64⟩) :
  HT E N (.rangeFunc g ps assign body) ⟨sl0,hp0,b0⟩ Q:=by
 intro ro F a w hro hF hr
 obtain rfl:=hro hrd
 obtain ⟨β,ds,hsince,hs,hH,hnm,hbel,htop,hdf,hmk,hN⟩:=hr
 obtain ⟨hF1,hF2⟩:=hF hcl
 have hF32:∀ i,F.β0.loc i≠none→i<32:=fun i hi=>by have:=hF1 i hi;rw [hrd] at this;simpa using this
 have hgv:=fM hs g
 simp only at hgv
 rw [hg] at hgv
 simp only [V] at hgv
 obtain ⟨fv,cv,hgv,hfv,hcv⟩:=hgv
 simp only [Vs] at hfv
 subst hfv
 refine wpIn_rangeFunc (F:=fen none) ?_
 intro fn _
 obtain ⟨D,hD⟩:∃ D,D=w.heap.size:=⟨_,rfl⟩
 obtain ⟨l,hl⟩:∃ l,l=w.heap.size+1:=⟨_,rfl⟩
 obtain ⟨rec,hrec⟩:∃ rec:LoopState→Option Code→Loop,rec=fun st pe=>{ state:=st,pending:=pe,fn,tmps:=a.tmps,params:=ps,assign,body,defers:=w.heap.size }:=⟨_,rfl⟩
 obtain ⟨W1,hW1⟩:∃ W1,W1=(w.alloc (.deferred (some []))).alloc (.loop (rec .ready none)):=⟨_,rfl⟩
 have hL1:W1.heap[l]?=some (.loop (rec .ready none)):=by
  rw [hW1,hl];have:=World.alloc_heap_new (w.alloc (.deferred (some []))) (.loop (rec .ready none));rwa [World.size_alloc] at this
 have hD1:W1.heap[D]?=some (.deferred (some [])):=by
  rw [hW1,hD];exact (Below.heap_alloc _ _ _ (by simp)).trans (World.alloc_heap_new w _)
 have hbw1:bJ (fun c=>w.heap.size≤c) w W1:=by
  rw [hW1];exact (bJ.alloc w (Nat.le_refl _) _).trans (bJ.alloc _ (by simp) _)
 have hsz1:W1.heap.size=w.heap.size+2:=by rw [hW1];simp
 have hgf:b0 ∉ []:=by simp
 have hβb0:β b0=none:=by
  cases e:β b0 with
  | none=>rfl
  | some x=>exact absurd (hnm b0 (by rw [e];simp)) (Nat.lt_irrefl _)
 let B1:Bd:=F.Bx ds
 have hB1top:B1.top w.heap.size:=hmk.top htop
 let Ys0:Nat→Prop:=fun c=>B1 c∧c<W1.heap.size∧∀ i li,bw i=true→β i=some li→c≠li.c
 have hbwlt:∀ i li,bw i=true→β i=some li→li.c<w.heap.size∧0<li.k:=fun i li h1 h2=>by
  obtain ⟨_,es,clk,h3,_⟩:=hbw i h1
  obtain ⟨l',g1,g2,g3,_⟩:=hH.map i es clk h3
  rw [h2] at g1;cases g1
  exact ⟨(hH.lt_of_own h3 h2 g2).1,g2⟩
 have hlD:l≠D:=by omega
 have ysl:Ys0 l:=⟨hB1top l (by omega),by omega,fun i li h1 h2=>by have:=(hbwlt i li h1 h2).1;omega⟩
 have ysD:Ys0 D:=⟨hB1top D (by omega),by omega,fun i li h1 h2=>by have:=(hbwlt i li h1 h2).1;omega⟩
 let Bd':(Nat→Prop)→Bd:=fun Ys c=>Ys c∧c≠l∧c≠D
 let recOf:Bool→Loop:=fun b=>if b then rec .ready none else rec .done (some (.exit out))
 let JJ:Bool×S→(Nat→Prop)→Nat→World→Prop:=fun t Ys l' w'=>l'=l∧Ys l∧Ys D∧w'.heap[D]?=some (.deferred (some []))∧w'.heap[l]?=some (.loop (recOf t.1)) ∧
  ∃ β':cN,(∀ i,i<m→β.loc i≠none→β'.loc i=β.loc i)∧(∀ c o v,β.fz c o=some v→β'.fz c o=some v)∧(∀ c o v,β'.fz c o=some v→Ys c∨β.fz c o=some v)∧(∀ j,β' j≠none→j<b0+64) ∧
   β'.ys=(fun _=>False)∧cL β' (hpS t.2) w' (Bd' Ys)
 have hngS:∀ s i b,hpS s i=some b→aAK b=true:=fun s i b h=>(hng s i b h).1
 have hslots:∀ (β':cN),(∀ i,i<m→β.loc i≠none→β'.loc i=β.loc i)→(∀ c o v,β.fz c o=some v→β'.fz c o=some v)→∀ t,V β' (sl0 t) (a.tmps.getD t undef):=fun β' h1 h2 t=>
  kU (β:=⟨β'.loc,β.fz,β'.ys⟩) (β':=β') ⟨fun _ _ h=>h,h2⟩ _ _ (h64 t β β'.loc β'.ys _ h1 (hs t))
 let G:Gh (Bool×S):={
  P:=E.P
  J:=JJ
  Y:=fun args t b t'=>∃ x,args=encV x∧t.1=true∧y x t.2=some (b,t'.2)∧t'.1=b
  fz:=β.fz
  stable:=fun t Ys l' w1 w2 hJ hb hfz=>by
   obtain ⟨h1,h2,h3,h4,h5,β',k1,k2,k3,k4,k5,k6⟩:=hJ
   have same:∀ c,Ys c→w2.heap[c]?=w1.heap[c]?:=fun c hc=>hb.block c fun h=>h hc
   refine ⟨h1,h2,h3,(same D h3).trans h4,(same l h2).trans h5,β',k1,k2,k3,k4,k5,k6.world (fun c o v hv=>?_) (fun i b li hi hli hk=>same _ (k6.lt_of_own hi hli hk).2.1) ⟨hb.os,hb.tape,hb.output,hb.size,hb.drawn,fun c hc=>by rw [k5] at hc;exact absurd (fun h=>h) hc⟩⟩
   rcases k3 c o v hv with h | h
   ·exact (World.cell?_of_block (w:=w1) (a:=⟨c,o,none⟩) (same c h)).trans (k6.fz c o v hv)
   ·exact hfz c o v h
  cells:=fun t Ys l' w1 c o v hJ hv=>by
   obtain ⟨h1,h2,h3,h4,h5,β',k1,k2,k3,k4,k5,k6⟩:=hJ
   exact k6.fz c o v (k2 c o v hv)
  yield:=fun t Ys l' w1 args b t' hJ hlt hY=>by
   obtain ⟨rfl,h2,h3,h4,h5,β',k1,k2,k3,k4,k5,k6⟩:=hJ
   obtain ⟨x,rfl,hrun,hy,hb'⟩:=hY
   obtain ⟨run,s⟩:=t
   obtain ⟨run',s'⟩:=t'
   simp only at hrun hy hb' h5 k6
   subst hrun hb'
   have hR1:w1.heap[l']?=some (.loop (rec .ready none)):=h5
   have hll:l'<w1.heap.size:=hlt l' h2
   have hDl:D<w1.heap.size:=hlt D h3
   have hrecf:(rec .ready none).fn=fn∧(rec .ready none).tmps=a.tmps∧(rec .ready none).params=ps∧(rec .ready none).assign=assign∧(rec .ready none).body=body:=by rw [hrec];exact ⟨rfl,rfl,rfl,rfl,rfl⟩
   have hyl:=run_yield (P:=E.P) (args:=(encV x).toArray) hR1 (by rw [hrecf.2.2.1,List.size_toArray];exact hps x)
   rw [hrecf.1,hrecf.2.1,hrecf.2.2.1,hrecf.2.2.2.1,hrecf.2.2.2.2] at hyl
   refine ⟨fn,_,assign,body,hyl,?_⟩
   let Bb:Bd:=fun c=>Bd' Ys c∨w1.heap.size≤c
   have hnl:¬ Bb l':=fun h=>h.elim (fun h=>h.2.1 rfl) fun h=>by omega
   have hnD:¬ Bb D:=fun h=>h.elim (fun h=>h.2.2 rfl) fun h=>by omega
   let Fb:World→Fr:=fun w0=>⟨Bb,w0,⟨fun i=>bif decide (i<m) then β'.loc i else none,β'.fz,fun _=>False⟩,0⟩
   have hFb:∀ w0,(Fb w0).ok true true:=fun w0 _=>⟨fun i hi=>by
    by_cases h:i<m
    ·exact Nat.lt_of_lt_of_le h hm
    ·exfalso;apply hi;show (bif decide (i<m) then β'.loc i else none)=none;rw [decide_eq_false h];rfl,rfl⟩
   have hset:=aGX (β:=β') (N:=N) ps.toList (encX x) (encV x) sl0 a.tmps hpN hN (hX β' x) (hslots β' k1 k2)
   have hfold:(ps.zip (encV x).toArray).foldl (fun tmps p=>tmps.setIfInBounds p.1 p.2) a.tmps=(ps.toList.zip (encV x)).foldl (fun t p=>t.setIfInBounds p.1 p.2) a.tmps:=by
    rw [← Array.foldl_toList,Array.toList_zip]
   have hrep1:Rep (Fb w1) N ⟨aK3 sl0 ps.toList (encX x),hpS s,b0+64⟩ { tmps:=(ps.zip (encV x).toArray).foldl (fun tmps p=>tmps.setIfInBounds p.1 p.2) a.tmps,defers:=[] } w1:=by
    refine ⟨β',[],⟨⟨fun i li hi=>?_,fun _ _ _ h=>h⟩,fun _ _=>.inr (Nat.zero_le _),Nat.zero_le _,fun c o h=>.inl h⟩,?_,?_,k4,bJ.refl _ _,fun c hc=>.inr hc,rfl,aFW.nil _ _,?_⟩
    ·change (bif decide (i<m) then β'.loc i else none)=some li at hi
     cases h:decide (i<m) with
     | true=>rw [h] at hi;exact hi
     | false=>rw [h] at hi;cases hi
    ·rw [hfold];exact hset.2
    ·rw [Fr.Bx_nil];exact k6.supL fun c _ h=>.inl h
    ·rw [hfold];exact hset.1
   have hro2:(({ E with rd:=true }:Env).rd=false→(some l':Option Nat)=none):=fun h=>by cases h
   have hok2:∀ w0,(Fb w0).ok ({ E with rd:=true }:Env).cl ({ E with rd:=true }:Env).rd:=fun w0=>by show (Fb w0).ok E.cl true;rw [hcl];exact hFb w0
   refine roundIn_of_wpIn (F:=Fence.wide) trivial ?_
   refine wpIn_mono (hround x s _ s' hy (some l') (Fb w1) _ w1 hro2 (hok2 w1) hrep1) ?_
   intro e a1 w2 hq
   obtain ⟨σ1,q1,hr1⟩:=hq
   cases e with
   | normal=>
    obtain ⟨β1,ds1,g1,g2,g3,g4,g5,g6,g7,g8,g9⟩:=hr1
    have hR2:w2.heap[l']?=some (.loop (rec .ready none)):=(g5.block l' hnl).trans hR1
    refine ⟨_,run_beginRound hR2 (by rw [hrec]),?_⟩
    obtain ⟨w2',hw2'⟩:∃ w2',w2'=w2.putObj l' (.loop { rec .ready none with state:=.busy }):=⟨_,rfl⟩
    rw [← hw2']
    have hs2:w2'.heap.size=w2.heap.size:=by rw [hw2'];simp
    have hR2':w2'.heap[l']?=some (.loop { rec .ready none with state:=.busy }):=by rw [hw2'];exact World.putObj_heap_same (by have:w1.heap.size≤w2.heap.size:=g5.size;omega)
    have ho2:∀ k,k≠l'→w2'.heap[k]?=w2.heap[k]?:=fun k hk=>by rw [hw2'];exact World.putObj_heap_other hk
    have hmk1:∀ E',E'∈ds1→E'≠l':=fun E' hE e=>hnl (e ▸ (g8.at_ E' hE).1)
    have hrep2:Rep (Fb w2') N σ1 a1 w2':=by
     refine ⟨β1,ds1,⟨g1.le,g1.dom,g1.b,g1.fz⟩,g2,?_,g4,bJ.refl _ _,fun c hc=>g6 c (by omega),g7,⟨g8.nodup,fun E' hE=>⟨(g8.at_ E' hE).1,(ho2 E' (hmk1 E' hE)).trans (g8.at_ E' hE).2⟩⟩,g9⟩
     rw [hw2']
     exact g3.poke hR2 (tO hR2) (fun i b li hi hli hk e=>hnl (e ▸ (g3.lt_of_own hi hli hk).2.1)) fun hy=>hnl (g3.ys l' hy).1.1
    refine wpIn_mono (q1 (some l') (Fb w2') a1 w2' hro2 (hok2 w2') hrep2) ?_
    intro e2 a3 w3 hq2
    obtain ⟨σ2,⟨hre,L,hweak⟩,hr2⟩:=hq2
    have hr2':Rep (Fb w2') N ⟨fun _=>.top,σ2.hp,σ2.b⟩ a3 w3:=by
     obtain ⟨β2,ds2,p1,p2,p3⟩:=hr2
     exact ⟨β2,ds2,p1,fun t=>by simp [V],p3⟩
    obtain ⟨β3,ds3,p1,_,p3,p4,p5,p6,_,p8,_⟩:=wT.rep0 hweak (fun i hi=>by
     by_cases h:i<m
     ·exact h
     ·exfalso;apply hi;show (bif decide (i<m) then β'.loc i else none)=none;rw [decide_eq_false h];rfl) rfl hr2'
    simp only at p3 p4
    have hR3:w3.heap[l']?=some (.loop { rec .ready none with state:=.busy }):=(p5.block l' hnl).trans hR2'
    have hle13:w1.heap.size≤w3.heap.size:=by
     have e1:w1.heap.size≤w2.heap.size:=g5.size
     have e2:w2'.heap.size≤w3.heap.size:=p5.size
     omega
    have finish:∀ o':Obj,o'=.loop (recOf run')→∃ Ys',JJ (run',s') Ys' l' (w3.putObj l' o')∧(∀ c,Ys' c→Ys c∨w1.heap.size≤c)∧(∀ c,Ys' c→c<(w3.putObj l' o').heap.size)∧bJ (fun c=>Ys c∨w1.heap.size≤c) w1 (w3.putObj l' o'):=by
     intro o' ho'
     have hoth:∀ k,k≠l'→(w3.putObj l' o').heap[k]?=w3.heap[k]?:=fun k hk=>World.putObj_heap_other hk
     refine ⟨fun c=>(Bb c∧c<w3.heap.size)∨c=l'∨c=D,⟨rfl,.inr (.inl rfl),.inr (.inr rfl),?_,?_,⟨β3.loc,β3.fz,fun _=>False⟩,fun i hi hne=>?_,fun c o v hv=>p1.le.fz c o v (k2 c o v hv),fun c o v hv=>?_,p4,rfl,?_⟩,?_,?_,?_⟩
     ·rw [hoth D (by omega),p5.block D hnD,ho2 D (by omega),g5.block D hnD];exact h4
     ·rw [World.putObj_heap_same (by omega),ho']
     ·have hb:β'.loc i=β.loc i:=k1 i hi hne
      cases e:β.loc i with
      | none=>exact absurd e hne
      | some li=>
       rw [e] at hb
       exact p1.le.loc i li (by show (bif decide (i<m) then β'.loc i else none)=some li;rw [decide_eq_true hi];exact hb)
     ·have hcl3:=aBr (p3.fz c o v hv)
      rcases p1.fz c o (by rw [show β3.fz c o=some v from hv];simp) with h | h
      ·change β'.fz c o≠none at h
       cases e:β'.fz c o with
       | none=>exact absurd e h
       | some u=>
        have:=p1.le.fz c o u e
        rw [show β3.fz c o=some v from hv] at this
        cases this
        rcases k3 c o v e with h | h
        ·left
         by_cases e1:c=l'
         ·exact .inr (.inl e1)
         ·by_cases e2:c=D
          ·exact .inr (.inr e2)
          ·exact .inl ⟨.inl ⟨h,e1,e2⟩,hcl3⟩
        ·exact .inr h
      ·exact .inl (.inl ⟨h,hcl3⟩)
     ·have hq3:=(p3.noys (hngS s')).poke (o':=o') hR3 (tO hR3) (fun i b li hi hli hk e=>hnl (e ▸ (p3.lt_of_own hi hli hk).2.1)) (fun h=>h)
      refine hq3.supL fun c hc h=>⟨.inl ⟨h.1,by simpa using hc⟩,fun e=>hnl (e ▸ h.1),fun e=>hnD (e ▸ h.1)⟩
     ·rintro c (⟨h | h,_⟩ | rfl | rfl)
      ·exact .inl h.1
      ·exact .inr h
      ·exact .inl h2
      ·exact .inl h3
     ·rintro c (⟨_,h⟩ | rfl | rfl)
      ·simpa using h
      ·simp;omega
      ·simp;omega
     ·have hBb:∀ c,Bb c→Ys c∨w1.heap.size≤c:=fun c h=>h.imp (fun h=>h.1) id
      have c1:=g5.weaken hBb
      have c2:bJ (fun c=>Ys c∨w1.heap.size≤c) w2 w2':=by rw [hw2'];exact ⟨rfl,rfl,rfl,by simp,Nat.le_refl _,fun k hk=>World.putObj_heap_other fun e=>hk (.inl (e ▸ h2))⟩
      have c3:=p5.weaken hBb
      have c4:bJ (fun c=>Ys c∨w1.heap.size≤c) w3 (w3.putObj l' o'):=⟨rfl,rfl,rfl,by simp,Nat.le_refl _,fun k hk=>World.putObj_heap_other fun e=>hk (.inl (e ▸ h2))⟩
      exact ((c1.trans c2).trans c3).trans c4
    cases e2 with
    | normal=>
     have hb1:run'=true:=hre
     subst hb1
     refine ⟨_,_,run_endRound none hR3,rfl,finish _ ?_⟩
     show _=Obj.loop (rec .ready none)
     rw [hrec];rfl
    | exit id=>
     obtain ⟨hb1,hid⟩:run'=false∧id=out:=hre
     subst hb1 hid
     refine ⟨_,_,run_endRound (some (.exit id)) hR3,rfl,finish _ ?_⟩
     show _=Obj.loop (rec .done (some (.exit id)))
     rw [hrec];rfl
    | _=>exact hre.elim
   | _=>exact q1.elim }
 obtain ⟨r,hTr⟩:=hrow G rfl fun x s b s' hy=>⟨x,rfl,rfl,hy,rfl⟩
 obtain ⟨henter,hcalls⟩:=E.hT _ _ _ _ _ _ hTr
 let βg:cN:=⟨fun i=>if i=b0 then some ⟨l,0,0⟩ else β.loc i,β.fz,Ys0⟩
 have hβg:∀ i,i≠b0→βg i=β i:=fun i hi=>by show (if i=b0 then _ else _)=_;rw [if_neg hi]
 have hleg:∀ i li,β i=some li→βg i=some li:=fun i li h=>(hβg i fun e=>by rw [e,hβb0] at h;cases h).trans h
 have hβγ:βg b0=some ⟨l,0,0⟩:=by show (if b0=b0 then _ else _)=_;simp
 have hH1:cL β hp0 W1 B1:=hH.keep hbw1
 let Hit:Bool×S→bH:=fun t i=>if i=b0 then some (.gh (Bool×S) G t) else bif bw i then hp0 i else none
 have hit:∀ {t i b},Hit t i=some b→(i=b0∧b=.gh (Bool×S) G t)∨(i≠b0∧bw i=true∧hp0 i=some b):=fun {t i b} h=>by
  change (if i=b0 then _ else _)=some b at h
  split at h
  ·rename_i e;cases h;exact .inl ⟨e,rfl⟩
  ·rename_i e
   cases e':bw i with
   | true=>rw [e'] at h;exact .inr ⟨e,rfl,h⟩
   | false=>rw [e'] at h;cases h
 have mapOnly:∀ {i cs},bw i=true→hp0 i=some (.cells cs)→False:=fun {i cs} h1 h2=>by obtain ⟨_,es,clk,h3,_⟩:=hbw i h1;rw [h2] at h3;cases h3
 have ghOnly:∀ {i S' G' s'},bw i=true→hp0 i=some (.gh S' G' s')→False:=fun {i S' G' s'} h1 h2=>by obtain ⟨_,es,clk,h3,_⟩:=hbw i h1;rw [h2] at h3;cases h3
 have mapsOnly:∀ {t i sz es clk ho},Hit t i=some (.maps sz es clk ho)→False:=fun {t i sz es clk ho} h=>by
  rcases hit h with ⟨_,h⟩ | ⟨_,h1,h2⟩
  ·cases h
  ·obtain ⟨_,es,clk,h3,_⟩:=hbw i h1;rw [h2] at h3;cases h3
 have hVg:∀ (a:AV) (v:Value),V β a v→V βg a v:=fun a v h=>kU (β:=β) (β':=βg) ⟨hleg,fun _ _ _ h=>h⟩ _ _ h
 have hHg:cL βg (Hit (true,s0)) W1 B1:=by
  refine ⟨hH1.fz,hH1.gb,fun i cs hi=>?_,fun i es clk hi=>?_,fun i j bi bj li lj hij hi hj ei ej pi pj=>?_,fun c hc=>⟨hc.1,hc.2.1⟩,fun i b li hi hli hk hc=>?_,fun i S' G' s' hi=>?_,fun i j S1 G1 s1 S2 G2 s2 hi hj=>?_,fun i sz es clk ho hi=>(mapsOnly hi).elim,fun i j sz es clk ho b hi _ _=>(mapsOnly hi).elim⟩
  ·rcases hit hi with ⟨_,h⟩ | ⟨_,h1,h2⟩
   ·cases h
   ·exact (mapOnly h1 h2).elim
  ·rcases hit hi with ⟨_,h⟩ | ⟨h0,h1,h2⟩
   ·cases h
   ·obtain ⟨li,g1,g2,g3,ents,g4,m⟩:=hH1.map i es clk h2
    exact ⟨li,hleg i li g1,g2,g3,ents,g4,m.mono (β':=βg) ⟨hleg,fun _ _ _ h=>h⟩⟩
  ·rcases hit hi with ⟨e1,h1⟩ | ⟨e1,h1,h2⟩
   ·rw [e1,hβγ] at ei;cases ei;simp at pi
   ·rcases hit hj with ⟨e2,k1⟩ | ⟨e2,k1,k2⟩
    ·rw [e2,hβγ] at ej;cases ej;simp at pj
    ·rw [hβg i e1] at ei;rw [hβg j e2] at ej
     exact hH1.sep i j bi bj li lj hij h2 k2 ei ej pi pj
  ·rcases hit hi with ⟨e1,h1⟩ | ⟨e1,h1,h2⟩
   ·rw [e1,hβγ] at hli;cases hli;simp at hk
   ·rw [hβg i e1] at hli
    exact hc.2.2 i li h1 hli rfl
  ·rcases hit hi with ⟨e1,h1⟩ | ⟨e1,h1,h2⟩
   ·cases h1
    rw [e1]
    refine ⟨⟨l,0,0⟩,hβγ,rfl,⟨rfl,ysl,ysD,hD1,hL1,⟨β.loc,β.fz,fun _=>False⟩,fun i _ _=>rfl,fun c o v h=>h,fun c o v h=>.inr h,fun j hj=>Nat.lt_of_lt_of_le (hnm j hj) (by show b0≤b0+64;omega),rfl,?_⟩,fun c o v _ h=>h,fun c o v h=>h⟩
    have hsub:cL β (hpS s0) W1 B1:=hH1.sub hs0
    refine (hsub.noys (hngS s0)).supI (fun i b li hi hli hk=>?_) (fun c hc=>hc.elim)
    obtain ⟨q1,q2⟩:=hH.lt_of_own (hs0 i b hi) hli hk
    refine ⟨⟨q2,by omega,fun i' li' g1 g2 e=>?_⟩,by omega,by omega⟩
    obtain ⟨_,es,clk,g3,_⟩:=hbw i' g1
    exact hH.sep i i' b _ li li' (fun e=>by subst e;have:=(hng s0 i b hi).2;rw [g1] at this;cases this) (hs0 i b hi) g3 hli g2 hk (hbwlt i' li' g1 g2).2 e
   ·exact (ghOnly h1 h2).elim
  ·rcases hit hi with ⟨e1,_⟩ | ⟨e1,h1,h2⟩
   ·rcases hit hj with ⟨e2,_⟩ | ⟨e2,k1,k2⟩
    ·rw [e1,e2]
    ·exact (ghOnly k1 k2).elim
   ·exact (ghOnly h1 h2).elim
 have hargs:Vs βg (.yld b0::caps') (.func (.yield l) #[] #[]::cv):=by
  refine ⟨_,_,rfl,?_,hcaps βg cv ?_⟩
  ·simp only [V];exact ⟨_,hβγ,rfl⟩
  ·exact rK (β:=β) (β':=βg) ⟨hleg,fun _ _ _ h=>h⟩ _ _ hcv
 have hcall:=hcalls B1 W1 βg (.func (.yield l) #[] #[]::cv) (fun j hj=>by
  by_cases e:j=b0
  ·subst e;omega
  ·rw [hβg j e] at hj;have:=hnm j hj;simp only at this;omega) hHg (fun c hc=>hB1top c (by omega)) hargs
 refine ⟨l,[aOi D],W1,{ target:=.fn (.func gf) cv.toArray,args:=#[.func (.yield l) #[] #[]] },W1,gf,(.func (.yield l) #[] #[]::cv).toArray,W1,?_,?_,fun _ _=>trivial,?_,(by intro h;cases h),xH (hcall.mono ?_)⟩
 ·rw [hW1,hrec,hl,hD];exact run_enterLoop_outer _ _ _ _ _
 ·simp only [resolve,hgv]
  simp [Deferred.ofValue,Act.eval]
 ·simp [invoke,henter]
 rintro e we ⟨v,βf,rfl,hext,_,hHf,hbelf⟩
 have hγf:βf b0=some ⟨l,0,0⟩:=hext.le.loc _ _ hβγ
 have hitb0:(fun i=>if i=b0 then some (AB.gh (Bool×S) G fin) else bif bw i then hp0 i else none) b0=some (AB.gh (Bool×S) G fin):=by simp
 obtain ⟨lf,q1,_,hJ,_,_⟩:=hHf.gh b0 _ G fin hitb0
 rw [hγf] at q1;cases q1
 obtain ⟨_,h2,h3,h4,h5,β',k1,k2,k3,k4,k5,k6⟩:=hJ
 have hnb:(recOf fin.1).state≠.busy:=by
  show (if fin.1 then rec .ready none else rec .done (some (.exit out))).state≠.busy
  rw [hrec];cases fin.1<;>simp
 refine ⟨_,_,run_endLoop h5 hnb,?_⟩
 obtain ⟨o',ho'⟩:∃ o',o'=Obj.loop { recOf fin.1 with state:=.exhausted }:=⟨_,rfl⟩
 rw [← ho']
 have hoth:∀ k,k≠l→(we.putObj l o').heap[k]?=we.heap[k]?:=fun k hk=>World.putObj_heap_other hk
 have hsz:(we.putObj l o').heap.size=we.heap.size:=by simp
 have hsame:∀ c,¬ B1 c→we.heap[c]?=W1.heap[c]?:=fun c hc=>hbelf.block c hc
 have hbwf:∀ i li,bw i=true→β i=some li→βf i=some li∧i≠b0:=fun i li h1 h2=>⟨hext.le.loc _ _ (hleg i li h2),fun e=>by subst e;rw [hβb0] at h2;cases h2⟩
 have hbwm:∀ i,bw i=true→∃ es clk li,hp0 i=some (.map es clk)∧β i=some li∧β' i=some li∧0<li.k∧B1 li.c∧li.c≠l∧li.c≠D∧¬ βf.ys li.c∧∃ ents,we.heap[li.c]?=some (.map ents clk)∧aAC β' es ents:=fun i hi=>by
  obtain ⟨hi64,es,clk,g1,g2⟩:=hbw i hi
  obtain ⟨li,p1,p2,p3,_⟩:=hH.map i es clk g1
  obtain ⟨r1,r2⟩:=hbwf i li hi p1
  have hitI:(fun i=>if i=b0 then some (AB.gh (Bool×S) G fin) else bif bw i then hp0 i else none) i=some (.map es clk):=by simp [r2,hi,g1]
  obtain ⟨li',t1,t2,t3,ents,t4,m⟩:=hHf.map i es clk hitI
  rw [r1] at t1;cases t1
  have hlt:=(hbwlt i li hi p1).1
  refine ⟨es,clk,li,g1,p1,(k1 i hi64 (by rw [p1];simp)).trans p1,p2,p3,by omega,by omega,hHf.yo i _ li hitI r1 p2,ents,t4,m.len,fun j p hp=>?_⟩
  obtain ⟨e,e1,e2,e3,e4⟩:=m.rel j p hp
  obtain ⟨pl1,pl2⟩:=g2 p (List.mem_of_getElem? hp)
  exact ⟨e,e1,e2,pl1 _ _ _ e3,pl2 _ _ _ e4⟩
 have hE:∀ i b,(bif bw i then hp0 i else hpS fin.2 i)=some b→(bw i=true∧hp0 i=some b)∨(bw i=false∧hpS fin.2 i=some b):=fun i b h=>by
  cases e:bw i with
  | true=>rw [e] at h;exact .inl ⟨rfl,h⟩
  | false=>rw [e] at h;exact .inr ⟨rfl,h⟩
 have mapsE:∀ {i sz es clk ho},(bif bw i then hp0 i else hpS fin.2 i)=some (.maps sz es clk ho)→False:=fun {i sz es clk ho} h=>by
  rcases hE i _ h with ⟨h1,h2⟩ | ⟨h1,h2⟩
  ·obtain ⟨_,es,clk,h3,_⟩:=hbw i h1;rw [h2] at h3;cases h3
  ·have:=(hng fin.2 i _ h2).1;cases this
 have hysB:∀ c,βf.ys c→B1 c:=fun c hc=>(hHf.ys c hc).1
 have hfin:cL β' (fun i=>bif bw i then hp0 i else hpS fin.2 i) we (fun c=>(F.Bx ds) c∧c≠D∧c≠l):=by
  refine ⟨k6.fz,k6.gb,fun i cs hi=>?_,fun i es clk hi=>?_,fun i j bi bj li lj hij hi hj ei ej pi pj=>?_,fun c hc=>by rw [k5] at hc;exact hc.elim,fun i b li hi hli hk hc=>by rw [k5] at hc;exact hc.elim,fun i S' G' s' hi=>?_,fun i j S1 G1 s1 S2 G2 s2 hi hj=>?_,fun i sz es clk ho hi=>(mapsE hi).elim,fun i j sz es clk ho b hi _ _=>(mapsE hi).elim⟩
  ·rcases hE i _ hi with ⟨g1,g2⟩ | ⟨g1,g2⟩
   ·exact (mapOnly g1 g2).elim
   ·obtain ⟨li,p1,p2,p3⟩:=k6.own i cs g2
    refine ⟨li,p1,p2,fun hk=>?_⟩
    obtain ⟨a1,a2⟩:=p3 hk
    exact ⟨⟨hysB _ a1.1,a1.2.2,a1.2.1⟩,a2⟩
  ·rcases hE i _ hi with ⟨g1,g2⟩ | ⟨g1,g2⟩
   ·obtain ⟨es',clk',li,p1,p2,p3,p4,p5,p6,p7,_,ents,p8,p9⟩:=hbwm i g1
    rw [g2] at p1;cases p1
    exact ⟨li,p3,p4,⟨p5,p7,p6⟩,ents,p8,p9⟩
   ·obtain ⟨li,p1,p2,p3,p4⟩:=k6.map i es clk g2
    exact ⟨li,p1,p2,⟨hysB _ p3.1,p3.2.2,p3.2.1⟩,p4⟩
  ·rcases hE i _ hi with ⟨g1,g2⟩ | ⟨g1,g2⟩
   ·obtain ⟨es',clk',li',p1,p2,p3,p4,p5,p6,p7,p8,_⟩:=hbwm i g1
    rw [p3] at ei;cases ei
    rcases hE j _ hj with ⟨q1,q2⟩ | ⟨q1,q2⟩
    ·obtain ⟨es2,clk2,lj',r1,r2,r3,r4,_⟩:=hbwm j q1
     rw [r3] at ej;cases ej
     exact hH.sep i j _ _ _ _ hij g2 q2 p2 r2 pi pj
    ·exact fun e=>p8 (e ▸ (k6.lt_of_own q2 ej pj).2.1)
   ·rcases hE j _ hj with ⟨q1,q2⟩ | ⟨q1,q2⟩
    ·obtain ⟨es2,clk2,lj',r1,r2,r3,r4,r5,r6,r7,r8,_⟩:=hbwm j q1
     rw [r3] at ej;cases ej
     exact fun e=>r8 (e ▸ (k6.lt_of_own g2 ei pi).2.1)
    ·exact k6.sep i j _ _ _ _ hij g2 q2 ei ej pi pj
  ·rcases hE i _ hi with ⟨g1,g2⟩ | ⟨g1,g2⟩
   ·exact (ghOnly g1 g2).elim
   ·have:=hngS _ _ _ g2;cases this
  ·rcases hE i _ hi with ⟨g1,g2⟩ | ⟨g1,g2⟩
   ·exact (ghOnly g1 g2).elim
   ·have:=hngS _ _ _ g2;cases this
 have hrep:Rep F N ⟨sl0,fun i=>bif bw i then hp0 i else hpS fin.2 i,b0+64⟩ { a with defers:=[aOi D]++a.defers } (we.putObj l o'):=by
  refine ⟨β',D::ds,⟨⟨fun i li hi=>?_,fun c o v h=>k2 c o v (hsince.le.fz c o v h)⟩,fun j _=>.inr (by rw [hF2];exact Nat.zero_le _),by rw [hF2];exact Nat.zero_le _,fun c o hc=>?_⟩,hslots β' k1 k2,?_,k4,?_,htop.mono ?_,?_,⟨?_,fun D' hD'=>?_⟩,hN⟩
  ·have h32:=hF32 i (by rw [show F.β0.loc i=some li from hi];simp)
   have hb:=hsince.le.loc i li hi
   exact (k1 i (by omega) (by rw [show β.loc i=some li from hb];simp)).trans hb
  ·cases e:β'.fz c o with
   | none=>exact absurd e hc
   | some u=>
    rcases k3 c o u e with h | h
    ·exact .inr (hysB c h).1
    ·exact hsince.fz c o (by rw [h];simp)
  ·have:=hfin.poke (o':=o') h5 (tO h5) (fun i b li hi hli hk e=>(hfin.lt_of_own hi hli hk).2.2.2 e) (by rw [k5];exact fun h=>h)
   exact this.sup fun c hc=>⟨hc.1.1,fun hm=>by
    rcases List.mem_cons.1 hm with h | h
    ·exact hc.2.1 h
    ·exact hc.1.2 h⟩
  ·refine (hbel.trans (.of htop hbw1)).trans ((hbelf.weaken fun c hc=>hc.1).trans ⟨rfl,rfl,rfl,by simp,Nat.le_refl _,fun k hk=>World.putObj_heap_other fun e=>hk (e ▸ (ysl.1).1)⟩)
  ·rw [hsz];have:=hbelf.size;omega
  ·simp [hdf]
  ·rw [List.nodup_cons]
   refine ⟨fun hm=>?_,hmk.nodup⟩
   have:=(Array.getElem?_eq_some_iff.1 (hmk.at_ D hm).2).1
   omega
  ·rcases List.mem_cons.1 hD' with rfl | hm
   ·exact ⟨(ysD.1).1,by rw [hoth _ (by omega)];exact h4⟩
   ·obtain ⟨m1,m2⟩:=hmk.at_ D' hm
    have hlt:=(Array.getElem?_eq_some_iff.1 m2).1
    exact ⟨m1,by rw [hoth _ (by omega),hsame D' (fun h=>h.2 hm),hbw1.block D' (Nat.not_le.2 hlt)];exact m2⟩
 have hpend:(recOf fin.1).pending=if fin.1 then none else some (.exit out):=by
  show (if fin.1 then rec .ready none else rec .done (some (.exit out))).pending=_
  rw [hrec];cases fin.1<;>rfl
 rw [hpend]
 cases hfc:fin.1 with
 | true=>exact ⟨_,hend1 hfc,hrep⟩
 | false=>exact wpIn_exit ⟨_,hend2 hfc,hrep⟩
theorem aK8 (m:Nat) (hm:m≤64) (hm32:32≤m) {E:Env} {N:Nat} {Q:Exit→AS→Prop} {g:Operand} {ps:Array Tmp} {assign body:Code} {l:List (Nat×AV)} {b0:Nat} (hrd:E.rd=false) (hcl:E.cl=true)
  {X S:Type} (encX:X→List AV) {encV:X→List Value} (hX:∀ β x,Vs β (encX x) (encV x)) (hps:∀ x,(encV x).length=ps.size) (hpN:∀ p∈ps.toList,p<N)
  {gf:FuncId} {caps:List AV} {C:List AV→(∀ σ:Type,(X→σ→Option σ)→σ→Option σ)→Prop} (hT:E.T gf=itR E.P encV C) (hg:evA (ofL l) g=.fn gf [] caps) {F:∀ σ:Type,(X→σ→Option σ)→σ→Option σ} {y:X→S→Option S} {s0 fin:S} (hF:F S y s0=some fin) (hC:C caps F)
  (hb0:64≤b0) (h64:∀ t,((ofL l) t).am m) (hpS:S→List (Nat×AB)) (hng:∀ s,aAw (fun p=>aAK p.2=true) (hpS s))
  (hround:∀ x s s',W (y x s) (fun t=>t=s')→HT { E with rd:=true } N assign ⟨aK3 (ofL l) ps.toList (encX x),ofH (hpS s),b0+64⟩ (aFA (fun σ1=>HT { E with rd:=true } N body σ1 fun e σ2=>
   e=.normal∧∃ L,wT m L ⟨ofL [],σ2.hp,σ2.b⟩ ⟨ofL [],ofH (hpS s'),b0+64⟩) fun _ _=>False))
  (hend:Q .normal ⟨ofL l,ofH (hpS fin),b0+64⟩) :
  HT E N (.rangeFunc g ps assign body) ⟨ofL l,ofH (hpS s0),b0⟩ Q:=by
 refine aM0 m hm hm32 (X:=X) (S:=S) hrd hcl encX encV hX hps hpN hg (WkL.refl _) 999 hb0 h64 (fun _=>false) (fun i hi=>by cases hi) (fun s=>ofH (hpS s)) (fun s i b h=>⟨uL (hng s) _ (aBX h),rfl⟩)
  (fun x s=>(y x s).map fun s'=>(true,s')) s0 (fun i b h=>h) (true,fin) (fun G hP hy=>?_) (fun x s b s' hy=>?_) (fun _=>hend) (fun h=>by cases h)
 ·refine ⟨.tup [],?_⟩
  have e:(fun i=>if i=b0 then some (AB.gh (Bool×S) G (true,fin)) else bif (fun _=>false) i then ofH (hpS s0) i else none)=upd (fun i=>if i=b0 then some (.gh (Bool×S) G (true,s0)) else bif (fun _=>false) i then ofH (hpS s0) i else none) b0 (some (.gh (Bool×S) G (true,fin))):=by
   funext i;unfold upd;split
   ·rfl
   ·rename_i h;simp only [h,if_false]
  rw [e,hT]
  exact ⟨Bool×S,G,S,fun s=>(true,s),y,s0,fin,b0,caps,F,rfl,hC,by simp,hP,fun x s s' h=>hy x s true s' (by simp [h]),hF,rfl,rfl⟩
 ·obtain ⟨s1,h1,h2⟩:=Option.map_eq_some_iff.1 hy
  obtain ⟨rfl,rfl⟩:b=true∧s1=s':=by cases h2;exact ⟨rfl,rfl⟩
  refine (hround x s s1 (lR h1 rfl)).mono fun e σ h=>?_
  cases e with
  | normal=>exact HT.mono h fun e' σ' ⟨h1,h2⟩=>⟨by rw [h1];rfl,h2⟩
  | _=>exact h
theorem aMz {m:Nat}:∀ {l:List (Nat×AV)},aAw (fun p=>p.2.am m) l→∀ t,(ofL l t).am m
 | [],_,t=>aG2 xZ
 | (u,a)::l,h,t=>by
  show (bif t==u then a else ofL l t).am m
  cases t==u
  ·exact aMz h.2 t
  ·exact h.1
theorem aJq (i:Nat):qI [(64,some 48),(48,none)] i=if i=64 then some (some 48) else if i=48 then some none else if i<64 then some (some i) else none:=by
 simp only [qI]
 by_cases h1:i=64
 ·simp [h1]
 ·by_cases h2:i=48
  ·simp [h2]
  ·simp only [h1,h2,if_false]
   by_cases h3:i<64<;>simp [h3]
theorem aNC {sl:Nat→AV} {hp:bH} {b b':Nat} {l:List (Nat×AV)} {hs:List (Nat×AB)} (hb:65≤b') (h1:aAw (fun p=>WkR [(64,some 48),(48,none)] (sl p.1) p.2) l)
  (h2:aAw (fun p=>∃ o,qI [(64,some 48),(48,none)] p.1=some o∧BkR [(64,some 48),(48,none)] hp p.1 o p.2) hs):wT 32 [(64,some 48),(48,none)] ⟨sl,hp,b⟩ ⟨ofL l,ofH hs,b'⟩ where
 sl:=aJk (uL h1)
 hp i c hi:=uL h2 _ (aBX hi)
 inj i j o e1 e2:=by
  rw [aJq] at e1 e2
  repeat' split at e1
  all_goals (repeat' split at e2)
  all_goals (simp at e1 e2)
  all_goals omega
 b i o e:=by
  rw [aJq] at e
  show i<b'
  repeat' split at e
  all_goals (first | omega | cases e)
 anc i hi:=by
  rw [aJq,if_neg (by omega),if_neg (by omega),if_pos (by omega)]
end Go.Eng
namespace Go.Eng
open Go
variable {P:Program}
def aRz (i j:Nat) (hs:List (Nat×AB)):List (Nat×AB):=hs.map fun p=>bif p.1==i then (p.1,.cells [.mp j]) else p
theorem aKV {E:Env} {N:Nat} {c:Code} {σ:AS} {Q:Exit→AS→Prop} (hcl:E.cl=true) (hrd:E.rd=false) (ts:List Nat) (rs:List (Nat×Nat)) (i j:Nat)
  (H:vX (aRW σ rs ts) fun l=>jR (aRz i j (aSf σ rs)) fun hs=>iP σ.b fun b=>(∃ L,wT 32 L σ ⟨ofL l,ofH hs,b⟩)∧HT E N c ⟨ofL l,ofH hs,b⟩ Q):HT E N c σ Q:=by
 rw [pW,fP,cZ] at H
 obtain ⟨⟨L,h1⟩,h2⟩:=H
 exact aE0 hcl hrd (Nat.le_refl _) h1 h2
inductive CD where
 | v (a:AV)
 | p (j:Nat)
 | m (j:Nat)
def CD.at (n:Nat→Nat):CD→AV
 | .v a=>a
 | .p j=>.ptr (n j) 0
 | .m j=>.ep [.mp (n j)] 0
def CDs (n:Nat→Nat):List CD→List AV
 | []=>[]
 | c::cs=>c.at n::CDs n cs
inductive BD where
 | ab (b:AB)
 | fn (f:FuncId) (caps:List CD)
def BD.at (n:Nat→Nat):BD→AB
 | .ab b=>b
 | .fn f caps=>.cells [.fn f [] (CDs n caps)]
def nmI:List Nat→Nat→Nat
 | [],_=>0
 | i::_,0=>i
 | _::is,j+1=>nmI is j
def idN (j:Nat):Nat:=j
theorem aE1 {ids:List Nat} {j:Nat} (h:j<ids.length):ids[j]?=some (nmI ids j):=by
 induction ids generalizing j with
 | nil=>simp at h
 | cons i is ih=>
  cases j with
  | zero=>rfl
  | succ j=>simpa [nmI] using ih (j:=j) (by simpa using h)
def CD.ok (n:Nat):CD→Prop
 | .v a=>a.loose
 | .p j=>j<n
 | .m j=>j<n
universe u
def aNc {α:Type u} (p:α→Prop):List α→Prop
 | []=>True
 | a::l=>p a∧aNc p l
theorem yU {α:Type u} {p:α→Prop}:∀ {l:List α},aNc p l→∀ a∈l,p a
 | _::_,h,a,ha=>by
  rcases List.mem_cons.1 ha with e | e
  ·exact e ▸ h.1
  ·exact yU h.2 a e
def abL:AB→Prop
 | .cells cs=>∀ a∈cs,a.loose
 | .map es _=>∀ p∈es,p.2.1.loose∧p.2.2.loose
 | _=>False
def BD.ok (n:Nat):BD→Prop
 | .ab b=>abL b
 | .fn _ caps=>aNc (CD.ok n) caps
theorem aPu {ids:List Nat} {c:CD} (h:c.ok ids.length):WkA ids (c.at (nmI ids)) (c.at idN):=by
 cases c with
 | v a=>exact cM h
 | p j=>exact jJ (aE1 h)
 | m j=>exact aFR (wI (aFS (aE1 h)) xD)
theorem aQ2 {ids ns:List Nat} {base:Nat} {c:CD} (h:c.ok ids.length):WkB (mm ids ns base) (c.at idN) (c.at (nmI ids)):=by
 cases c with
 | v a=>exact sI (Wk.refl _) h
 | p j=>exact aMZ (aMj (aE1 h))
 | m j=>exact aQN (tG (aQ8 (aMj (aE1 h))) xF)
theorem aJ0 {ids:List Nat}:∀ {cs:List CD},aNc (CD.ok ids.length) cs→VsA ids (CDs (nmI ids) cs) (CDs idN cs)
 | [],_=>xD
 | _::_,h=>wI (aPu h.1) (aJ0 h.2)
theorem aKd {ids ns:List Nat} {base:Nat}:∀ {cs:List CD},aNc (CD.ok ids.length) cs→VsB (mm ids ns base) (CDs idN cs) (CDs (nmI ids) cs)
 | [],_=>xF
 | _::_,h=>tG (aQ2 h.1) (aKd h.2)
inductive BkW:AB→AB→Prop where
 | refl (b:AB):BkW b b
 | part {as bs cs:List AV} (h:aBb Wk as bs):BkW (.cells (as++cs)) (.cells bs)
theorem aHZ {α β:Type} {R S:α→β→Prop} {as:List α} {bs:List β} (k:aBb R as bs) (h:∀ a,∀ b∈bs,R a b→S a b):aBb S as bs:=by
 induction k with
 | nil=>exact .nil
 | cons a _ ih=>exact .cons (h _ _ List.mem_cons_self a) (ih fun a b hb=>h a b (List.mem_cons_of_mem _ hb))
theorem aPL {R:AV→AV→Prop} (hR:∀ a b,Wk a b→b.loose→R a b) {b1 b:AB} (h:BkW b1 b) (k:abL b):BkX R b1 b:=by
 have same:abL b→BkX R b b:=fun k=>by
  cases b with
  | cells cs=>exact .cells (tU fun a ha=>hR _ _ (Wk.refl _) (k a ha))
  | map es clk=>exact .map (tU fun p hp=>⟨rfl,hR _ _ (Wk.refl _) (k p hp).1,hR _ _ (Wk.refl _) (k p hp).2⟩)
  | _=>exact k.elim
 cases h with
 | refl=>exact same k
 | part h=>exact .part (aHZ h fun a b hb hw=>hR a b hw (k b hb))
def aTw (hp:bH) (n:Nat→Nat) (i:Nat):BD→Prop
 | .ab b=>∃ b1,hp i=some b1∧BkW b1 b
 | .fn f caps=>hp i=some ((BD.fn f caps).at n)
def aJE (hp:bH) (n:Nat→Nat):List Nat→List BD→Prop
 | [],[]=>True
 | i::is,b::bs=>aTw hp n i b∧aJE hp n is bs
 | _,_=>False
theorem aFP {hp:bH} {n:Nat→Nat}:∀ {ids:List Nat} {bs:List BD},aJE hp n ids bs→bs.length=ids.length
 | [],[],_=>rfl
 | _::_,_::_,h=>by simp [aFP h.2]
 | [],_::_,h=>h.elim
 | _::_,[],h=>h.elim
theorem aF7 {hp:bH} {n:Nat→Nat}:∀ {ids:List Nat} {bs:List BD},aJE hp n ids bs→∀ (j i:Nat) (b:BD),ids[j]?=some i→bs[j]?=some b→aTw hp n i b
 | [],[],_,j,i,b,h1,_=>by simp at h1
 | i::is,b::bs,h,0,_,_,h1,h2=>by simp at h1 h2;subst h1 h2;exact h.1
 | i::is,b::bs,h,j+1,_,_,h1,h2=>aF7 h.2 j _ _ (by simpa using h1) (by simpa using h2)
 | [],_::_,h,_,_,_,_,_=>h.elim
 | _::_,[],h,_,_,_,_,_=>h.elim
def aOb (H:bH) (n:Nat→Nat):List Nat→List BD→bH
 | i::is,b::bs=>upd (aOb H n is bs) i (some (b.at n))
 | i::is,[]=>upd (aOb H n is []) i none
 | [],_=>H
theorem aEe {H:bH} {n:Nat→Nat}:∀ {ids:List Nat} {bs:List BD} {i:Nat} {x:AB},aOb H n ids bs i=some x→(i ∉ ids∧H i=some x)∨∃ (j:Nat) (b:BD),ids[j]?=some i∧bs[j]?=some b∧x=b.at n
 | [],_,i,x,h=>.inl ⟨by simp,h⟩
 | a::as,b::bs,i,x,h=>by
  unfold aOb at h
  by_cases e:i=a
  ·subst e;rw [mY] at h;cases h;exact .inr ⟨0,b,by simp,by simp,rfl⟩
  ·rw [aY _ _ e] at h
   rcases aEe h with ⟨h1,h2⟩ | ⟨j,c,h1,h2,h3⟩
   ·exact .inl ⟨by simp [e,h1],h2⟩
   ·exact .inr ⟨j+1,c,by simpa using h1,by simpa using h2,h3⟩
 | a::as,[],i,x,h=>by
  unfold aOb at h
  by_cases e:i=a
  ·subst e;rw [mY] at h;cases h
  ·rw [aY _ _ e] at h
   rcases aEe h with ⟨h1,h2⟩ | ⟨j,c,h1,h2,h3⟩
   ·exact .inl ⟨by simp [e,h1],h2⟩
   ·simp at h2
def wS (S:List AV→List BD→AV→List BD→Prop):aAb:=fun args H _ r H'=>
 ∃ ids args0 bs bs',S args0 bs r bs'∧aCO ids=true∧ids.length≤32∧aBb (WkA ids) args args0∧aJE H (nmI ids) ids bs∧H'=aOb H (nmI ids) ids bs'
def BkE (hp:bH) (j:Nat):BD→Prop
 | .ab b=>∃ b0,hp j=some b0∧BkW b0 b
 | .fn f caps=>hp j=some ((BD.fn f caps).at idN)
def aH3 (hp:bH):Nat→List BD→Prop
 | _,[]=>True
 | n,b::bs=>BkE hp n b∧aH3 hp (n+1) bs
theorem aFc {hp:bH}:∀ {bs:List BD} {n:Nat},aH3 hp n bs→∀ (j:Nat) (b:BD),bs[j]?=some b→BkE hp (n+j) b
 | _::_,n,h,0,b,e=>by simp at e;subst e;exact h.1
 | _::bs,n,h,j+1,b,e=>by
  have:=aFc h.2 j b (by simpa using e)
  rwa [show n+1+j=n+(j+1) by omega] at this
 | [],_,_,_,_,e=>by simp at e
def aQB (P:Program) (rs:Array ResultVar) (r:AV) (bs':List BD):Exit→AS→Prop:=fun e σ=>match e with
 | .normal | .ret=>∃ r1,aGH P rs σ=some r1∧Wk r1 r∧aH3 σ.hp 0 bs'
 | _=>False
theorem aJf {b:BD} {n:Nat} (h:b.ok n) (m:Nat→Nat):aAK (b.at m)=true:=by
 cases b with
 | fn f caps=>rfl
 | ab b=>cases b<;>first | rfl | exact h.elim
def aTF (bs:List BD):bH:=ofB (bs.map (BD.at idN))
theorem yO {T:Tbl} {pf:FuncId→Bool} (hT:TOk P T) (hpf:cP T pf) {f:FuncId} {fn:Func} {c:Code} {S:List AV→List BD→AV→List BD→Prop} {N:Nat} {rs:Array ResultVar}
  (hf:P.funcs[f]?=some fn) (hb:fn.body=some c) (hN:fn.ntmps=N) (hrs:fn.results=rs) (hn:(fn.name == "runtime.NumGoroutine")=false)
  (h:∀ args bs r bs',S args bs r bs'→args.length≤N∧bs'.length≤bs.length∧r.loose∧aNc (BD.ok bs.length) bs∧aNc (BD.ok bs.length) bs' ∧
   HT ⟨P,T,pf,true,false,hT,hpf⟩ N c ⟨aCs args,aTF bs,64⟩ (aQB P rs r bs')):FOk P f (wS S):=by
 refine aHc hT hpf hf hb hN hrs hn ?_
 rintro args H base r H' ⟨ids,args0,bs,bs',hS,hnd,h32,hargs,hblk,rfl⟩
 obtain ⟨hle,hl,hr,hlo,hlo',hh⟩:=h args0 bs r bs' hS
 have hlen:=aFP hblk
 rw [hlen] at hlo hlo'
 refine ⟨ids,args0,bs.map (BD.at idN),bs'.map (BD.at (nmI ids)),[],by rw [hargs.len];exact hle,h32,Nat.zero_le _,aBz hnd,by simp [hlen],hargs,(fun j i b h1 h2=>?_),(fun k b h=>by simp at h),(fun j b h2=>?_),(fun i b h=>?_),?_⟩
 ·rw [List.getElem?_map] at h2
  obtain ⟨d,h3,rfl⟩:=Option.map_eq_some_iff.1 h2
  have hd:=yU hlo d (List.mem_of_getElem? h3)
  have ha:=aF7 hblk j i d h1 h3
  cases d with
  | ab b=>
   obtain ⟨b1,k1,k2⟩:=ha
   exact ⟨b1,k1,aPL (fun a b hw hb=>yD hw hb) k2 hd⟩
  | fn f caps=>exact ⟨_,ha,.cells (.cons (aOX xD (aJ0 hd)) .nil)⟩
 ·rw [List.getElem?_map] at h2
  obtain ⟨d,h3,rfl⟩:=Option.map_eq_some_iff.1 h2
  have hd:=yU hlo' d (List.mem_of_getElem? h3)
  have hj:j<bs.length:=Nat.lt_of_lt_of_le (List.getElem?_eq_some_iff.1 h3).1 hl
  refine ⟨(bs[j]).at idN,by simp [hj],?_⟩
  rw [aJf hd,aJf (yU hlo _ (List.getElem_mem hj))]
 ·rcases aEe h with h | ⟨j,d,h1,h2,rfl⟩
  ·exact .inl h
  ·exact .inr (.inl ⟨j,h1,by rw [List.getElem?_map,h2];rfl⟩)
 ·refine hh.mono fun e σ q=>?_
  have key:(∃ r1,aGH P rs σ=some r1∧Wk r1 r∧aH3 σ.hp 0 bs')→∃ (r1:AV) (ns:List Nat),ns.length=([]:List AB).length∧ns.Nodup∧(∀ n∈ns,64≤n)∧aGH P rs σ=some r1∧WkB (mm ids ns base) r1 r ∧
    (∀ (j:Nat) (b:AB),(bs'.map (BD.at (nmI ids)))[j]?=some b→∃ b0,σ.hp j=some b0∧BkX (WkB (mm ids ns base)) b0 b)∧(∀ (k n:Nat) (b:AB),ns[k]?=some n→([]:List AB)[k]?=some b→∃ b0,σ.hp n=some b0∧BkX (WkB (mm ids ns base)) b0 b):=by
   rintro ⟨r1,h1,h2,h3⟩
   refine ⟨r1,[],rfl,List.nodup_nil,fun n hn=>by simp at hn,h1,sI h2 hr,fun j b hb=>?_,fun k n b hk=>by simp at hk⟩
   rw [List.getElem?_map] at hb
   obtain ⟨d,h4,rfl⟩:=Option.map_eq_some_iff.1 hb
   have hd:=yU hlo' d (List.mem_of_getElem? h4)
   have he:=aFc h3 j d h4
   rw [Nat.zero_add] at he
   cases d with
   | ab b=>
    obtain ⟨b0,k1,k2⟩:=he
    exact ⟨b0,k1,aPL (fun a b hw hb=>sI hw hb) k2 hd⟩
   | fn f caps=>exact ⟨_,he,.cells (.cons (aQS xF (aKd hd)) .nil)⟩
  cases e with
  | normal=>exact key q
  | ret=>exact key q
  | _=>exact q
theorem oL {D:DT} (hD:DOk P D) {rs:Array ResultVar} {r:AV} {bs':List BD} {σ:AS} (h:∀ K:AV→Prop,(∀ r0,Wk r0 r∧aH3 σ.hp 0 bs'→K r0)→aKR D σ.b σ.sl σ.hp rs.toList fun l=>K (aHT l)):aQB P rs r bs' .ret σ:=by
 obtain ⟨r1,h1,h2,h3⟩:=aDr (k:=fun r0=>Wk r0 r∧aH3 σ.hp 0 bs') hD (h _ fun _ h=>h)
 exact ⟨r1,h1,h2,h3⟩
theorem bkW (b:AB):BkW b b:=.refl b
theorem aJJ {as bs:List AV} (h:aBb Wk as bs):BkW (.cells as) (.cells bs):=by
 have:=BkW.part (cs:=[]) h
 rwa [List.append_nil] at this
theorem fQ {T:Tbl} {f:FuncId} {Y β:Type} {S:List AV→List BD→AV→List BD→Prop} (hT:T f=wS S) (ids:List Nat) {args args0:List AV} {bs:List BD} {hp:bH} {id:Nat} {k:AV→bH→Prop} {r:Y→AV} {bs':Y→List BD} {x:Option Y} {g:Y→Option β} {Φ:β→Prop}
  (h:W (bd x g) Φ) (hw:aBb (WkA ids) args args0) (hb:aJE hp (nmI ids) ids bs) (hnd:aCO ids=true) (h32:ids.length≤32) (hS:∀ y,x=some y→S args0 bs (r y) (bs' y)) (hk:∀ y,W (g y) Φ→k (r y) (aOb hp (nmI ids) ids (bs' y))):vM T f args hp id k:=by
 obtain ⟨y,e,h⟩:=dY (bL h)
 exact yI (WkL.refl _) (by rw [hT];exact ⟨ids,args0,bs,bs' y,hS y e,hnd,h32,hw,hb,rfl⟩) (hk y h)
theorem aRf {a:AV}:Wk a .top:=fun _ _ _=>by simp [V]
theorem aQE {α:Type} {enc:α→AV} (hl:∀ x,(enc x).loose) (m:GM α):abL (abM enc m):=by
 intro p hp
 unfold wZ at hp
 obtain ⟨q,h1,rfl⟩:=List.mem_map.1 hp
 unfold aJW at h1
 obtain ⟨q',h2,rfl⟩:=List.mem_map.1 h1
 exact ⟨lsI _ _,hl _⟩
section
variable {D:DT} {t e:TypeId} {z:AV} {s:Nat} {zs:List AV} {b:Nat} {hp:bH} {i lim:Nat} {n:Int} {α:Type} {enc:α→AV} {m:GM α}
theorem aLb (hD:DOk P D) (ht:D t=some ⟨.map .i64 e z,s,zs,b⟩) (d:α) (hz:Wk z (enc d)) (hi:hp i=some (abM enc m)) (hlim:i<lim) {k:AV→Prop} (hk:k (enc (m.get n d))):aAu P lim t (.mp i) (.int .i64 n) false hp k:=by
 have k1:=(hD _ _ ht).k
 simp only [xC] at k1
 cases hm:jI n m.es with
 | some p=>
  refine tX ⟨.i64,e,z,n,enc p.2.2,true,k1.1,k1.2,rfl,.inr ⟨i,_,m.clk,rfl,hlim,.inl hi,?_⟩,?_⟩ hk
  ·rw [uH,hm];exact ⟨rfl,rfl⟩
  ·show Wk (enc p.2.2) _
   unfold GM.get;rw [hm];exact Wk.refl _
 | none=>
  refine tX ⟨.i64,e,z,n,z,false,k1.1,k1.2,rfl,.inr ⟨i,_,m.clk,rfl,hlim,.inl hi,?_⟩,?_⟩ hk
  ·rw [uH,hm];exact ⟨rfl,rfl⟩
  ·show Wk z _
   unfold GM.get;rw [hm];exact hz
theorem aJN (hD:DOk P D) (ht:D t=some ⟨.map .i64 e z,s,zs,b⟩) (d:α) (hz:Wk z (enc d)) (hi:hp i=some (abM enc m)) (hlim:i<lim) {k:AV→Prop} (hk:k (.tup [enc (m.get n d),.bool (m.has n)])):aAu P lim t (.mp i) (.int .i64 n) true hp k:=by
 have k1:=(hD _ _ ht).k
 simp only [xC] at k1
 cases hm:jI n m.es with
 | some p=>
  refine tX ⟨.i64,e,z,n,enc p.2.2,true,k1.1,k1.2,rfl,.inr ⟨i,_,m.clk,rfl,hlim,.inl hi,?_⟩,?_⟩ hk
  ·rw [uH,hm];exact ⟨rfl,rfl⟩
  ·show Wk (.tup [enc p.2.2,.bool true]) _
   unfold GM.get GM.has;rw [hm];exact Wk.refl _
 | none=>
  refine tX ⟨.i64,e,z,n,z,false,k1.1,k1.2,rfl,.inr ⟨i,_,m.clk,rfl,hlim,.inl hi,?_⟩,?_⟩ hk
  ·rw [uH,hm];exact ⟨rfl,rfl⟩
  ·show Wk (.tup [z,.bool false]) _
   unfold GM.get GM.has;rw [hm];exact mL (aD hz (aD (Wk.refl _) bE))
end
theorem aAQ {m:LM} {sz n:Nat} {f:Nat→AV}:Wk (.lst m sz n f) (.lst .free sz n f):=fun β v h=>by
 simp only [V] at h ⊢
 obtain ⟨b,cap,h1,h2,_,h4⟩:=h
 exact ⟨b,cap,h1,h2,trivial,h4⟩
theorem aNM {D:DT} (hD:DOk P D) {α β:Type} {enc:α→AV} {d:α} {t u:TypeId} {e e':TypeId} {de:TD} {s1 s2 b1 b2:Nat} {z1 z2:List AV} {m':LM} {sz:Nat} {l x:List α} {id:Nat} {hp:bH} {k:AV→bH→Prop} {f:List α→Option β} {Φ:β→Prop}
  (h:W (ap l x f) Φ) (ht:D t=some ⟨.slice e,s1,z1,b1⟩) (hu:D u=some ⟨.slice e',s2,z2,b2⟩) (he:D e=some de)
  (h0:de.size=sz∧0<sz∧0<de.bytes∧de.bytes≤1048576∧de.zero.length=sz) (hfl:∀ y,aIo (enc y)=true)
  (hk:W (f (l++x)) Φ→k (eL sz enc d (l++x)) (upd hp id (some (.cells [])))) :
  uN P t u (.lst .cap sz l.length fun j=>enc (l.getD j d)) (.lst m' sz x.length fun j=>enc (x.getD j d)) id hp k:=by
 have:=aHK (m':=m') (P:=P) (k:=fun r H=>r=.lst (.tok id) sz (l++x).length (fun j=>enc ((l++x).getD j d))∧W (f (l++x)) Φ∧H=upd hp id (some (.cells []))) hD h ht hu he h0 hfl fun h=>⟨rfl,h,rfl⟩
 obtain ⟨r,blk,⟨r0,hr,hw⟩,e1,hW,hH⟩:=aAr this
 exact uP (blk:=blk) ⟨r0,hr,fun β v hv=>aAQ β v (e1 ▸ hw β v hv)⟩ (hH ▸ hk hW)
theorem aFf {ids:List Nat} {i j o n sz:Nat} (h:ids[j]?=some i):WkA ids (.so i o n sz) (.so j o n sz):=fun β ys v hv=>by
 simp only [V] at hv ⊢
 obtain ⟨l,h1,h2⟩:=hv
 exact ⟨l,by show aGa β.loc ids j=_;unfold aGa;rw [h];exact h1,h2⟩
theorem aKJ {ids:List Nat} {i j o n m sz:Nat} (h:ids[j]?=some i):WkA ids (.sl i o n m sz) (.so j o n sz):=fun β ys v hv=>aFf h β ys v (aIH β v hv)
theorem aGU {α:Type} {G:Prop} [Decidable G] {x:Option α} {Φ:α→Prop} {K:Prop} (h:W (gd G x) Φ) (k:G→W x Φ→K):K:=k (vE h).1 (vE h).2
theorem aAU {f:FuncId} {fn:Func} {c:Code} {S:Nat→List AV→List BD→AV→List BD→Prop} {T:Tbl} {pf:FuncId→Bool} (hT:TOk P T) (hpf:cP T pf) (hff:pf f=false)
  (hf:P.funcs[f]?=some fn) (hb:fn.body=some c) (hn:(fn.name == "runtime.NumGoroutine")=false) (h0:∀ a b c d,¬ S 0 a b c d)
  (hs:∀ k (T':Tbl),TOk P T'→cP T' pf→(∀ g,g≠f→T' g=T g)→T' f=wS (S k)→FOk P f (wS (S (k+1)))):∀ k,FOk P f (wS (S k))
 | 0=>⟨fun av w=>aHE hf hn hb av w,fun args H base r H' e=>by
   obtain ⟨_,_,_,_,h,_⟩:=e
   exact (h0 _ _ _ _ h).elim⟩
 | k+1=>by
  have ih:=aAU hT hpf hff hf hb hn h0 hs k
  exact hs k (ext T f (wS (S k))) (bP hT ih) (bG hpf fun e=>by rw [hff] at e;cases e) (fun g hg=>yW _ _ hg) (aAV _ _ _)
end Go.Eng
namespace Go.Eng
open Go
variable {P:Program}
def oC:List Nat→List (List Int)→List AV
 | g::gs,l::ls=>.lst (.tok g) 1 l.length (fun j=>eI (l.getD j default))::oC gs ls
 | [],_::ls=>.top::oC [] ls
 | _,[]=>[]
theorem uZ:∀ (gs:List Nat) (out:List (List Int)),(oC gs out).length=out.length
 | _::gs,_::ls=>by simp [oC,uZ gs ls]
 | [],_::ls=>by simp [oC,uZ [] ls]
 | [],[]=>rfl
 | _::_,[]=>rfl
theorem gL:∀ {gs:List Nat} {out:List (List Int)} {j g:Nat},gs[j]?=some g→j<out.length→(oC gs out)[j]?=some (.lst (.tok g) 1 (out.getD j default).length fun i=>eI ((out.getD j default).getD i default))
 | _::gs,_::ls,0,g,h,_=>by simp at h;subst h;rfl
 | _::gs,_::ls,j+1,g,h,hl=>by
  have:=gL (gs:=gs) (out:=ls) (j:=j) (g:=g) (by simpa using h) (by simpa using hl)
  simpa [oC] using this
 | [],_,j,g,h,_=>by simp at h
 | _::_,[],j,g,_,hl=>by simp at hl
theorem aMA:∀ {gs:List Nat} {out:List (List Int)} {j id:Nat} {l:List Int},j<gs.length→j<out.length→(oC gs out).set j (.lst (.tok id) 1 l.length fun i=>eI (l.getD i default))=oC (gs.set j id) (out.set j l)
 | _::gs,_::ls,0,id,l,_,_=>rfl
 | _::gs,_::ls,j+1,id,l,h,hl=>by
  have:=aMA (gs:=gs) (out:=ls) (j:=j) (id:=id) (l:=l) (by simpa using h) (by simpa using hl)
  show _::(oC gs ls).set j _=_::oC (gs.set j id) (ls.set j l)
  rw [this]
 | [],_,j,id,l,h,_=>by simp at h
 | _::_,[],j,id,l,_,hl=>by simp at hl
theorem aMi:∀ {gs:List Nat} {out:List (List Int)} {g:Nat},gs[out.length]?=some g→oC gs (out++[[]])=oC gs out++[.lst (.tok g) 1 0 fun i=>eI (([]:List Int).getD i default)]
 | _::gs,[],g,h=>by simp at h;subst h;simp [oC]
 | _::gs,_::ls,g,h=>by
  have:=aMi (gs:=gs) (out:=ls) (g:=g) (by simpa using h)
  simp [oC,this]
 | [],out,g,h=>by simp at h
theorem aDP {E:Env} {N:Nat} {c:Code} {σ:AS} {Q:Exit→AS→Prop} (r:Nat) {cs cs':List AV} (h:σ.hp r=some (.cells cs)) (hl:cs'.length≤cs.length)
  (hv:∀ β:cN,(∀ i b,σ.hp i=some b→∃ l,β i=some l)→∀ (j:Nat) (a':AV),cs'[j]?=some a'→∃ a,cs[j]?=some a∧∀ v,V β a v→V β a' v)
  (k:HT E N c ⟨σ.sl,upd σ.hp r (some (.cells cs')),σ.b⟩ Q):HT E N c σ Q:=fun ro F a w hro hF hr=>by
 obtain ⟨β,ds,h0,h1,h2,h3⟩:=hr
 exact k ro F a w hro hF ⟨β,ds,h0,h1,h2.recell h hl (hv β fun i b hi=>h2.locOf hi),h3⟩
theorem vT {E:Env} {N:Nat} {c:Code} {σ:AS} {Q:Exit→AS→Prop} (t:Nat) {r n:Nat} {gs:List Nat} {out:List (List Int)} (_hs:σ.sl t=.so r 0 n 1) (h:σ.hp r=some (.cells (oC gs out++[.nils]))) (hg:∃ g b,gs[out.length]?=some g∧σ.hp g=some b)
  (k:HT E N c ⟨σ.sl,upd σ.hp r (some (.cells (oC gs (out++[[]])))),σ.b⟩ Q):HT E N c σ Q:=by
 obtain ⟨g,b,hg,hb⟩:=hg
 refine aDP r h (by simp [uZ]) (fun β hβ j a' ha=>?_) k
 rw [aMi hg] at ha
 by_cases hj:j<(oC gs out).length
 ·rw [List.getElem?_append_left hj] at ha ⊢
  exact ⟨a',ha,fun v hv=>hv⟩
 ·rw [List.getElem?_append_right (by omega)] at ha ⊢
  cases hk:j-(oC gs out).length with
  | succ n=>rw [hk] at ha;simp at ha
  | zero=>
   rw [hk] at ha
   simp at ha
   subst ha
   refine ⟨_,rfl,fun v hv=>?_⟩
   simp only [V] at hv ⊢
   subst hv
   obtain ⟨l,hl⟩:=hβ g b hb
   exact ⟨none,0,rfl,Nat.le_refl _,⟨l,hl,.inl rfl⟩,fun j hj=>by omega⟩
theorem aMd {E:Env} {N:Nat} {c:Code} {σ:AS} {Q:Exit→AS→Prop} (t:Nat) {r n:Nat} {gs:List Nat} {out:List (List Int)} (_hs:σ.sl t=.so r 0 n 1) (h:σ.hp r=some (.cells (oC gs out))) (hl:out.length≤gs.length)
  (k:HT E N c ⟨σ.sl,upd σ.hp r (some (.cells (flE (ceE (eL 1 eI default)) out))),σ.b⟩ Q):HT E N c σ Q:=by
 have hm:∀ x:List Int,(ceE (eL 1 eI default) x).length=1:=fun _=>rfl
 refine aDP r h (by rw [uJ hm,uZ];omega) (fun β _ j a' ha=>?_) k
 have hj:j<out.length:=by
  have:=(List.getElem?_eq_some_iff.1 ha).1
  rw [uJ hm] at this;omega
 refine ⟨_,gL (g:=gs[j]'(by omega)) (by simp) hj,fun v hv=>?_⟩
 have:=aGG hm (q:=0) (l:=out) (j:=j) (x:=out.getD j default) (by rw [List.getD_eq_getElem?_getD,List.getElem?_eq_getElem hj];rfl) (by omega)
 rw [Nat.mul_one,Nat.add_zero,ha] at this
 cases this
 exact aAQ β v hv
theorem aRi {D:DT} (hD:DOk P D) {t u e e':TypeId} {de:TD} {s1 s2 b1 b2:Nat} {z1 z2:List AV} {f:Nat→AV} {gs:List Nat} {out:List (List Int)} {i id n:Nat} {hp:bH} {k:AV→bH→Prop}
  (ht:D t=some ⟨.slice e,s1,z1,b1⟩) (hu:D u=some ⟨.slice e',s2,z2,b2⟩) (he:D e=some de) (h0:de.size=1∧0<de.bytes∧de.bytes≤1048576∧de.zero.length=1)
  (hi:hp i=some (.cells (oC gs out))) (hn:out.length=n) (hl:n+1≤1048576) (hf:f 0=.nils)
  (hk:k (.so id 0 (n+1) 1) (upd (upd hp i none) id (some (.cells (oC gs out++[.nils]))))):rG P t u (.so i 0 n 1) (.lst .cap 1 1 f) id hp k:=by
 subst hn
 have k1:=(hD _ _ ht).k
 have k2:=(hD _ _ hu).k
 simp only [xC] at k1 k2
 obtain ⟨h1,h2,h3,h4⟩:=h0
 have hde:=hD _ _ he
 have hx:(List.flatMap (fun j=>lL (f j)) (List.range 1))=[.nils]:=by simp [List.range_succ,hf];rfl
 refine qF trivial (fun j hj=>?_) ?_ hk
 ·have:j=0:=by omega
  rw [this,hf];exact nofun
 unfold pH
 simp only [k1,k2,hde.size,hde.bytes,hde.zero,Option.bind_some,aL6,cellsOf,if_true,hx,h1,h2,h3,h4]
 rw [if_pos ⟨Nat.one_pos,trivial,trivial,rfl,trivial⟩]
 simp only [hi]
 rw [if_pos ⟨trivial,trivial,by rw [uZ];omega,hl⟩,Nat.mul_one,List.take_of_length_le (by rw [uZ];exact Nat.le_refl _)]
theorem nV {gs:List Nat} {out:List (List Int)} {j id o q n:Nat} {F:Nat→AV} {l:List Int} {kk:List AV→Prop} (hg:j<gs.length) (hj:j<out.length) (ho:o=j) (hq:q=1) (hn:n=l.length) (hF:F=fun i=>eI (l.getD i default))
  (hk:kk (oC (gs.set j id) (out.set j l))):[AV.lst (.tok id) 1 n F].length=q∧o+q≤(oC gs out).length∧[AV.lst (.tok id) 1 n F].all AV.flat=true∧jM (dZ (oC gs out) o [AV.lst (.tok id) 1 n F]) kk:=by
 subst ho hq hn hF
 refine ⟨rfl,by rw [uZ];omega,rfl,?_⟩
 rw [eY]
 have:dZ (oC gs out) o [AV.lst (.tok id) 1 l.length fun i=>eI (l.getD i default)]=(oC gs out).set o (AV.lst (.tok id) 1 l.length fun i=>eI (l.getD i default)):=by
  unfold dZ
  rw [List.set_eq_take_append_cons_drop,if_pos (by rw [uZ];exact hj)]
  simp
 rw [this,aMA hg hj];exact hk
def aSV (L:Ren):List Nat→List Nat→Prop
 | _,[]=>True
 | [],_::_=>False
 | g::gs,g'::gs'=>(∀ loc,aDZ loc L g'=loc g)∧aSV L gs gs'
theorem aKY {L:Ren} {g g' sz n:Nat} {f:Nat→AV} (h:∀ loc,aDZ loc L g'=loc g) (hf:∀ j,(f j).loose):WkR L (.lst (.tok g) sz n f) (.lst (.tok g') sz n f):=fun β v hv=>by
 simp only [V] at hv ⊢
 obtain ⟨base,cap,h1,h2,⟨l,h3,h4⟩,h5⟩:=hv
 refine ⟨base,cap,h1,h2,⟨l,(h β.loc).trans h3,h4⟩,fun j hj=>?_⟩
 obtain ⟨c,o,u,k1,k2,k3,k4⟩:=h5 j hj
 exact ⟨c,o,u,k1,k2,k3,hf j _ _ _ _ k4⟩
theorem aHq {L:Ren}:∀ {gs gs':List Nat} {out:List (List Int)},aSV L gs gs'→CkR L (oC gs out) (oC gs' out)
 | gs,gs',[],_=>by cases gs<;>cases gs'<;>trivial
 | [],[],_::ls,_=>⟨WkR.top _ _,aHq (gs:=[]) (gs':=[]) (out:=ls) trivial⟩
 | g::gs,[],_::ls,_=>⟨WkR.top _ _,aHq (gs:=gs) (gs':=[]) (out:=ls) (by cases gs<;>trivial)⟩
 | [],_::_,_::_,h=>h.elim
 | g::gs,g'::gs',l::ls,h=>⟨aKY h.1 fun _=>lsI _ _,aHq (out:=ls) h.2⟩
theorem iC {L:Ren} {hp:bH} {i o:Nat} {gs gs':List Nat} {out:List (List Int)} (h:hp o=some (.cells (oC gs out))) (k:aSV L gs gs'):BkR L hp i (some o) (.cells (oC gs' out)):=bRc h (aHq k)
theorem aKe {L:Ren} {hp:bH} {i:Nat} {g:Nat} {gs:List Nat}:BkR L hp i none (.cells (oC (g::gs) [])):=rfl
theorem dQ (X:Nat→Ren) {sl:Nat→AV} {hp:bH} {b b':Nat} {l:List (Nat×AV)} {hs hr:List (Nat×AB)}
  (h:aBf sl l fun ps=>yL ((0,some 0)::(aLy ps++X b'++aOu (aLy ps) hp hs)) fun L=>aLO L b'=true∧aAw (fun p=>WkR L p.1 p.2) ps∧aAw (fun p=>∃ o,qI L p.1=some o∧BkR L hp p.1 o p.2) (hs++hr)):∃ L,zH L ⟨sl,hp,b⟩ ⟨ofL l,ofH (hs++hr),b'⟩:=by
 rw [vP,uB] at h
 exact ⟨_,aE3 _ (yY (β:=AV×AV) (p:=fun p=>WkR _ p.1 p.2) h.2.1) h.2.2 h.1⟩
def aSt (b':Nat):Ren:=[(b'-576,none),(b'-512,none),(b'-448,none),(b'-384,none),(b'-320,none),(b'-256,none),(b'-192,none),(b'-128,none)]
def xB (id:Nat):Nat→Nat→Nat→Ren
 | 0,k,b'=>[(b'-576,some (bif k==0 then b'+64 * id else b'-576)),(b'-512,some (bif k==1 then b'+64 * id else b'-512)),(b'-448,some (bif k==2 then b'+64 * id else b'-448)),(b'-384,some (bif k==3 then b'+64 * id else b'-384)),
   (b'-320,some (bif k==4 then b'+64 * id else b'-320)),(b'-256,some (bif k==5 then b'+64 * id else b'-256)),(b'-192,some (bif k==6 then b'+64 * id else b'-192)),(b'-128,some (bif k==7 then b'+64 * id else b'-128))]
 | _,_,_=>[]
theorem nN {α:Type} (l:List α):W (lt l fun _=>some ()) (fun _=>True):=by unfold lt;exact lR rfl trivial
theorem aN3 {E:Env} {N:Nat} {c:Code} {σ:AS} {Q:Exit→AS→Prop} (t:Nat) {p n:Nat} (hs:σ.sl t=.so p 0 n 1) (k:∀ m,n≤m→HT E N c ⟨wY σ.sl t (.sl p 0 n m 1),σ.hp,σ.b⟩ Q):HT E N c σ Q:=fun ro F a w hro hF hr=>by
 obtain ⟨β,ds,h0,h1,h2⟩:=hr
 have hv:=h1 t
 rw [hs] at hv
 simp only [V] at hv
 obtain ⟨l,hl,hv⟩:=hv
 have go:∀ m,n≤m→V β (.sl p 0 n m 1) (a.tmps.getD t undef)→c.wpIn (fen ro) 0 E.P (fun e a' w'=>∃ σ',Q e σ'∧Rep F N σ' a' w') a w:=fun m hm hv=>by
  refine k m hm ro F a w hro hF ⟨β,ds,h0,fun t'=>?_,h2⟩
  show V β (wY σ.sl t (.sl p 0 n m 1) t') _
  rw [aGf]
  split
  ·rename_i e;subst e;exact hv
  ·exact h1 t'
 rcases hv with ⟨rfl,b,hb⟩ | ⟨m,hm,hk,hv⟩
 ·exact go 0 (Nat.le_refl _) (by simp only [V];exact ⟨l,hl,.inl ⟨trivial,trivial,b,hb⟩⟩)
 ·exact go m hm (by simp only [V];exact ⟨l,hl,.inr ⟨hm,hk,hv⟩⟩)
theorem fl1 (x:Int):flE (ceE eI) [x]=[eI x]:=rfl
theorem aI1 {D:DT} (hD:DOk P D) {t u e e':TypeId} {de:TD} {s1 s2 b1 b2:Nat} {z1 z2:List AV} {m':LM} {x d:Int} {l:List Int} {i id n m:Nat} {hp:bH} {r:AV} {H':bH}
  (ht:D t=some ⟨.slice e,s1,z1,b1⟩) (hu:D u=some ⟨.slice e',s2,z2,b2⟩) (he:D e=some de) (h0:de.size=1∧0<de.bytes∧de.bytes≤1048576∧de.zero.length=1)
  (hi:hp i=some (.cells (flE (ceE eI) l))) (hn:l.length=n) (hnm:n≤m) (hl:n+1≤1048576)
  (hr:(if n+1≤m then some (AV.sl i 0 (n+1) m 1,upd hp i (some (.cells (dZ (flE (ceE eI) l) (0+n * 1) [eI x])))) else some (.so id 0 (n+1) 1,upd hp id (some (.cells (((flE (ceE eI) l).drop 0).take (n * 1)++[eI x])))))=some (r,H')) :
  pH P t u (.sl i 0 n m 1) (.lst m' 1 [x].length fun j=>eI ([x].getD j d)) id hp=some (r,H'):=by
 have k1:=(hD _ _ ht).k
 have k2:=(hD _ _ hu).k
 simp only [xC] at k1 k2
 obtain ⟨h1,h2,h3,h4⟩:=h0
 have hde:=hD _ _ he
 have hx:(List.flatMap (fun j=>lL (eI ([x].getD j d))) (List.range [x].length))=[eI x]:=by simp [List.range_succ];rfl
 unfold pH
 simp only [k1,k2,hde.size,hde.bytes,hde.zero,Option.bind_some,aL6,cellsOf,if_true,hx,h1,h2,h3,h4]
 rw [if_pos ⟨Nat.one_pos,trivial,trivial,rfl,trivial⟩]
 simp only [hi]
 have hfl:(flE (ceE eI) l).length=l.length:=by rw [uJ (sz:=1) fun _=>rfl,Nat.mul_one]
 rw [if_pos ⟨trivial,by rw [hfl];omega,hnm,hl⟩]
 exact hr
theorem aKp {D:DT} (hD:DOk P D) {t u e e':TypeId} {de:TD} {s1 s2 b1 b2:Nat} {z1 z2:List AV} {m':LM} {x d:Int} {l:List Int} {i id n m:Nat} {hp:bH} {k:AV→bH→Prop} {β:Type} {f:List Int→Option β} {Φ:β→Prop}
  (h:W (ap l [x] f) Φ) (ht:D t=some ⟨.slice e,s1,z1,b1⟩) (hu:D u=some ⟨.slice e',s2,z2,b2⟩) (he:D e=some de) (h0:de.size=1∧0<de.bytes∧de.bytes≤1048576∧de.zero.length=1)
  (hi:hp i=some (.cells (flE (ceE eI) l))) (hn:l.length=n) (hm:n<m)
  (hk:W (f (l++[x])) Φ→k (.sl i 0 (l++[x]).length m 1) (upd hp i (some (.cells (flE (ceE eI) (l++[x])))))):rG P t u (.sl i 0 n m 1) (.lst m' 1 [x].length fun j=>eI ([x].getD j d)) id hp k:=by
 unfold ap at h
 obtain ⟨hl,h⟩:=vE h
 have hfl:(flE (ceE eI) l).length=l.length:=by rw [uJ (sz:=1) fun _=>rfl,Nat.mul_one]
 have e1:dZ (flE (ceE eI) l) (0+n * 1) [eI x]=flE (ceE eI) (l++[x]):=by
  unfold dZ
  rw [aD6,fl1,List.take_of_length_le (by omega),List.drop_of_length_le (by simp;omega),List.append_nil]
 have e2:(l++[x]).length=n+1:=by rw [List.length_append,hn];rfl
 have hk:=hk h
 rw [e2] at hk
 refine qF trivial (fun j hj=>nofun) (aI1 hD ht hu he h0 hi hn (by omega) (by simp at hl;omega) ?_) hk
 rw [if_pos (by omega),e1]
theorem aJs {D:DT} (hD:DOk P D) {t u e e':TypeId} {de:TD} {s1 s2 b1 b2:Nat} {z1 z2:List AV} {m':LM} {x d:Int} {l:List Int} {i id n m:Nat} {hp:bH} {k:AV→bH→Prop} {β:Type} {f:List Int→Option β} {Φ:β→Prop}
  (h:W (ap l [x] f) Φ) (ht:D t=some ⟨.slice e,s1,z1,b1⟩) (hu:D u=some ⟨.slice e',s2,z2,b2⟩) (he:D e=some de) (h0:de.size=1∧0<de.bytes∧de.bytes≤1048576∧de.zero.length=1)
  (hi:hp i=some (.cells (flE (ceE eI) l))) (hn:l.length=n) (hm:m=n)
  (hk:W (f (l++[x])) Φ→k (.so id 0 (l++[x]).length 1) (upd hp id (some (.cells (flE (ceE eI) (l++[x])))))):rG P t u (.sl i 0 n m 1) (.lst m' 1 [x].length fun j=>eI ([x].getD j d)) id hp k:=by
 unfold ap at h
 obtain ⟨hl,h⟩:=vE h
 have hfl:(flE (ceE eI) l).length=l.length:=by rw [uJ (sz:=1) fun _=>rfl,Nat.mul_one]
 have e1:((flE (ceE eI) l).drop 0).take (n * 1)++[eI x]=flE (ceE eI) (l++[x]):=by
  rw [aD6,fl1,List.drop_zero,List.take_of_length_le (by omega)]
 have e2:(l++[x]).length=n+1:=by rw [List.length_append,hn];rfl
 have hk:=hk h
 rw [e2] at hk
 refine qF trivial (fun j hj=>nofun) (aI1 hD ht hu he h0 hi hn (by omega) (by simp at hl;omega) ?_) hk
 rw [if_neg (by omega),e1]
theorem aJA {L:Ren} {hp:bH} {i o:Nat} {l x:List Int} (h:hp o=some (.cells (flE (ceE eI) (l++x)))):BkR L hp i (some o) (.cells (flE (ceE eI) l)):=by
 refine bRc h ?_
 rw [aD6]
 generalize flE (ceE eI) x=y
 have:∀ a∈flE (ceE eI) l,a.loose:=qN (fun _=>lsC (lsI _ _) lsN) l
 generalize flE (ceE eI) l=z at this
 induction z with
 | nil=>exact cKn
 | cons a z ih=>exact ⟨wkr (this a (by simp)),ih fun b hb=>this b (by simp [hb])⟩
theorem aM4 {β:Type} {b:Bool} {x y:Option β} {Φ:β→Prop} {G:Prop} (h:W (cn b x y) Φ) (h1:b=true→W x Φ→G) (h2:b=false→W y Φ→G):G:=by
 cases b with
 | true=>exact h1 rfl (rM h)
 | false=>exact h2 rfl (rS h)
theorem aTo {b b':Bool} (h:b=b'):Wk (eB b) (eB b'):=h ▸ Wk.refl _
theorem aNA {a:AV} (h:a.loose):∀ x∈[a],x.loose:=fun x hx=>by simp at hx;exact hx ▸ h
theorem aNI {E:Env} {N:Nat} {c:Code} {σ:AS} {Q:Exit→AS→Prop} (t:Nat) {i o:Nat} {a:AV} (_hs:σ.sl t=.ptr i o) (h:σ.hp i=some (.cells [a])) (k:HT E N c ⟨σ.sl,upd σ.hp i (some (.cells [.top])),σ.b⟩ Q):HT E N c σ Q:=
 aDP (cs':=[.top]) i h (Nat.le_refl _) (fun β _ j a' ha=>by
  cases j with
  | zero=>simp at ha;subst ha;exact ⟨a,rfl,fun v _=>by simp [V]⟩
  | succ j=>simp at ha) k
end Go.Eng
namespace Go.Eng
structure Br (n:Nat) where
 l:List Bool
 h:l.length=n
def Br.zero (n:Nat):Br n:=⟨List.replicate n false,List.length_replicate⟩
instance {n:Nat}:Inhabited (Br n):=⟨Br.zero n⟩
def Br.at1 {n:Nat} (x:Br n) (i:Int):Bool:=x.l.getD i.toNat false
def Br.st1 {n:Nat} (x:Br n) (i:Int) (v:Bool):Br n:=⟨x.l.set i.toNat v,by rw [List.length_set,x.h]⟩
def Br.at2 {n:Nat} (x:Br n) (w:Nat) (i j:Int):Bool:=x.l.getD (i.toNat * w+j.toNat) false
def Br.st2 {n:Nat} (x:Br n) (w:Nat) (i j:Int) (v:Bool):Br n:=⟨x.l.set (i.toNat * w+j.toNat) v,by rw [List.length_set,x.h]⟩
def cB {n:Nat} (x:Br n):List AV:=x.l.map eB
theorem aBq {n:Nat} (x:Br n):(cB x).length=n:=by unfold cB;rw [List.length_map,x.h]
theorem aG3 {n:Nat} (x:Br n):∀ a∈cB x,a.loose:=fun a h=>by
 obtain ⟨v,_,rfl⟩:=List.mem_map.1 h
 exact aL9 v
theorem aNU {n:Nat} (x:Br n):(cB x).all AV.flat=true:=by
 simp only [List.all_eq_true]
 intro a h
 obtain ⟨v,_,rfl⟩:=List.mem_map.1 h
 rfl
theorem aKP {n:Nat} (x:Br n) {j:Nat} (hj:j<n):(cB x)[j]?=some (eB (x.l.getD j false)):=by
 unfold cB
 have h:j<x.l.length:=by rw [x.h];exact hj
 rw [List.getElem?_map,List.getElem?_eq_getElem h,List.getD_eq_getElem?_getD,List.getElem?_eq_getElem h]
 rfl
theorem aQr {n:Nat} (x:Br n) {j:Nat} (v:Bool) (hj:j<n):dZ (cB x) j [eB v]=(x.l.set j v).map eB:=by
 have h:j<x.l.length:=by rw [x.h];exact hj
 unfold dZ cB
 rw [List.set_eq_take_append_cons_drop,if_pos h]
 simp [List.map_take,List.map_drop]
theorem aOn {n:Nat} {x:Br n} {cs:List AV} {i:Int} {k:AV→Prop} (hcs:cs=cB x) (hi:0≤i∧i<(n:Int)) (hk:k (eB (x.at1 i))):aIB cs (0+i.toNat * 1) k:=by
 subst hcs
 refine gKo (a:=eB (x.at1 i)) ?_ hk
 rw [show 0+i.toNat * 1=i.toNat by omega]
 exact aKP x (by omega)
theorem aL7 {n:Nat} {x:Br n} {cs:List AV} {i:Int} {k:AV→Prop} (hcs:cs=cB x) (hi:0≤i∧i<(n:Int)) (hk:k (eB (x.at1 i))):aIB cs (i.toNat * 1) k:=by
 have:=aOn hcs hi hk
 rwa [Nat.zero_add] at this
theorem lF {n m w:Nat} {x:Br n} {cs:List AV} {i j:Int} {k:AV→Prop} (hcs:cs=cB x) (hn:n=m * w) (hi:0≤i∧i<(m:Int)) (hj:0≤j∧j<(w:Int)) (hk:k (eB (x.at2 w i j))):aIB cs (0+i.toNat * w+j.toNat * 1) k:=by
 subst hcs
 refine gKo (a:=eB (x.at2 w i j)) ?_ hk
 rw [show 0+i.toNat * w+j.toNat * 1=i.toNat * w+j.toNat by omega]
 exact aKP x (by rw [hn];exact aTe hi hj)
theorem aHr {n m w q:Nat} {x:Br n} {cs xs:List AV} {i j:Int} {v:Bool} {k:List AV→Prop} (hcs:cs=cB x) (hn:n=m * w) (hi:0≤i∧i<(m:Int)) (hj:0≤j∧j<(w:Int)) (hx:xs=[eB v]) (hq:q=1) (hk:k (cB (x.st2 w i j v))) :
  xs.length=q∧0+i.toNat * w+j.toNat * 1+q≤cs.length∧xs.all AV.flat=true∧jM (dZ cs (0+i.toNat * w+j.toNat * 1) xs) k:=by
 subst hcs hx hq
 have h:=aTe hi hj
 rw [eY,aBq,show 0+i.toNat * w+j.toNat * 1=i.toNat * w+j.toNat by omega,aQr x v (by omega)]
 exact ⟨rfl,by omega,rfl,hk⟩
theorem wP {n:Nat} {x:Br n} {cs:List AV} {k:List AV→Prop} (hcs:cs=cB x) (hk:k (cB x)):0+n≤cs.length∧jM ((cs.drop 0).take n) k:=by
 subst hcs
 refine ⟨by rw [aBq];omega,?_⟩
 rw [eY,List.drop_zero,List.take_of_length_le (by rw [aBq];exact Nat.le_refl _)]
 exact hk
theorem aA0 {n q:Nat} {x:Br n} {cs xs:List AV} {k:List AV→Prop} (hcs:cs.length=n) (hx:xs=cB x) (hq:q=n) (hk:k (cB x)) :
  xs.length=q∧0+q≤cs.length∧xs.all AV.flat=true∧jM (dZ cs 0 xs) k:=by
 subst hx hq
 refine ⟨aBq x,by omega,aNU x,?_⟩
 rw [eY]
 have:dZ cs 0 (cB x)=cB x:=by
  unfold dZ
  rw [aBq,List.drop_of_length_le (by omega)];simp
 rw [this];exact hk
theorem aN {n:Nat} {L:Ren} {hp:bH} {i o:Nat} {cs:List AV} {x:Br n} (h:hp o=some (.cells cs)) (e:cs=cB x):BkR L hp i (some o) (.cells (cB x)):=bRc h (by subst e;exact aES (aG3 x))
theorem sK {n:Nat} (x:Br n):(AV.agg (cB x)).loose:=vZ (aG3 x)
def eBr {n:Nat} (x:Br n):AV:=.agg (cB x)
def Br.row {n:Nat} (x:Br n) (w:Nat) (i:Int):Br w:=⟨(List.range w).map fun j=>x.l.getD (i.toNat * w+j) false,by simp⟩
theorem Br.row_at {n w:Nat} (x:Br n) (i:Int) {j:Int} (hj:0≤j∧j<(w:Int)):(x.row w i).at1 j=x.at2 w i j:=by
 have h:j.toNat<w:=by omega
 unfold Br.at1 Br.row Br.at2
 simp [List.getD_eq_getElem?_getD,List.getElem?_map,List.getElem?_range h]
theorem aOO {n m w q:Nat} {x:Br n} {cs:List AV} {i:Int} {k:List AV→Prop} (hcs:cs=cB x) (hn:n=m * w) (hi:0≤i∧i<(m:Int)) (hq:q=w) (hk:k (cB (x.row w i))):i.toNat * q+q≤cs.length∧jM ((cs.drop (i.toNat * q)).take q) k:=by
 subst hcs hq
 have hlt:i.toNat * q+q≤n:=by
  have h1:i.toNat+1≤m:=by omega
  have:=Nat.mul_le_mul_right q h1
  rw [Nat.add_mul] at this
  omega
 refine ⟨by rw [aBq];exact hlt,aJe ?_ hk⟩
 refine List.ext_getElem? fun j=>?_
 by_cases c:j<q
 ·rw [List.getElem?_take_of_lt c,List.getElem?_drop,aKP x (by omega)]
  unfold cB Br.row
  rw [List.getElem?_map,List.getElem?_map,List.getElem?_range c];rfl
 ·rw [List.getElem?_eq_none (by rw [List.length_take];omega),List.getElem?_eq_none (by rw [aBq];omega)]
theorem vH {P:Program} {f:FuncId} {fn:Func} {c:Code} {S:Nat→List AV→AV→Prop} {T:Tbl} {pf:FuncId→Bool} (hT:TOk P T) (hpf:cP T pf)
  (hf:P.funcs[f]?=some fn) (hb:fn.body=some c) (hn:(fn.name == "runtime.NumGoroutine")=false) (h0:∀ a b,¬ S 0 a b)
  (hs:∀ k (T':Tbl),TOk P T'→cP T' pf→(∀ g,g≠f→T' g=T g)→T' f=aH (S k)→FOk P f (aH (S (k+1)))):∀ k,FOk P f (aH (S k))
 | 0=>⟨fun av w=>aHE hf hn hb av w,fun args H base r H' e=>(h0 _ _ e.1).elim⟩
 | k+1=>by
  have ih:=vH hT hpf hf hb hn h0 hs k
  exact hs k (ext T f (aH (S k))) (bP hT ih) (bG hpf fun _=>⟨_,rfl⟩) (fun g hg=>yW _ _ hg) (aAV _ _ _)
theorem aNX {α:Type} {b:Bool} {x y:Option α} {Φ:α→Prop} (h:W (cn b x y) Φ):(b=true∧W x Φ)∨(b=false∧W y Φ):=by
 unfold cn at h
 cases b
 ·exact .inr ⟨rfl,h⟩
 ·exact .inl ⟨rfl,h⟩
theorem aQO {y:Int} (h:0≤y∧y<(2:Int)) (hq:(y==0)=false):y=1:=by
 have:=ne_of_beq_false hq
 omega
theorem aIm {P:Program} {t e:TypeId} (h:P.underlying t=some (.slice e)) (w:World) (a:Option Addr) (n c:Nat) (ox oy:Operand) :
  (do eqGuard .neq t ox oy (.slice a n c) (.slice none 0 0);binOp .neq t (.slice a n c) (.slice none 0 0):Sem Value).run P w=.ok (.bool (!a.isNone)) w:=by
 have e1:=Go.run_neq_slice_nil (P:=P) w t e a n c h
 simp [eqGuard,e1]
theorem tI {E:Env} {N:Nat} {id:Nat} {o1 o2:Oper} {y:Code} {σ:AS} {Q:Exit→AS→Prop} {t0 t3 t4:Tmp} {T e:TypeId} {ng isn:Bool} (h1:o1.op=.move (.tmp t0)) (h2:o1.dst=some t3) (h3:o1.guard=none)
  (h4:o2.op=.binOp (if ng then .neq else .eql) T (.tmp t3) (.const (.slice none 0 0)) T) (h5:o2.dst=some t4) (h6:o2.guard=none) (hT:E.P.underlying T=some (.slice e)) (h0:∀ β v,V β (σ.sl t0) v→∃ base n c,v=.slice base n c∧base.isNone=isn) (hd:aAc N #[o1,o2]=true)
  (h:HT E N y ⟨wY (wY σ.sl t3 (σ.sl t0)) t4 (.bool (if ng then !isn else isn)),σ.hp,σ.b⟩ Q):HT E N (.seq (.region id #[o1,o2] false) y) σ Q:=by
 intro ro F a w hro hF hr
 obtain ⟨β,ds,g1,g2,g3,g4,g5,g6,g7,g8,g9⟩:=hr
 have hv:=g2 t0
 obtain ⟨base,n,cap,hval,hisn⟩:=h0 _ _ hv
 have hd3:t3<N:=lO hd 0 o1 t3 rfl h2
 have hd4:t4<N:=lO hd 1 o2 t4 rfl h5
 have s1:(execOp a.eval o1).run E.P w=.ok (.value (a.tmps.getD t0 undef)) w:=by
  unfold execOp;rw [h1];simp [Act.eval]
 have e3:(a.put o1.dst (a.tmps.getD t0 undef)).tmps.getD t3 undef=.slice base n cap:=by
  rw [h2,← hval];simp [Act.put,g9,hd3]
 have s2:(execOp (a.put o1.dst (a.tmps.getD t0 undef)).eval o2).run E.P w=.ok (.value (.bool (if ng then !isn else isn))) w:=by
  unfold execOp;rw [h4]
  cases ng with
  | false=>
   have:=aBV hT w base n cap (.tmp t3) (.const (.slice none 0 0))
   simp only [Act.eval,e3,Sem.run_bind,Bool.false_eq_true,if_false] at this ⊢
   rw [← hisn];simp only [this];rfl
  | true=>
   have:=aIm hT w base n cap (.tmp t3) (.const (.slice none 0 0))
   simp only [Act.eval,e3,Sem.run_bind,if_true] at this ⊢
   rw [← hisn];simp only [this];rfl
 refine wpIn_seq (wpIn_region ?_)
 show wpOpsIn (fen ro) 0 E.P #[o1,o2] _ [0,1] a w
 have w1:Region.wanted o1 (yielded #[o1,o2] a.tmps)=true:=by simp [Region.wanted,h3]
 have w2:Region.wanted o2 (yielded #[o1,o2] (a.put o1.dst (a.tmps.getD t0 undef)).tmps)=true:=by simp [Region.wanted,h6]
 simp only [wpOpsIn,List.getElem?_toArray,List.getElem?_cons_zero,w1,if_true]
 refine lD (fun c hc=>by rw [h1] at hc;cases hc) s1 ?_
 simp only [List.getElem?_cons_succ,List.getElem?_cons_zero,w2,if_true]
 refine lD (fun c hc=>by rw [h4] at hc;cases hc) s2 ?_
 refine h ro F _ w hro hF ⟨β,ds,g1,?_,g3,g4,g5,g6,?_,g8,?_⟩
 ·intro t
  have k1:=aFV (β:=β) (N:=N) g2 g9 (d:=o1.dst) (fun t ht=>by rw [h2] at ht;cases ht;exact hd3) hv
  have k2:=aFV (β:=β) (N:=N) k1 (by rw [oV];exact g9) (d:=o2.dst) (fun t ht=>by rw [h5] at ht;cases ht;exact hd4) (r:=.bool (if ng then !isn else isn)) (v:=.bool (if ng then !isn else isn)) (by simp [V])
  have:=k2 t
  rw [h2,h5] at this
  rw [h2,h5];exact this
 ·rw [oS,oS];exact g7
 ·rw [oV,oV];exact g9
theorem aCu {β:cN} {v:Value} {x:AV} (hx:x=.nils) (h:V β x v):∃ base n c,v=.slice base n c∧base.isNone=true:=by
 subst hx
 simp only [V] at h
 exact ⟨none,0,0,h,rfl⟩
theorem aCY {β:cN} {v:Value} {x:AV} {m:LM} {sz n:Nat} {f:Nat→AV} (hx:x=.lst m sz n f) (hn:0<n) (h:V β x v):∃ base n c,v=.slice base n c∧base.isNone=false:=by
 subst hx
 simp only [V] at h
 obtain ⟨base,cap,hval,_,_,hel⟩:=h
 refine ⟨base,n,cap,hval,?_⟩
 cases base with
 | some _=>rfl
 | none=>obtain ⟨_,_,_,hx,_⟩:=hel 0 hn;cases hx
def eN {α:Type} (sz:Nat) (enc:α→AV) (d:α):Option (List α)→AV
 | none=>.nils
 | some l=>eL sz enc d l
theorem aLr {α:Type} {sz:Nat} {enc:α→AV} {d:α} (h:∀ x,(enc x).loose):∀ y,(eN sz enc d y).loose
 | none=>bC
 | some l=>lsL fun _=>h _
def onK {α β:Type} (y:Option α) (f:α→Option β) (g:Option β):Option β:=match y with
 | some a=>f a
 | none=>g
theorem aIu {α β:Type} {a:α} {f:α→Option β} {g:Option β} {Φ:β→Prop} (h:W (onK (some a) f g) Φ):W (f a) Φ:=h
theorem aIz {α β:Type} {f:α→Option β} {g:Option β} {Φ:β→Prop} (h:W (onK (none:Option α) f g) Φ):W g Φ:=h
theorem aCz {α:Type} {l:List α} (h:some l≠some []):0<l.length:=by
 cases l with
 | nil=>exact absurd rfl h
 | cons _ _=>exact Nat.succ_pos _
end Go.Eng
namespace Go.Eng
section
variable {α β:Type} {S R:Type}
theorem bU (a:α) (f:α→Option β):bd (some a) f=f a:=by unfold bd;rfl
theorem mH (x y:Option α):cn true x y=x:=by unfold cn;rfl
theorem mK (x y:Option α):cn false x y=y:=by unfold cn;rfl
theorem iL (b:Bool) (x y:Option α):cn b x y=if b=true then x else y:=by unfold cn;cases b<;>rfl
theorem aZ (p:Prop) [Decidable p] (x y:Option α):cn (decide p) x y=if p then x else y:=by
 by_cases h:p
 ·rw [if_pos h,decide_eq_true h,mH]
 ·rw [if_neg h,decide_eq_false h,mK]
theorem pG (a b:Int) (x y:Option α):cn (a==b) x y=if a=b then x else y:=by
 by_cases h:a=b
 ·rw [if_pos h,beq_iff_eq.2 h,mH]
 ·rw [if_neg h,beq_false_of_ne h,mK]
theorem cT (b:Bool) (x y:Option α):cn (!b) x y=cn b y x:=by cases b<;>simp [mH,mK]
theorem vC (a b:Int) (x y:Option α):cn (a != b) x y=if a=b then y else x:=by
 show cn (!(a==b)) x y=_
 rw [cT,pG]
theorem dC {G:Prop} [Decidable G] (x:Option α) (h:G):gd G x=x:=by unfold gd;rw [if_pos h]
theorem rC {V:Type} (f:V→Option β) (g:(V→Option β)→Option β):jn f g=g f:=by unfold jn;rfl
theorem aLH (s:S) (f g:S→Option β) (h:R→Option β):ctK (.nx s) f g h=f s:=by unfold ctK;rfl
theorem aNj (s:S) (f g:S→Option β) (h:R→Option β):ctK (.bk s) f g h=g s:=by unfold ctK;rfl
theorem aMY (r:R) (f g:S→Option β) (h:R→Option β):ctK (.rt r) f g h=h r:=by unfold ctK;rfl
theorem dK (s:S) (f:S→Option β) (g:R→Option β):smK (.inl s) f g=f s:=by unfold smK;rfl
theorem sZ (r:R) (f:S→Option β) (g:R→Option β):smK (.inr r) f g=g r:=by unfold smK;rfl
theorem aSr {l:List α} {d:α} {i:Int} {f:α→Option β} (h0:0≤i) (h1:i<(l.length:Int)):ix l d i f=f (l.getD i.toNat d):=by unfold ix;exact dC _ ⟨h0,h1⟩
theorem sV {l:List α} {d:α} {k:Nat} {f:α→Option β} (h:k<l.length):ix l d (k:Int) f=f (l.getD k d):=by rw [aSr (by omega) (by omega),Int.toNat_natCast]
theorem aAy (l:List α) (f:List α→Option β):lt l f=f l:=by unfold lt;rfl
theorem aCe {l x:List α} {f:List α→Option β} (h:l.length+x.length≤1048576):ap l x f=f (l++x):=by unfold ap;exact dC _ h
theorem aO0 {l:List α} {lo hi:Int} {f:List α→Option β} (h0:0≤lo) (h1:lo≤hi) (h2:hi≤(l.length:Int)):slc l lo hi f=f (sub l lo hi):=by unfold slc;exact dC _ ⟨h0,h1,h2⟩
theorem aI7:FU=18446744073709551616:=by unfold FU;rfl
theorem aMJ {body:S→Option (Ct S R)} (I:S→Prop) (μ:S→Nat) (Q:S ⊕ R→Prop)
  (step:∀ s,I s→(∃ s',body s=some (.nx s')∧I s'∧μ s'<μ s)∨(∃ s',body s=some (.bk s')∧Q (.inl s'))∨(∃ r,body s=some (.rt r)∧Q (.inr r))) :
  ∀ (n:Nat) (s:S),I s→μ s<n→∃ o,lp body n s=some o∧Q o
 | 0,s,_,h=>by omega
 | n+1,s,hI,hm=>by
  unfold lp
  rcases step s hI with ⟨s',e,hI',hm'⟩ | ⟨s',e,q⟩ | ⟨r,e,q⟩
  ·rw [e,bU,aLH];exact aMJ I μ Q step n s' hI' (by omega)
  ·rw [e,bU,aNj];exact ⟨_,rfl,q⟩
  ·rw [e,bU,aMY];exact ⟨_,rfl,q⟩
theorem lC {body:S→Option (Ct S R)} (I:S→Prop) (μ:S→Nat) (Q:S ⊕ R→Prop)
  (step:∀ s,I s→(∃ s',body s=some (.nx s')∧I s'∧μ s'<μ s)∨(∃ s',body s=some (.bk s')∧Q (.inl s'))∨(∃ r,body s=some (.rt r)∧Q (.inr r))) (s:S) (hI:I s) (hm:μ s<18446744073709551616) :
  ∃ o,lp body FU s=some o∧Q o:=aMJ I μ Q step FU s hI (by rw [aI7];exact hm)
theorem cJ {body:S→Option (Ct S R)} (I:Nat→S→Prop) (N:Nat) (hN:N<18446744073709551616)
  (step:∀ k s,k<N→I k s→∃ s',body s=some (.nx s')∧I (k+1) s') (stop:∀ s,I N s→body s=some (.bk s)) (s:S) (hI:I 0 s) :
  ∃ s',lp body FU s=some (.inl s')∧I N s':=by
 have key:∀ (m n k:Nat) (s:S),k+m=N→I k s→m<n→∃ s',lp body n s=some (.inl s')∧I N s':=by
  intro m
  induction m with
  | zero=>
   intro n k s hk hI hn
   obtain ⟨n',rfl⟩:∃ n',n=n'+1:=⟨n-1,by omega⟩
   have:k=N:=by omega
   subst this
   unfold lp
   rw [stop s hI,bU,aNj];exact ⟨_,rfl,hI⟩
  | succ m ih=>
   intro n k s hk hI hn
   obtain ⟨n',rfl⟩:∃ n',n=n'+1:=⟨n-1,by omega⟩
   obtain ⟨s',e,hI'⟩:=step k s (by omega) hI
   unfold lp
   rw [e,bU,aLH]
   exact ih n' (k+1) s' (by omega) hI' (by omega)
 exact key N FU 0 s (by omega) hI (by rw [aI7];exact hN)
end
theorem cE {x:Int} (h1 : -9223372036854775808≤x) (h2:x≤9223372036854775807):wr x=x:=aFa h1 h2
def zU (c n:Int):Int:=(if c<0 then -(c+1) else c) % n
theorem tE (c:Int) {n:Int} (h:0<n):0≤zU c n∧zU c n<n:=⟨Int.emod_nonneg _ (by omega),Int.emod_lt_of_pos _ h⟩
theorem aLw (c n:Int) (hc : -9223372036854775808≤c) (hc2:c≤9223372036854775807) (_hn:0<n):(if c<0 then Int.tmod (wr (0-wr (c+1))) n else Int.tmod c n)=zU c n:=by
 unfold zU
 split
 ·rw [cE (x:=c+1) (by omega) (by omega),cE (by omega) (by omega),Int.tmod_eq_emod_of_nonneg (by omega)]
  congr 1;omega
 ·rw [Int.tmod_eq_emod_of_nonneg (by omega)]
end Go.Eng
namespace Go.Eng
section
variable {α:Type} {n k:Int} {v d:α}
theorem aEt (n:Int) (v:α) (clk:Nat):xX n v [] clk=[(clk,n,v)]:=by simp [xX]
theorem aBO (n:Int) (v:α) (x:Nat×Int×α) (L:List (Nat×Int×α)) (clk:Nat):xX n v (x::L) clk=if x.2.1=n then (x.1,x.2.1,v)::L else x::xX n v L clk:=by
 unfold xX
 rw [List.findIdx?_cons]
 by_cases h:x.2.1=n
 ·simp [h]
 ·simp only [beq_iff_eq,h,if_false]
  cases L.findIdx? fun p=>p.2.1==n with
  | none=>simp
  | some j=>simp
theorem aJm (n:Int) (x:Nat×Int×α) (L:List (Nat×Int×α)) (clk:Nat):aCA n (x::L) clk=if x.2.1=n then clk else aCA n L clk:=by
 unfold aCA
 rw [List.findIdx?_cons]
 by_cases h:x.2.1=n
 ·simp [h]
 ·simp only [beq_iff_eq,h,if_false]
  cases L.findIdx? fun p=>p.2.1==n<;>simp
theorem lQ (n:Int) (x:Nat×Int×α) (L:List (Nat×Int×α)):jI n (x::L)=if x.2.1=n then some x else jI n L:=by
 unfold jI
 rw [List.find?_cons]
 by_cases h:x.2.1=n
 ·simp [h]
 ·have:(x.2.1==n)=false:=by simpa using h
  rw [this,if_neg h]
theorem wC (h:k≠n):∀ (L:List (Nat×Int×α)) (clk:Nat),jI k (xX n v L clk)=jI k L
 | [],clk=>by
  rw [aEt,lQ]
  simp only
  rw [if_neg (fun e=>h e.symm)]
 | x::L,clk=>by
  rw [aBO]
  by_cases e:x.2.1=n
  ·rw [if_pos e,lQ,lQ]
   simp only
   rw [if_neg (fun e2=>h (by rw [← e2,e])),if_neg (fun e2=>h (by rw [← e2,e]))]
  ·rw [if_neg e,lQ,lQ,wC h L clk]
theorem aFv:∀ (L:List (Nat×Int×α)) (clk:Nat),(xX n v L clk).map (·.2.1)=if (jI n L).isSome then L.map (·.2.1) else L.map (·.2.1)++[n]
 | [],clk=>by simp [aEt,jI]
 | x::L,clk=>by
  rw [aBO,lQ]
  by_cases e:x.2.1=n
  ·simp [e]
  ·rw [if_neg e,if_neg e,List.map_cons,aFv L clk]
   split<;>simp
theorem aCM:∀ (L:List (Nat×Int×α)),(jI n L).isSome=true↔n∈L.map (·.2.1)
 | []=>by simp [jI]
 | x::L=>by
  rw [lQ]
  by_cases e:x.2.1=n
  ·simp [e]
  ·rw [if_neg e,aCM L]
   simp only [List.map_cons,List.mem_cons]
   exact ⟨.inr,fun h=>h.elim (fun h=>absurd h.symm e) id⟩
theorem aBW:∀ (L:List (Nat×Int×α)) (clk:Nat),(xX n v L clk).map (·.1)=if (jI n L).isSome then L.map (·.1) else L.map (·.1)++[clk]
 | [],clk=>by simp [aEt,jI]
 | x::L,clk=>by
  rw [aBO,lQ]
  by_cases e:x.2.1=n
  ·simp [e]
  ·rw [if_neg e,if_neg e,List.map_cons,aBW L clk]
   split<;>simp
theorem aKf:∀ (L:List (Nat×Int×α)) (clk:Nat),aCA n L clk=if (jI n L).isSome then clk else clk+1
 | [],clk=>by simp [aCA,jI]
 | x::L,clk=>by
  rw [aJm,lQ]
  by_cases e:x.2.1=n
  ·simp [e]
  ·rw [if_neg e,if_neg e,aKf L clk]
structure GM.WF (m:GM α):Prop where
 lt:∀ p∈m.es,p.1<m.clk
 nd:(m.es.map (·.1)).Nodup
 kd:(m.es.map (·.2.1)).Nodup
namespace GM
variable {m:GM α}
theorem get_put:(m.put n v).get n d=v:=by
 unfold GM.get GM.put
 obtain ⟨b,h,_⟩:=aG9 n v m.es m.clk
 simp only [h]
theorem get_put_ne (h:k≠n):(m.put n v).get k d=m.get k d:=by
 unfold GM.get GM.put
 simp only [wC h]
theorem has_put:(m.put n v).has n=true:=by
 unfold GM.has GM.put
 obtain ⟨b,h,_⟩:=aG9 n v m.es m.clk
 simp only [h];rfl
theorem has_put_ne (h:k≠n):(m.put n v).has k=m.has k:=by
 unfold GM.has GM.put
 simp only [wC h]
theorem get_mt:(GM.mt α).get k d=d:=rfl
theorem has_mt:(GM.mt α).has k=false:=rfl
theorem WF.put (h:m.WF) (n:Int) (v:α):(m.put n v).WF:=by
 have h1:=aBW (n:=n) (v:=v) m.es m.clk
 have h2:=aFv (n:=n) (v:=v) m.es m.clk
 have h3:=aKf (n:=n) m.es m.clk
 refine ⟨fun p hp=>?_,?_,?_⟩
 ·have hm:p.1∈(xX n v m.es m.clk).map (·.1):=List.mem_map_of_mem hp
  show p.1<aCA n m.es m.clk
  rw [h1] at hm
  rw [h3]
  split
  ·rename_i e
   rw [if_pos e] at hm
   obtain ⟨q,hq,e⟩:=List.mem_map.1 hm
   rw [← e];exact h.lt q hq
  ·rename_i e
   rw [if_neg e] at hm
   rcases List.mem_append.1 hm with hm | hm
   ·obtain ⟨q,hq,e⟩:=List.mem_map.1 hm
    have:=h.lt q hq
    omega
   ·simp at hm;omega
 ·show ((xX n v m.es m.clk).map (·.1)).Nodup
  rw [h1]
  split
  ·exact h.nd
  ·rw [List.nodup_append]
   refine ⟨h.nd,by simp,fun a ha b hb=>?_⟩
   obtain ⟨q,hq,e⟩:=List.mem_map.1 ha
   have:=h.lt q hq
   simp at hb
   omega
 ·show ((xX n v m.es m.clk).map (·.2.1)).Nodup
  rw [h2]
  split
  ·exact h.kd
  ·rename_i e
   rw [List.nodup_append]
   refine ⟨h.kd,by simp,fun a ha b hb=>?_⟩
   simp at hb;subst hb
   intro e2;subst e2
   exact e ((aCM _).2 ha)
theorem lA (h:m.WF) {p:Nat×Int×α} (hp:p∈m.es):m.get p.2.1 d=p.2.2:=by
 have key:∀ (L:List (Nat×Int×α)),(L.map (·.2.1)).Nodup→p∈L→jI p.2.1 L=some p:=by
  intro L
  induction L with
  | nil=>intro _ h;cases h
  | cons x L ih=>
   intro hn hm
   rw [lQ]
   simp only [List.map_cons,List.nodup_cons] at hn
   rcases List.mem_cons.1 hm with rfl | hm
   ·rw [if_pos rfl]
   ·rw [if_neg (fun e=>hn.1 (by rw [e];exact List.mem_map_of_mem hm)),ih hn.2 hm]
 unfold GM.get
 rw [key _ h.kd hp]
end GM
end
end Go.Eng
