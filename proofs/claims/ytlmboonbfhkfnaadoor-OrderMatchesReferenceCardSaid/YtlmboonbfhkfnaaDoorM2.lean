import Derived.Test.YtlmboonbfhkfnaaDoorM1
import Derived.Deep.LoopGhost
import Derived.Scope
import Derived.Carry
import Derived.OpenShut
set_option linter.unusedVariables false
set_option linter.unusedSimpArgs false
set_option linter.unusedSectionVars false
namespace Go.Eng
open Go.RowKit (Below)
inductive aGR (c:Ctx) (i:Nat):Cls→Eff→Prop where
 | P (r:AV→Prop):aGR c i .P (.pure r)
 | L (t:TypeId) (p:AV):aGR c i .L (.look (fun H r=>tJ c.P c.lim t p H=some r))
 | C (r:AV→Prop):aGR c i .C (.look fun _=>r)
 | M (q:bH→AV→Prop) (hq:∀ H id b r,c.lim≤id→(q (upd H id b) r↔q H r)):aGR c i .M (.look q)
 | A (r:AV→AB→Prop):aGR c i .A (.alloc r)
 | W (e:Eff):aGR c i .W e
theorem xV {H:bH} {id i:Nat} {b:Option AB} {es:List (Nat×AV×AV)} {clk:Nat} (h:upd H id b i=H i):mapAt (upd H id b) i es clk↔mapAt H i es clk:=by unfold mapAt;rw [h]
theorem aIf {P:Program} {lim id:Nat} {t:TypeId} {x k r:AV} {ok:Bool} {H:bH} {b:Option AB} (h:lim≤id):aBi P lim t x k ok (upd H id b) r↔aBi P lim t x k ok H r:=by
 have e:∀ i,i<lim→upd H id b i=H i:=fun i hi=>aY _ _ (by omega)
 constructor
 ·rintro ⟨q,e',z,n,v,b',h1,h2,h3,h4,h5⟩
  refine ⟨q,e',z,n,v,b',h1,h2,h3,h4.imp _root_.id ?_,h5⟩
  rintro ⟨i,L,clk,g1,g2,g3,g4⟩
  exact ⟨i,L,clk,g1,g2,(xV (e i g2)).1 g3,g4⟩
 ·rintro ⟨q,e',z,n,v,b',h1,h2,h3,h4,h5⟩
  refine ⟨q,e',z,n,v,b',h1,h2,h3,h4.imp _root_.id ?_,h5⟩
  rintro ⟨i,L,clk,g1,g2,g3,g4⟩
  exact ⟨i,L,clk,g1,g2,(xV (e i g2)).2 g3,g4⟩
theorem aLX {P:Program} {lim id:Nat} {t:TypeId} {x r:AV} {H:bH} {b:Option AB} (h:lim≤id):aNg P lim t x (upd H id b) r↔aNg P lim t x H r:=by
 have e:∀ i,i<lim→upd H id b i=H i:=fun i hi=>aY _ _ (by omega)
 constructor
 ·rintro (h1 | ⟨h1,h2⟩)
  ·exact .inl h1
  ·refine .inr ⟨h1,h2.imp _root_.id ?_⟩
   rintro ⟨i,es,clk,g1,g2,g3,g4⟩
   exact ⟨i,es,clk,g1,g2,(xV (e i g2)).1 g3,g4⟩
 ·rintro (h1 | ⟨h1,h2⟩)
  ·exact .inl h1
  ·refine .inr ⟨h1,h2.imp _root_.id ?_⟩
   rintro ⟨i,es,clk,g1,g2,g3,g4⟩
   exact ⟨i,es,clk,g1,g2,(xV (e i g2)).2 g3,g4⟩
theorem aJB (c:Ctx) (hpf:cP c.T c.pf) (i:Nat) (o:Oper) (sl:Nat→AV):aGR c i (cls c.pf c.bt o) (opA c i o sl):=by
 obtain ⟨dst,op,type,pos,after,guard⟩:=o
 cases op
 case makeMap t rv=>cases rv<;>first | exact .A _ | exact .P _
 case lookup t x k ok=>exact .M _ fun H id b r h=>aIf h
 case call cl=>
  obtain ⟨callee,args,argTypes⟩:=cl
  cases callee with
  | invoke r m=>exact .P _
  | builtin b=>
   cases b
   case len=>
    refine .M _ fun H id b r h=>?_
    skip
    split
    ·exact aLX h
    ·exact Iff.rfl
   case append=>
    simp only [cls,opA]
    split
    ·exact .A _
    ·exact .W _
   all_goals first | exact .P _ | exact .W _
  | value f=>
   cases f with
   | func g=>
    by_cases hp:c.pf g=true
    ·simp only [cls,opA,hp,if_true]
     have:(fun (H:bH) r=>∃ args' H2,WkL (args.toList.map (evA sl)) args'∧c.T g args' H (c.b+c.n * 64) r H2)=fun _ r=>∃ args' H2,WkL (args.toList.map (evA sl)) args'∧c.T g args' (fun _=>none) (c.b+c.n * 64) r H2:=by
      funext H r
      apply propext
      constructor
      ·rintro ⟨args',H2,h1,h2⟩;exact ⟨args',_,h1,(hpf g hp _ _ _ _ _ h2).2.2 _ _⟩
      ·rintro ⟨args',H2,h1,h2⟩;exact ⟨args',_,h1,(hpf g hp _ _ _ _ _ h2).2.2 _ _⟩
     rw [this];exact .C _
    ·by_cases hp2:c.pf (g+100000)=true
     ·simp only [cls,opA,hp,hp2];exact .A _
     ·simp only [cls,opA,hp,hp2];exact .W _
   | tmp t=>exact .W _
   | const v=>exact .W _
   | global g=>exact .W _
 all_goals first | exact .P _ | exact .L _ _ | exact .A _ | exact .W _
theorem aIZ {P:Program} {lim id:Nat} (h:lim≤id) (t:TypeId) (p:AV) (H:bH) (b:Option AB):tJ P lim t p (upd H id b)=tJ P lim t p H:=by
 unfold tJ
 split
 ·rename_i i o
  by_cases hi:i<lim
  ·simp only [hi,if_true]
   rw [aY _ _ (by omega)]
  ·simp [hi]
 ·rfl
 ·rfl
inductive aNd (c:Ctx) (i:Nat) (f:HX→AV→HX→Prop):Cls→Prop where
 | P (k:Cls) (p:AV→Prop) (h:∀ h r h',f h r h'↔p r∧h'=h):aNd c i f k
 | L (t:TypeId) (p:AV) (h:∀ h r h',f h r h'↔tJ c.P c.lim t p h.1=some r∧h'=h):aNd c i f .L
 | C (q:AV→Prop) (h:∀ h r h',f h r h'↔q r∧h'=h):aNd c i f .C
 | M (q:bH→AV→Prop) (hq:∀ H id b r,c.lim≤id→(q (upd H id b) r↔q H r)) (h:∀ h r h',f h r h'↔q h.1 r∧h'=h):aNd c i f .M
 | A (p:AV→AB→Prop) (h:∀ h r h',f h r h'↔h.2 i≠true∧∃ b,p r b∧h'=(upd h.1 (c.b+i * 64) (some b),upd h.2 i true)):aNd c i f .A
 | W:aNd c i f .W
theorem aBk {c:Ctx} {i:Nat} {q:bH→AV→Prop} {h:HX} {r:AV} {h':HX}:aLE c i (.look q) h r h'↔q h.1 r∧h'=h:=by
 obtain ⟨H,ex⟩:=h
 obtain ⟨H',ex'⟩:=h'
 simp [aLE,aCl,Eff.uses,Eff.isWrite,and_assoc]
theorem aIF {c:Ctx} {i:Nat} {p:AV→Prop} {h:HX} {r:AV} {h':HX}:aLE c i (.pure p) h r h'↔p r∧h'=h:=by
 obtain ⟨H,ex⟩:=h
 obtain ⟨H',ex'⟩:=h'
 simp [aLE,aCl,Eff.uses,Eff.isWrite,and_assoc]
theorem aIg {c:Ctx} {i:Nat} {p:AV→AB→Prop} {h:HX} {r:AV} {h':HX}:aLE c i (.alloc p) h r h'↔h.2 i≠true∧∃ b,p r b∧h'=(upd h.1 (c.b+i * 64) (some b),upd h.2 i true):=by
 obtain ⟨H,ex⟩:=h
 obtain ⟨H',ex'⟩:=h'
 simp only [aLE,aCl,Eff.uses,Eff.isWrite,true_and,Bool.false_eq_true,false_implies,if_true,Prod.mk.injEq]
 constructor
 ·rintro ⟨h1,⟨b,h2,h3⟩,h4⟩;exact ⟨h1,b,h2,h3,h4⟩
 ·rintro ⟨h1,b,h2,h3,h4⟩;exact ⟨h1,⟨b,h2,h3⟩,h4⟩
theorem aIN (c:Ctx) (hpf:cP c.T c.pf) (ops:Array Oper) (i:Nat) (o:Oper) (sl:Nat→AV):aNd c i (aGd c ops i o sl) (cls c.pf c.bt o):=by
 cases hw:wV ops o sl with
 | none=>exact .P _ (fun _=>False) fun h r h'=>by simp [aGd,hw]
 | some b=>
  cases b with
  | false=>exact .P _ (fun r=>r=.und) fun h r h'=>by simp [aGd,hw]
  | true=>
   have he:=aJB c hpf i o sl
   have hE:∀ h r h',aGd c ops i o sl h r h'↔aLE c i (opA c i o sl) h r h':=fun h r h'=>by simp only [aGd,hw]
   generalize opA c i o sl=e at he hE
   generalize cls c.pf c.bt o=k at he
   cases he with
   | P p=>exact .P _ p fun h r h'=>by rw [hE,aIF]
   | L t p=>exact .L t p fun h r h'=>by rw [hE,aBk]
   | C q=>exact .C q fun h r h'=>by rw [hE,aBk (q:=fun _=>q)]
   | M q hq=>exact .M q hq fun h r h'=>by rw [hE,aBk]
   | A p=>exact .A p fun h r h'=>by rw [hE,aIg]
   | W e=>exact .W
theorem yJ {f g:HX→AV→HX→Prop} {p:AV→Prop} (hf:∀ h r h',f h r h'↔p r∧h'=h):aOa f g∧aOa g f:=by
 constructor
 ·intro h r1 h1 r2 h2 e1 e2
  rw [hf] at e1
  obtain ⟨hp,rfl⟩:=e1
  exact ⟨h2,e2,(hf _ _ _).2 ⟨hp,rfl⟩⟩
 ·intro h r1 h1 r2 h2 e1 e2
  rw [hf] at e2
  obtain ⟨hp,rfl⟩:=e2
  exact ⟨h,(hf _ _ _).2 ⟨hp,rfl⟩,e1⟩
theorem aEV {f g:HX→AV→HX→Prop} {p q:bH→AV→Prop} (hf:∀ h r h',f h r h'↔p h.1 r∧h'=h) (hg:∀ h r h',g h r h'↔q h.1 r∧h'=h):aOa f g:=by
 intro h r1 h1 r2 h2 e1 e2
 rw [hf] at e1
 obtain ⟨hp,rfl⟩:=e1
 rw [hg] at e2
 obtain ⟨hq,rfl⟩:=e2
 exact ⟨_,(hg _ _ _).2 ⟨hq,rfl⟩,(hf _ _ _).2 ⟨hp,rfl⟩⟩
theorem aDw {c:Ctx} {i:Nat} {f g:HX→AV→HX→Prop} {q:bH→AV→Prop} {p:AV→AB→Prop} (hlim:c.lim≤c.b) (hq:∀ H id b r,c.lim≤id→(q (upd H id b) r↔q H r)) (hf:∀ h r h',f h r h'↔q h.1 r∧h'=h)
  (hg:∀ h r h',g h r h'↔h.2 i≠true∧∃ b,p r b∧h'=(upd h.1 (c.b+i * 64) (some b),upd h.2 i true)):aOa f g∧aOa g f:=by
 constructor
 ·intro h r1 h1 r2 h2 e1 e2
  rw [hf] at e1
  obtain ⟨hp,rfl⟩:=e1
  rw [hg] at e2
  obtain ⟨hx,b,hb,rfl⟩:=e2
  exact ⟨_,(hg _ _ _).2 ⟨hx,b,hb,rfl⟩,(hf _ _ _).2 ⟨(hq _ _ _ _ (by omega)).2 hp,rfl⟩⟩
 ·intro h r1 h1 r2 h2 e1 e2
  rw [hg] at e1
  obtain ⟨hx,b,hb,rfl⟩:=e1
  rw [hf] at e2
  obtain ⟨hp,rfl⟩:=e2
  exact ⟨_,(hf _ _ _).2 ⟨(hq _ _ _ _ (by omega)).1 hp,rfl⟩,(hg _ _ _).2 ⟨hx,b,hb,rfl⟩⟩
theorem aTD (c:Ctx) (hpf:cP c.T c.pf) (hlim:c.lim≤c.b) (ops:Array Oper) {i j:Nat} (hij:i≠j) (oi oj:Oper) (h:uK (cls c.pf c.bt oi) (cls c.pf c.bt oj)=true) (sl:Nat→AV):aOa (aGd c ops i oi sl) (aGd c ops j oj sl):=by
 have fi:=aIN c hpf ops i oi sl
 have fj:=aIN c hpf ops j oj sl
 generalize aGd c ops i oi sl=f at fi
 generalize aGd c ops j oj sl=g at fj
 generalize cls c.pf c.bt oi=ki at fi h
 generalize cls c.pf c.bt oj=kj at fj h
 have hl:∀ t p H id b r,c.lim≤id→(tJ c.P c.lim t p (upd H id b)=some r↔tJ c.P c.lim t p H=some r):=fun t p H id b r h=>by rw [aIZ h]
 cases fi with
 | P _ p hf=>exact (yJ hf).1
 | L t p hf=>
  cases fj with
  | P _ p' hg=>exact (yJ hg).2
  | L t' p' hg=>exact aEV (p:=fun H r=>tJ c.P c.lim t p H=some r) (q:=fun H r=>tJ c.P c.lim t' p' H=some r) hf hg
  | M q hq hg=>exact aEV (p:=fun H r=>tJ c.P c.lim t p H=some r) (q:=q) hf hg
  | C q hg=>exact (yJ hg).2
  | A p' hg=>exact (aDw (q:=fun H r=>tJ c.P c.lim t p H=some r) hlim (hl t p) hf hg).1
  | W=>simp [uK] at h
 | C q hf=>exact (yJ hf).1
 | M q hq hf=>
  cases fj with
  | P _ p' hg=>exact (yJ hg).2
  | L t' p' hg=>exact aEV (p:=q) (q:=fun H r=>tJ c.P c.lim t' p' H=some r) hf hg
  | M q' hq' hg=>exact aEV (p:=q) (q:=q') hf hg
  | C q hg=>exact (yJ hg).2
  | A p' hg=>exact (aDw (q:=q) hlim hq hf hg).1
  | W=>simp [uK] at h
 | A p hf=>
  cases fj with
  | P _ p' hg=>exact (yJ hg).2
  | L t' p' hg=>exact (aDw (q:=fun H r=>tJ c.P c.lim t' p' H=some r) hlim (hl t' p') hg hf).2
  | M q hq hg=>exact (aDw (q:=q) hlim hq hg hf).2
  | C q hg=>exact (yJ hg).2
  | A p' hg=>
   intro h r1 h1 r2 h2 e1 e2
   rw [hf] at e1
   obtain ⟨hx,b,hb,rfl⟩:=e1
   rw [hg] at e2
   obtain ⟨hy,b',hb',rfl⟩:=e2
   simp only at hy
   rw [aY _ _ (Ne.symm hij)] at hy
   refine ⟨(upd h.1 (c.b+j * 64) (some b'),upd h.2 j true),(hg _ _ _).2 ⟨hy,b',hb',rfl⟩,(hf _ _ _).2 ⟨?_,b,hb,?_⟩⟩
   ·simp only
    rw [aY _ _ hij];exact hx
   ·simp only
    rw [aDG h.1 _ _ (by omega:c.b+j * 64≠c.b+i * 64),aDG h.2 _ _ (Ne.symm hij)]
  | W=>simp [uK] at h
 | W=>
  cases fj with
  | P _ p' hg=>exact (yJ hg).2
  | _=>simp [uK] at h
inductive aBe (ops:Array Oper) (k:Nat):Nat→Prop where
 | one {j:Nat} {oj:Oper} {e:Edge} (h:ops[j]?=some oj) (he:e∈oj.after) (hb:Region.binds .any e=true) (hk:e.on=k):aBe ops k j
 | more {j:Nat} {oj:Oper} {e:Edge} (h:ops[j]?=some oj) (he:e∈oj.after) (hb:Region.binds .any e=true) (hk:aBe ops k e.on):aBe ops k j
def aJT (ops:Array Oper) (k:Nat):Nat→List Nat
 | 0=>[]
 | n+1=>let acc:=aJT ops k n
  match ops[n]? with
  | none=>acc
  | some o=>if o.after.any (fun e=>Region.binds .any e&&(e.on==k||acc.contains e.on))=true then n::acc else acc
theorem uA (ops:Array Oper) (k:Nat):∀ (n j:Nat),(aJT ops k n).contains j=true→aBe ops k j
 | 0,j,h=>by simp [aJT] at h
 | n+1,j,h=>by
  simp only [aJT] at h
  split at h
  ·exact uA ops k n j h
  ·rename_i o ho
   split at h
   ·rename_i ha
    simp only [List.contains_cons,Bool.or_eq_true,beq_iff_eq] at h
    rcases h with rfl | h
    ·obtain ⟨e,he,h2⟩:=Array.any_eq_true'.1 ha
     simp only [Bool.and_eq_true,Bool.or_eq_true,beq_iff_eq] at h2
     rcases h2 with ⟨hb,h2 | h2⟩
     ·exact .one ho he hb h2
     ·exact .more ho he hb (uA ops k _ _ h2)
    ·exact uA ops k n j h
   ·exact uA ops k n j h
def xA (ops:Array Oper) (listed:Array Bool):Prop:=∀ (j:Nat) (oj:Oper),ops[j]?=some oj→listed.getD j false=true→∀ e∈oj.after,Region.binds .any e=true→listed.getD e.on false=true
theorem aBe.unlisted {ops:Array Oper} {listed:Array Bool} (hc:xA ops listed) {k:Nat} (hk:listed.getD k false=false) {j:Nat} (h:aBe ops k j):listed.getD j false=false:=by
 induction h with
 | @one j oj e h he hb hk'=>
  cases hj:listed.getD j false with
  | false=>rfl
  | true=>have:=hc _ _ h hj e he hb;rw [hk',hk] at this;cases this
 | @more j oj e h he hb _ ih=>
  cases hj:listed.getD j false with
  | false=>rfl
  | true=>have:=hc _ _ h hj e he hb;rw [ih] at this;cases this
theorem aGp {listed:Array Bool} {k:Nat} (h:listed.getD k true=false):listed.getD k false=false:=by
 rcases Nat.lt_or_ge k listed.size with h' | h'
 ·simp [h'] at h ⊢;exact h
 ·simp [Array.getD,Nat.not_lt.2 h'] at h
theorem xA.ready {ops:Array Oper} {listed:Array Bool} (hc:xA ops listed) {k:Nat} (hk:listed.getD k true=false) {j:Nat} (hj:j∈Region.ready .any ops listed):¬ aBe ops k j:=fun h=>by
 obtain ⟨_,oj,hoj,hall⟩:=mem_ready.1 hj
 cases h with
 | one h he hb hk'=>
  rw [hoj] at h;cases h
  have:=hall _ he hb
  rw [hk',aGp hk] at this;cases this
 | more h he hb hw=>
  rw [hoj] at h;cases h
  have:=hall _ he hb
  rw [hw.unlisted hc (aGp hk)] at this;cases this
theorem zK {listed:Array Bool} {i j:Nat} (h:listed.getD j false=true):(listed.setIfInBounds i true).getD j false=true:=by
 by_cases e:i=j
 ·subst e
  rcases Nat.lt_or_ge i listed.size with h' | h'
  ·simp [h']
  ·simp [Array.getD,Nat.not_lt.2 h'] at h
 ·rw [getD_set_ne false e];exact h
theorem xA.set {ops:Array Oper} {listed:Array Bool} (hc:xA ops listed) {i:Nat} (hi:i∈Region.ready .any ops listed):xA ops (listed.setIfInBounds i true):=fun j oj hoj hl e he hb=>by
 by_cases hij:i=j
 ·subst hij
  obtain ⟨_,oi,hoi,hall⟩:=mem_ready.1 hi
  rw [hoj] at hoi;cases hoi
  exact zK (hall e he hb)
 ·rw [getD_set_ne false hij] at hl
  exact zK (hc j oj hoj hl e he hb)
theorem aAs (ops:Array Oper) (n:Nat):xA ops (Array.replicate n false):=fun j oj _ h=>by
 rcases Nat.lt_or_ge j n with h' | h'
 ·simp [h'] at h
 ·simp [Array.getD,Nat.not_lt.2 h'] at h
def aLj (pf:FuncId→Bool) (bt:Tmp→Bool) (ops:Array Oper) (listed:Array Bool) (k:Nat):Bool:=
 match ops[k]? with
 | none=>false
 | some ok=>(List.range ops.size).all fun j=>
   match ops[j]? with
   | none=>true
   | some oj=>j==k||listed.getD j true||oj.after.any (fun e=>Region.binds .any e&&e.on==k)||(ok.apart ops oj&&uK (cls pf bt ok) (cls pf bt oj))||(aJT ops k ops.size).contains j
def aN4 (pf:FuncId→Bool) (bt:Tmp→Bool) (ops:Array Oper):Nat→Nat→Array Bool→Bool
 | 0,_,listed=>(Region.ready .any ops listed).isEmpty
 | fuel+1,k,listed=>(Region.ready .any ops listed).contains k&&aLj pf bt ops listed k&&aN4 pf bt ops fuel (k+1) (listed.setIfInBounds k true)
theorem aCK (c:Ctx) (hpf:cP c.T c.pf) (hlim:c.lim≤c.b) (ops:Array Oper) {Q:RS→Prop} {i:Nat} {oi:Oper} (hi:ops[i]?=some oi):∀ (fuel:Nat) (listed:Array Bool) (s s1:RS),xA ops listed →
  (∀ (j:Nat) (oj:Oper),ops[j]?=some oj→j≠i→listed.getD j true=false→¬ aBe ops i j→oi.apart ops oj=true∧uK (cls c.pf c.bt oi) (cls c.pf c.bt oj)=true) →
  i∈Region.ready .any ops listed→xU c ops i s s1→aMD c ops Q fuel (listed.setIfInBounds i true) s1→aMD c ops Q (fuel+1) listed s:=by
 intro fuel
 induction fuel with
 | zero=>
  intro listed s s1 _ _ hr hst H
  refine ⟨fun h=>(by rw [h] at hr;cases hr),fun j hj=>?_⟩
  by_cases hji:j=i
  ·subst hji;exact ⟨s1,hst,H⟩
  ·have:=ready_mono hj hji
   rw [H.1] at this
   cases this
 | succ fuel ih=>
  intro listed s s1 hcl hfree hr hst H
  refine ⟨fun h=>(by rw [h] at hr;cases hr),fun j hj=>?_⟩
  by_cases hji:j=i
  ·subst hji;exact ⟨s1,hst,H⟩
  ·obtain ⟨s2,h1,h2⟩:=H.2 j (ready_mono hj hji)
   obtain ⟨hjun,oj,hoj,hall⟩:=mem_ready.1 hj
   obtain ⟨hap,hind⟩:=hfree j oj hoj hji hjun (hcl.ready (mem_ready.1 hr).1 hj)
   obtain ⟨s1',h3,h4⟩:=aKt c ops hi hoj hap (fun sl=>aTD c hpf hlim ops (Ne.symm hji) oi oj hind sl) hst h1
   have hfree':∀ (k:Nat) (ok:Oper),ops[k]?=some ok→k≠i→(listed.setIfInBounds j true).getD k true=false →
     ¬ aBe ops i k→oi.apart ops ok=true∧uK (cls c.pf c.bt oi) (cls c.pf c.bt ok)=true:=fun k ok hk hki hun hno=>by
    refine hfree k ok hk hki ?_ hno
    by_cases hjk:j=k
    ·subst hjk;exact hjun
    ·rw [getD_set_ne true hjk] at hun;exact hun
   refine ⟨s1',h3,ih (listed.setIfInBounds j true) s1' s2 (hcl.set hj) hfree' (ready_mono hr (Ne.symm hji)) h4 ?_⟩
   rw [Array.setIfInBounds_comm _ _ hji]
   exact h2
theorem aCJ {pf:FuncId→Bool} {bt:Tmp→Bool} {ops:Array Oper} {listed:Array Bool} {k:Nat} {ok:Oper} (hk:ops[k]?=some ok) (h:aLj pf bt ops listed k=true) :
  ∀ (j:Nat) (oj:Oper),ops[j]?=some oj→j≠k→listed.getD j true=false→¬ aBe ops k j→ok.apart ops oj=true∧uK (cls pf bt ok) (cls pf bt oj)=true:=by
 intro j oj hj hne hl hno
 unfold aLj at h
 simp only [hk,List.all_eq_true,List.mem_range] at h
 have h1:=h j (Array.getElem?_eq_some_iff.1 hj).1
 simp only [hj,Bool.or_eq_true,Bool.and_eq_true] at h1
 rcases h1 with (((h1 | h1) | h1) | h1) | h1
 ·simp at h1;exact absurd h1 hne
 ·rw [hl] at h1;cases h1
 ·obtain ⟨e,he,h2⟩:=Array.any_eq_true'.1 h1
  simp only [Bool.and_eq_true,beq_iff_eq] at h2
  exact absurd (aBe.one hj he h2.1 h2.2) hno
 ·exact h1
 ·exact absurd (uA ops k _ _ h1) hno
theorem aHd (c:Ctx) (hpf:cP c.T c.pf) (hlim:c.lim≤c.b) (ops:Array Oper) {Q:RS→Prop}:∀ (n k:Nat) (listed:Array Bool) (s s':RS),xA ops listed→k+n=ops.size →
  aN4 c.pf c.bt ops n k listed=true→aLq c ops (List.range' k n) s s'→Q s'→aMD c ops Q n listed s
 | 0,k,listed,s,s',_,_,hB,hrun,hQ=>by
  simp only [List.range'_zero,aLq] at hrun
  subst hrun
  exact ⟨by simpa [aN4] using hB,hQ⟩
 | n+1,k,listed,s,s',hcl,hk,hB,hrun,hQ=>by
  simp only [List.range'_succ,aLq] at hrun
  obtain ⟨s1,h1,h2⟩:=hrun
  simp only [aN4,Bool.and_eq_true] at hB
  obtain ⟨⟨hr,hf⟩,hB'⟩:=hB
  have hlt:k<ops.size:=by omega
  have h0:ops[k]?=some ops[k]:=Array.getElem?_eq_getElem hlt
  have hr':k∈Region.ready .any ops listed:=by simpa using hr
  exact aCK c hpf hlim ops h0 n listed s s1 hcl (aCJ h0 hf) hr' h1
   (aHd c hpf hlim ops n (k+1) _ s1 s' (hcl.set hr') (by omega) hB' h2 hQ)
inductive Pl where
 | nil
 | step (k:Nat) (r:Pl)
 | two (k1 k2:Nat) (r1 r2:Pl)
 | thr (k1 k2 k3:Nat) (r1 r2 r3:Pl)
def aKM (pf:FuncId→Bool) (bt:Tmp→Bool) (ops:Array Oper) (j:Nat):Bool:=match ops[j]? with
 | none=>false
 | some o=>cls pf bt o==.A||cls pf bt o==.W
def aPY (o:Oper):Bool:=match o.op with
 | .call { callee:=.builtin .append,.. }=>true
 | _=>false
def aE7 (pf:FuncId→Bool) (bt:Tmp→Bool) (ops:Array Oper) (listed:Array Bool) (k:Nat):Bool:=match ops[k]? with
 | none=>false
 | some o=>(aPY o||cls pf bt o != .W||(List.range ops.size).all fun j => !(listed.getD j false&&aKM pf bt ops j)||decide (j<k))&&listed.getD k true==false
def aGc (pf:FuncId→Bool) (bt:Tmp→Bool) (ops:Array Oper):Pl→Nat→Array Bool→Bool
 | .nil,_,listed=>(Region.ready .any ops listed).isEmpty
 | .step k r,fuel+1,listed=>(Region.ready .any ops listed).contains k&&aLj pf bt ops listed k&&aE7 pf bt ops listed k&&aGc pf bt ops r fuel (listed.setIfInBounds k true)
 | .two k1 k2 r1 r2,fuel+1,listed=>(Region.ready .any ops listed).contains k1&&((Region.ready .any ops listed).all fun j=>j==k1||j==k2)&&aE7 pf bt ops listed k1&&aE7 pf bt ops listed k2 &&
   aGc pf bt ops r1 fuel (listed.setIfInBounds k1 true)&&aGc pf bt ops r2 fuel (listed.setIfInBounds k2 true)
 | .thr k1 k2 k3 r1 r2 r3,fuel+1,listed=>(Region.ready .any ops listed).contains k1&&((Region.ready .any ops listed).all fun j=>j==k1||(j==k2||j==k3))&&aE7 pf bt ops listed k1&&aE7 pf bt ops listed k2&&aE7 pf bt ops listed k3 &&
   aGc pf bt ops r1 fuel (listed.setIfInBounds k1 true)&&aGc pf bt ops r2 fuel (listed.setIfInBounds k2 true)&&aGc pf bt ops r3 fuel (listed.setIfInBounds k3 true)
 | _,0,_=>false
def aKS (c:Ctx) (ops:Array Oper) (i:Nat) (sl:Nat→AV) (hp:bH) (K:(Nat→AV)→bH→Prop):Prop:=match ops[i]? with
 | none=>False
 | some o=>match wV ops o sl with
  | none=>False
  | some false=>K (tA sl o.dst .und) hp
  | some true=>∃ r H',aCl (opA c i o sl) hp (c.b+i * 64) r H'∧K (tA sl o.dst r) H'
def aEq (c:Ctx) (ops:Array Oper):Pl→(Nat→AV)→bH→((Nat→AV)→bH→Prop)→Prop
 | .nil,sl,hp,K=>K sl hp
 | .step k r,sl,hp,K=>aKS c ops k sl hp fun sl hp=>aEq c ops r sl hp K
 | .two k1 k2 r1 r2,sl,hp,K=>(aKS c ops k1 sl hp fun sl hp=>aEq c ops r1 sl hp K)∧aKS c ops k2 sl hp fun sl hp=>aEq c ops r2 sl hp K
 | .thr k1 k2 k3 r1 r2 r3,sl,hp,K=>(aKS c ops k1 sl hp fun sl hp=>aEq c ops r1 sl hp K)∧(aKS c ops k2 sl hp fun sl hp=>aEq c ops r2 sl hp K)∧aKS c ops k3 sl hp fun sl hp=>aEq c ops r3 sl hp K
theorem aEn {listed:Array Bool} {k:Nat} (h:listed.getD k true=false):(listed.setIfInBounds k true).getD k false=true:=by
 have hk:k<listed.size:=by
  rcases Nat.lt_or_ge k listed.size with h1 | h1
  ·exact h1
  ·simp [Array.getD,Nat.not_lt.2 h1] at h
 simp [Array.getD,hk]
theorem aLa {c:Ctx} (hpf:cP c.T c.pf) {i:Nat} {o:Oper} {sl:Nat→AV} (h:(opA c i o sl).uses=true):(cls c.pf c.bt o==.A||cls c.pf c.bt o==.W)=true:=by
 have:=aJB c hpf i o sl
 generalize opA c i o sl=e at this h
 generalize cls c.pf c.bt o=k at this ⊢
 cases this<;>first | rfl | cases h
theorem aKs {c:Ctx} (hpf:cP c.T c.pf) {i:Nat} {o:Oper} {sl:Nat→AV} (h:(opA c i o sl).isWrite=true):cls c.pf c.bt o=.W:=by
 have:=aJB c hpf i o sl
 generalize opA c i o sl=e at this h
 generalize cls c.pf c.bt o=k at this ⊢
 cases this<;>first | rfl | cases h
theorem aM5 {c:Ctx} {i:Nat} {o:Oper} {sl:Nat→AV} (h:(opA c i o sl).isWrite=true):aPY o=false:=by
 obtain ⟨dst,op,type,pos,after,guard⟩:=o
 cases op<;>try rfl
 rename_i cl
 obtain ⟨callee,args,argTypes⟩:=cl
 cases callee<;>try rfl
 rename_i b
 cases b<;>try rfl
 simp only [opA] at h
 split at h<;>cases h
theorem aKF (c:Ctx) (hpf:cP c.T c.pf) (hlim:c.lim≤c.b) (ops:Array Oper) (hn:c.n=ops.size) {K:(Nat→AV)→bH→Prop}:∀ (p:Pl) (fuel:Nat) (listed:Array Bool) (s:RS),xA ops listed →
  (∀ j,s.ex j=true→listed.getD j false=true∧aKM c.pf c.bt ops j=true)→aGc c.pf c.bt ops p fuel listed=true→aEq c ops p s.sl s.hp K→aMD c ops (fun s=>K s.sl s.hp) fuel listed s:=by
 have step:∀ {k:Nat} {listed:Array Bool} {s:RS} {K2:(Nat→AV)→bH→Prop},(∀ j,s.ex j=true→listed.getD j false=true∧aKM c.pf c.bt ops j=true)→aE7 c.pf c.bt ops listed k=true→aKS c ops k s.sl s.hp K2 →
   ∃ s',xU c ops k s s'∧K2 s'.sl s'.hp∧∀ j,s'.ex j=true→(listed.setIfInBounds k true).getD j false=true∧aKM c.pf c.bt ops j=true:=by
  intro k listed s K2 hex hlow h1
  unfold aKS at h1
  unfold aE7 at hlow
  cases ho:ops[k]? with
  | none=>rw [ho] at h1;exact h1.elim
  | some o=>
   rw [ho] at h1 hlow
   simp only [Bool.and_eq_true,beq_iff_eq] at hlow
   obtain ⟨hlow,hun⟩:=hlow
   have hmono:∀ j,listed.getD j false=true→(listed.setIfInBounds k true).getD j false=true:=fun j hj=>zK hj
   have hexk:s.ex k=false:=by
    cases e:s.ex k with
    | false=>rfl
    | true=>have:=(hex k e).1;rw [aGp hun] at this;cases this
   unfold xU
   simp only [ho] at h1 ⊢
   cases hw:wV ops o s.sl with
   | none=>simp only [hw] at h1
   | some b=>
    cases b with
    | false=>
     simp only [hw] at h1
     exact ⟨_,rfl,h1,fun j hj=>⟨hmono j (hex j hj).1,(hex j hj).2⟩⟩
    | true=>
     simp only [hw] at h1
     obtain ⟨r,H',he,h1⟩:=h1
     refine ⟨{ sl:=tA s.sl o.dst r,hp:=H',ex:=if (opA c k o s.sl).uses=true then upd s.ex k true else s.ex },⟨r,⟨by simp [hexk],fun hwr j hj hxj=>?_,he,rfl⟩,rfl⟩,h1,fun j hj=>?_⟩
     ·have hcl:=aKs hpf hwr
      rw [hcl,aM5 hwr] at hlow
      simp only [bne_self_eq_false,Bool.false_or,List.all_eq_true,List.mem_range] at hlow
      have:=hlow j (hn ▸ hj)
      simp only [(hex j hxj).1,(hex j hxj).2,Bool.and_self,Bool.not_true,Bool.false_or,decide_eq_true_eq] at this
      exact this
     ·simp only at hj
      split at hj
      ·rename_i hu
       by_cases e:j=k
       ·subst e
        exact ⟨aEn hun,by unfold aKM;rw [ho];exact aLa hpf hu⟩
       ·rw [aY _ _ e] at hj;exact ⟨hmono j (hex j hj).1,(hex j hj).2⟩
      ·exact ⟨hmono j (hex j hj).1,(hex j hj).2⟩
 intro p
 induction p with
 | nil=>
  intro fuel listed s _ _ hB h
  have hr:Region.ready .any ops listed=[]:=by
   cases fuel<;>simpa [aGc] using hB
  cases fuel with
  | zero=>unfold aMD;exact And.intro hr h
  | succ n=>
   unfold aMD
   refine And.intro (fun _=>h) (fun i hi=>?_)
   rw [hr] at hi;cases hi
 | step k r ih=>
  intro fuel listed s hcl hex hB h
  cases fuel with
  | zero=>simp [aGc] at hB
  | succ n=>
   simp only [aGc,Bool.and_eq_true] at hB
   obtain ⟨⟨⟨hr,hf⟩,hlow⟩,hB'⟩:=hB
   have hr':k∈Region.ready .any ops listed:=by simpa using hr
   obtain ⟨s',h1,h2,h3⟩:=step hex hlow h
   obtain ⟨_,o,ho,_⟩:=mem_ready.1 hr'
   exact aCK c hpf hlim ops ho n listed s s' hcl (aCJ ho hf) hr' h1 (ih n _ s' (hcl.set hr') h3 hB' h2)
 | two k1 k2 r1 r2 ih1 ih2=>
  intro fuel listed s hcl hex hB h
  cases fuel with
  | zero=>simp [aGc] at hB
  | succ n=>
   simp only [aGc,Bool.and_eq_true] at hB
   obtain ⟨⟨⟨⟨⟨hr,hall⟩,hl1⟩,hl2⟩,hB1⟩,hB2⟩:=hB
   have hr':k1∈Region.ready .any ops listed:=by simpa using hr
   refine ⟨fun e=>(by rw [e] at hr';cases hr'),fun i hi=>?_⟩
   have:=List.all_eq_true.1 hall i hi
   simp only [Bool.or_eq_true,beq_iff_eq] at this
   rcases this with rfl | rfl
   ·obtain ⟨s',h1,h2,h3⟩:=step hex hl1 h.1
    exact ⟨s',h1,ih1 n _ s' (hcl.set hi) h3 hB1 h2⟩
   ·obtain ⟨s',h1,h2,h3⟩:=step hex hl2 h.2
    exact ⟨s',h1,ih2 n _ s' (hcl.set hi) h3 hB2 h2⟩
 | thr k1 k2 k3 r1 r2 r3 ih1 ih2 ih3=>
  intro fuel listed s hcl hex hB h
  cases fuel with
  | zero=>simp [aGc] at hB
  | succ n=>
   simp only [aGc,Bool.and_eq_true] at hB
   obtain ⟨⟨⟨⟨⟨⟨⟨hr,hall⟩,hl1⟩,hl2⟩,hl3⟩,hB1⟩,hB2⟩,hB3⟩:=hB
   have hr':k1∈Region.ready .any ops listed:=by simpa using hr
   refine ⟨fun e=>(by rw [e] at hr';cases hr'),fun i hi=>?_⟩
   have:=List.all_eq_true.1 hall i hi
   simp only [Bool.or_eq_true,beq_iff_eq] at this
   rcases this with rfl | rfl | rfl
   ·obtain ⟨s',h1,h2,h3⟩:=step hex hl1 h.1
    exact ⟨s',h1,ih1 n _ s' (hcl.set hi) h3 hB1 h2⟩
   ·obtain ⟨s',h1,h2,h3⟩:=step hex hl2 h.2.1
    exact ⟨s',h1,ih2 n _ s' (hcl.set hi) h3 hB2 h2⟩
   ·obtain ⟨s',h1,h2,h3⟩:=step hex hl3 h.2.2
    exact ⟨s',h1,ih3 n _ s' (hcl.set hi) h3 hB3 h2⟩
end Go.Eng
namespace Go.Eng
open Go.RowKit (Below)
structure Env where
 P:Program
 T:Tbl
 pf:FuncId→Bool
 cl:Bool
 rd:Bool
 hT:TOk P T
 hpf:cP T pf
structure AS where
 sl:Nat→AV
 hp:bH
 b:Nat
theorem bJ.drew {B:Bd} {a w:World} (h:bJ B a w):bJ B a w.drew:=⟨h.os,h.tape,h.output,h.size,Nat.le_trans h.drawn (Nat.le_succ _),h.block⟩
def Rep (F:Fr) (N:Nat) (σ:AS) (a:Act) (w:World):Prop:=
 ∃ β ds,aNf F β σ.b∧(∀ t,V β (σ.sl t) (a.tmps.getD t undef))∧cL β σ.hp w (F.Bx ds)∧(∀ j,β j≠none→j<σ.b) ∧
  bJ F.B F.w0 w∧F.B.top w.heap.size∧a.defers=ds.map aOi∧aFW F ds w∧a.tmps.size=N
def Fr.ok (F:Fr) (cl rd:Bool):Prop:=cl=true→(∀ i,F.β0.loc i≠none→i<bif rd then 64 else 32)∧F.b0=0
def HT (E:Env) (N:Nat) (c:Code) (σ:AS) (Q:Exit→AS→Prop):Prop:=
 ∀ (ro:Option Nat) (F:Fr) (a:Act) (w:World),(E.rd=false→ro=none)→F.ok E.cl E.rd→Rep F N σ a w→c.wpIn (fen ro) 0 E.P (fun e a' w'=>∃ σ',Q e σ'∧Rep F N σ' a' w') a w
def aKU (c:Ctx) (ops:Array Oper):List Oper→Nat→(Nat→AV)→bH→((Nat→AV)→bH→Prop)→Prop
 | [],_,sl,hp,K=>K sl hp
 | o::os,i,sl,hp,K=>
  match wV ops o sl with
  | none=>False
  | some false=>aKU c ops os (i+1) (tA sl o.dst .und) hp K
  | some true=>∃ r H',aCl (opA c i o sl) hp (c.b+i * 64) r H'∧aKU c ops os (i+1) (tA sl o.dst r) H' K
theorem vF (c:Ctx) (ops:Array Oper) {K:(Nat→AV)→bH→Prop}:∀ (os:List Oper) (i:Nat) (s:RS),(∀ j,os[j]?=ops[i+j]?)→(∀ k,s.ex k=true→k<i) →
  aKU c ops os i s.sl s.hp K→∃ s',aLq c ops (List.range' i os.length) s s'∧K s'.sl s'.hp
 | [],i,s,_,_,h=>⟨s,rfl,h⟩
 | o::os,i,s,ho,hex,h=>by
  have h0:ops[i]?=some o:=by have:=ho 0;simpa using this.symm
  have hos:∀ j,os[j]?=ops[i+1+j]?:=fun j=>by have:=ho (j+1);rw [show i+1+j=i+(j+1) by omega];simpa using this
  simp only [aKU] at h
  simp only [List.length_cons,List.range'_succ,aLq]
  unfold xU
  simp only [h0]
  cases hw:wV ops o s.sl with
  | none=>simp [hw] at h
  | some b=>
   cases b with
   | false=>
    simp only [hw] at h
    obtain ⟨s',h1,h2⟩:=vF c ops os (i+1) { s with sl:=tA s.sl o.dst .und } hos (fun k hk=>by have:=hex k hk;omega) h
    exact ⟨s',⟨_,rfl,by simpa using h1⟩,h2⟩
   | true=>
    simp only [hw] at h
    obtain ⟨r,H',he,h⟩:=h
    have hexi:s.ex i=false:=by
     cases hh:s.ex i with
     | false=>rfl
     | true=>have:=hex i hh;omega
    obtain ⟨s',h1,h2⟩:=vF c ops os (i+1) { sl:=tA s.sl o.dst r,hp:=H',ex:=if (opA c i o s.sl).uses=true then upd s.ex i true else s.ex } hos (fun k hk=>by
     dsimp only at hk
     split at hk
     ·by_cases e:k=i
      ·omega
      ·rw [aY _ _ e] at hk;have:=hex k hk;omega
     ·have:=hex k hk;omega) h
    exact ⟨s',⟨_,⟨r,⟨by simp [hexi],fun _ k _ hk=>hex k hk,he,rfl⟩,rfl⟩,by simpa using h1⟩,h2⟩
section
variable {E:Env} {N:Nat}
theorem Rep.toRR {F:Fr} {σ:AS} {a:Act} {w:World} {n lim:Nat} {bt:Tmp→Bool} (h:Rep F N σ a w):RR ⟨E.P,E.T,E.pf,σ.b,n,lim,bt⟩ F N ⟨σ.sl,σ.hp,fun _=>false⟩ a w:=by
 obtain ⟨β,ds,h0,h1,h2,h3,h4⟩:=h
 exact ⟨β,ds,h0,h1,h2,fun j hj=>.inl (h3 j hj),h4⟩
theorem RR.toRep {F:Fr} {b n lim:Nat} {bt:Tmp→Bool} {s:RS} {a:Act} {w:World} (h:RR ⟨E.P,E.T,E.pf,b,n,lim,bt⟩ F N s a w):Rep F N ⟨s.sl,s.hp,b+n * 64⟩ a w:=by
 obtain ⟨β,ds,h0,h1,h2,h3,h4⟩:=h
 refine ⟨β,ds,⟨h0.le,h0.dom,?_,h0.fz⟩,h1,h2,fun j hj=>?_,h4⟩
 ·have:=h0.b;simp only at this ⊢;omega
 ·rcases h3 j hj with h | ⟨i,hi,_,_,h⟩
  ·simp only at h ⊢;omega
  ·simp only at h hi ⊢;omega
def aAc (N:Nat) (ops:Array Oper):Bool:=ops.toList.all fun o=>match o.dst with | some t=>t<N | none=>true
theorem lO {ops:Array Oper} (h:aAc N ops=true):∀ (i:Nat) (o:Oper) (t:Tmp),ops[i]?=some o→o.dst=some t→t<N:=by
 intro i o t ho ht
 unfold aAc at h
 rw [List.all_eq_true] at h
 have:=h o (by rw [← Array.getElem?_toList] at ho;exact List.mem_of_getElem? ho)
 rw [ht] at this
 simpa using this
theorem aFQ {id:Nat} {ops:Array Oper} {σ:AS} {Q:Exit→AS→Prop} (hd:aAc N ops=true)
  (h:aKU ⟨E.P,E.T,E.pf,σ.b,ops.size,σ.b+ops.size * 64,tH ops⟩ ops ops.toList 0 σ.sl σ.hp fun sl hp=>Q .normal ⟨sl,hp,σ.b+ops.size * 64⟩):HT E N (.region id ops false) σ Q:=by
 intro ro F a w hro hF hr
 obtain ⟨s',h1,h2⟩:=vF _ ops ops.toList 0 ⟨σ.sl,σ.hp,fun _=>false⟩ (by simp) (by simp) h
 refine wpIn_region ?_
 rw [List.range_eq_range']
 refine zX ⟨E.P,E.T,E.pf,σ.b,ops.size,σ.b+ops.size * 64,tH ops⟩ E.hT E.hpf rfl (lO hd) _ _ s' a w (by simpa using h1) hr.toRR ?_
 intro a' w' hr'
 exact ⟨_,h2,hr'.toRep⟩
theorem aJc {id:Nat} {ops:Array Oper} {σ:AS} {Q:Exit→AS→Prop} (hm:E.P.follows .mixedOrders=true) (hd:aAc N ops=true) (hB:aN4 E.pf (tH ops) ops ops.size 0 (Array.replicate ops.size false)=true)
  (h:aKU ⟨E.P,E.T,E.pf,σ.b,ops.size,σ.b,tH ops⟩ ops ops.toList 0 σ.sl σ.hp fun sl hp=>Q .normal ⟨sl,hp,σ.b+ops.size * 64⟩):HT E N (.region id ops true) σ Q:=by
 intro ro F a w hro hF hr
 obtain ⟨s',h1,h2⟩:=vF _ ops ops.toList 0 ⟨σ.sl,σ.hp,fun _=>false⟩ (by simp) (by simp) h
 refine wpIn_region_any hm ?_
 have h1':aLq ⟨E.P,E.T,E.pf,σ.b,ops.size,σ.b,tH ops⟩ ops (List.range' 0 ops.size) ⟨σ.sl,σ.hp,fun _=>false⟩ s':=by simpa using h1
 have hany:=aHd (Q:=fun s=>s=s') ⟨E.P,E.T,E.pf,σ.b,ops.size,σ.b,tH ops⟩ E.hpf (Nat.le_refl _) ops ops.size 0 _ _ s' (aAs ops _) (by simp) hB h1' rfl
 refine aAg ⟨E.P,E.T,E.pf,σ.b,ops.size,σ.b,tH ops⟩ E.hT E.hpf rfl (lO hd) (F:=F) (N:=N) (Q':=fun s=>s=s') ?_ _ _ _ a _ hany ?_
 ·rintro s a w rfl hr'
  exact ⟨_,h2,hr'.toRep⟩
 ·obtain ⟨β,ds,g0,g1,g2,g3,g4,g5,g6,g7,g8⟩:=hr
  exact Rep.toRR ⟨β,ds,g0,g1,g2.drew,g3,g4.drew,g5,g6,g7.step (bJ.refl _ w).drew,g8⟩
theorem aNr {id:Nat} {ops:Array Oper} {σ:AS} {Q:Exit→AS→Prop} (p:Pl) (hm:E.P.follows .mixedOrders=true) (hd:aAc N ops=true) (hB:aGc E.pf (tH ops) ops p ops.size (Array.replicate ops.size false)=true)
  (h:aEq ⟨E.P,E.T,E.pf,σ.b,ops.size,σ.b,tH ops⟩ ops p σ.sl σ.hp fun sl hp=>Q .normal ⟨sl,hp,σ.b+ops.size * 64⟩):HT E N (.region id ops true) σ Q:=by
 intro ro F a w hro hF hr
 refine wpIn_region_any hm ?_
 have hany:=aKF ⟨E.P,E.T,E.pf,σ.b,ops.size,σ.b,tH ops⟩ E.hpf (Nat.le_refl _) ops rfl p ops.size _ ⟨σ.sl,σ.hp,fun _=>false⟩ (aAs ops _) (fun j hj=>by cases hj) hB h
 refine aAg ⟨E.P,E.T,E.pf,σ.b,ops.size,σ.b,tH ops⟩ E.hT E.hpf rfl (lO hd) (F:=F) (N:=N) (Q':=fun s=>Q .normal ⟨s.sl,s.hp,σ.b+ops.size * 64⟩) ?_ _ _ _ a _ hany ?_
 ·intro s a w hq hr'
  exact ⟨_,hq,hr'.toRep⟩
 ·obtain ⟨β,ds,g0,g1,g2,g3,g4,g5,g6,g7,g8⟩:=hr
  exact Rep.toRR ⟨β,ds,g0,g1,g2.drew,g3,g4.drew,g5,g6,g7.step (bJ.refl _ w).drew,g8⟩
theorem HT.mono {c:Code} {σ:AS} {Q Q':Exit→AS→Prop} (h:HT E N c σ Q) (k:∀ e σ,Q e σ→Q' e σ):HT E N c σ Q':=fun ro F a w hro hF hr=>
 wpIn_mono (h ro F a w hro hF hr) fun _ _ _ ⟨σ',q,r⟩=>⟨σ',k _ _ q,r⟩
def aFA (K:AS→Prop) (Q:Exit→AS→Prop):Exit→AS→Prop
 | .normal,σ=>K σ
 | e,σ=>Q e σ
theorem aF {x y:Code} {σ:AS} {Q:Exit→AS→Prop} (h:HT E N x σ (aFA (fun σ'=>HT E N y σ' Q) Q)):HT E N (.seq x y) σ Q:=fun ro F a w hro hF hr=>
 wpIn_seq (wpIn_mono (h ro F a w hro hF hr) fun e a' w' hq=>by
  obtain ⟨σ',q,r⟩:=hq
  cases e with
  | normal=>exact q ro F a' w' hro hF r
  | _=>exact ⟨σ',q,r⟩)
theorem aG {σ:AS} {Q:Exit→AS→Prop} (h:Q .normal σ):HT E N .skip σ Q:=fun _ _ _ _ _ _ hr=>wpIn_skip ⟨σ,h,hr⟩
theorem bI {id:Nat} {σ:AS} {Q:Exit→AS→Prop} (h:Q (.exit id) σ):HT E N (.exit id) σ Q:=fun _ _ _ _ _ _ hr=>wpIn_exit ⟨σ,h,hr⟩
theorem aP {σ:AS} {Q:Exit→AS→Prop} (h:Q .ret σ):HT E N .ret σ Q:=fun _ _ _ _ _ _ hr=>wpIn_ret ⟨σ,h,hr⟩
theorem aNK {q:Operand} {x y:Code} {σ:AS} {Q:Exit→AS→Prop} {t:Bool} (hq:evA σ.sl q=.bool t) (h1:t=true→HT E N x σ Q) (h2:t=false→HT E N y σ Q):HT E N (.cond q x y) σ Q:=by
 intro ro F a w hro hF hr
 have hv:a.eval q=.bool t:=by
  obtain ⟨β,_,_,hs,_⟩:=hr
  have:=fM hs q
  rw [hq] at this
  exact aCv this
 exact wpIn_cond_split hv (fun h=>h1 h ro F a w hro hF hr) fun h=>h2 h ro F a w hro hF hr
def zR (id:Nat) (Q:Exit→AS→Prop):Exit→AS→Prop
 | .exit id',σ=>if id'=id then Q .normal σ else Q (.exit id') σ
 | e,σ=>Q e σ
theorem aJ {id:Nat} {c:Code} {σ:AS} {Q:Exit→AS→Prop} (h:HT E N c σ (zR id Q)):HT E N (.block id c) σ Q:=fun ro F a w hro hF hr=>
 wpIn_block (wpIn_mono (h ro F a w hro hF hr) fun e a' w' hq=>by
  obtain ⟨σ',q,r⟩:=hq
  cases e with
  | exit id'=>
   simp only [zR] at q
   simp only [Exit.inBlock]
   split
   ·rename_i e;rw [if_pos e] at q;exact ⟨σ',q,r⟩
   ·rename_i e;rw [if_neg e] at q;exact ⟨σ',q,r⟩
  | _=>exact ⟨σ',q,r⟩)
abbrev Ren:=List (Nat×Option Nat)
def aDZ (loc:Nat→Option Loc):Ren→Nat→Option Loc
 | [],i=>bif i<64 then loc i else none
 | (n,o)::L,i=>if i=n then (match o with | some o=>loc o | none=>some ⟨0,0,0⟩) else aDZ loc L i
def cN.ren (β:cN) (L:Ren):cN:=⟨aDZ β.loc L,β.fz,β.ys⟩
def WkR (L:Ren) (a a':AV):Prop:=∀ β v,V β a v→V (β.ren L) a' v
theorem WkR.top (L:Ren) (a:AV):WkR L a .top:=fun _ _ _=>by simp [V]
theorem WkR.wk {L:Ren} {a a':AV} (h:Wk a a') (hl:a'.loose):WkR L a a':=fun β v hv=>hl _ _ _ _ (h β v hv)
theorem WkR.ptr {L:Ren} {i i' o:Nat} (h:∀ loc,aDZ loc L i'=loc i):WkR L (.ptr i o) (.ptr i' o):=fun β v hv=>by
 simp only [V] at hv ⊢;obtain ⟨l,h1,h2⟩:=hv;exact ⟨l,(h β.loc).trans h1,h2⟩
theorem WkR.mp {L:Ren} {i i':Nat} (h:∀ loc,aDZ loc L i'=loc i):WkR L (.mp i) (.mp i'):=fun β v hv=>by
 simp only [V] at hv ⊢;obtain ⟨l,h1,h2⟩:=hv;exact ⟨l,(h β.loc).trans h1,h2⟩
theorem WkR.sl {L:Ren} {i i' o n m z:Nat} (h:∀ loc,aDZ loc L i'=loc i):WkR L (.sl i o n m z) (.sl i' o n m z):=fun β v hv=>by
 simp only [V] at hv ⊢;obtain ⟨l,h1,h2⟩:=hv;exact ⟨l,(h β.loc).trans h1,h2⟩
theorem WkR.so {L:Ren} {i i' o n z:Nat} (h:∀ loc,aDZ loc L i'=loc i):WkR L (.so i o n z) (.so i' o n z):=fun β v hv=>by
 simp only [V] at hv ⊢;obtain ⟨l,h1,h2⟩:=hv;exact ⟨l,(h β.loc).trans h1,h2⟩
theorem WkR.tok {L:Ren} {g g' sz n n':Nat} {f f':Nat→AV} (h:∀ loc,aDZ loc L g'=loc g) (hn:n=n') (hf:∀ j,j<n→Wk (f j) (f' j)) (hl:∀ j,(f' j).loose):WkR L (.lst (.tok g) sz n f) (.lst (.tok g') sz n' f'):=fun β v hv=>by
 subst hn
 simp only [V] at hv ⊢
 obtain ⟨b,cap,h1,h2,⟨l,h3,h3'⟩,h4⟩:=hv
 refine ⟨b,cap,h1,h2,⟨l,(h β.loc).trans h3,h3'⟩,fun j hj=>?_⟩
 obtain ⟨c,o,u,k1,k2,k3,k4⟩:=h4 j hj
 exact ⟨c,o,u,k1,k2,k3,hl j _ _ _ _ (hf j hj _ _ k4)⟩
theorem WkR.nil {L:Ren} {g sz:Nat} {f:Nat→AV} (h:∀ loc,aDZ loc L g=some ⟨0,0,0⟩):WkR L .nils (.lst (.tok g) sz 0 f):=fun β v hv=>by
 simp only [V] at hv ⊢
 subst hv
 exact ⟨none,0,rfl,Nat.le_refl _,⟨_,h β.loc,.inl rfl⟩,fun j hj=>by omega⟩
theorem WkR.cap {L:Ren} {g sz n n':Nat} {f f':Nat→AV} (h:∀ loc,aDZ loc L g=some ⟨0,0,0⟩) (hn:n=n') (hf:∀ j,j<n→Wk (f j) (f' j)) (hl:∀ j,(f' j).loose):WkR L (.lst .cap sz n f) (.lst (.tok g) sz n' f'):=fun β v hv=>by
 subst hn
 simp only [V] at hv ⊢
 obtain ⟨b,cap,h1,h2,h3,h4⟩:=hv
 refine ⟨b,cap,h1,h2,⟨_,h β.loc,.inl h3⟩,fun j hj=>?_⟩
 obtain ⟨c,o,u,k1,k2,k3,k4⟩:=h4 j hj
 exact ⟨c,o,u,k1,k2,k3,hl j _ _ _ _ (hf j hj _ _ k4)⟩
def CkR (L:Ren):List AV→List AV→Prop
 | _,[]=>True
 | [],_::_=>False
 | a::as,b::bs=>WkR L a b∧CkR L as bs
theorem CkR.get {L:Ren}:∀ {as bs:List AV},CkR L as bs→∀ (j:Nat) (b:AV),bs[j]?=some b→∃ a,as[j]?=some a∧WkR L a b
 | _,[],_,j,b,h=>by simp at h
 | [],_::_,h,_,_,_=>h.elim
 | a::as,b::bs,h,0,c,hc=>by simp at hc;subst hc;exact ⟨a,by simp,h.1⟩
 | a::as,b::bs,h,j+1,c,hc=>by
  obtain ⟨x,hx,hw⟩:=CkR.get h.2 j c (by simpa using hc)
  exact ⟨x,by simpa using hx,hw⟩
theorem CkR.len {L:Ren}:∀ {as bs:List AV},CkR L as bs→bs.length≤as.length
 | _,[],_=>by simp
 | [],_::_,h=>h.elim
 | a::as,b::bs,h=>by have:=CkR.len h.2;simp;exact this
theorem CkR.of {L:Ren} {as bs:List AV} (hl:bs.length≤as.length) (h:∀ (j:Nat) (b:AV),bs[j]?=some b→∃ a,as[j]?=some a∧WkR L a b):CkR L as bs:=by
 induction bs generalizing as with
 | nil=>cases as<;>trivial
 | cons b bs ih=>
  cases as with
  | nil=>simp at hl
  | cons a as=>
   refine ⟨?_,ih (by simpa using hl) fun j c hc=>?_⟩
   ·obtain ⟨x,hx,hw⟩:=h 0 b rfl;simp at hx;subst hx;exact hw
   ·obtain ⟨x,hx,hw⟩:=h (j+1) c (by simpa using hc);exact ⟨x,by simpa using hx,hw⟩
def BkR (L:Ren) (hp:bH) (_n:Nat) (o:Option Nat):AB→Prop
 | .cells bs=>match o with
  | none=>bs=[]
  | some o=>match hp o with
   | some (.cells as)=>CkR L as bs
   | _=>False
 | .map es clk=>match o with
  | none=>False
  | some o=>match hp o with
   | some (.map ds clk')=>clk'=clk∧ds.length=es.length∧∀ (j:Nat) (p:Nat×AV×AV),es[j]?=some p→∃ q,ds[j]?=some q∧q.1=p.1∧WkR L q.2.1 p.2.1∧WkR L q.2.2 p.2.2
   | _=>False
 | .gh S G s=>match o with
  | none=>False
  | some o=>hp o=some (.gh S G s)
 | .maps sz es clk ho=>match o with
  | none=>False
  | some o=>match hp o with
   | some (.maps sz' ds clk' ho')=>sz'=sz∧ho'=ho∧clk'=clk∧ds.length=es.length∧∀ (j:Nat) (p:Nat×AV×AV),es[j]?=some p→∃ q,ds[j]?=some q∧q.1=p.1∧WkR L q.2.1 p.2.1∧WkR L q.2.2 p.2.2
   | _=>False
def qI:Ren→Nat→Option (Option Nat)
 | [],i=>bif i<64 then some (some i) else none
 | (n,o)::L,i=>if i=n then some o else qI L i
theorem oX (loc:Nat→Option Loc):∀ (L:Ren) (i:Nat),aDZ loc L i=match qI L i with | none=>none | some none=>some ⟨0,0,0⟩ | some (some o)=>loc o
 | [],i=>by simp only [aDZ,qI];cases decide (i<64)<;>rfl
 | (n,o)::L,i=>by
  simp only [aDZ,qI]
  by_cases e:i=n
  ·simp only [e,if_true];cases o<;>rfl
  ·simp only [e,if_false];exact oX loc L i
structure wT (n:Nat) (L:Ren) (σ σ':AS):Prop where
 sl:∀ t,WkR L (σ.sl t) (σ'.sl t)
 hp:∀ i b,σ'.hp i=some b→∃ o,qI L i=some o∧BkR L σ.hp i o b
 inj:∀ i j o,qI L i=some (some o)→qI L j=some (some o)→i=j
 b:∀ i o,qI L i=some o→i<σ'.b
 anc:∀ i,i<n→qI L i=some (some i)
abbrev zH:Ren→AS→AS→Prop:=wT 64
theorem wT.rep0 {n:Nat} {L:Ren} {F:Fr} {σ σ':AS} {a:Act} {w:World} (h:wT n L σ σ') (f1:∀ i,F.β0.loc i≠none→i<n) (f2:F.b0=0) (hr:Rep F N σ a w):Rep F N σ' a w:=by
 obtain ⟨β,ds,h0,h1,h2,h3,h4⟩:=hr
 have hloc:∀ i,(β.ren L) i=aDZ β.loc L i:=fun _=>rfl
 have old:∀ {k b l},σ'.hp k=some b→(β.ren L) k=some l→0<l.k→∃ o b0,qI L k=some (some o)∧σ.hp o=some b0∧β o=some l:=fun {k b l} hk hl hpos=>by
  obtain ⟨o,e1,e2⟩:=h.hp k _ hk
  rw [hloc,oX,e1] at hl
  cases o with
  | none=>cases hl;simp at hpos
  | some o=>
   refine ⟨o,?_⟩
   cases b with
   | cells bs=>simp only [BkR] at e2;split at e2;rename_i as ho;exact ⟨_,e1,ho,hl⟩;exact e2.elim
   | map es clk=>simp only [BkR] at e2;split at e2;rename_i ds ck ho;exact ⟨_,e1,ho,hl⟩;exact e2.elim
   | gh S G s=>simp only [BkR] at e2;exact ⟨_,e1,e2,hl⟩
   | maps sz es clk ho=>simp only [BkR] at e2;split at e2;rename_i hh;exact ⟨_,e1,hh,hl⟩;exact e2.elim
 have hanc:∀ i l,F.β0 i=some l→(β.ren L) i=some l:=fun i l hl=>by
  rw [hloc,oX,h.anc i (f1 i (by rw [hl];simp))];exact h0.le.loc _ _ hl
 refine ⟨β.ren L,ds,⟨⟨hanc,h0.le.fz⟩,fun j _=>.inr (by omega),by omega,h0.fz⟩,fun t=>h.sl t _ _ (h1 t),?_,fun j hj=>?_,h4⟩
 ·constructor
  ·exact h2.fz
  ·exact h2.gb
  ·intro i cs hi
   obtain ⟨o,e1,e2⟩:=h.hp i _ hi
   cases o with
   | none=>
    simp only [BkR] at e2;subst e2
    exact ⟨⟨0,0,0⟩,by rw [hloc,oX,e1],by simp,fun hk=>by simp at hk⟩
   | some o=>
    simp only [BkR] at e2
    split at e2
    ·rename_i as ho
     obtain ⟨l,g1,g2,g3⟩:=h2.own o as ho
     refine ⟨l,by rw [hloc,oX,e1];exact g1,Nat.le_trans e2.len g2,fun hk=>?_⟩
     obtain ⟨hB,hu,full,e',p,q,r⟩:=g3 hk
     refine ⟨hB,hu,full,e',p,q,fun j b hb=>?_⟩
     obtain ⟨x,hx,hw⟩:=e2.get j b hb
     obtain ⟨v,y,z⟩:=r j x hx
     exact ⟨v,y,hw _ _ z⟩
    ·exact e2.elim
  ·intro i es clk hi
   obtain ⟨o,e1,e2⟩:=h.hp i _ hi
   cases o with
   | none=>exact e2.elim
   | some o=>
    simp only [BkR] at e2
    split at e2
    ·rename_i ds ck ho
     obtain ⟨l,g1,g2,g3,ents,g4,m⟩:=h2.map o ds ck ho
     obtain ⟨rfl,el,er⟩:=e2
     refine ⟨l,by rw [hloc,oX,e1];exact g1,g2,g3,ents,g4,by rw [m.len,el],fun j p hp=>?_⟩
     obtain ⟨q,hq,w0,w1,w2⟩:=er j p hp
     obtain ⟨e,x,x',y,z⟩:=m.rel j q hq
     exact ⟨e,x,x'.trans w0,w1 _ _ y,w2 _ _ z⟩
    ·exact e2.elim
  ·intro i j bi bj li lj hne hi hj ei ej pi pj
   obtain ⟨oi,bi0,x1,x2,x3⟩:=old hi ei pi
   obtain ⟨oj,bj0,y1,y2,y3⟩:=old hj ej pj
   have:oi≠oj:=fun e=>hne (h.inj i j oi x1 (e ▸ y1))
   exact h2.sep oi oj bi0 bj0 li lj this x2 y2 x3 y3 pi pj
  ·exact h2.ys
  ·intro i b l hi ei pi
   obtain ⟨o,b0,x1,x2,x3⟩:=old hi ei pi
   exact h2.yo o b0 l x2 x3 pi
  ·intro i S G s hi
   obtain ⟨o,e1,e2⟩:=h.hp i _ hi
   cases o with
   | none=>exact e2.elim
   | some o=>
    simp only [BkR] at e2
    obtain ⟨l,g1,g2⟩:=h2.gh o S G s e2
    exact ⟨l,by rw [hloc,oX,e1];exact g1,g2⟩
  ·intro i j S G s S' G' s' hi hj
   obtain ⟨o,e1,e2⟩:=h.hp i _ hi
   obtain ⟨o',e1',e2'⟩:=h.hp j _ hj
   cases o with
   | none=>exact e2.elim
   | some o=>
    cases o' with
    | none=>exact e2'.elim
    | some o'=>
     simp only [BkR] at e2 e2'
     have:=h2.gh1 o o' S G s S' G' s' e2 e2'
     subst this
     exact h.inj i j o e1 e1'
  ·intro i sz es clk ho hi
   obtain ⟨o,e1,e2⟩:=h.hp i _ hi
   cases o with
   | none=>exact e2.elim
   | some o=>
    simp only [BkR] at e2
    split at e2
    ·rename_i sz' ds ck ho' hh
     obtain ⟨l,g1,g2,g3,ents,g4,m,m2⟩:=h2.mps o sz' ds ck ho' hh
     obtain ⟨rfl,rfl,rfl,el,er⟩:=e2
     refine ⟨l,by rw [hloc,oX,e1];exact g1,g2,g3,ents,g4,⟨by rw [m.len,el],fun j p hp=>?_⟩,m2⟩
     obtain ⟨q,hq,w0,w1,w2⟩:=er j p hp
     obtain ⟨e,x,x',y,z⟩:=m.rel j q hq
     exact ⟨e,x,x'.trans w0,w1 _ _ y,w2 _ _ z⟩
    ·exact e2.elim
  ·intro i j sz es clk ho b hi hj hb
   obtain ⟨o,e1,e2⟩:=h.hp i _ hi
   obtain ⟨o',e1',e2'⟩:=h.hp j _ hj
   cases o with
   | none=>exact e2.elim
   | some o=>
    simp only [BkR] at e2
    split at e2
    ·rename_i sz' ds ck ho' hh
     cases o' with
     | none=>cases b with
      | gh S G s=>exact e2'.elim
      | maps sz es clk ho=>exact e2'.elim
      | _=>cases hb
     | some o'=>
      have:∃ b',σ.hp o'=some b'∧aAK b'=false:=by
       cases b with
       | gh S G s=>exact ⟨_,e2',rfl⟩
       | maps sz es clk ho=>
        simp only [BkR] at e2'
        split at e2'
        ·rename_i hh2;exact ⟨_,hh2,rfl⟩
        ·exact e2'.elim
       | _=>cases hb
      obtain ⟨b',k1,k2⟩:=this
      have:=h2.mp1 o o' _ _ _ _ b' hh k1 k2
      subst this
      exact h.inj i j o e1 e1'
    ·exact e2.elim
 ·have hj':aDZ β.loc L j≠none:=hj
  rw [oX] at hj'
  cases e:qI L j with
  | none=>rw [e] at hj';exact absurd rfl hj'
  | some o=>exact h.b j o e
theorem wT.rep {n:Nat} {L:Ren} {F:Fr} {σ σ':AS} {a:Act} {w:World} {rd:Bool} (hn:(bif rd then 64 else 32)≤n) (h:wT n L σ σ') (hF:F.ok true rd) (hr:Rep F N σ a w):Rep F N σ' a w:=
 wT.rep0 h (fun i hi=>Nat.lt_of_lt_of_le ((hF rfl).1 i hi) hn) (hF rfl).2 hr
theorem zH.rep {L:Ren} {F:Fr} {σ σ':AS} {a:Act} {w:World} {rd:Bool} (h:zH L σ σ') (hF:F.ok true rd) (hr:Rep F N σ a w):Rep F N σ' a w:=wT.rep (by cases rd<;>simp) h hF hr
theorem aBA {L:Ren} {c:Code} {σ σ':AS} {Q:Exit→AS→Prop} (hcl:E.cl=true) (h:zH L σ σ') (k:HT E N c σ' Q):HT E N c σ Q:=fun ro F a w hro hF hr=>k ro F a w hro hF (zH.rep h (hcl ▸ hF) hr)
theorem aA8 {F:Fence} {n:Nat} {P:Program} {Q:Exit→Act→World→Prop} {a:Act} {w:World} {c:Code} (I:Nat→Act→World→Prop) (n₀:Nat) (h₀:I n₀ a w)
  (round:∀ m a w,I m a w→c.wpIn F n P (Exit.then (fun a' w'=>∃ m',m'<m∧I m' a' w') Q) a w):(Code.loop c).wpIn F n P Q a w:=by
 refine wpIn_loop_rounds (n₀+1) ?_
 have key:∀ f m a w,m<f→I m a w→Code.roundsIn F n P c Q f a w:=by
  intro f
  induction f with
  | zero=>intro m a w h;omega
  | succ f ih=>
   intro m a w h hI
   refine wpIn_mono (round m a w hI) fun e a' w' hq=>?_
   cases e with
   | normal=>obtain ⟨m',hm,hI'⟩:=hq;exact ih m' a' w' (by omega) hI'
   | _=>exact hq
 exact key _ _ _ _ (Nat.lt_succ_self _) h₀
theorem aLZ {c:Code} {σ:AS} {Q:Exit→AS→Prop} (hcl:E.cl=true) (I:Nat→AS→Prop) (n:Nat) (h0:∃ L σ0,zH L σ σ0∧I n σ0)
  (round:∀ n σ,I n σ→HT E N c σ (aFA (fun σ'=>∃ m,m<n∧∃ L σ0,zH L σ' σ0∧I m σ0) Q)):HT E N (.loop c) σ Q:=by
 obtain ⟨L,σ0,hw,hI⟩:=h0
 refine aBA hcl hw ?_
 exact fun ro F a w hro hF hr=>
  aA8 (fun n a w=>∃ σ',I n σ'∧Rep F N σ' a w) n ⟨σ0,hI,hr⟩ fun n a w ⟨σ',hI,hr'⟩=>
  wpIn_mono (round n σ' hI ro F a w hro hF hr') fun e a' w' hq=>by
   obtain ⟨σ'',q,r⟩:=hq
   cases e with
   | normal=>obtain ⟨m,hm,L',σ3,hw,hI'⟩:=q;exact ⟨m,hm,σ3,hI',zH.rep hw (hcl ▸ hF) r⟩
   | _=>exact ⟨σ'',q,r⟩
def ofL (l:List (Nat×AV)):Nat→AV:=fun t=>match l with
 | []=>.top
 | (u,a)::l=>bif t==u then a else ofL l t
theorem aJk {L:Ren} {sl:Nat→AV}:∀ {l:List (Nat×AV)},(∀ p∈l,WkR L (sl p.1) p.2)→∀ t,WkR L (sl t) (ofL l t)
 | [],_,t=>WkR.top L _
 | (u,a)::l,h,t=>by
  unfold ofL
  cases e:t==u with
  | true=>simp only [beq_iff_eq] at e;subst e;exact h (t,a) (by simp)
  | false=>exact aJk (fun p hp=>h p (by simp [hp])) t
end
end Go.Eng
namespace Go.Eng
universe u v
open Go.RowKit (Below)
abbrev aAb:=List AV→bH→Nat→AV→bH→Prop
def FOk (P:Program) (f:FuncId) (s:aAb):Prop:=
 (∀ av w,(callFunc f av).run P w=.ok (.enter f av) w) ∧
 ∀ args H base r H',s args H base r H'→∀ (B:Bd) (w:World) (β:cN) (av:List Value),(∀ j,β j≠none→j<base)→cL β H w B→B.top w.heap.size→Vs β args av →
  Calls P f av.toArray w (zO P β B base w r H')
def T0:Tbl:=fun _ _ _ _ _ _=>False
def ext (T:Tbl) (f:FuncId) (s:aAb):Tbl:=fun g=>if g=f then s else T g
theorem aRb (P:Program):TOk P T0:=fun _ _ _ _ _ _ h=>h.elim
theorem bP {P:Program} {T:Tbl} {f:FuncId} {s:aAb} (hT:TOk P T) (hf:FOk P f s):TOk P (ext T f s):=by
 intro g args H base r H' h
 unfold ext at h
 by_cases e:g=f
 ·subst e;simp only [if_true] at h;exact ⟨hf.1,hf.2 args H base r H' h⟩
 ·simp only [e,if_false] at h;exact hT g args H base r H' h
theorem aAV (T:Tbl) (f:FuncId) (s:aAb):ext T f s f=s:=by simp [ext]
theorem yW (T:Tbl) {f g:FuncId} (s:aAb) (h:g≠f):ext T f s g=T g:=by simp [ext,h]
def aH (S:List AV→AV→Prop):aAb:=fun args H _ r H'=>S args r∧r.loose∧H'=H
theorem lsI (k:IntKind) (n:Int):(AV.int k n).loose:=fun _ _ _ _ h=>by simpa [V] using h
theorem lsB (b:Bool):(AV.bool b).loose:=fun _ _ _ _ h=>by simpa [V] using h
theorem xZ:AV.top.loose:=fun _ _ _ _ _=>by simp [V]
theorem bC:AV.nils.loose:=fun _ _ _ _ h=>by simpa [V] using h
theorem aEd {as:List AV} (h:∀ a∈as,a.loose) {β:cN} {loc':Nat→Option Loc} {ys':Nat→Prop}:∀ {vs:List Value},Vs β as vs→Vs ⟨loc',β.fz,ys'⟩ as vs:=by
 induction as with
 | nil=>intro vs hv;simpa [Vs] using hv
 | cons a as ih=>
  intro vs hv
  simp only [Vs] at hv ⊢
  obtain ⟨v,vs',e,h1,h2⟩:=hv
  exact ⟨v,vs',e,h a (by simp) _ _ _ _ h1,ih (fun b hb=>h b (by simp [hb])) h2⟩
theorem vZ {cs:List AV} (h:∀ a∈cs,a.loose):(AV.agg cs).loose:=fun _ _ _ _ hv=>by
 simp only [V] at hv ⊢;obtain ⟨vs,e,hv⟩:=hv;exact ⟨vs,e,aEd h hv⟩
theorem eJ {cs:List AV} (h:∀ a∈cs,a.loose):(AV.tup cs).loose:=fun _ _ _ _ hv=>by
 simp only [V] at hv ⊢;obtain ⟨vs,e,hv⟩:=hv;exact ⟨vs,e,aEd h hv⟩
theorem lsN:∀ a∈([]:List AV),a.loose:=fun a h=>by simp at h
theorem lsC {a:AV} {as:List AV} (h:a.loose) (k:∀ a∈as,a.loose):∀ b∈a::as,b.loose:=fun b hb=>by
 rcases List.mem_cons.1 hb with rfl | hb
 ·exact h
 ·exact k b hb
theorem lsL {sz n:Nat} {f:Nat→AV} (h:∀ j,(f j).loose):(AV.lst .free sz n f).loose:=fun _ _ _ _ hv=>by
 simp only [V] at hv ⊢
 obtain ⟨b,cap,h1,h2,h3,h4⟩:=hv
 refine ⟨b,cap,h1,h2,trivial,fun j hj=>?_⟩
 obtain ⟨c,o,u,k1,k2,k3,k4⟩:=h4 j hj
 exact ⟨c,o,u,k1,k2,k3,h j _ _ _ _ k4⟩
def aNO (P:Program) (lim:Nat) (σ:AS):ResultVar→Option AV
 | .tmp t=>some (σ.sl t)
 | .cell a t=>tJ P lim t (σ.sl a) σ.hp
def aGH (P:Program) (rs:Array ResultVar) (σ:AS):Option AV:=
 (rs.toList.mapM (aNO P σ.b σ)).map fun l=>match l with | [x]=>x | l=>.tup l
def aF6 (a:Act):ResultVar→Sem Value
 | .tmp t=>pure (a.tmps.getD t undef)
 | .cell x t=>do loadVar t (← asAddr (a.tmps.getD x undef))
theorem aHN {P:Program} {β:cN} {w:World} {B:Bd} {σ:AS} {a:Act} (hs:∀ t,V β (σ.sl t) (a.tmps.getD t undef)) (hH:cL β σ.hp w B):∀ (l:List ResultVar) (rs:List AV),l.mapM (aNO P σ.b σ)=some rs →
  ∃ vs:List Value,(l.mapM (aF6 a)).run P w=.ok vs w∧Vs β rs vs
 | [],rs,h=>by simp at h;subst h;exact ⟨[],by simp,by simp [Vs]⟩
 | x::l,rs,h=>by
  simp only [List.mapM_cons] at h
  obtain ⟨y,hy,h1⟩:=bQ h
  obtain ⟨ys,hys,h2⟩:=bQ h1
  simp at h2;subst h2
  obtain ⟨vs,hv,hvs⟩:=aHN hs hH l ys hys
  cases x with
  | tmp t=>
   simp only [aNO,Option.some.injEq] at hy;subst hy
   exact ⟨_::vs,by simp only [List.mapM_cons,aF6,Sem.run_bind,Sem.run_pure,Result.andThen_ok,hv],_,_,rfl,hs t,hvs⟩
  | cell q t=>
   simp only [aNO] at hy
   obtain ⟨z,hz,hzv⟩:=aJ8 (P:=P) hH hy (hs q)
   have hq:∃ ad,a.tmps.getD q undef=.pointer (some ad):=by
    unfold tJ at hy
    split at hy<;>(try (simp at hy;done))
    ·rename_i e
     have:=hs q
     rw [e] at this
     obtain ⟨l,_,hv⟩:=aId this
     exact ⟨_,hv⟩
    ·rename_i e
     have:=hs q
     rw [e] at this
     obtain ⟨_,_,_,hv,_⟩:=aO4 this
     exact ⟨_,hv⟩
   obtain ⟨ad,had⟩:=hq
   rw [had] at hz
   simp only [Instr.loadAt,Instr.sureAddr,Sem.run_bind,Sem.run_pure,Result.andThen_ok] at hz
   exact ⟨z::vs,by simp only [List.mapM_cons,aF6,Sem.run_bind,had,asAddr,Sem.run_pure,Result.andThen_ok,hz,hv],_,_,rfl,hzv,hvs⟩
theorem aIO {P:Program} {fn:Func} {β:cN} {w:World} {B:Bd} {σ:AS} {a:Act} {r:AV} (h:aGH P fn.results σ=some r) (hs:∀ t,V β (σ.sl t) (a.tmps.getD t undef)) (hH:cL β σ.hp w B) :
  ∃ v,(results fn a.tmps).run P w=.ok v w∧V β r v:=by
 unfold aGH at h
 obtain ⟨rs,hrs,hr⟩:=Option.map_eq_some_iff.1 h
 obtain ⟨vs,hv,hvs⟩:=aHN (P:=P) hs hH _ _ hrs
 have hm:(fn.results.mapM (aF6 a)).run P w=.ok vs.toArray w:=by
  rw [Array.mapM_eq_mapM_toList,Sem.run_map,hv];rfl
 have hres:results fn a.tmps=(fn.results.mapM (aF6 a) >>= fun vs=>pure (if h:vs.size=1 then vs[0] else .tuple vs)):=rfl
 rw [hres,Sem.run_bind,hm]
 simp only [Result.andThen_ok,Sem.run_pure]
 refine ⟨_,rfl,?_⟩
 cases rs with
 | nil=>
  simp [Vs] at hvs;subst hvs;subst hr
  exact ⟨[],by simp,by simp [Vs]⟩
 | cons x rs=>
  obtain ⟨u,us,rfl,h1,h2⟩:=hvs
  cases rs with
  | nil=>simp [Vs] at h2;subst h2;subst hr;simpa using h1
  | cons y rs=>
   subst hr
   obtain ⟨u2,us2,rfl,h3,h4⟩:=h2
   have hne:¬ ((u::u2::us2).toArray.size=1):=by simp
   simp only [dif_neg hne]
   exact ⟨u::u2::us2,rfl,u,u2::us2,rfl,h1,u2,us2,rfl,h3,h4⟩
def aTv:Nat→AV:=fun _=>.und
def aRc:Nat→List AV→Nat→AV
 | _,[]=>aTv
 | k,a::l=>wY (aRc (k+1) l) k a
theorem aJn:∀ (args:List AV) (k t:Nat),aRc k args t=if t<k then .und else (args[t-k]?).getD .und
 | [],k,t=>by simp [aRc,aTv]
 | a::l,k,t=>by
  simp only [aRc,wY,upd,aJn l (k+1) t]
  by_cases e:t=k
  ·subst e;simp
  ·simp only [e,if_false]
   by_cases h:t<k
   ·simp [h,show t<k+1 by omega]
   ·rw [if_neg (by omega),if_neg h]
    obtain ⟨m,hm⟩:∃ m,t-k=m+1:=⟨t-k-1,by omega⟩
    rw [hm,show t-(k+1)=m by omega];rfl
def aCs (args:List AV):Nat→AV:=aRc 0 args
theorem aL3 (args:List AV) (t:Nat):aCs args t=(args[t]?).getD .und:=by simp [aCs,aJn]
theorem cL.frame {β β':cN} {H _H2:bH} {w w':World} {B _B2:Bd} (h:cL β H w B) (hle:cN.le β β') (hloc:β'.loc=β.loc) (hys:β'.ys=β.ys) (hnew:∀ c o,β'.fz c o≠none→β.fz c o≠none∨w.heap.size≤c) (hfz:∀ c o v,β'.fz c o=some v→w'.cell? ⟨c,o,none⟩=some v)
  (hb:bJ (fun c=>w.heap.size≤c) w w'):cL β' H w' B where
 fz:=hfz
 gb:=h.gb.mono hle.fz
 own i cs hi:=by
  obtain ⟨l,h1,h2,h3⟩:=h.own i cs hi
  refine ⟨l,hle.loc _ _ h1,h2,fun hk=>?_⟩
  obtain ⟨hB,hu,full,e,p,q,r⟩:=h3 hk
  have hlt:=(h.lt_of_own hi h1 hk).1
  refine ⟨hB,fun o ho1 ho2=>?_,full,e,(hb.block _ (Nat.not_le.2 hlt)).trans p,q,fun j a ha=>let ⟨v,x,y⟩:=r j a ha;⟨v,x,kU hle _ _ y⟩⟩
  cases hh:β'.fz l.c o with
  | none=>rfl
  | some v=>
   rcases hnew l.c o (by simp [hh]) with e | e
   ·exact absurd (hu o ho1 ho2) e
   ·omega
 map i es clk hi:=by
  obtain ⟨l,h1,h2,h3,ents,h4,m⟩:=h.map i es clk hi
  have hlt:=(h.lt_of_own hi h1 h2).1
  exact ⟨l,hle.loc _ _ h1,h2,h3,ents,(hb.block _ (Nat.not_le.2 hlt)).trans h4,m.mono hle⟩
 sep i j bi bj li lj hne hi hj ei ej pi pj:=by
  rw [hloc] at ei ej
  exact h.sep i j bi bj li lj hne hi hj ei ej pi pj
 ys c hc:=by rw [hys] at hc;exact ⟨(h.ys c hc).1,Nat.lt_of_lt_of_le (h.ys c hc).2 hb.size⟩
 yo i b l hi hl pi:=by rw [hloc] at hl;rw [hys];exact h.yo i b l hi hl pi
 gh i S G s hi:=by
  obtain ⟨l,h1,h2,h3,h4,h5⟩:=h.gh i S G s hi
  refine ⟨l,hle.loc _ _ h1,h2,by rw [hys];exact G.stable _ _ _ _ _ h3 ⟨hb.os,hb.tape,hb.output,hb.size,hb.drawn,fun c hc=>hb.block c (Nat.not_le.2 (h.ys c (Classical.not_not.1 hc)).2)⟩ (fun c o v hv=>hfz c o v (hle.fz c o v (h5 c o v hv))),fun c o v hc hv=>?_,fun c o v hv=>hle.fz c o v (h5 c o v hv)⟩
  rw [hys] at hc
  have hlt:=(h.ys c hc).2
  refine h4 c o v hc ?_
  cases hh:β.fz c o with
  | none=>
   rcases hnew c o (by simp [hv]) with e | e
   ·exact absurd hh e
   ·omega
  | some u=>rw [hle.fz _ _ _ hh] at hv;exact hv
 gh1:=h.gh1
 mps i sz es clk ho hi:=by
  obtain ⟨l,h1,h2,h3,ents,h4,m,m2⟩:=h.mps i sz es clk ho hi
  have hlt:=(h.lt_of_own hi h1 h2).1
  refine ⟨l,hle.loc _ _ h1,h2,h3,ents,(hb.block _ (Nat.not_le.2 hlt)).trans h4,m.mono hle,m2.mono (fun c hc=>by rw [hys];exact hc) (fun c q hc hq=>?_) fun c hc=>hb.block c (Nat.not_le.2 (h.ys c hc).2)⟩
  cases hh:β'.fz c q with
  | none=>rfl
  | some u=>
   rcases hnew c q (by simp [hh]) with e | e
   ·exact absurd hq e
   ·have:=(h.ys c hc).2;omega
 mp1:=h.mp1
def aPb (P:Program) (rs:Array ResultVar) (r:AV):Exit→AS→Prop:=fun e σ=>match e with
 | .normal | .ret=>∃ r0,aGH P rs σ=some r0∧Wk r0 r
 | _=>False
theorem aF0 {N:Nat} {β:cN} {B:Bd} {base:Nat} {w:World} {args:List AV} {av:List Value} {H:bH} (hβ:∀ j,β j≠none→j<base) (hH:cL β H w B) (hB:B.top w.heap.size) (hv:Vs β args av) (hle:args.length≤N) :
  Rep ⟨B,w,β,base⟩ N ⟨aCs args,H,base⟩ { tmps:=(av.toArray++Array.replicate (N-av.toArray.size) undef),defers:=[] } w:=by
 have hal:=cO hv
 refine ⟨β,[],⟨cN.le.refl _,fun j hj=>.inl hj,Nat.le_refl _,fun c o h=>.inl h⟩,fun t=>?_,by rw [Fr.Bx_nil];exact hH,hβ,bJ.refl _ _,hB,rfl,aFW.nil _ _,?_⟩
 ·show V β (aCs args t) _
  rw [aL3]
  cases ht:args[t]? with
  | some a=>
   obtain ⟨v,h1,h2⟩:=tT hv t a ht
   have hlt:t<av.length:=(List.getElem?_eq_some_iff.1 h1).1
   rw [Array.getD_eq_getD_getElem?,Array.getElem?_append_left (by simpa using hlt)]
   simpa [h1] using h2
  | none=>
   have hge:args.length≤t:=by simpa using ht
   simp only [Option.getD_none,V]
   rw [Array.getD_eq_getD_getElem?,Array.getElem?_append_right (by simp;omega)]
   rw [Array.getElem?_replicate]
   split<;>rfl
 ·simp;omega
theorem aG7 {N:Nat} {B:Bd} {b0 b:Nat} {β:cN} {w0 w:World} {sl:Nat→AV} {H:bH} {a:Act} (h:Rep ⟨B,w0,β,b0⟩ N ⟨sl,H,b⟩ a w):Rep ⟨B,w0,β,0⟩ N ⟨sl,H,b⟩ a w:=by
 obtain ⟨β1,ds,h0,h1⟩:=h
 exact ⟨β1,ds,⟨h0.le,fun _ _=>.inr (Nat.zero_le _),Nat.zero_le _,h0.fz⟩,h1⟩
theorem aHE {P:Program} {f:FuncId} {fn:Func} {c:Code} (hf:P.funcs[f]?=some fn) (hn:(fn.name == "runtime.NumGoroutine")=false) (hb:fn.body=some c) (av:Array Value) (w:World) :
  (callFunc f av).run P w=.ok (.enter f av) w:=by
 have hn2:¬ fn.name = "runtime.NumGoroutine" := by simpa using hn
 simp [callFunc,hf,hn2,hb]
structure aPm (ds:List Nat) (w w2:World):Prop where
 bel:bJ (fun c=>c∈ds) w w2
theorem cL.shut {β:cN} {H:bH} {w w2:World} {F:Fr} {ds:List Nat} (h:cL β H w (F.Bx ds)) (hm:aFW F ds w) (k:aPm ds w w2):cL β H w2 (F.Bx ds):=
 h.world (fun c o v hv=>by
   have h0:=h.fz c o v hv
   have hne:c ∉ ds:=fun hd=>by
    have:=(hm.at_ c hd).2
    simp [World.cell?,this] at h0
   exact (World.cell?_of_block (w:=w) (a:=⟨c,o,none⟩) (k.bel.block c hne)).trans h0)
  (fun i b l hi hl hk=>k.bel.block _ (h.lt_of_own hi hl hk).2.2)
  (k.bel.weaken fun c hc hy=>(h.ys c hy).1.2 hc)
theorem aAt {P:Program} {fn:Func} {tmps:Array Value} {R:Ending→World→Prop}:∀ (ds:List Nat) (w:World),ds.Nodup→(∀ D,D∈ds→w.heap[D]?=some (.deferred (some []))) →
  (∀ w2,aPm ds w w2→∃ v,(results fn tmps).run P w2=.ok v w2∧R (.returned v) w2)→LeavesInM (fen none) 0 P fn tmps R (ds.map aOi) .returning w
 | [],w,_,_,h=>h w ⟨bJ.refl _ _⟩
 | D::ds,w,hn,hd,h=>by
  have hD:=hd D (by simp)
  refine ⟨(by intro h;cases h),.inl ⟨D,_,rfl,run_takeDeferred hD,?_⟩⟩
  rw [List.nodup_cons] at hn
  have hput:bJ (fun c=>c=D) w (w.putObj D (.deferred none)):=⟨rfl,rfl,rfl,by simp,Nat.le_refl _,fun k hk=>World.putObj_heap_other hk⟩
  refine aAt ds _ hn.2 (fun E hE=>?_) fun w2 hw2=>h w2 ⟨(hput.weaken fun c hc=>by simp [hc]).trans (hw2.bel.weaken fun c hc=>by simp [hc])⟩
  have hne:E≠D:=fun e=>by subst e;exact hn.1 hE
  rw [World.putObj_heap_other hne]
  exact hd E (by simp [hE])
theorem aBG {P:Program} {T:Tbl} {pf:FuncId→Bool} {cl:Bool} {hT:TOk P T} {hpf:cP T pf} {f:FuncId} {fn:Func} {c:Code} {N:Nat} {F:Fr} {σ:AS} {Q:Exit→AS→Prop} {R:Ending→World→Prop} {args:Array Value} {w:World}
  (hf:P.funcs[f]?=some fn) (hb:fn.body=some c) (h:HT ⟨P,T,pf,cl,false,hT,hpf⟩ N c σ Q) (hok:F.ok cl false)
  (hr:Rep F N σ { tmps:=args++Array.replicate (fn.ntmps-args.size) undef,defers:=[] } w)
  (hend:∀ (e:Exit) (σ':AS) (a':Act) (w2:World) (β':cN) (ds:List Nat),Q e σ'→aNf F β' σ'.b→(∀ t,V β' (σ'.sl t) (a'.tmps.getD t undef))→cL β' σ'.hp w2 (F.Bx ds)→(∀ j,β' j≠none→j<σ'.b)→bJ F.B F.w0 w2→F.B.top w2.heap.size →
   (e=.normal∨e=.ret)∧∃ v,(results fn a'.tmps).run P w2=.ok v w2∧R (.returned v) w2):Calls P f args w R:=by
 refine (callsIn_wide (n:=0)).1 (callsIn_of_wp_marks (F:=fen none) hf hb trivial (wpIn_mono (h none F _ w (fun _=>rfl) hok hr) ?_) rfl)
 intro e a' w' hq
 obtain ⟨σ',q,β',ds,hsince,hs,hH',hb',hbel,hB',hdf,hmk,_⟩:=hq
 have fin:∀ w2,aPm ds w' w2→(e=.normal∨e=.ret)∧∃ v,(results fn a'.tmps).run P w2=.ok v w2∧R (.returned v) w2:=fun w2 hw2=>
  hend e σ' a' w2 β' ds q hsince hs (hH'.shut hmk hw2) hb' (hbel.trans (hw2.bel.weaken fun c hc=>(hmk.at_ c hc).1)) (hB'.mono hw2.bel.size)
 have hl:LeavesInM (fen none) 0 P fn a'.tmps R a'.defers .returning w':=by
  rw [hdf];exact aAt ds w' hmk.nodup (fun D hD=>(hmk.at_ D hD).2) fun w2 hw2=>(fin w2 hw2).2
 have hlast:∃ w2,aPm ds w' w2:=by
  suffices H:∀ (ds:List Nat) (w:World),∃ w2,aPm ds w w2 from H ds w'
  intro ds w;exact ⟨w,⟨bJ.refl _ _⟩⟩
 obtain ⟨w2,hw2⟩:=hlast
 rcases (fin w2 hw2).1 with rfl | rfl
 ·exact hl
 ·exact hl
theorem bM {P:Program} {T:Tbl} {pf:FuncId→Bool} (hT:TOk P T) (hpf:cP T pf) {f:FuncId} {fn:Func} {c:Code} {S:List AV→AV→Prop} {N:Nat} {rs:Array ResultVar} (hf:P.funcs[f]?=some fn) (hb:fn.body=some c) (hN:fn.ntmps=N) (hrs:fn.results=rs)
  (hn:(fn.name == "runtime.NumGoroutine")=false)
  (h:∀ args r,S args r→args.length≤N∧(∀ a∈args,a.loose)∧HT ⟨P,T,pf,true,false,hT,hpf⟩ N c ⟨aCs args,fun _=>none,64⟩ (aPb P rs r)):FOk P f (aH S):=by
 subst hN hrs
 refine ⟨fun av w=>aHE hf hn hb av w,fun args H base r H' e B w β av hβ hH hB hv=>?_⟩
 obtain ⟨e,hloose,rfl⟩:=e
 obtain ⟨hle,hla,hh⟩:=h args r e
 have h0:cL ⟨fun _=>none,β.fz,fun _=>False⟩ (fun _=>none) w (fun c=>w.heap.size≤c):=⟨hH.fz,hH.gb,fun i cs hi=>by simp at hi,fun i es clk hi=>by simp at hi,fun i j bi bj li lj _ hi=>by simp at hi,fun c hc=>hc.elim,fun i b l hi=>by simp at hi,fun i S G s hi=>by simp at hi,fun i j S G s S' G' s' hi=>by simp at hi,fun i sz es clk ho hi=>by simp at hi,fun i j sz es clk ho b hi=>by simp at hi⟩
 refine aBG (F:=⟨fun c=>w.heap.size≤c,w,⟨fun _=>none,β.fz,fun _=>False⟩,0⟩) hf hb hh (fun _=>⟨fun _ h=>absurd rfl h,rfl⟩) (aG7 (aF0 (β:=⟨fun _=>none,β.fz,fun _=>False⟩) (base:=64) (fun j hj=>absurd rfl hj) h0 (fun _ h=>h) (aEd hla hv) hle)) ?_
 intro e' σ' a' w' β' ds q hsince hs hH' hb' hbel hB'
 have fin:(∃ r0,aGH P fn.results σ'=some r0∧Wk r0 r)→∃ v,(results fn a'.tmps).run P w'=.ok v w'∧zO P β B base w r H' (.returned v) w':=by
  rintro ⟨r0,hr,hwk⟩
  obtain ⟨v,hv1,hv2⟩:=aIO (P:=P) hr hs hH'
  have hle2:cN.le β ⟨β.loc,β'.fz,β.ys⟩:=⟨fun _ _ h=>h,hsince.le.fz⟩
  refine ⟨v,hv1,v,⟨β.loc,β'.fz,β.ys⟩,rfl,⟨hle2,fun j hj=>.inl hj,fun c o hc=>?_⟩,hloose _ _ _ _ (hwk _ _ hv2),?_,.of hB hbel⟩
  ·rcases hsince.fz c o hc with h1 | h1
   ·exact .inl h1
   ·exact .inr (hB _ h1)
  ·exact hH.frame (_H2:=σ'.hp) (_B2:=fun c=>w.heap.size≤c) hle2 rfl rfl (fun c o hc=>hsince.fz c o hc) hH'.fz hbel
 cases e' with
 | normal=>exact ⟨.inl rfl,fin q⟩
 | ret=>exact ⟨.inr rfl,fin q⟩
 | _=>exact q.elim
theorem cL.sup {β:cN} {H:bH} {w:World} {B B':Bd} (h:cL β H w B) (k:∀ c,B c→B' c):cL β H w B':=
 ⟨h.fz,h.gb,fun i cs hi=>let ⟨l,h1,h2,h3⟩:=h.own i cs hi;⟨l,h1,h2,fun hk=>let ⟨a,b⟩:=h3 hk;⟨k _ a,b⟩⟩,fun i es clk hi=>let ⟨l,h1,h2,h3,h4⟩:=h.map i es clk hi;⟨l,h1,h2,k _ h3,h4⟩,h.sep,fun c hc=>⟨k _ (h.ys c hc).1,(h.ys c hc).2⟩,h.yo,h.gh,h.gh1,fun i sz es clk ho hi=>let ⟨l,h1,h2,h3,h4⟩:=h.mps i sz es clk ho hi;⟨l,h1,h2,k _ h3,h4⟩,h.mp1⟩
theorem aGf (f:Nat→AV) (i j:Nat) (x:AV):wY f i x j=if j=i then x else f j:=rfl
theorem qY {sl:Nat→AV} {t:Nat} {a:AV} (h:sl t=a):wY sl t a=sl:=by
 funext j;unfold wY upd;split
 ·rename_i e;subst e;exact h.symm
 ·rfl
theorem aFa {x:Int} (h1 : -9223372036854775808≤x) (h2:x≤9223372036854775807):IntKind.i64.wrap x=x:=by
 rw [IntKind.wrap_i64];omega
end Go.Eng
namespace Go.Eng
open Go.RowKit (Below)
inductive TK where
 | int (k:IntKind)
 | struct (fs:List (Nat×Nat))
 | array (n:Nat) (e:TypeId)
 | slice (e:TypeId)
 | map (q:IntKind) (e:TypeId) (z:AV)
 | str
 | bool
 | other
structure TD where
 k:TK
 size:Nat
 zero:List AV
 bytes:Nat
abbrev DT:=TypeId→Option TD
def TK.agg:TK→Bool
 | .struct _ | .array _ _=>true
 | _=>false
def xC (P:Program) (t:TypeId):TK→Prop
 | .int k=>P.underlying t=some (.int k)
 | .struct fs=>∃ F,P.underlying t=some (.struct F)∧F.toList.map (fun f=>(f.type,f.offset))=fs
 | .array n e=>P.underlying t=some (.array n e)
 | .slice e=>P.underlying t=some (.slice e)
 | .map q e z=>aMO P t=some (q,e)∧aJI P e=some z
 | .str=>P.underlying t=some .string
 | .bool=>P.underlying t=some .bool
 | .other=>aGb P t=some false
structure yQ (P:Program) (t:TypeId) (d:TD):Prop where
 size:szT P t=some d.size
 zero:aAH P t=some d.zero
 bytes:(P.info? t).map (·.bytes)=some d.bytes
 k:xC P t d.k
def DOk (P:Program) (D:DT):Prop:=∀ t d,D t=some d→yQ P t d
def aMB (l:List (Nat×TD)):DT:=fun t=>match l with
 | []=>none
 | (u,d)::l=>if t=u then some d else aMB l t
theorem aJK (P:Program):DOk P (aMB []):=fun t d h=>by simp [aMB] at h
theorem bX {P:Program} {u:Nat} {d:TD} {l:List (Nat×TD)} (h:yQ P u d) (k:DOk P (aMB l)):DOk P (aMB ((u,d)::l)):=by
 intro t d' e
 simp only [aMB] at e
 split at e
 ·rename_i e';cases e;subst e';exact h
 ·exact k t d' e
theorem yQ.agg {P:Program} {t:TypeId} {d:TD} (h:yQ P t d):aGb P t=some d.k.agg:=by
 have hk:=h.k
 unfold aGb
 cases hd:d.k with
 | struct fs=>rw [hd] at hk;obtain ⟨F,e,_⟩:=hk;rw [e];rfl
 | other=>rw [hd] at hk;exact hk
 | map q e z=>rw [hd] at hk;obtain ⟨kt,e1,_⟩:=aAk hk.1;rw [e1];rfl
 | _=>rw [hd] at hk;simp only [xC] at hk;rw [hk];rfl
def uT (a:AV) (k:AV→Prop):Prop:=
 match a with
 | .top=>k .top
 | .und=>k .und
 | .int t n=>k (.int t n)
 | .bool b=>k (.bool b)
 | .str s=>k (.str s)
 | .nilp=>k .nilp
 | .ptr i o=>k (.ptr i o)
 | .ep cs o=>k (.ep cs o)
 | .nils=>k .nils
 | .sl i o n m z=>k (.sl i o n m z)
 | .so i o n z=>k (.so i o n z)
 | .lst m z n f=>k (.lst m z n f)
 | .nilm=>k .nilm
 | .mp i=>k (.mp i)
 | .nilf=>k .nilf
 | .fn f a b=>k (.fn f a b)
 | .agg cs=>k (.agg cs)
 | .tup cs=>k (.tup cs)
 | .yld i=>k (.yld i)
theorem aCx (a:AV) (k:AV→Prop):uT a k=k a:=by cases a<;>rfl
def jM:List AV→(List AV→Prop)→Prop
 | [],k=>k []
 | a::l,k=>uT a fun a=>jM l fun l=>k (a::l)
theorem eY:∀ (l:List AV) (k:List AV→Prop),jM l k=k l
 | [],_=>rfl
 | a::l,k=>by simp only [jM,aCx];rw [eY l]
def vU (a:AV) (k:AV→Prop):Prop:=
 match a with
 | .agg cs=>jM cs fun cs=>k (.agg cs)
 | a=>uT a k
theorem tW (a:AV) (k:AV→Prop):vU a k=k a:=by cases a<;>first | rfl | simp only [vU,eY]
def tM:List AV→(List AV→Prop)→Prop
 | [],k=>k []
 | a::l,k=>vU a fun a=>tM l fun l=>k (a::l)
theorem pY:∀ (l:List AV) (k:List AV→Prop),tM l k=k l
 | [],_=>rfl
 | a::l,k=>by simp only [tM,tW];rw [pY l]
def fC (a:AV) (k:AV→Prop):Prop:=
 match a with
 | .agg cs=>jM cs fun cs=>k (.agg cs)
 | .tup cs=>tM cs fun cs=>k (.tup cs)
 | a=>uT a k
theorem dP (a:AV) (k:AV→Prop):fC a k=k a:=by cases a<;>first | rfl | simp only [fC,eY,pY]
def iP (n:Nat) (k:Nat→Prop):Prop:=match n with
 | 0=>k 0
 | m+1=>k (m+1)
theorem cZ (n:Nat) (k:Nat→Prop):iP n k=k n:=by cases n<;>rfl
def aHh:List (Nat×AV)→(List (Nat×AV)→Prop)→Prop
 | [],k=>k []
 | (i,a)::l,k=>vU a fun a=>aHh l fun l=>k ((i,a)::l)
theorem aFM:∀ (l:List (Nat×AV)) (k:List (Nat×AV)→Prop),aHh l k=k l
 | [],_=>rfl
 | (i,a)::l,k=>by simp only [aHh,tW];rw [aFM l]
theorem aL {l:List AV} {k:List AV→Prop} (h:k l):jM l k:=by rw [eY];exact h
theorem aJe {l l':List AV} {k:List AV→Prop} (e:l=l') (h:k l'):jM l k:=by rw [eY,e];exact h
section
variable (D:DT)
def aIB (cs:List AV) (o:Nat) (k:AV→Prop):Prop:=∃ a,cs[o]?=some a∧uT a k
def aIi (t:TypeId) (cs:List AV) (o:Nat) (k:AV→Prop):Prop:=
 match D t with
 | some d=>match d.k.agg with
  | true=>o+d.size≤cs.length∧jM ((cs.drop o).take d.size) fun l=>k (.agg l)
  | false=>aIB cs o k
 | none=>False
def aOw (op:BinOp) (x y:AV) (k:AV→Prop):Prop:=
 match op with
 | .quo=>match x,y with
  | .int k1 a,.int k2 b=>if k1=k2 then b≠0∧k (.int k1 (k1.wrap (a.tdiv b))) else False
  | _,_=>False
 | .rem=>match x,y with
  | .int k1 a,.int k2 b=>if k1=k2 then b≠0∧k (.int k1 (a.tmod b)) else False
  | _,_=>False
 | .shl=>match x,y with
  | .int k1 a,.int _ b=>0≤b∧k (.int k1 (k1.wrap (a * 2 ^ (min b.toNat k1.bits))))
  | _,_=>False
 | .shr=>match x,y with
  | .int k1 a,.int _ b=>0≤b∧k (.int k1 (a.fdiv (2 ^ (min b.toNat k1.bits))))
  | _,_=>False
 | op=>match aIA op x y with
  | some r=>k r
  | none=>False
def eqK (P:Program) (op:BinOp) (t:TypeId) (x y:AV) (k:AV→Prop):Prop:=∃ r,EqR P op t x y r∧k r
def aNq (P:Program) (op:BinOp) (t:TypeId) (x y:AV) (k:AV→Prop):Prop:=
 match op with
 | .eql=>match x with
  | .int _ _=>aOw .eql x y k
  | x=>fC x fun x=>fC y fun y=>eqK P .eql t x y k
 | .neq=>match x with
  | .int _ _=>aOw .neq x y k
  | x=>fC x fun x=>fC y fun y=>eqK P .neq t x y k
 | op=>aOw op x y k
def aN9 (s d:TypeId) (x:AV) (k:AV→Prop):Prop:=
 match D s,D d with
 | some ⟨.int _,_,_,_⟩,some ⟨.int kd,_,_,_⟩=>match x with
  | .int _ n=>k (.int kd (kd.wrap n))
  | _=>False
 | _,_=>False
def aJy (t:TypeId) (x:AV) (f:Nat) (k:AV→Prop):Prop:=
 match D t with
 | some ⟨.struct fs,_,_,_⟩=>match x with
  | .agg cs=>match fs[f]? with
   | some (ft,off)=>aIi D ft cs off k
   | none=>False
  | _=>False
 | _=>False
def zW (t:TypeId) (x:AV) (f:Nat) (k:AV→Prop):Prop:=
 match D t with
 | some ⟨.struct fs,_,_,_⟩=>match x with
  | .ptr i o=>match fs[f]? with
   | some (ft,off)=>match D ft with
    | some d=>if d.size=0 then False else k (.ptr i (o+off))
    | none=>False
   | none=>False
  | .ep cs o=>match fs[f]? with
   | some (ft,off)=>match D ft with
    | some d=>if d.size=0 then False else k (.ep cs (o+off))
    | none=>False
   | none=>False
  | _=>False
 | _=>False
def aIQ (t:TypeId) (x i:AV) (k:AV→Prop):Prop:=
 match D t with
 | some ⟨.array len e,_,_,_⟩=>match D e with
  | some d=>match x,i with
   | .agg cs,.int _ n=>(0≤n∧n<len)∧aIi D e cs (n.toNat * d.size) k
   | _,_=>False
  | none=>False
 | _=>False
def aAa (t:TypeId) (x i:AV) (k:AV→Prop):Prop:=
 match D t with
 | some ⟨.array len e,_,_,_⟩=>match D e with
  | some d=>match x,i with
   | .ptr id o,.int _ n=>(0≤n∧n<len)∧k (.ptr id (o+n.toNat * d.size))
   | .ep cs o,.int _ n=>(0≤n∧n<len)∧k (.ep cs (o+n.toNat * d.size))
   | _,_=>False
  | none=>False
 | some ⟨.slice e,_,_,_⟩=>match D e with
  | some d=>match x,i with
   | .sl id o len _ s,.int _ n=>if d.size=s then (0≤n∧n<len)∧k (.ptr id (o+n.toNat * d.size)) else False
   | .so id o len s,.int _ n=>if d.size=s then (0≤n∧n<len)∧k (.ptr id (o+n.toNat * d.size)) else False
   | .lst _ s len f,.int _ n=>if d.size=s then (0≤n∧n<len)∧(match (f n.toNat).cells with | some cs=>jM cs fun cs=>k (.ep cs 0) | none=>False) else False
   | _,_=>False
  | none=>False
 | _=>False
def tP (x:Option AV) (d:Nat) (k:Nat→Prop):Prop:=
 match x with
 | none=>k d
 | some (.int _ n)=>0≤n∧k n.toNat
 | _=>False
def aOe (m:LM) (s len:Nat) (f:Nat→AV) (lo hi mx:Option AV) (k:AV→Prop):Prop:=
 ∃ h l r,fA hi len=some h∧fA lo 0=some l∧((mx=none∧l≤h∧h≤len∧Wk (.lst (slM hi m) s (h-l) fun j=>f (l+j)) r)∨(∃ x,mx=some x∧fA mx 0=some h∧l≤h∧h≤len∧Wk (.lst .cap s (h-l) fun j=>f (l+j)) r))∧k r
def aI4 (t:TypeId) (x:AV) (lo hi mx:Option AV) (k:AV→Prop):Prop:=
 match mx,hi with
 | some _,none=>False
 | mx,hi=>
 match D t with
 | some ⟨.slice e,_,_,_⟩=>match D e with
  | some d=>match x with
   | .sl id o len cap s=>if d.size=s then tP mx cap fun m=>tP hi len fun h=>tP lo 0 fun l=>
     (l≤h∧h≤m∧m≤cap)∧k (.sl id (o+l * d.size) (h-l) (m-l) s) else False
   | .so id o len s=>if d.size=s then match mx with
    | none=>tP hi len fun h=>tP lo 0 fun l=>(l≤h∧h≤len)∧k (.so id (o+l * d.size) (h-l) s)
    | some m=>tP (some m) 0 fun m=>tP hi len fun h=>tP lo 0 fun l=>(l≤h∧h≤m∧m≤len)∧k (.sl id (o+l * d.size) (h-l) (m-l) s)
    else False
   | .lst m s len f=>if d.size=s then aOe m s len f lo hi mx k else False
   | .nils=>tP mx 0 fun m=>tP hi 0 fun h=>tP lo 0 fun l=>(l≤h∧h≤m∧m=0)∧k .nils
   | _=>False
  | none=>False
 | _=>False
def aBs (fs:List (Nat×Nat)):Option (List (Nat×Nat)):=fs.mapM fun p=>(D p.1).map fun d=>(p.2,d.size)
def aKB (t:TypeId) (parts:List (Nat×AV)) (k:AV→Prop):Prop:=
 match D t with
 | some ⟨.struct fs,_,z,_⟩=>match aBs D fs with
  | some pl=>match xR (fun i=>pl[i]?) z parts with
   | some cs=>jM cs fun cs=>k (.agg cs)
   | none=>False
  | none=>False
 | some ⟨.array _ e,_,z,_⟩=>match D e with
  | some d=>match xR (fun i=>some (i * d.size,d.size)) z parts with
   | some cs=>jM cs fun cs=>k (.agg cs)
   | none=>False
  | none=>False
 | _=>False
def bsK (P:Program) (t:TypeId) (n:Nat) (parts:List (Nat×AV)) (id:Nat) (k:AV→AB→Prop):Prop:=∃ r blk,sR P t n parts id r blk∧k r blk
def aOF (P:Program) (t:TypeId) (l c:AV) (id:Nat) (k:AV→AB→Prop):Prop:=∃ r0 r b,qG P t l c id=some (r0,b)∧Wk r0 r∧k r b
def aRY (t:TypeId) (x:AV) (k:AV→Prop):Prop:=
 match D t with
 | some ⟨.slice _,_,_,_⟩=>match x with
  | .sl _ _ n _ _=>k (.int .i64 n)
  | .so _ _ n _=>k (.int .i64 n)
  | .lst _ _ n _=>k (.int .i64 n)
  | .nils=>k (.int .i64 0)
  | _=>False
 | some ⟨.str,_,_,_⟩=>match x with
  | .str s=>k (.int .i64 s.size)
  | _=>False
 | some ⟨.array n _,_,_,_⟩=>k (.int .i64 n)
 | _=>False
def aOU (hp:bH) (i:Nat) (k:List AV→Prop):Prop:=∃ cs,hp i=some (.cells cs)∧k cs
def aLm (lim:Nat) (t:TypeId) (p:AV) (hp:bH) (k:AV→Prop):Prop:=
 match p with
 | .ptr i o=>i<lim∧aOU hp i fun cs=>aIi D t cs o k
 | .ep cs o=>aIi D t cs o k
 | _=>False
def aJd (t:TypeId) (p v:AV) (hp:bH) (k:AV→bH→Prop):Prop:=
 match D t with
 | some d=>match p with
  | .ptr i o=>match v.cells with
   | some xs=>aOU hp i fun cs=>xs.length=d.size∧o+d.size≤cs.length∧xs.all AV.flat=true∧jM (dZ cs o xs) fun cs'=>k .und (upd hp i (some (.cells cs')))
   | none=>False
  | _=>False
 | none=>False
def vM (T:Tbl) (f:FuncId) (args:List AV) (hp:bH) (id:Nat) (k:AV→bH→Prop):Prop:=∃ args' r H',WkL args args'∧T f args' hp id r H'∧k r H'
def cH (T:Tbl) (f:FuncId) (args:List AV) (hp:bH) (id:Nat) (k:AV→Prop):Prop:=∃ args' r H',WkL args args'∧T f args' hp id r H'∧k r
def aFT (T:Tbl) (f:FuncId) (args:List AV) (hp:bH) (id:Nat) (k:AV→bH→Prop):Prop:=∃ r blk,afR T f args id r blk∧k r (upd hp id (some blk))
def rG (P:Program) (t u:TypeId) (s x:AV) (id:Nat) (hp:bH) (k:AV→bH→Prop):Prop:=
 ∃ r0 r H',((qJ s∧qJ x∧pH P t u s x id hp=some (r0,H'))∨aAm P t u s x id hp r0 H')∧Wk r0 r∧k r H'
def uN (P:Program) (t u:TypeId) (s x:AV) (id:Nat) (hp:bH) (k:AV→bH→Prop):Prop:=∃ r blk,aDO P t u s x id r blk∧k r (upd hp id (some blk))
def aAu (P:Program) (lim:Nat) (t:TypeId) (x n:AV) (ok:Bool) (hp:bH) (k:AV→Prop):Prop:=∃ r,aBi P lim t x n ok hp r∧k r
def aPq (P:Program) (t:TypeId) (m n v:AV) (hp:bH) (k:AV→bH→Prop):Prop:=∃ r H',aOV P t m n v hp r H'∧k r H'
def aSH (P:Program) (t:TypeId) (m n:AV) (hp:bH) (k:AV→bH→Prop):Prop:=∃ r H',aRq P t m n hp r H'∧k r H'
def aSd (m s v:AV) (hp:bH) (k:AV→bH→Prop):Prop:=∃ r H',aRl m s v hp r H'∧k r H'
def aSL (P:Program) (t:TypeId) (m n:AV) (hp:bH) (k:AV→bH→Prop):Prop:=∃ r H',aRm P t m n hp r H'∧k r H'
def aNe (P:Program) (lim:Nat) (t:TypeId) (x:AV) (hp:bH) (k:AV→Prop):Prop:=∃ r,aNg P lim t x hp r∧k r
def aM1 (P:Program) (lim:Nat) (t:TypeId) (x:AV) (hp:bH) (k:AV→Prop):Prop:=
 match D t with
 | some ⟨.map _ _ _,_,_,_⟩=>aNe P lim t x hp k
 | _=>aRY D t x k
def aOx (P:Program) (j:Nat) (args:List AV) (hp:bH) (k:AV→bH→Prop):Prop:=∃ r H',aRn P j args hp r H'∧k r H'
def aRO (l:List AV) (k:AV→Prop):Prop:=match aOv l with
 | some r=>fC r k
 | none=>False
def aR2 (l:List AV) (k:AV→Prop):Prop:=match aOs l with
 | some r=>fC r k
 | none=>False
end
def opN (c:Ctx) (D:DT) (id lim:Nat) (o:Oper) (sl:Nat→AV) (hp:bH) (k:AV→bH→Prop):Prop:=
 match o.op with
 | .move x | .assign x=>fC (evA sl x) fun v=>k v hp
 | .pick q a b=>match evA sl q with
  | .bool t=>cond t (fC (evA sl a) fun v=>k v hp) (fC (evA sl b) fun v=>k v hp)
  | _=>False
 | .alloc t=>match D t with
  | some d=>k (.ptr id 0) (upd hp id (some (.cells d.zero)))
  | none=>False
 | .box _ x=>match (evA sl x).cells with
  | some z=>jM z fun z=>k (.ptr id 0) (upd hp id (some (.cells z)))
  | none=>False
 | .build t ps=>aKB D t (ps.toList.map fun p=>(p.1,evA sl p.2)) fun v=>k v hp
 | .buildSlice t n ps=>aHh (ps.toList.map fun p=>(p.1,evA sl p.2)) fun ps=>bsK c.P t n ps id fun v b=>k v (upd hp id (some b))
 | .load t p=>aLm D lim t (evA sl p) hp fun v=>k v hp
 | .store t p v=>aJd D t (evA sl p) (evA sl v) hp k
 | .nilCheck x=>match evA sl x with
  | .ptr i o=>k (.ptr i o) hp
  | .ep cs o=>k (.ep cs o) hp
  | .fn f fs cs=>k (.fn f fs cs) hp
  | _=>False
 | .binOp op t x y _=>aNq c.P op t (evA sl x) (evA sl y) fun v=>k v hp
 | .unOp op _ x=>match unA op (evA sl x) with
  | some v=>k v hp
  | none=>False
 | .convert s d x=>aN9 D s d (evA sl x) fun v=>k v hp
 | .makeFunc fn first caps=>match fn with
  | .func f=>tM (first.toList.map (evA sl)) fun a=>tM (caps.toList.map (evA sl)) fun b=>k (.fn f a b) hp
  | _=>False
 | .makeSlice t l m=>fC (evA sl l) fun l=>fC (evA sl m) fun m=>aOF c.P t l m id fun v b=>k v (upd hp id (some b))
 | .slice t x lo hi mx=>aI4 D t (evA sl x) (lo.map (evA sl)) (hi.map (evA sl)) (mx.map (evA sl)) fun v=>k v hp
 | .fieldAddr t x f=>zW D t (evA sl x) f fun v=>k v hp
 | .field t x f=>aJy D t (evA sl x) f fun v=>k v hp
 | .indexAddr t x j=>aAa D t (evG sl x) (evA sl j) fun v=>k v hp
 | .index t x j=>aIQ D t (evA sl x) (evA sl j) fun v=>k v hp
 | .extract x j=>match evA sl x with
  | .tup vs=>match vs[j]? with
   | some v=>fC v fun v=>k v hp
   | none=>False
  | _=>False
 | .makeMap _ none=>k (.mp id) (upd hp id (some (.map [] 0)))
 | .lookup t x n ok=>fC (evA sl x) fun x=>fC (evA sl n) fun n=>aAu c.P lim t x n ok hp fun v=>fC v fun v=>k v hp
 | .mapUpdate t m n v | .insert t m n v=>fC (evA sl m) fun m=>fC (evA sl n) fun n=>fC (evA sl v) fun v=>aPq c.P t m n v hp k
 | .mapEntry t m n=>fC (evA sl m) fun m=>fC (evA sl n) fun n=>aSH c.P t m n hp fun v hp'=>fC v fun v=>k v hp'
 | .entryStore _ m s v=>fC (evA sl m) fun m=>fC (evA sl s) fun s=>fC (evA sl v) fun v=>aSd m s v hp k
 | .call { callee:=.builtin .delete,args,argTypes }=>match args.toList,argTypes.toList with
  | [m,n],[t,_]=>fC (evA sl m) fun m=>fC (evA sl n) fun n=>aSL c.P t m n hp fun v hp'=>fC v fun v=>k v hp'
  | _,_=>False
 | .call { callee:=.builtin .len,args,argTypes }=>match args.toList,argTypes.toList with
  | [x],t::_=>aM1 D c.P lim t (evA sl x) hp fun v=>k v hp
  | _,_=>False
 | .call { callee:=.builtin .min,args,.. }=>aRO (args.toList.map (evA sl)) fun v=>k v hp
 | .call { callee:=.builtin .max,args,.. }=>aR2 (args.toList.map (evA sl)) fun v=>k v hp
 | .call { callee:=.builtin .append,args,argTypes }=>
  match aAZ c.bt args with
  | true=>match args.toList,argTypes.toList with
   | [s,x],[t,u]=>fC (evA sl s) fun s=>fC (evA sl x) fun x=>uN c.P t u s x id hp k
   | _,_=>False
  | false=>match args.toList,argTypes.toList with
   | [s,x],[t,u]=>fC (evA sl s) fun s=>fC (evA sl x) fun x=>rG c.P t u s x id hp k
   | _,_=>False
 | .call { callee:=.value (.func f),args,.. }=>
  match c.pf f with
  | true=>tM (args.toList.map (evA sl)) fun as=>cH c.T f as hp (c.b+c.n * 64) fun v=>fC v fun v=>k v hp
  | false=>match c.pf (f+100000) with
   | true=>tM (args.toList.map (evA sl)) fun as=>aFT c.T f as hp id fun v hp'=>fC v fun v=>k v hp'
   | false=>tM (args.toList.map (evA sl)) fun as=>vM c.T f as hp id fun v hp'=>fC v fun v=>k v hp'
 | .call { callee:=.value f,args,.. }=>match evA sl f with
  | .fn g first caps=>tM (first++args.toList.map (evA sl)++caps) fun as=>vM c.T g as hp id fun v hp'=>fC v fun v=>k v hp'
  | .yld j=>tM (args.toList.map (evA sl)) fun as=>aOx c.P j as hp fun v hp'=>fC v fun v=>k v hp'
  | _=>False
 | _=>False
def opK (c:Ctx) (D:DT) (i:Nat) (o:Oper) (sl:Nat→AV) (hp:bH) (k:AV→bH→Prop):Prop:=
 match c with
 | ⟨P,T,pf,b,n,lim,bt⟩=>opN ⟨P,T,pf,b,n,lim,bt⟩ D (b+i * 64) lim o sl hp k
theorem aP7 (c:Ctx) (D:DT) (i:Nat) (o:Oper) (sl:Nat→AV) (hp:bH) (k:AV→bH→Prop):opK c D i o sl hp k=opN c D (c.b+i * 64) c.lim o sl hp k:=by cases c;rfl
theorem gKo {cs:List AV} {o:Nat} {k:AV→Prop} {a:AV} (h:cs[o]?=some a) (hk:uT a k):aIB cs o k:=⟨a,h,hk⟩
theorem bKo {hp:bH} {i:Nat} {k:List AV→Prop} {cs:List AV} (h:hp i=some (.cells cs)) (hk:k cs):aOU hp i k:=⟨cs,h,hk⟩
theorem yI {T:Tbl} {f:FuncId} {args args':List AV} {hp:bH} {id:Nat} {k:AV→bH→Prop} {r:AV} {H':bH} (hw:WkL args args') (h:T f args' hp id r H') (hk:k r H'):vM T f args hp id k:=⟨args',r,H',hw,h,hk⟩
theorem aJF {T:Tbl} {f:FuncId} {args:List AV} {hp:bH} {id:Nat} {k:AV→bH→Prop} {r:AV} {blk:AB} (h:afR T f args id r blk) (hk:k r (upd hp id (some blk))):aFT T f args hp id k:=⟨r,blk,h,hk⟩
theorem aIc {T:Tbl} {f:FuncId} {args:List AV} {hp:bH} {id:Nat} {k:AV→bH→Prop} (h:aFT T f args hp id k):∃ r blk,afR T f args id r blk∧k r (upd hp id (some blk)):=h
theorem aKw {T:Tbl} {f:FuncId} {args args':List AV} {hp:bH} {id:Nat} {k:AV→Prop} {r:AV} {H':bH} (hw:WkL args args') (h:T f args' hp id r H') (hk:k r):cH T f args hp id k:=⟨args',r,H',hw,h,hk⟩
theorem aN7 {P:Program} {op:BinOp} {t:TypeId} {x y:AV} {k:AV→Prop} (h:eqK P op t x y k):∃ r,EqR P op t x y r∧k r:=h
theorem aIp {P:Program} {t:TypeId} {x y:AV} {k:AV→Prop} {b:Bool} (h:EqV P t x y b) (hk:k (.bool !b)):eqK P .neq t x y k:=⟨_,⟨b,h,.inr ⟨rfl,rfl⟩⟩,hk⟩
theorem aLx {m:LM} {s len:Nat} {f:Nat→AV} {lo hi mx:Option AV} {k:AV→Prop} (h:aOe m s len f lo hi mx k):∃ h l r,fA hi len=some h∧fA lo 0=some l∧((mx=none∧l≤h∧h≤len∧Wk (.lst (slM hi m) s (h-l) fun j=>f (l+j)) r)∨(∃ x,mx=some x∧fA mx 0=some h∧l≤h∧h≤len∧Wk (.lst .cap s (h-l) fun j=>f (l+j)) r))∧k r:=h
theorem aGw {m:LM} {s len:Nat} {f:Nat→AV} {lo hi mx:Option AV} {k:AV→Prop} (h:∃ h l r,fA hi len=some h∧fA lo 0=some l∧((mx=none∧l≤h∧h≤len∧Wk (.lst (slM hi m) s (h-l) fun j=>f (l+j)) r)∨(∃ x,mx=some x∧fA mx 0=some h∧l≤h∧h≤len∧Wk (.lst .cap s (h-l) fun j=>f (l+j)) r))∧k r):aOe m s len f lo hi mx k:=h
theorem aLl {cs:List AV} {o:Nat} {k:AV→Prop} (h:aIB cs o k):∃ a,cs[o]?=some a∧uT a k:=h
theorem aHm {hp:bH} {i:Nat} {k:List AV→Prop} (h:aOU hp i k):∃ cs,hp i=some (.cells cs)∧k cs:=h
theorem aCt {T:Tbl} {f:FuncId} {args:List AV} {hp:bH} {id:Nat} {k:AV→bH→Prop} (h:vM T f args hp id k):∃ args' r H',WkL args args'∧T f args' hp id r H'∧k r H':=h
theorem aIj {T:Tbl} {f:FuncId} {args:List AV} {hp:bH} {id:Nat} {k:AV→Prop} (h:cH T f args hp id k):∃ args' r H',WkL args args'∧T f args' hp id r H'∧k r:=h
theorem aGg {P:Program} {t u:TypeId} {s x:AV} {id:Nat} {hp:bH} {k:AV→bH→Prop} (h:rG P t u s x id hp k):∃ r0 r H',((qJ s∧qJ x∧pH P t u s x id hp=some (r0,H'))∨aAm P t u s x id hp r0 H')∧Wk r0 r∧k r H':=h
theorem qF {P:Program} {t u:TypeId} {s x:AV} {id:Nat} {hp:bH} {k:AV→bH→Prop} {r:AV} {H':bH} (h1:qJ s) (h2:qJ x) (h:pH P t u s x id hp=some (r,H')) (hk:k r H'):rG P t u s x id hp k:=⟨r,r,H',.inl ⟨h1,h2,h⟩,Wk.refl _,hk⟩
theorem aGr {P:Program} {t u:TypeId} {s x:AV} {id:Nat} {hp:bH} {k:AV→bH→Prop} {r:AV} {H':bH} (h:aAm P t u s x id hp r H') (hk:k r H'):rG P t u s x id hp k:=⟨r,r,H',.inr h,Wk.refl _,hk⟩
theorem aAr {P:Program} {t u:TypeId} {s x:AV} {id:Nat} {hp:bH} {k:AV→bH→Prop} (h:uN P t u s x id hp k):∃ r blk,aDO P t u s x id r blk∧k r (upd hp id (some blk)):=h
theorem uP {P:Program} {t u:TypeId} {s x:AV} {id:Nat} {hp:bH} {k:AV→bH→Prop} {r:AV} {blk:AB} (h:aDO P t u s x id r blk) (hk:k r (upd hp id (some blk))):uN P t u s x id hp k:=⟨r,blk,h,hk⟩
theorem aLk {P:Program} {t:TypeId} {l c:AV} {id:Nat} {k:AV→AB→Prop} (h:aOF P t l c id k):∃ r0 r b,qG P t l c id=some (r0,b)∧Wk r0 r∧k r b:=h
theorem aNT {P:Program} {t:TypeId} {l c:AV} {id:Nat} {k:AV→AB→Prop} {r0 r:AV} {b:AB} (h:qG P t l c id=some (r0,b)) (hw:Wk r0 r) (hk:k r b):aOF P t l c id k:=⟨r0,r,b,h,hw,hk⟩
theorem aM7 {P:Program} {t:TypeId} {n:Nat} {parts:List (Nat×AV)} {id:Nat} {k:AV→AB→Prop} (h:bsK P t n parts id k):∃ r blk,sR P t n parts id r blk∧k r blk:=h
theorem aMF {P:Program} {t:TypeId} {n:Nat} {parts:List (Nat×AV)} {id:Nat} {k:AV→AB→Prop} {r:AV} {blk:AB} (h:sR P t n parts id r blk) (hk:k r blk):bsK P t n parts id k:=⟨r,blk,h,hk⟩
theorem tX {P:Program} {lim:Nat} {t:TypeId} {x n:AV} {ok:Bool} {hp:bH} {k:AV→Prop} {r:AV} (h:aBi P lim t x n ok hp r) (hk:k r):aAu P lim t x n ok hp k:=⟨r,h,hk⟩
theorem aIb {P:Program} {lim:Nat} {t:TypeId} {x n:AV} {ok:Bool} {hp:bH} {k:AV→Prop} (h:aAu P lim t x n ok hp k):∃ r,aBi P lim t x n ok hp r∧k r:=h
theorem aOc {P:Program} {t:TypeId} {m n v:AV} {hp:bH} {k:AV→bH→Prop} {r:AV} {H':bH} (h:aOV P t m n v hp r H') (hk:k r H'):aPq P t m n v hp k:=⟨r,H',h,hk⟩
theorem aHu {P:Program} {t:TypeId} {m n v:AV} {hp:bH} {k:AV→bH→Prop} (h:aPq P t m n v hp k):∃ r H',aOV P t m n v hp r H'∧k r H':=h
theorem aLu {P:Program} {t:TypeId} {m n:AV} {hp:bH} {k:AV→bH→Prop} (h:aSH P t m n hp k):∃ r H',aRq P t m n hp r H'∧k r H':=h
theorem aLR {m s v:AV} {hp:bH} {k:AV→bH→Prop} (h:aSd m s v hp k):∃ r H',aRl m s v hp r H'∧k r H':=h
theorem aLd {P:Program} {t:TypeId} {m n:AV} {hp:bH} {k:AV→bH→Prop} (h:aSL P t m n hp k):∃ r H',aRm P t m n hp r H'∧k r H':=h
theorem aKL {P:Program} {lim:Nat} {t:TypeId} {x:AV} {hp:bH} {k:AV→Prop} (h:aNe P lim t x hp k):∃ r,aNg P lim t x hp r∧k r:=h
theorem aNw {P:Program} {j:Nat} {args:List AV} {hp:bH} {k:AV→bH→Prop} {r:AV} {H':bH} (h:aRn P j args hp r H') (hk:k r H'):aOx P j args hp k:=⟨r,H',h,hk⟩
theorem aLD {P:Program} {j:Nat} {args:List AV} {hp:bH} {k:AV→bH→Prop} (h:aOx P j args hp k):∃ r H',aRn P j args hp r H'∧k r H':=h
attribute [irreducible] aOe eqK aOU aIB vM aFT cH rG uN aOF bsK aAu aPq aSH aSd aSL aNe aOx
end Go.Eng
namespace Go.Eng
open Go.RowKit (Below)
section
variable {P:Program} {D:DT}
theorem aNh {cs:List AV} {o:Nat} {k:AV→Prop} (h:aIB cs o k):∃ r,cs[o]?=some r∧k r:=by
 obtain ⟨a,h1,h2⟩:=aLl h;exact ⟨a,h1,(aCx a k) ▸ h2⟩
theorem aAT (hD:DOk P D) {t:TypeId} {cs:List AV} {o:Nat} {k:AV→Prop} (h:aIi D t cs o k):∃ r,vD P t cs o=some r∧k r:=by
 unfold aIi at h
 cases hd:D t with
 | none=>simp [hd] at h
 | some d=>
  simp only [hd] at h
  have td:=hD t d hd
  unfold vD
  rw [td.agg,td.size]
  cases ha:d.k.agg with
  | true=>
   simp only [ha,eY] at h
   simp only [Option.bind_some,h.1,if_true]
   exact ⟨_,rfl,h.2⟩
  | false=>
   simp only [ha] at h
   exact aNh h
theorem aOl {op:BinOp} {x y:AV} {k:AV→Prop} (h:aOw op x y k):∃ r,aIA op x y=some r∧k r:=by
 unfold aOw at h
 split at h
 ·split at h<;>(try exact h.elim)
  split at h<;>(try exact h.elim)
  rename_i e
  subst e
  exact ⟨_,by simp [aIA,h.1],h.2⟩
 ·split at h<;>(try exact h.elim)
  split at h<;>(try exact h.elim)
  rename_i e
  subst e
  exact ⟨_,by simp [aIA,h.1],h.2⟩
 ·split at h<;>(try exact h.elim)
  exact ⟨_,by simp [aIA,h.1],h.2⟩
 ·split at h<;>(try exact h.elim)
  exact ⟨_,by simp [aIA,h.1],h.2⟩
 ·split at h<;>(try exact h.elim)
  rename_i r e
  exact ⟨r,e,h⟩
theorem aK6 {op:BinOp} {t:TypeId} {x y:AV} {k:AV→Prop} (h:aNq P op t x y k):∃ r,(aIA op x y=some r∨EqR P op t x y r)∧k r:=by
 have L:∀ {op},aOw op x y k→∃ r,(aIA op x y=some r∨EqR P op t x y r)∧k r:=fun h=>let ⟨r,e,hk⟩:=aOl h;⟨r,.inl e,hk⟩
 have M:∀ {op},eqK P op t x y k→∃ r,(aIA op x y=some r∨EqR P op t x y r)∧k r:=fun h=>let ⟨r,e,hk⟩:=aN7 h;⟨r,.inr e,hk⟩
 unfold aNq at h
 split at h
 ·split at h
  ·exact L h
  ·simp only [dP] at h;exact M h
 ·split at h
  ·exact L h
  ·simp only [dP] at h;exact M h
 ·exact L h
theorem aLe (hD:DOk P D) {s d:TypeId} {x:AV} {k:AV→Prop} (h:aN9 D s d x k):∃ r,aJ7 P s d x=some r∧k r:=by
 unfold aN9 at h
 split at h<;>(try exact h.elim)
 rename_i h1 h2
 split at h<;>(try exact h.elim)
 have t1:=(hD _ _ h1).k
 have t2:=(hD _ _ h2).k
 simp only [xC] at t1 t2
 exact ⟨_,by simp [aJ7,t1,t2],h⟩
theorem aFH {F:Array Field} {fs:List (Nat×Nat)} (e:F.toList.map (fun f=>(f.type,f.offset))=fs) {f ft off:Nat} (h:fs[f]?=some (ft,off)):∃ fd,F[f]?=some fd∧fd.type=ft∧fd.offset=off:=by
 subst e
 rw [List.getElem?_map] at h
 obtain ⟨fd,h1,h2⟩:=Option.map_eq_some_iff.1 h
 cases h2
 exact ⟨fd,by simpa using h1,rfl,rfl⟩
theorem aJu (hD:DOk P D) {t:TypeId} {x:AV} {f:Nat} {k:AV→Prop} (h:aJy D t x f k):∃ r,aFC P t x f=some r∧k r:=by
 unfold aJy at h
 split at h<;>(try exact h.elim)
 rename_i h1
 split at h<;>(try exact h.elim)
 split at h<;>(try exact h.elim)
 rename_i ft off hf
 have t1:=(hD _ _ h1).k
 simp only [xC] at t1
 obtain ⟨F,e1,e2⟩:=t1
 obtain ⟨fd,g1,rfl,rfl⟩:=aFH e2 hf
 obtain ⟨r,r1,r2⟩:=aAT hD h
 exact ⟨r,by simp [aFC,e1,g1,r1],r2⟩
theorem aDX (hD:DOk P D) {t:TypeId} {x:AV} {f:Nat} {k:AV→Prop} (h:zW D t x f k):∃ r,tS P t x f=some r∧k r:=by
 unfold zW at h
 split at h<;>(try exact h.elim)
 rename_i h1
 split at h<;>(try exact h.elim)
 all_goals
  split at h<;>(try exact h.elim)
  rename_i ft off hf
  split at h<;>(try exact h.elim)
  rename_i d hd
  split at h<;>(try exact h.elim)
  rename_i hz
  have t1:=(hD _ _ h1).k
  simp only [xC] at t1
  obtain ⟨F,e1,e2⟩:=t1
  obtain ⟨fd,g1,rfl,rfl⟩:=aFH e2 hf
  exact ⟨_,by simp [tS,e1,g1,(hD _ _ hd).size,hz],h⟩
theorem aIG (hD:DOk P D) {t:TypeId} {x i:AV} {k:AV→Prop} (h:aIQ D t x i k):∃ r,aFo P t x i=some r∧k r:=by
 unfold aIQ at h
 split at h<;>(try exact h.elim)
 rename_i h1
 split at h<;>(try exact h.elim)
 rename_i d hd
 split at h<;>(try exact h.elim)
 have t1:=(hD _ _ h1).k
 simp only [xC] at t1
 obtain ⟨r,r1,r2⟩:=aAT hD h.2
 exact ⟨r,by simp [aFo,t1,h.1,(hD _ _ hd).size,r1],r2⟩
theorem aEy (hD:DOk P D) {t:TypeId} {x i:AV} {k:AV→Prop} (h:aAa D t x i k):∃ r,oN P t x i=some r∧k r:=by
 unfold aAa at h
 split at h<;>(try exact h.elim)
 ·rename_i h1
  split at h<;>(try exact h.elim)
  rename_i d hd
  split at h<;>(try exact h.elim)
  all_goals
   have t1:=(hD _ _ h1).k
   simp only [xC] at t1
   exact ⟨_,by simp [oN,t1,h.1,(hD _ _ hd).size],h.2⟩
 ·rename_i h1
  split at h<;>(try exact h.elim)
  rename_i d hd
  have t1:=(hD _ _ h1).k
  simp only [xC] at t1
  split at h<;>(try exact h.elim)
  ·split at h<;>(try exact h.elim)
   rename_i e;subst e
   exact ⟨_,by simp [oN,t1,h.1,(hD _ _ hd).size],h.2⟩
  ·split at h<;>(try exact h.elim)
   rename_i e;subst e
   exact ⟨_,by simp [oN,t1,h.1,(hD _ _ hd).size],h.2⟩
  ·split at h<;>(try exact h.elim)
   rename_i e;subst e
   obtain ⟨hg,h⟩:=h
   split at h<;>(try exact h.elim)
   rename_i cs hcs
   rw [eY] at h
   exact ⟨_,by simp [oN,t1,hg,(hD _ _ hd).size,hcs],h⟩
theorem mI {x:Option AV} {d:Nat} {k:Nat→Prop} (h:tP x d k):∃ n,fA x d=some n∧k n:=by
 unfold tP at h
 split at h<;>(try exact h.elim)
 ·exact ⟨_,rfl,h⟩
 ·exact ⟨_,by simp [fA,h.1],h.2⟩
theorem aJQ (hD:DOk P D) {t:TypeId} {x:AV} {lo hi mx:Option AV} {k:AV→Prop} (h:aI4 D t x lo hi mx k):∃ r,(∃ r0,aFL P t x lo hi mx=some r0∧Wk r0 r)∧k r:=by
 unfold aI4 at h
 split at h<;>(try exact h.elim)
 rename_i hne
 have hc:¬ (mx.isSome=true∧hi.isNone=true):=by
  rintro ⟨a,b⟩
  obtain ⟨m,rfl⟩:=Option.isSome_iff_exists.1 a
  simp only [Option.isNone_iff_eq_none] at b
  subst b
  exact hne m rfl rfl
 split at h<;>(try exact h.elim)
 rename_i h1
 split at h<;>(try exact h.elim)
 rename_i d hd
 have t1:=(hD _ _ h1).k
 have t2:=(hD _ _ hd).size
 simp only [xC] at t1
 unfold aFL
 rw [if_neg hc]
 split at h<;>(try exact h.elim)
 ·split at h<;>(try exact h.elim)
  rename_i e;subst e
  obtain ⟨m,e1,h⟩:=mI h
  obtain ⟨g,e2,h⟩:=mI h
  obtain ⟨l,e3,h⟩:=mI h
  exact ⟨_,⟨_,by simp [t1,t2,e1,e2,e3,h.1],Wk.refl _⟩,h.2⟩
 ·split at h<;>(try exact h.elim)
  rename_i e;subst e
  split at h
  ·obtain ⟨g,e2,h⟩:=mI h
   obtain ⟨l,e3,h⟩:=mI h
   exact ⟨_,⟨_,by simp [t1,t2,e2,e3,h.1],Wk.refl _⟩,h.2⟩
  ·obtain ⟨m,e1,h⟩:=mI h
   obtain ⟨g,e2,h⟩:=mI h
   obtain ⟨l,e3,h⟩:=mI h
   exact ⟨_,⟨_,by simp [t1,t2,e1,e2,e3,h.1],Wk.refl _⟩,h.2⟩
 ·split at h<;>(try exact h.elim)
  rename_i e;subst e
  obtain ⟨g,l,r,e2,e3,h,hk⟩:=aLx h
  refine ⟨r,?_,hk⟩
  rcases h with ⟨rfl,g1,g2,g3⟩ | ⟨x,rfl,e1,g1,g2,g3⟩
  ·exact ⟨_,by simp [t1,t2,e2,e3,g1,g2],g3⟩
  ·refine ⟨_,?_,g3⟩
   simp only [t1,t2,e1,e2,e3,Option.bind_some]
   rw [if_pos ⟨g1,trivial,g2,trivial⟩]
 ·obtain ⟨m,e1,h⟩:=mI h
  obtain ⟨g,e2,h⟩:=mI h
  obtain ⟨l,e3,h⟩:=mI h
  refine ⟨_,⟨_,?_,Wk.refl _⟩,h.2⟩
  simp only [t1,t2,e1,e2,e3,Option.bind_some]
  rw [if_pos h.1]
theorem aBK (hD:DOk P D):∀ {F:List Field} {pl:List (Nat×Nat)},aBs D (F.map fun f=>(f.type,f.offset))=some pl→F.mapM (fun f=>(szT P f.type).map fun s=>(f.offset,s))=some pl
 | [],pl,h=>by simpa [aBs] using h
 | f::F,pl,h=>by
  simp only [aBs,List.map_cons,List.mapM_cons] at h ⊢
  obtain ⟨y,hy,h1⟩:=bQ h
  obtain ⟨ys,hys,h2⟩:=bQ h1
  obtain ⟨d,hd,e⟩:=Option.map_eq_some_iff.1 hy
  rw [aBK hD (F:=F) (pl:=ys) (by simpa [aBs] using hys),(hD _ _ hd).size]
  subst e
  simpa using h2
theorem aJr (hD:DOk P D) {t:TypeId} {parts:List (Nat×AV)} {k:AV→Prop} (h:aKB D t parts k):∃ r,aCC P t parts=some r∧k r:=by
 unfold aKB at h
 split at h<;>(try exact h.elim)
 ·rename_i h1
  have t1:=(hD _ _ h1).k
  have t2:=(hD _ _ h1).zero
  simp only [xC] at t1
  obtain ⟨F,e1,rfl⟩:=t1
  split at h<;>(try exact h.elim)
  rename_i pl hpl
  have hp:=aBK hD hpl
  split at h<;>(try exact h.elim)
  rename_i cs hcs
  rw [eY] at h
  exact ⟨_,by simp only [aCC,e1,t2,Option.bind_some];rw [hp];simp [hcs],h⟩
 ·rename_i h1
  have t1:=(hD _ _ h1).k
  have t2:=(hD _ _ h1).zero
  simp only [xC] at t1
  split at h<;>(try exact h.elim)
  rename_i d hd
  split at h<;>(try exact h.elim)
  rename_i cs hcs
  rw [eY] at h
  exact ⟨_,by simp [aCC,t1,t2,(hD _ _ hd).size,hcs],h⟩
theorem aNJ (hD:DOk P D) {t:TypeId} {x:AV} {k:AV→Prop} (h:aRY D t x k):∃ r,aNo P t x=some r∧k r:=by
 unfold aRY at h
 split at h<;>(try exact h.elim)
 ·rename_i h1
  have t1:=(hD _ _ h1).k
  simp only [xC] at t1
  split at h<;>(try exact h.elim)
  all_goals exact ⟨_,by simp [aNo,t1],h⟩
 ·rename_i h1
  have t1:=(hD _ _ h1).k
  simp only [xC] at t1
  split at h<;>(try exact h.elim)
  exact ⟨_,by simp [aNo,t1],h⟩
 ·rename_i h1
  have t1:=(hD _ _ h1).k
  simp only [xC] at t1
  exact ⟨_,by simp [aNo,t1],h⟩
theorem aLp (hD:DOk P D) {lim:Nat} {t:TypeId} {x:AV} {hp:bH} {k:AV→Prop} (h:aM1 D P lim t x hp k):∃ r,aNg P lim t x hp r∧k r:=by
 unfold aM1 at h
 split at h
 ·exact aKL h
 ·obtain ⟨r,e,hk⟩:=aNJ hD h
  exact ⟨r,.inl e,hk⟩
theorem aHG (hD:DOk P D) {lim:Nat} {t:TypeId} {p:AV} {hp:bH} {k:AV→Prop} (h:aLm D lim t p hp k):∃ r,tJ P lim t p hp=some r∧k r:=by
 unfold aLm at h
 split at h<;>(try exact h.elim)
 ·obtain ⟨hl,h⟩:=h
  obtain ⟨cs,hb,h⟩:=aHm h
  obtain ⟨r,r1,r2⟩:=aAT hD h
  exact ⟨r,by simp [tJ,hl,hb,r1],r2⟩
 ·obtain ⟨r,r1,r2⟩:=aAT hD h
  exact ⟨r,by simp [tJ,r1],r2⟩
theorem aJ1 (hD:DOk P D) {t:TypeId} {p v:AV} {hp:bH} {k:AV→bH→Prop} (h:aJd D t p v hp k):∃ r H',aFp P t p v hp=some (r,H')∧k r H':=by
 unfold aJd at h
 split at h<;>(try exact h.elim)
 rename_i d hd
 split at h<;>(try exact h.elim)
 split at h<;>(try exact h.elim)
 rename_i xs hxs
 obtain ⟨cs,hb,h1,h2,h3,h4⟩:=aHm h
 rw [eY] at h4
 refine ⟨_,_,?_,h4⟩
 simp only [aFp,hxs,hb,(hD _ _ hd).size,Option.bind_some]
 rw [if_pos ⟨h1,h2,h3⟩]
theorem aMU {l:List AV} {k:AV→Prop} (h:aRO l k):∃ r,aOv l=some r∧k r:=by
 unfold aRO at h;split at h<;>(try exact h.elim)
 rename_i r e;rw [dP] at h;exact ⟨r,e,h⟩
theorem aNa {l:List AV} {k:AV→Prop} (h:aR2 l k):∃ r,aOs l=some r∧k r:=by
 unfold aR2 at h;split at h<;>(try exact h.elim)
 rename_i r e;rw [dP] at h;exact ⟨r,e,h⟩
end
theorem aMq {c:Ctx} {D:DT} (hD:DOk c.P D) {i:Nat} {o:Oper} {sl:Nat→AV} {hp:bH} {k:AV→bH→Prop} (h:opK c D i o sl hp k) :
  ∃ r H',aCl (opA c i o sl) hp (c.b+i * 64) r H'∧k r H':=by
 have pureK:∀ {x:AV→Prop},opA c i o sl=.pure x→(∃ r,x r∧k r hp)→∃ r H',aCl (opA c i o sl) hp (c.b+i * 64) r H'∧k r H':=by
  rintro x e ⟨r,hx,hk⟩;exact ⟨r,hp,by rw [e];exact ⟨hx,rfl⟩,hk⟩
 obtain ⟨dst,op,type,pos,after,guard⟩:=o
 rw [aP7] at h
 cases op<;>simp only [opN] at h<;>(try exact h.elim)
 case move x=>rw [dP] at h;exact pureK rfl ⟨_,rfl,h⟩
 case assign x=>rw [dP] at h;exact pureK rfl ⟨_,rfl,h⟩
 case pick q a b=>
  split at h<;>(try exact h.elim)
  rename_i t ht
  refine pureK rfl ?_
  simp only [ht]
  cases t
  ·exact ⟨_,rfl,by simpa [dP] using h⟩
  ·exact ⟨_,rfl,by simpa [dP] using h⟩
 case alloc t=>
  split at h<;>(try exact h.elim)
  rename_i d hd
  exact ⟨_,_,⟨_,⟨_,(hD _ _ hd).zero,rfl,rfl⟩,rfl⟩,h⟩
 case box t x=>
  split at h<;>(try exact h.elim)
  rename_i z hz
  rw [eY] at h
  exact ⟨_,_,⟨_,⟨_,hz,rfl,rfl⟩,rfl⟩,h⟩
 case build t ps=>exact pureK rfl (aJr hD h)
 case buildSlice t n ps=>
  rw [aFM] at h
  obtain ⟨r,b,e,hk⟩:=aM7 h
  exact ⟨r,_,⟨b,e,rfl⟩,hk⟩
 case load t p=>
  obtain ⟨r,e,hk⟩:=aHG hD h
  exact ⟨r,_,⟨e,rfl⟩,hk⟩
 case store t p v=>exact aJ1 hD h
 case nilCheck x=>
  split at h<;>(try exact h.elim)
  ·rename_i e;exact pureK rfl ⟨_,⟨rfl,by simp only [e]⟩,by rw [e];exact h⟩
  ·rename_i e;exact pureK rfl ⟨_,⟨rfl,by simp only [e]⟩,by rw [e];exact h⟩
  ·rename_i e;exact pureK rfl ⟨_,⟨rfl,by simp only [e]⟩,by rw [e];exact h⟩
 case binOp op t x y u=>exact pureK rfl (aK6 h)
 case unOp op t x=>
  split at h<;>(try exact h.elim)
  rename_i v e
  exact pureK rfl ⟨v,e,h⟩
 case convert s d x=>exact pureK rfl (aLe hD h)
 case makeFunc fn first caps=>
  cases fn<;>simp only at h<;>(try exact h.elim)
  rw [pY,pY] at h
  exact pureK rfl ⟨_,rfl,h⟩
 case makeSlice t l m=>
  simp only [dP] at h
  obtain ⟨r0,r,b,e,hw,hk⟩:=aLk h
  exact ⟨r,_,⟨b,⟨r0,e,hw⟩,rfl⟩,hk⟩
 case makeMap t rv=>
  cases rv with
  | some _=>exact h.elim
  | none=>exact ⟨_,_,⟨_,⟨rfl,rfl⟩,rfl⟩,h⟩
 case lookup t x n ok=>
  simp only [dP] at h
  obtain ⟨r,e,hk⟩:=aIb h
  exact ⟨r,_,⟨e,rfl⟩,hk⟩
 case mapUpdate t m n v=>
  simp only [dP] at h
  obtain ⟨r,H',e,hk⟩:=aHu h
  exact ⟨r,H',e,hk⟩
 case insert t m n v=>
  simp only [dP] at h
  obtain ⟨r,H',e,hk⟩:=aHu h
  exact ⟨r,H',e,hk⟩
 case mapEntry t m n=>
  simp only [dP] at h
  obtain ⟨r,H',e,hk⟩:=aLu h
  exact ⟨r,H',e,hk⟩
 case entryStore t m s v=>
  simp only [dP] at h
  obtain ⟨r,H',e,hk⟩:=aLR h
  exact ⟨r,H',e,hk⟩
 case slice t x lo hi mx=>exact pureK rfl (aJQ hD h)
 case fieldAddr t x f=>exact pureK rfl (aDX hD h)
 case field t x f=>exact pureK rfl (aJu hD h)
 case indexAddr t x j=>exact pureK rfl (aEy hD h)
 case index t x j=>exact pureK rfl (aIG hD h)
 case extract x j=>
  split at h<;>(try exact h.elim)
  rename_i vs e
  split at h<;>(try exact h.elim)
  rename_i v hv
  rw [dP] at h
  exact pureK rfl ⟨v,by simp only [e,hv],h⟩
 case call cl=>
  obtain ⟨callee,args,argTypes⟩:=cl
  cases callee with
  | invoke r m=>simp only at h
  | builtin b=>
   cases b<;>simp only at h<;>(try exact h.elim)
   case len=>
    split at h<;>(try exact h.elim)
    rename_i x t tl e1 e2
    obtain ⟨r,e,hk⟩:=aLp hD h
    exact ⟨r,hp,⟨by simp only [e1,e2];exact e,rfl⟩,hk⟩
   case delete=>
    split at h<;>(try exact h.elim)
    rename_i m n t _ e1 e2
    simp only [dP] at h
    obtain ⟨r,H',e,hk⟩:=aLd h
    exact ⟨r,H',by simp only [opA,aCl,e1,e2];exact e,hk⟩
   case min=>exact pureK rfl (aMU h)
   case max=>exact pureK rfl (aNa h)
   case append=>
    split at h
    ·rename_i hfr
     split at h<;>(try exact h.elim)
     rename_i s x t u e1 e2
     simp only [dP] at h
     obtain ⟨r,blk,e,hk⟩:=aAr h
     exact ⟨r,_,by simp only [opA,hfr,if_true,aCl,e1,e2];exact ⟨blk,e,rfl⟩,hk⟩
    ·rename_i hfr
     split at h<;>(try exact h.elim)
     rename_i s x t u e1 e2
     simp only [dP] at h
     obtain ⟨r0,r,H',e,hw,hk⟩:=aGg h
     exact ⟨r,H',by simp only [opA,hfr,Bool.false_eq_true,if_false,aCl,e1,e2];exact ⟨r0,e,hw⟩,hk⟩
  | value f=>
   have dyn:(∀ g,f≠.func g)→(match evA sl f with
     | .fn g first caps=>tM (first++args.toList.map (evA sl)++caps) fun as=>vM c.T g as hp (c.b+i * 64) fun v hp'=>fC v fun v=>k v hp'
     | .yld j=>tM (args.toList.map (evA sl)) fun as=>aOx c.P j as hp fun v hp'=>fC v fun v=>k v hp'
     | _=>False)→∃ r H',aCl (opA c i ⟨dst,.call ⟨.value f,args,argTypes⟩,type,pos,after,guard⟩ sl) hp (c.b+i * 64) r H'∧k r H':=by
    intro hf h
    have hcall:opA c i ⟨dst,.call ⟨.value f,args,argTypes⟩,type,pos,after,guard⟩ sl=.write (aFs c i (evA sl f) (args.toList.map (evA sl))):=by
     cases f with
     | func g=>exact absurd rfl (hf g)
     | _=>rfl
    split at h<;>(try exact h.elim)
    case h_2 j e=>
     rw [pY] at h
     obtain ⟨r,H',e0,hk⟩:=aLD h
     rw [dP] at hk
     exact ⟨r,H',by rw [hcall,e];exact e0,hk⟩
    rename_i g first caps e
    rw [pY] at h
    obtain ⟨args',r,H',e0,e2,hk⟩:=aCt h
    rw [dP] at hk
    refine ⟨r,H',?_,hk⟩
    have:opA c i ⟨dst,.call ⟨.value f,args,argTypes⟩,type,pos,after,guard⟩ sl=.write (aFs c i (evA sl f) (args.toList.map (evA sl))):=by
     cases f with
     | func g=>exact absurd rfl (hf g)
     | _=>rfl
    rw [this,e]
    exact ⟨args',e0,e2⟩
   cases f with
   | func g=>
    simp only at h
    cases hp':c.pf g with
    | true=>
     simp only [hp',pY] at h
     obtain ⟨args',r,H',e0,e,hk⟩:=aIj h
     rw [dP] at hk
     exact ⟨r,hp,by simp only [opA,hp',if_true,aCl];exact ⟨⟨args',H',e0,e⟩,trivial⟩,hk⟩
    | false=>
     cases hp2:c.pf (g+100000) with
     | true=>
      simp only [hp',hp2,pY] at h
      obtain ⟨r,blk,e,hk⟩:=aIc h
      rw [dP] at hk
      refine ⟨r,_,?_,hk⟩
      have:opA c i ⟨dst,.call ⟨.value (.func g),args,argTypes⟩,type,pos,after,guard⟩ sl=.alloc (fun r blk=>afR c.T g (args.toList.map (evA sl)) (c.b+i * 64) r blk):=by simp [opA,hp',hp2]
      rw [this]
      exact ⟨blk,e,rfl⟩
     | false=>
     simp only [hp',hp2,pY] at h
     obtain ⟨args',r,H',e0,e,hk⟩:=aCt h
     rw [dP] at hk
     refine ⟨r,H',?_,hk⟩
     have:opA c i ⟨dst,.call ⟨.value (.func g),args,argTypes⟩,type,pos,after,guard⟩ sl=.write (aFs c i (.fn g [] []) (args.toList.map (evA sl))):=by simp [opA,hp',hp2]
     rw [this]
     exact ⟨args',by simpa using e0,e⟩
   | tmp t=>exact dyn (fun g e=>by cases e) h
   | const v=>exact dyn (fun g e=>by cases e) h
   | global g=>exact dyn (fun g e=>by cases e) h
def aHO (c:Ctx) (D:DT) (ops:Array Oper):List Oper→Nat→(Nat→AV)→bH→((Nat→AV)→bH→Prop)→Prop
 | [],_,sl,hp,K=>K sl hp
 | o::os,i,sl,hp,K=>
  match o.guard with
  | none=>opK c D i o sl hp fun r H'=>aHO c D ops os (i+1) (tA sl o.dst r) H' K
  | some (j,want)=>
   match (ops[j]?).bind (·.dst) with
   | none=>False
   | some t=>
    match sl t with
    | .und=>aHO c D ops os (i+1) (tA sl o.dst .und) hp K
    | .bool x=>
     match want with
     | true=>cond x (opK c D i o (wY sl t (.bool true)) hp fun r H'=>aHO c D ops os (i+1) (tA (wY sl t (.bool true)) o.dst r) H' K)
      (aHO c D ops os (i+1) (tA (wY sl t (.bool false)) o.dst .und) hp K)
     | false=>cond x (aHO c D ops os (i+1) (tA (wY sl t (.bool true)) o.dst .und) hp K)
      (opK c D i o (wY sl t (.bool false)) hp fun r H'=>aHO c D ops os (i+1) (tA (wY sl t (.bool false)) o.dst r) H' K)
    | _=>False
theorem yM {c:Ctx} {D:DT} (hD:DOk c.P D) (ops:Array Oper) {K:(Nat→AV)→bH→Prop}:∀ (os:List Oper) (i:Nat) (sl:Nat→AV) (hp:bH),aHO c D ops os i sl hp K→aKU c ops os i sl hp K
 | [],_,_,_,h=>h
 | o::os,i,sl,hp,h=>by
  have exec:opK c D i o sl hp (fun r H'=>aHO c D ops os (i+1) (tA sl o.dst r) H' K)→∃ r H',aCl (opA c i o sl) hp (c.b+i * 64) r H'∧aKU c ops os (i+1) (tA sl o.dst r) H' K:=by
   intro h
   obtain ⟨r,H',e,hk⟩:=aMq hD h
   exact ⟨r,H',e,yM hD ops os _ _ _ hk⟩
  simp only [aHO] at h
  simp only [aKU,wV]
  cases hg:o.guard with
  | none=>simp only [hg] at h ⊢;exact exec h
  | some g=>
   obtain ⟨j,want⟩:=g
   simp only [hg] at h ⊢
   cases ht:(ops[j]?).bind (·.dst) with
   | none=>simp only [ht] at h
   | some t=>
    simp only [ht] at h ⊢
    cases hs:sl t with
    | und=>simp only [hs] at h ⊢;exact yM hD ops os _ _ _ h
    | bool x=>
     simp only [hs] at h ⊢
     cases want<;>cases x
     ·rw [qY hs] at h;exact exec h
     ·rw [qY hs] at h;exact yM hD ops os _ _ _ h
     ·rw [qY hs] at h;exact yM hD ops os _ _ _ h
     ·rw [qY hs] at h;exact exec h
    | _=>simp only [hs] at h
def aMu (c:Ctx) (D:DT) (ops:Array Oper) (i:Nat) (sl:Nat→AV) (hp:bH) (K:(Nat→AV)→bH→Prop):Prop:=match ops[i]? with
 | none=>False
 | some o=>match o.guard with
  | none=>opK c D i o sl hp fun r H'=>K (tA sl o.dst r) H'
  | some (j,want)=>
   match (ops[j]?).bind (·.dst) with
   | none=>False
   | some t=>
    match sl t with
    | .und=>K (tA sl o.dst .und) hp
    | .bool x=>
     match want with
     | true=>cond x (opK c D i o (wY sl t (.bool true)) hp fun r H'=>K (tA (wY sl t (.bool true)) o.dst r) H') (K (tA (wY sl t (.bool false)) o.dst .und) hp)
     | false=>cond x (K (tA (wY sl t (.bool true)) o.dst .und) hp) (opK c D i o (wY sl t (.bool false)) hp fun r H'=>K (tA (wY sl t (.bool false)) o.dst r) H')
    | _=>False
def aE9 (c:Ctx) (D:DT) (ops:Array Oper):Pl→(Nat→AV)→bH→((Nat→AV)→bH→Prop)→Prop
 | .nil,sl,hp,K=>K sl hp
 | .step k r,sl,hp,K=>aMu c D ops k sl hp fun sl hp=>aE9 c D ops r sl hp K
 | .two k1 k2 r1 r2,sl,hp,K=>(aMu c D ops k1 sl hp fun sl hp=>aE9 c D ops r1 sl hp K)∧aMu c D ops k2 sl hp fun sl hp=>aE9 c D ops r2 sl hp K
 | .thr k1 k2 k3 r1 r2 r3,sl,hp,K=>(aMu c D ops k1 sl hp fun sl hp=>aE9 c D ops r1 sl hp K)∧(aMu c D ops k2 sl hp fun sl hp=>aE9 c D ops r2 sl hp K)∧aMu c D ops k3 sl hp fun sl hp=>aE9 c D ops r3 sl hp K
theorem aCw {c:Ctx} {D:DT} (hD:DOk c.P D) (ops:Array Oper) {i:Nat} {sl:Nat→AV} {hp:bH} {K K':(Nat→AV)→bH→Prop} (h:aMu c D ops i sl hp K) (hk:∀ sl hp,K sl hp→K' sl hp):aKS c ops i sl hp K':=by
 unfold aMu at h
 unfold aKS
 cases ho:ops[i]? with
 | none=>rw [ho] at h;exact h.elim
 | some o=>
  rw [ho] at h
  simp only at h ⊢
  have exec:opK c D i o sl hp (fun r H'=>K (tA sl o.dst r) H')→∃ r H',aCl (opA c i o sl) hp (c.b+i * 64) r H'∧K' (tA sl o.dst r) H':=by
   intro h
   obtain ⟨r,H',e,hk'⟩:=aMq hD h
   exact ⟨r,H',e,hk _ _ hk'⟩
  simp only [wV]
  cases hg:o.guard with
  | none=>simp only [hg] at h ⊢;exact exec h
  | some g=>
   obtain ⟨j,want⟩:=g
   simp only [hg] at h ⊢
   cases ht:(ops[j]?).bind (·.dst) with
   | none=>simp only [ht] at h
   | some t=>
    simp only [ht] at h ⊢
    cases hs:sl t with
    | und=>simp only [hs] at h ⊢;exact hk _ _ h
    | bool x=>
     simp only [hs] at h ⊢
     cases want<;>cases x
     ·rw [qY hs] at h;exact exec h
     ·rw [qY hs] at h;exact hk _ _ h
     ·rw [qY hs] at h;exact hk _ _ h
     ·rw [qY hs] at h;exact exec h
    | _=>simp only [hs] at h
theorem xE {c:Ctx} {D:DT} (hD:DOk c.P D) (ops:Array Oper) {K:(Nat→AV)→bH→Prop}:∀ (p:Pl) (sl:Nat→AV) (hp:bH),aE9 c D ops p sl hp K→aEq c ops p sl hp K
 | .nil,_,_,h=>h
 | .step _ r,_,_,h=>aCw hD ops h fun _ _ h=>xE hD ops r _ _ h
 | .two _ _ r1 r2,_,_,h=>⟨aCw hD ops h.1 fun _ _ h=>xE hD ops r1 _ _ h,aCw hD ops h.2 fun _ _ h=>xE hD ops r2 _ _ h⟩
 | .thr _ _ _ r1 r2 r3,_,_,h=>⟨aCw hD ops h.1 fun _ _ h=>xE hD ops r1 _ _ h,aCw hD ops h.2.1 fun _ _ h=>xE hD ops r2 _ _ h,aCw hD ops h.2.2 fun _ _ h=>xE hD ops r3 _ _ h⟩
section
variable {E:Env} {N:Nat} {D:DT}
theorem aC (hD:DOk E.P D) {id:Nat} {ops:Array Oper} {y:Code} {σ:AS} {Q:Exit→AS→Prop} (hd:aAc N ops=true)
  (h:∀ K:(Nat→AV)→bH→Nat→Prop,(∀ sl hp b,HT E N y ⟨sl,hp,b⟩ Q→K sl hp b) →
   iP σ.b fun b=>aHO ⟨E.P,E.T,E.pf,b,ops.size,b+ops.size * 64,tH ops⟩ D ops ops.toList 0 σ.sl σ.hp fun sl hp=>K sl hp (b+ops.size * 64)):HT E N (.seq (.region id ops false) y) σ Q:=
 aF (aFQ hd (yM hD _ _ _ _ _ (by have:=h (fun sl hp b=>HT E N y ⟨sl,hp,b⟩ Q) fun _ _ _ h=>h;rw [cZ] at this;exact this)))
theorem qA (hD:DOk E.P D) {id:Nat} {ops:Array Oper} {y:Code} {σ:AS} {Q:Exit→AS→Prop} (hm:E.P.follows .mixedOrders=true) (hd:aAc N ops=true) (hB:aN4 E.pf (tH ops) ops ops.size 0 (Array.replicate ops.size false)=true)
  (h:∀ K:(Nat→AV)→bH→Nat→Prop,(∀ sl hp b,HT E N y ⟨sl,hp,b⟩ Q→K sl hp b) →
   iP σ.b fun b=>aHO ⟨E.P,E.T,E.pf,b,ops.size,b,tH ops⟩ D ops ops.toList 0 σ.sl σ.hp fun sl hp=>K sl hp (b+ops.size * 64)):HT E N (.seq (.region id ops true) y) σ Q:=
 aF (aJc hm hd hB (yM hD _ _ _ _ _ (by have:=h (fun sl hp b=>HT E N y ⟨sl,hp,b⟩ Q) fun _ _ _ h=>h;rw [cZ] at this;exact this)))
theorem aFh (p:Pl) (hD:DOk E.P D) {id:Nat} {ops:Array Oper} {y:Code} {σ:AS} {Q:Exit→AS→Prop} (hm:E.P.follows .mixedOrders=true) (hd:aAc N ops=true) (hB:aGc E.pf (tH ops) ops p ops.size (Array.replicate ops.size false)=true)
  (h:∀ K:(Nat→AV)→bH→Nat→Prop,(∀ sl hp b,HT E N y ⟨sl,hp,b⟩ Q→K sl hp b) →
   iP σ.b fun b=>aE9 ⟨E.P,E.T,E.pf,b,ops.size,b,tH ops⟩ D ops p σ.sl σ.hp fun sl hp=>K sl hp (b+ops.size * 64)):HT E N (.seq (.region id ops true) y) σ Q:=
 aF (aNr p hm hd hB (xE hD _ _ _ _ (by have:=h (fun sl hp b=>HT E N y ⟨sl,hp,b⟩ Q) fun _ _ _ h=>h;rw [cZ] at this;exact this)))
theorem bY (hD:DOk E.P D) {id:Nat} {ops:Array Oper} {σ:AS} {Q:Exit→AS→Prop} (hd:aAc N ops=true)
  (h:∀ K:(Nat→AV)→bH→Nat→Prop,(∀ sl hp b,Q .normal ⟨sl,hp,b⟩→K sl hp b) →
   iP σ.b fun b=>aHO ⟨E.P,E.T,E.pf,b,ops.size,b+ops.size * 64,tH ops⟩ D ops ops.toList 0 σ.sl σ.hp fun sl hp=>K sl hp (b+ops.size * 64)):HT E N (.region id ops false) σ Q:=
 aFQ hd (yM hD _ _ _ _ _ (by have:=h (fun sl hp b=>Q .normal ⟨sl,hp,b⟩) fun _ _ _ h=>h;rw [cZ] at this;exact this))
theorem nQ (hD:DOk E.P D) {id:Nat} {ops:Array Oper} {σ:AS} {Q:Exit→AS→Prop} (hm:E.P.follows .mixedOrders=true) (hd:aAc N ops=true) (hB:aN4 E.pf (tH ops) ops ops.size 0 (Array.replicate ops.size false)=true)
  (h:∀ K:(Nat→AV)→bH→Nat→Prop,(∀ sl hp b,Q .normal ⟨sl,hp,b⟩→K sl hp b) →
   iP σ.b fun b=>aHO ⟨E.P,E.T,E.pf,b,ops.size,b,tH ops⟩ D ops ops.toList 0 σ.sl σ.hp fun sl hp=>K sl hp (b+ops.size * 64)):HT E N (.region id ops true) σ Q:=
 aJc hm hd hB (yM hD _ _ _ _ _ (by have:=h (fun sl hp b=>Q .normal ⟨sl,hp,b⟩) fun _ _ _ h=>h;rw [cZ] at this;exact this))
end
def aKR (D:DT) (lim:Nat) (sl:Nat→AV) (hp:bH):List ResultVar→(List AV→Prop)→Prop
 | [],k=>k []
 | .tmp t::rs,k=>vU (sl t) fun a=>aKR D lim sl hp rs fun l=>k (a::l)
 | .cell a t::rs,k=>aLm D lim t (sl a) hp fun v=>aKR D lim sl hp rs fun l=>k (v::l)
def aHT:List AV→AV
 | [x]=>x
 | l=>.tup l
theorem aGE {P:Program} {D:DT} (hD:DOk P D) {σ:AS}:∀ (rs:List ResultVar) (k:List AV→Prop),aKR D σ.b σ.sl σ.hp rs k→∃ l,rs.mapM (aNO P σ.b σ)=some l∧k l
 | [],k,h=>⟨[],rfl,h⟩
 | .tmp t::rs,k,h=>by
  simp only [aKR,tW] at h
  obtain ⟨l,e,hk⟩:=aGE hD rs _ h
  exact ⟨σ.sl t::l,by simp [List.mapM_cons,aNO,e],hk⟩
 | .cell a t::rs,k,h=>by
  simp only [aKR] at h
  obtain ⟨v,e1,h⟩:=aHG hD h
  obtain ⟨l,e,hk⟩:=aGE hD rs _ h
  exact ⟨v::l,by simp [List.mapM_cons,aNO,e,e1],hk⟩
theorem aDr {P:Program} {D:DT} (hD:DOk P D) {rs:Array ResultVar} {σ:AS} {k:AV→Prop}
  (h:aKR D σ.b σ.sl σ.hp rs.toList fun l=>k (aHT l)):∃ r0,aGH P rs σ=some r0∧k r0:=by
 obtain ⟨l,e,hk⟩:=aGE hD rs.toList _ h
 exact ⟨aHT l,by unfold aGH;rw [e];cases l with
  | nil=>rfl
  | cons x l=>cases l<;>rfl,hk⟩
end Go.Eng
namespace Go.Eng
universe u v
open Go.RowKit (Below)
section
variable {α β S R:Type}
def W (o:Option α) (Φ:α→Prop):Prop:=∃ a,o=some a∧Φ a
def bd (x:Option α) (f:α→Option β):Option β:=match x with | some a=>f a | none=>none
def gd (G:Prop) [Decidable G] (x:Option α):Option α:=if G then x else none
def cn (b:Bool) (x y:Option α):Option α:=bif b then x else y
inductive Ct (S R:Type) where
 | nx (s:S)
 | bk (s:S)
 | rt (r:R)
def ctK (c:Ct S R) (f:S→Option β) (g:S→Option β) (h:R→Option β):Option β:=match c with | .nx s=>f s | .bk s=>g s | .rt r=>h r
def smK (c:S ⊕ R) (f:S→Option β) (g:R→Option β):Option β:=match c with | .inl s=>f s | .inr r=>g r
def lp (body:S→Option (Ct S R)):Nat→S→Option (S ⊕ R)
 | 0,_=>none
 | n+1,s=>bd (body s) fun c=>ctK c (lp body n) (fun s=>some (.inl s)) (fun r=>some (.inr r))
def jn {V:Type} (f:V→Option β) (g:(V→Option β)→Option β):Option β:=g f
def FU:Nat:=18446744073709551616
def ix (l:List α) (d:α) (i:Int) (f:α→Option β):Option β:=gd (0≤i∧i<(l.length:Int)) (f (l.getD i.toNat d))
def ap (l x:List α) (f:List α→Option β):Option β:=gd (l.length+x.length≤1048576) (f (l++x))
def lt (l:List α) (f:List α→Option β):Option β:=f l
def sub (l:List α) (lo hi:Int):List α:=(l.take hi.toNat).drop lo.toNat
def slc (l:List α) (lo hi:Int) (f:List α→Option β):Option β:=gd (0≤lo∧lo≤hi∧hi≤(l.length:Int)) (f (sub l lo hi))
theorem aG0 {l:List α} {lo hi:Int} (h0:0≤lo) (h1:lo≤hi) (h2:hi≤(l.length:Int)):(sub l lo hi).length=hi.toNat-lo.toNat∧∀ (d:α) j,j<hi.toNat-lo.toNat→(sub l lo hi).getD j d=l.getD (lo.toNat+j) d:=by
 unfold sub
 refine ⟨by simp;omega,fun d j hj=>?_⟩
 simp only [List.getD_eq_getElem?_getD,List.getElem?_drop]
 rw [List.getElem?_take_of_lt (by omega)]
theorem bL {x:Option α} {f:α→Option β} {Φ:β→Prop} (h:W (bd x f) Φ):W x fun a=>W (f a) Φ:=by
 obtain ⟨b,h1,h2⟩:=h
 cases x with
 | none=>simp [bd] at h1
 | some a=>exact ⟨a,rfl,b,h1,h2⟩
theorem aO {a:α} {Φ:α→Prop} (h:W (some a) Φ):Φ a:=by obtain ⟨b,h1,h2⟩:=h;cases h1;exact h2
theorem lG {V:Type} {f:V→Option β} {g:(V→Option β)→Option β} {Φ:β→Prop} (h:W (jn f g) Φ):W (g f) Φ:=h
theorem dY {o:Option α} {Φ:α→Prop} (h:W o Φ):∃ a,o=some a∧Φ a:=h
theorem lR {o:Option α} {Φ:α→Prop} {a:α} (e:o=some a) (h:Φ a):W o Φ:=⟨a,e,h⟩
theorem aP4 {Φ:α→Prop} (h:W (none:Option α) Φ):False:=by obtain ⟨b,h1,h2⟩:=h;cases h1
theorem vE {G:Prop} [Decidable G] {x:Option α} {Φ:α→Prop} (h:W (gd G x) Φ):G∧W x Φ:=by
 obtain ⟨b,h1,h2⟩:=h
 unfold gd at h1
 split at h1
 ·rename_i g;exact ⟨g,b,h1,h2⟩
 ·cases h1
theorem rM {x y:Option α} {Φ:α→Prop} (h:W (cn true x y) Φ):W x Φ:=h
theorem rS {x y:Option α} {Φ:α→Prop} (h:W (cn false x y) Φ):W y Φ:=h
theorem aTE {s:S} {f g:S→Option β} {k:R→Option β} {Φ:β→Prop} (h:W (ctK (.nx s) f g k) Φ):W (f s) Φ:=h
theorem aTx {s:S} {f g:S→Option β} {k:R→Option β} {Φ:β→Prop} (h:W (ctK (.bk s) f g k) Φ):W (g s) Φ:=h
theorem aTH {r:R} {f g:S→Option β} {k:R→Option β} {Φ:β→Prop} (h:W (ctK (.rt r) f g k) Φ):W (k r) Φ:=h
theorem cU {s:S} {f:S→Option β} {g:R→Option β} {Φ:β→Prop} (h:W (smK (.inl s) f g) Φ):W (f s) Φ:=h
theorem jN {s:R} {f:S→Option β} {g:R→Option β} {Φ:β→Prop} (h:W (smK (.inr s) f g) Φ):W (g s) Φ:=h
theorem bK {body:S→Option (Ct S R)} {m:Nat} {s:S} {Ψ:S ⊕ R→Prop} (h:W (some (Ct.nx s)) fun a=>W (ctK a (lp body m) (fun s=>some (Sum.inl s)) fun r=>some (Sum.inr r)) Ψ):W (lp body m s) Ψ:=by have h2:=aO h;exact aTE h2
theorem cV {body:S→Option (Ct S R)} {m:Nat} {s:S} {Ψ:S ⊕ R→Prop} (h:W (some (Ct.bk s)) fun a=>W (ctK a (lp body m) (fun s=>some (Sum.inl s)) fun r=>some (Sum.inr r)) Ψ):Ψ (Sum.inl s):=by have h2:=aO h;have h3:=aTx h2;exact aO h3
theorem jO {body:S→Option (Ct S R)} {m:Nat} {s:R} {Ψ:S ⊕ R→Prop} (h:W (some (Ct.rt s)) fun a=>W (ctK a (lp body m) (fun s=>some (Sum.inl s)) fun r=>some (Sum.inr r)) Ψ):Ψ (Sum.inr s):=by have h2:=aO h;have h3:=aTH h2;exact aO h3
theorem cLk {b:Bool} {x y:Option α} {Φ:α→Prop} {A B:Prop} (h:W (cn b x y) Φ) (h1:b=true→W x Φ→A) (h2:b=false→W y Φ→B):cond b A B:=by
 cases b
 ·exact h2 rfl h
 ·exact h1 rfl h
theorem bW {G:Prop} [Decidable G] {x:Option α} {Φ:α→Prop} {K:Prop} (h:W (gd G x) Φ) (k:G→W x Φ→K):G∧K:=⟨(vE h).1,k (vE h).1 (vE h).2⟩
theorem dD {l:List α} {d:α} {i:Int} {f:α→Option β} {Φ:β→Prop} {K:Prop} (h:W (ix l d i f) Φ) (k:0≤i∧i<(l.length:Int)→W (f (l.getD i.toNat d)) Φ→K):(0≤i∧i<(l.length:Int))∧K:=bW h k
end
attribute [irreducible] W bd gd cn ctK smK jn ix ap lt slc FU
abbrev wr (n:Int):Int:=IntKind.i64.wrap n
abbrev aH9 (x y:Int):Int:=if y<x then y else x
abbrev aH4 (x y:Int):Int:=if y>x then y else x
abbrev aAo (k:IntKind) (a b:Int):Int:=k.wrap (BitVec.ofInt k.bits a&&&BitVec.ofInt k.bits b).toNat
abbrev bor (k:IntKind) (a b:Int):Int:=k.wrap (BitVec.ofInt k.bits a|||BitVec.ofInt k.bits b).toNat
abbrev rE (k:IntKind) (a b:Int):Int:=k.wrap (BitVec.ofInt k.bits a&&&~~~BitVec.ofInt k.bits b).toNat
abbrev aDv (k:IntKind) (a b:Int):Int:=k.wrap (a * 2 ^ (min b.toNat k.bits))
abbrev wW (k:IntKind) (a b:Int):Int:=a.fdiv (2 ^ (min b.toNat k.bits))
def eI (n:Int):AV:=.int .i64 n
def eB (b:Bool):AV:=.bool b
def eL {α:Type} (sz:Nat) (enc:α→AV) (d:α) (l:List α):AV:=.lst .free sz l.length fun j=>enc (l.getD j d)
theorem aHt (n:Int):(eI n).loose:=lsI _ _
theorem aL9 (b:Bool):(eB b).loose:=lsB _
theorem aMp {m:LM} {sz n n':Nat} {f f':Nat→AV} (hn:n=n') (h:∀ j,j<n→Wk (f j) (f' j)):Wk (.lst m sz n f) (.lst .free sz n' f'):=by
 subst hn
 intro β v hv
 simp only [V] at hv ⊢
 obtain ⟨b,cap,h1,h2,h3,h4⟩:=hv
 refine ⟨b,cap,h1,h2,trivial,fun j hj=>?_⟩
 obtain ⟨c,o,u,k1,k2,k3,k4⟩:=h4 j hj
 exact ⟨c,o,u,k1,k2,k3,h j hj _ _ k4⟩
theorem cD {m:LM} {sz n:Nat} {f:Nat→AV}:Wk (.lst m sz n f) (.lst .free sz n f):=aMp rfl fun _ _=>Wk.refl _
theorem iO {sz:Nat} {f:Nat→AV}:Wk .nils (.lst .free sz 0 f):=fun β v h=>by
 simp only [V] at h ⊢
 subst h
 exact ⟨none,0,rfl,Nat.le_refl _,trivial,fun j hj=>by omega⟩
theorem bE:WkL [] []:=WkL.refl _
theorem aD {a b:AV} {as bs:List AV} (h:Wk a b) (k:WkL as bs):WkL (a::as) (b::bs):=fun β vs hv=>by
 simp only [Vs] at hv ⊢
 obtain ⟨v,vs',e,h1,h2⟩:=hv
 exact ⟨v,vs',e,h _ _ h1,k _ _ h2⟩
theorem iA {as bs:List AV} (h:WkL as bs):Wk (.agg as) (.agg bs):=fun β v hv=>by
 simp only [V] at hv ⊢;obtain ⟨vs,e,hv⟩:=hv;exact ⟨vs,e,h _ _ hv⟩
theorem mL {as bs:List AV} (h:WkL as bs):Wk (.tup as) (.tup bs):=fun β v hv=>by
 simp only [V] at hv ⊢;obtain ⟨vs,e,hv⟩:=hv;exact ⟨vs,e,h _ _ hv⟩
theorem aRL {a b:AV} (h:a=b):Wk a b:=h ▸ Wk.refl _
theorem aNv {m:LM} (_hm:m=.free∨m=.cap) {sz n n':Nat} {f f':Nat→AV} (hn:n=n') (h:∀ j,j<n→f j=f' j):Wk (.lst m sz n f) (.lst m sz n' f'):=by
 subst hn
 intro β v hv
 simp only [V] at hv ⊢
 obtain ⟨b,cap,h1,h2,h3,h4⟩:=hv
 refine ⟨b,cap,h1,h2,h3,fun j hj=>?_⟩
 obtain ⟨c,o,u,k1,k2,k3,k4⟩:=h4 j hj
 exact ⟨c,o,u,k1,k2,k3,h j hj ▸ k4⟩
theorem aKZ {m:LM} {sz n n':Nat} {f f':Nat→AV} (hn:n=n') (h:∀ j,j<n→f j=f' j):Wk (.lst m sz n f) (.lst m sz n' f'):=by
 subst hn
 intro β v hv
 simp only [V] at hv ⊢
 obtain ⟨b,cap,h1,h2,h3,h4⟩:=hv
 refine ⟨b,cap,h1,h2,h3,fun j hj=>?_⟩
 obtain ⟨c,o,u,k1,k2,k3,k4⟩:=h4 j hj
 exact ⟨c,o,u,k1,k2,k3,h j hj ▸ k4⟩
def isB (x:Option AV) (n d:Int):Prop:=(x=none∧n=d)∨∃ k,x=some (.int k n)
theorem aCG {x:Option AV} {n:Int} {d:Nat} (h:isB x n d) (h0:0≤n):fA x d=some n.toNat:=by
 rcases h with ⟨rfl,rfl⟩ | ⟨k,rfl⟩
 ·simp [fA]
 ·simp [fA,h0]
theorem aNz {m:LM} {α β:Type} {enc:α→AV} {d:α} {sz:Nat} {l:List α} {lo hi:Int} {lo' hi':Option AV} {k:AV→Prop} {f:List α→Option β} {Φ:β→Prop} (h:W (slc l lo hi f) Φ) (h1:isB lo' lo 0) (h2:isB hi' hi (l.length:Nat))
  (hk:W (f (sub l lo hi)) Φ→k (.lst .free sz (sub l lo hi).length fun j=>enc ((sub l lo hi).getD j d))):aOe m sz l.length (fun j=>enc (l.getD j d)) lo' hi' none k:=by
 unfold slc at h
 obtain ⟨⟨g0,g1,g2⟩,h⟩:=vE h
 obtain ⟨e1,e2⟩:=aG0 (l:=l) g0 g1 g2
 refine aGw ⟨hi.toNat,lo.toNat,_,aCG h2 (by omega),aCG h1 g0,.inl ⟨rfl,by omega,by omega,?_⟩,hk h⟩
 exact aMp e1.symm fun j hj=>aRL (by rw [e2 d j hj])
theorem aMS {m:LM} {α β:Type} {enc:α→AV} {d:α} {sz:Nat} {l:List α} {lo:Int} {lo':Option AV} {k:AV→Prop} {f:List α→Option β} {Φ:β→Prop} (h:W (slc l lo (l.length:Nat) f) Φ) (h1:isB lo' lo 0)
  (hk:W (f (sub l lo (l.length:Nat))) Φ→k (.lst m sz (sub l lo (l.length:Nat)).length fun j=>enc ((sub l lo (l.length:Nat)).getD j d))):aOe m sz l.length (fun j=>enc (l.getD j d)) lo' none none k:=by
 unfold slc at h
 obtain ⟨⟨g0,g1,g2⟩,h⟩:=vE h
 obtain ⟨e1,e2⟩:=aG0 (l:=l) g0 g1 g2
 refine aGw ⟨l.length,lo.toNat,_,rfl,aCG h1 g0,.inl ⟨rfl,by omega,by omega,?_⟩,hk h⟩
 exact aKZ (by rw [e1];omega) fun j hj=>by rw [e2 d j (by omega)]
theorem aFy {m:LM} {α β:Type} {enc:α→AV} {d:α} {sz:Nat} {l:List α} {lo hi:Int} {lo':Option AV} {k1 k2:IntKind} {k:AV→Prop} {f:List α→Option β} {Φ:β→Prop} (h:W (slc l lo hi f) Φ) (h1:isB lo' lo 0)
  (hk:W (f (sub l lo hi)) Φ→k (.lst .cap sz (sub l lo hi).length fun j=>enc ((sub l lo hi).getD j d))):aOe m sz l.length (fun j=>enc (l.getD j d)) lo' (some (.int k1 hi)) (some (.int k2 hi)) k:=by
 unfold slc at h
 obtain ⟨⟨g0,g1,g2⟩,h⟩:=vE h
 obtain ⟨e1,e2⟩:=aG0 (l:=l) g0 g1 g2
 refine aGw ⟨hi.toNat,lo.toNat,_,aCG (.inr ⟨_,rfl⟩) (by omega),aCG h1 g0,.inr ⟨_,rfl,aCG (d:=0) (.inr ⟨_,rfl⟩) (by omega),by omega,by omega,?_⟩,hk h⟩
 exact aNv (.inr rfl) e1.symm fun j hj=>by rw [e2 d j hj]
theorem aG1 {T:Tbl} {f:FuncId} {args args':List AV} {hp:bH} {id:Nat} {k:AV→bH→Prop} {S:List AV→AV→Prop} {r:AV} (hT:T f=aH S) (hs:S args' r) (hl:r.loose) (hw:WkL args args') (hk:k r hp):vM T f args hp id k:=
 yI hw (by rw [hT];exact ⟨hs,hl,rfl⟩) hk
theorem aV {T:Tbl} {f:FuncId} {args args':List AV} {hp:bH} {id:Nat} {k:AV→Prop} {S:List AV→AV→Prop} {r:AV} (hT:T f=aH S) (hs:S args' r) (hl:r.loose) (hw:WkL args args') (hk:k r):cH T f args hp id k:=
 aKw hw (by rw [hT];exact ⟨hs,hl,rfl⟩) hk
theorem zC {P:Program} {D:DT} (hD:DOk P D) {t:TypeId} {s b:Nat} {z:List AV} (ht:D t=some ⟨.bool,s,z,b⟩) (x y:Bool):EqV P t (.bool x) (.bool y) (x==y):=by
 intro β w u v ox oy hu hv
 have k:=(hD _ _ ht).k
 simp only [xC] at k
 cases aCv hu;cases aCv hv
 have e:=run_equal_bool w t x y k
 constructor<;>simp [eqGuard,binOp,e]
section
variable {E:Env} {N:Nat} {D:DT}
def aO8 (a:AV) (A B:Prop):Prop:=match a with | .bool t=>cond t A B | _=>False
theorem aW {q:Operand} {x y:Code} {σ:AS} {Q:Exit→AS→Prop} (h:∀ K1 K2:Prop,(HT E N x σ Q→K1)→(HT E N y σ Q→K2)→aO8 (evA σ.sl q) K1 K2):HT E N (.cond q x y) σ Q:=by
 have h:=h _ _ (fun h=>h) (fun h=>h)
 unfold aO8 at h
 split at h
 ·rename_i t ht
  refine aNK ht (fun e=>?_) (fun e=>?_)
  ·subst e;exact h
  ·subst e;exact h
 ·exact h.elim
theorem tHn {K:AS→Prop} {Q:Exit→AS→Prop} {σ:AS} (h:K σ):aFA K Q .normal σ:=h
theorem aQ {K:AS→Prop} {Q:Exit→AS→Prop} {σ:AS} (h:Q .ret σ):aFA K Q .ret σ:=h
theorem aT {K:AS→Prop} {Q:Exit→AS→Prop} {σ:AS} {i:Nat} (h:Q (.exit i) σ):aFA K Q (.exit i) σ:=h
theorem iBn {i:Nat} {Q:Exit→AS→Prop} {σ:AS} (h:Q .normal σ):zR i Q .normal σ:=h
theorem aU {i:Nat} {Q:Exit→AS→Prop} {σ:AS} (h:Q .ret σ):zR i Q .ret σ:=h
theorem aS {i:Nat} {Q:Exit→AS→Prop} {σ:AS} (h:Q .normal σ):zR i Q (.exit i) σ:=by show (if _ then _ else _);rw [if_pos rfl];exact h
theorem aFF {i j:Nat} {Q:Exit→AS→Prop} {σ:AS} (hj:j≠i) (h:Q (.exit j) σ):zR i Q (.exit j) σ:=by show (if _ then _ else _);rw [if_neg hj];exact h
theorem aK {P:Program} (hD:DOk P D) {rs:Array ResultVar} {r:AV} {σ:AS} (h:∀ K:AV→Prop,(∀ r0,Wk r0 r→K r0)→aKR D σ.b σ.sl σ.hp rs.toList fun l=>K (aHT l)):aPb P rs r .ret σ:=
 aDr hD (h (fun r0=>Wk r0 r) fun _ h=>h)
theorem aL0 {S R:Type} {c:Code} {σ:AS} {Q:Exit→AS→Prop} {body:S→Option (Ct S R)} {n:Nat} {s:S} {Φ:S ⊕ R→Prop} (hcl:E.cl=true) (h:W (lp body n s) Φ) (I:AS→S→AS) (h0:∃ L,zH L σ (I σ s))
  (round:∀ (s:S) (m:Nat),W (bd (body s) fun c=>ctK c (lp body m) (fun s=>some (.inl s)) (fun r=>some (.inr r))) Φ →
   HT E N c (I σ s) (aFA (fun σ'=>∃ s',W (lp body m s') Φ∧∃ L,zH L σ' (I σ s')) Q)):HT E N (.loop c) σ Q:=by
 obtain ⟨L,hw⟩:=h0
 refine aLZ hcl (fun n σ'=>∃ s,σ'=I σ s∧W (lp body n s) Φ) n ⟨L,_,hw,s,rfl,h⟩ fun n σ' ⟨s,hI,h⟩=>?_
 subst hI
 cases n with
 | zero=>exact (aP4 h).elim
 | succ m=>
  refine (round s m h).mono fun e σ' q=>?_
  cases e with
  | normal=>obtain ⟨s',h1,L,h2⟩:=q;exact ⟨m,Nat.lt_succ_self _,L,_,h2,s',rfl,h1⟩
  | _=>exact q
theorem nle {n m:Nat} (h:Nat.ble n m=true):n≤m:=Nat.le_of_ble_eq_true h
theorem nlA {n m:Nat} {q:Prop} (h:Nat.ble n m=true) (k:q):n≤m∧q:=And.intro (Nat.le_of_ble_eq_true h) k
theorem wkI {L:Ren} {k:IntKind} {n:Int}:WkR L (.int k n) (.int k n):=WkR.wk (Wk.refl _) (lsI _ _)
theorem wkr {L:Ren} {a:AV} (h:a.loose):WkR L a a:=WkR.wk (Wk.refl _) h
def VsR (L:Ren) (as bs:List AV):Prop:=∀ β vs,Vs β as vs→Vs (β.ren L) bs vs
theorem bV {L:Ren}:VsR L [] []:=fun β vs h=>by cases vs<;>simp_all [Vs]
theorem aM {L:Ren} {a b:AV} {as bs:List AV} (h:WkR L a b) (k:VsR L as bs):VsR L (a::as) (b::bs):=fun β vs hv=>by
 obtain ⟨v,vs',rfl,h1,h2⟩:=hv
 exact ⟨v,vs',rfl,h _ _ h1,k _ _ h2⟩
theorem jX {L:Ren} {f:FuncId} {fs fs' cs cs':List AV} (h:VsR L fs fs') (k:VsR L cs cs'):WkR L (.fn f fs cs) (.fn f fs' cs'):=fun β v hv=>by
 simp only [V] at hv ⊢
 obtain ⟨x,y,e,h1,h2⟩:=hv
 exact ⟨x,y,e,h _ _ h1,k _ _ h2⟩
def aAw {α:Type u} (p:α→Prop):List α→Prop
 | []=>True
 | a::l=>p a∧aAw p l
theorem aLn {α:Type u} {p:α→Prop}:aAw p []:=trivial
theorem aLc {α:Type u} {p:α→Prop} {a:α} {l:List α} (h:p a) (k:aAw p l):aAw p (a::l):=⟨h,k⟩
theorem uL {α:Type u} {p:α→Prop}:∀ {l:List α},aAw p l→∀ a∈l,p a
 | _::_,h,a,ha=>by rcases List.mem_cons.1 ha with rfl | ha;exact h.1;exact uL h.2 a ha
def ofH (l:List (Nat×AB)):bH:=fun i=>match l with
 | []=>none
 | (j,b)::l=>if i=j then some b else ofH l i
theorem aBX:∀ {l:List (Nat×AB)} {i:Nat} {b:AB},ofH l i=some b→(i,b)∈l
 | [],_,_,h=>by simp [ofH] at h
 | (j,c)::l,i,b,h=>by
  unfold ofH at h
  split at h
  ·rename_i e;subst e;cases h;simp
  ·exact List.mem_cons_of_mem _ (aBX h)
def aCE (n:Nat) (L:Ren) (b:Nat):Bool:=(decide (64≤b)&&L.all (fun p=>(match p.2 with | some o=>decide (64≤o)||o==p.1 | none=>true)&&(decide (n≤p.1)||p.2==some p.1)))&&(L.all (fun p=>decide (p.1<b))&&L.all fun p=>L.all fun q=>p.2.isNone||p.2 != q.2||p.1==q.1)
abbrev aLO:=aCE 64
theorem vW:∀ {L:Ren} {i:Nat} {o:Option Nat},qI L i=some o→(i,o)∈L∨(i<64∧o=some i)
 | [],i,o,h=>by
  unfold qI at h
  cases e:decide (i<64) with
  | true=>rw [e] at h;simp only [cond_true,Option.some.injEq] at h;exact .inr ⟨by simpa using e,h.symm⟩
  | false=>rw [e] at h;simp at h
 | (n,p)::L,i,o,h=>by
  unfold qI at h
  split at h
  ·rename_i e;subst e;cases h;simp
  ·exact (vW h).imp (List.mem_cons_of_mem _) id
theorem aFO {m:Nat} (hm:m≤64):∀ {L:Ren},(∀ p∈L,p.1<m→p.2=some p.1)→∀ i,i<m→qI L i=some (some i)
 | [], _, i, hi => by have : i < 64 := by omega
                      simp [qI,this]
 | (n,p)::L,h,i,hi=>by
  unfold qI
  split
  ·rename_i e;subst e;exact congrArg some (h (i,p) (by simp) hi)
  ·exact aFO hm (fun q hq=>h q (by simp [hq])) i hi
def aTl:AV→AV→Ren
 | .ptr i _,.ptr i' _=>[(i',some i)]
 | .mp i,.mp i'=>[(i',some i)]
 | .sl i _ _ _ _,.sl i' _ _ _ _=>[(i',some i)]
 | .so i _ _ _,.so i' _ _ _=>[(i',some i)]
 | .lst (.tok g) _ _ _,.lst (.tok g') _ _ _=>[(g',some g)]
 | _,.lst (.tok g') _ _ _=>[(g',none)]
 | .nils,.so i' _ _ _=>[(i',none)]
 | _,_=>[]
def aTf:List AV→List AV→Ren
 | a::as,b::bs=>aTl a b++aTf as bs
 | _,_=>[]
def aOu (L:Ren) (hp:bH):List (Nat×AB)→Ren
 | []=>[]
 | (i,.cells bs)::l=>(match qI L i with
  | some (some o)=>(match hp o with
   | some (.cells as)=>aTf as bs
   | _=>[])
  | _=>[])++aOu L hp l
 | _::l=>aOu L hp l
theorem wON {n:Nat} (hn:n≤64) {sl:Nat→AV} {hp:bH} {b b':Nat} {l:List (Nat×AV)} {hs:List (Nat×AB)} (L:Ren) (h1:aAw (fun p=>WkR L (sl p.1) p.2) l)
  (h2:aAw (fun p=>∃ o,qI L p.1=some o∧BkR L hp p.1 o p.2) hs) (h3:aCE n L b'=true):wT n L ⟨sl,hp,b⟩ ⟨ofL l,ofH hs,b'⟩ where
 sl:=aJk (uL h1)
 hp i c hi:=uL h2 _ (aBX hi)
 inj i j o h1 h2:=by
  simp only [aCE,Bool.and_eq_true,List.all_eq_true] at h3
  have ge:∀ p∈L,∀ o,p.2=some o→64≤o∨o=p.1:=fun p hp o ho=>by
   have:=(h3.1.2 p hp).1
   rw [ho] at this;simpa using this
  rcases vW h1 with m1 | ⟨m1,e1⟩
  ·rcases vW h2 with m2 | ⟨m2,e2⟩
   ·have:=h3.2.2 _ m1 _ m2
    simpa using this
   ·cases e2
    rcases ge _ m1 _ rfl with h | h
    ·omega
    ·exact h.symm
  ·cases e1
   rcases vW h2 with m2 | ⟨m2,e2⟩
   ·rcases ge _ m2 _ rfl with h | h
    ·omega
    ·exact h
   ·cases e2;rfl
 b i o h1:=by
  simp only [aCE,Bool.and_eq_true,List.all_eq_true] at h3
  rcases vW h1 with m1 | ⟨m1,_⟩
  ·simpa using h3.2.1 _ m1
  ·have:64≤b':=by simpa using h3.1.1
   show i<b'
   omega
 anc:=by
  simp only [aCE,Bool.and_eq_true,List.all_eq_true] at h3
  refine aFO hn fun p hp hlt=>?_
  have:=(h3.1.2 p hp).2
  simp only [Bool.or_eq_true,decide_eq_true_eq,beq_iff_eq] at this
  rcases this with h | h
  ·omega
  ·exact h
theorem aE3 {sl:Nat→AV} {hp:bH} {b b':Nat} {l:List (Nat×AV)} {hs:List (Nat×AB)} (L:Ren) (h1:aAw (fun p=>WkR L (sl p.1) p.2) l)
  (h2:aAw (fun p=>∃ o,qI L p.1=some o∧BkR L hp p.1 o p.2) hs) (h3:aLO L b'=true):zH L ⟨sl,hp,b⟩ ⟨ofL l,ofH hs,b'⟩:=wON (Nat.le_refl _) L h1 h2 h3
theorem oH {L:Ren} {hp:bH} {i:Nat}:BkR L hp i none (.cells []):=rfl
theorem bRc {L:Ren} {hp:bH} {i o:Nat} {as bs:List AV} (h:hp o=some (.cells as)) (k:CkR L as bs):BkR L hp i (some o) (.cells bs):=by simp only [BkR,h];exact k
theorem aIe {L:Ren} {hp:bH} {i o:Nat} {S:Type} {G:Gh S} {s:S} (h:hp o=some (.gh S G s)):BkR L hp i (some o) (.gh S G s):=h
theorem cKn {L:Ren} {as:List AV}:CkR L as []:=by cases as<;>trivial
theorem cKc {L:Ren} {a b:AV} {as bs:List AV} (h:WkR L a b) (k:CkR L as bs):CkR L (a::as) (b::bs):=⟨h,k⟩
def aGx (σ:AS) (ts:List Nat):List (Nat×AV):=ts.map fun t=>(t,σ.sl t)
def yX:AV→Nat
 | .ptr i _=>i
 | .mp i=>i
 | .sl i _ _ _ _=>i
 | .so i _ _ _=>i
 | .lst (.tok g) _ _ _=>g
 | _=>0
def atN {α:Type u} (n:Nat) (f:Nat→α):α:=match n with
 | 0=>f 0
 | m+1=>f (m+1)
def uE (σ:AS) (ts:List Nat):List (Nat×AB):=ts.map fun t=>atN (yX (σ.sl t)) fun n=>(n,(σ.hp n).getD (.cells []))
def xW:List Nat→Nat→Nat
 | [],_=>0
 | a::_,0=>a
 | _::l,n+1=>xW l n
def vX:List (Nat×AV)→(List (Nat×AV)→Prop)→Prop
 | [],k=>k []
 | (t,a)::l,k=>vU a fun a=>vX l fun l=>k ((t,a)::l)
theorem pW:∀ (l:List (Nat×AV)) (k:List (Nat×AV)→Prop),vX l k=k l
 | [],_=>rfl
 | (t,a)::l,k=>by simp only [vX,tW];rw [pW l]
def aBf (sl:Nat→AV):List (Nat×AV)→(List (AV×AV)→Prop)→Prop
 | [],k=>k []
 | (t,a')::l,k=>vU (sl t) fun a=>vU a' fun a'=>aBf sl l fun ps=>k ((a,a')::ps)
theorem vP (sl:Nat→AV):∀ (l:List (Nat×AV)) (k:List (AV×AV)→Prop),aBf sl l k=k (l.map fun p=>(sl p.1,p.2))
 | [],_=>rfl
 | (t,a)::l,k=>by simp only [aBf,tW];rw [vP sl l];rfl
def jR:List (Nat×AB)→(List (Nat×AB)→Prop)→Prop
 | [],k=>k []
 | (n,.cells cs)::l,k=>iP n fun n=>jR l fun l=>k ((n,.cells cs)::l)
 | (n,.map es clk)::l,k=>iP n fun n=>jR l fun l=>k ((n,.map es clk)::l)
 | (n,.gh S G s)::l,k=>iP n fun n=>jR l fun l=>k ((n,.gh S G s)::l)
 | (n,.maps sz es clk ho)::l,k=>iP n fun n=>jR l fun l=>k ((n,.maps sz es clk ho)::l)
theorem fP:∀ (l:List (Nat×AB)) (k:List (Nat×AB)→Prop),jR l k=k l
 | [],_=>rfl
 | (n,.cells cs)::l,k=>by simp only [jR,cZ];rw [fP l]
 | (n,.map es clk)::l,k=>by simp only [jR,cZ];rw [fP l]
 | (n,.gh S G s)::l,k=>by simp only [jR,cZ];rw [fP l]
 | (n,.maps sz es clk ho)::l,k=>by simp only [jR,cZ];rw [fP l]
def tK:List Nat→(List Nat→Prop)→Prop
 | [],k=>k []
 | n::l,k=>iP n fun n=>tK l fun l=>k (n::l)
theorem oQ:∀ (l:List Nat) (k:List Nat→Prop),tK l k=k l
 | [],_=>rfl
 | n::l,k=>by simp only [tK,cZ];rw [oQ l]
def yL:Ren→(Ren→Prop)→Prop
 | [],k=>k []
 | (n,none)::l,k=>iP n fun n=>yL l fun l=>k ((n,none)::l)
 | (n,some o)::l,k=>iP n fun n=>iP o fun o=>yL l fun l=>k ((n,some o)::l)
theorem uB:∀ (l:Ren) (k:Ren→Prop),yL l k=k l
 | [],_=>rfl
 | (n,none)::l,k=>by simp only [yL,cZ];rw [uB l]
 | (n,some o)::l,k=>by simp only [yL,cZ];rw [uB l]
def aLy:List (AV×AV)→Ren
 | []=>[]
 | p::l=>aTl p.1 p.2++aLy l
theorem yY {α:Type u} {β:Type v} {f:α→β} {p:β→Prop}:∀ {l:List α},aAw p (l.map f)→aAw (fun a=>p (f a)) l
 | [],_=>trivial
 | _::_,h=>⟨h.1,yY h.2⟩
theorem bN {sl:Nat→AV} {hp:bH} {b b':Nat} {l:List (Nat×AV)} {hs:List (Nat×AB)}
  (h:aBf sl l fun ps=>yL ((0,some 0)::(aLy ps++aOu (aLy ps) hp hs)) fun L=>aLO L b'=true∧aAw (fun p=>WkR L p.1 p.2) ps∧aAw (fun p=>∃ o,qI L p.1=some o∧BkR L hp p.1 o p.2) hs):∃ L,zH L ⟨sl,hp,b⟩ ⟨ofL l,ofH hs,b'⟩:=by
 rw [vP,uB] at h
 exact ⟨_,aE3 _ (yY (β:=AV×AV) (p:=fun p=>WkR _ p.1 p.2) h.2.1) h.2.2 h.1⟩
theorem qU {S R:Type} {c:Code} {σ:AS} {Q:Exit→AS→Prop} {body:S→Option (Ct S R)} {n:Nat} {s:S} {Φ:S ⊕ R→Prop} (hcl:E.cl=true) (h:W (lp body n s) Φ) (ts hsl bsl:List Nat)
  (I:List (Nat×AV)→List (Nat×AB)→List Nat→Nat→S→AS)
  (H:vX (aGx σ ts) fun kl=>jR (uE σ hsl) fun kh=>tK (bsl.map fun t=>yX (σ.sl t)) fun ids=>iP σ.b fun b=>
   (∃ L,zH L σ (I kl kh ids b s))∧∀ (s:S) (m:Nat),W (bd (body s) fun c=>ctK c (lp body m) (fun s=>some (.inl s)) (fun r=>some (.inr r))) Φ →
    HT E N c (I kl kh ids b s) (aFA (fun σ'=>∃ s',W (lp body m s') Φ∧∃ L,zH L σ' (I kl kh ids b s')) Q)):HT E N (.loop c) σ Q:=by
 rw [pW,fP,oQ,cZ] at H
 exact aL0 hcl h (fun _ s=>I _ _ _ _ s) H.1 H.2
theorem aCS {V β:Type} {x y:Code} {σ:AS} {Q:Exit→AS→Prop} {f:V→Option β} {g:(V→Option β)→Option β} {Φ:β→Prop} (hcl:E.cl=true) (h:W (jn f g) Φ) (ts hsl bsl:List Nat)
  (I:List (Nat×AV)→List (Nat×AB)→List Nat→Nat→V→AS)
  (H:vX (aGx σ ts) fun kl=>jR (uE σ hsl) fun kh=>tK (bsl.map fun t=>yX (σ.sl t)) fun ids=>iP σ.b fun b=>
   (∀ s:V,W (f s) Φ→HT E N y (I kl kh ids b s) Q)∧∀ k:V→Option β,W (g k) Φ →
    HT E N x σ (aFA (fun σ'=>∃ s,W (k s) Φ∧∃ L,zH L σ' (I kl kh ids b s)) Q)):HT E N (.seq x y) σ Q:=by
 rw [pW,fP,oQ,cZ] at H
 refine aF ((H.2 f (lG h)).mono fun e σ' q=>?_)
 cases e with
 | normal=>obtain ⟨s,h1,L,h2⟩:=q;exact aBA hcl h2 (H.1 s h1)
 | _=>exact q
theorem cR {c:Code} {sl:Nat→AV} {hp:bH} {b:Nat} {Q:Exit→AS→Prop} (h:HT E N c ⟨sl,hp,b⟩ Q):HT E N c ⟨sl,hp,b⟩ Q:=h
def aRp (i:Nat) (cs:List AV):AV→AV
 | .ptr j o=>if j=i then .ep cs o else .ptr j o
 | a=>a
theorem aPv {β β':cN} {i:Nat} {cs:List AV} {l:Loc} {vs:List Value} (hle:cN.le β β') (hl:β i=some l) (hv:Vs β' cs vs) (hf:laid β'.fz l.c l.o vs):∀ (a:AV) (v:Value),V β a v→V β' (aRp i cs a) v:=fun a v h=>by
 unfold aRp
 split
 ·rename_i j o
  split
  ·rename_i e;subst e
   simp only [V] at h ⊢
   obtain ⟨l',h1,h2⟩:=h
   rw [hl] at h1;cases h1
   exact ⟨_,_,vs,h2,hf,hv⟩
  ·exact kU hle _ _ h
 ·exact kU hle _ _ h
theorem aQU {c:Code} {σ:AS} {Q:Exit→AS→Prop} (i:Nat) {cs:List AV} (hi:σ.hp i=some (.cells cs)) (h:HT E N c ⟨fun t=>aRp i cs (σ.sl t),upd σ.hp i none,σ.b+64⟩ Q):HT E N c σ Q:=fun ro F a w hro hF hr=>by
 obtain ⟨β,ds,h0,h1,h2,h3,h4⟩:=hr
 obtain ⟨l,hl,hlen,hblk⟩:=h2.own i cs hi
 have hg:β σ.b=none:=by
  cases e:β σ.b with
  | none=>rfl
  | some x=>exact absurd (h3 σ.b (by rw [e];simp)) (Nat.lt_irrefl _)
 obtain ⟨β',f1,f2,f3,f4,f5,f6⟩:=h2.freezeRaw (m:=cs.length) hi hl hg hlen
 obtain ⟨vs,hvs,hcell⟩:∃ vs:List Value,Vs β cs vs∧∀ (j:Nat) (v:Value),vs[j]?=some v→w.cell? ⟨l.c,l.o+j,none⟩=some v:=by
  have key:∀ (j:Nat) (a:AV),cs[j]?=some a→∃ v,w.cell? ⟨l.c,l.o+j,none⟩=some v∧V β a v:=fun j a ha=>h2.cell hi hl ha
  refine ⟨(List.range cs.length).map fun j=>(w.cell? ⟨l.c,l.o+j,none⟩).getD undef,sP (by simp) fun j a ha=>?_,fun j v hv=>?_⟩
  ·obtain ⟨v,x,y⟩:=key j a ha
   have hj:j<cs.length:=(List.getElem?_eq_some_iff.1 ha).1
   exact ⟨v,by simp [hj,x],y⟩
  ·have hj:j<cs.length:=by
    have:=(List.getElem?_eq_some_iff.1 hv).1;simpa using this
   obtain ⟨v',x,y⟩:=key j cs[j] (List.getElem?_eq_some_iff.2 ⟨hj,rfl⟩)
   simp [hj,x] at hv;rw [x,hv]
 refine h ro F a w hro hF ⟨β',ds,⟨cN.le.trans h0.le f1,fun j hj=>?_,Nat.le_trans h0.b (Nat.le_add_right _ _),fun c o hc=>?_⟩,fun t=>?_,?_,fun j hj=>?_,h4⟩
 ·rcases f2 j hj with e | e
  ·exact h0.dom j e
  ·exact .inr (e ▸ h0.b)
 ·rcases f6 c o hc with e | e
  ·exact h0.fz c o e
  ·exact .inr e.1
 ·refine aPv f1 hl (rK f1 _ _ hvs) (fun j v hv=>?_) _ _ (h1 t)
  have hj:j<cs.length:=by
   have:=(List.getElem?_eq_some_iff.1 hv).1;rw [← cO hvs] at this;exact this
  rw [f5 j hj];exact hcell j v hv
 ·refine f4.sub fun j b hb=>?_
  have hne:j≠σ.b:=fun e=>by
   subst e
   simp only [upd] at hb
   split at hb
   ·cases hb
   ·obtain ⟨x,hx⟩:=h2.locOf hb;rw [hg] at hx;cases hx
  rw [aY _ _ hne];exact hb
 ·rcases f2 j hj with e | e
  ·exact Nat.lt_of_lt_of_le (h3 j e) (Nat.le_add_right _ _)
  ·subst e;show σ.b<σ.b+64;omega
theorem sH {c:Code} {σ:AS} {Q:Exit→AS→Prop} (t:Nat) (h:iP (yX (σ.sl t)) fun i=>iP σ.b fun g=>∃ cs,σ.hp i=some (.cells cs)∧HT E N c ⟨fun t=>aRp i cs (σ.sl t),upd σ.hp i none,g+64⟩ Q):HT E N c σ Q:=by
 rw [cZ,cZ] at h
 obtain ⟨cs,h1,h2⟩:=h
 exact aQU _ h1 h2
theorem lsE {cs:List AV} {o:Nat} (h:∀ a∈cs,a.loose):(AV.ep cs o).loose:=fun β loc' ys' v hv=>by
 simp only [V] at hv ⊢
 obtain ⟨c,q,vs,e,h1,h2⟩:=hv
 refine ⟨c,q,vs,e,h1,sP (cO h2) fun j a ha=>?_⟩
 obtain ⟨u,hu,hk⟩:=tT h2 j a ha
 exact ⟨u,hu,h a (List.mem_of_getElem? ha) _ _ _ _ hk⟩
theorem wM {f:FuncId} {fs cs:List AV} (h:∀ a∈fs,a.loose) (k:∀ a∈cs,a.loose):(AV.fn f fs cs).loose:=fun β loc' ys' v hv=>by
 simp only [V] at hv ⊢
 obtain ⟨x,y,e,h1,h2⟩:=hv
 refine ⟨x,y,e,sP (cO h1) fun j a ha=>?_,sP (cO h2) fun j a ha=>?_⟩
 ·obtain ⟨u,hu,hk⟩:=tT h1 j a ha
  exact ⟨u,hu,h a (List.mem_of_getElem? ha) _ _ _ _ hk⟩
 ·obtain ⟨u,hu,hk⟩:=tT h2 j a ha
  exact ⟨u,hu,k a (List.mem_of_getElem? ha) _ _ _ _ hk⟩
theorem aAR {α:Type} (l:List α) (x:List α) (d:α) (j:Nat):(l++x).getD j d=if j<l.length then l.getD j d else x.getD (j-l.length) d:=by
 simp only [List.getD_eq_getElem?_getD,List.getElem?_append]
 split<;>rfl
theorem gX {P:Program} {D:DT} (hD:DOk P D) {α β:Type} {enc:α→AV} {d:α} {t u:TypeId} {e e':TypeId} {de:TD} {s1 s2 b1 b2:Nat} {z1 z2:List AV} {m m':LM} {sz:Nat} {l x:List α} {id:Nat} {hp:bH} {k:AV→bH→Prop} {f:List α→Option β} {Φ:β→Prop} {s:AV}
  (h:W (ap l x f) Φ) (hs:s=.lst m sz l.length (fun j=>enc (l.getD j d))∨(s=.nils∧l=[])) (ht:D t=some ⟨.slice e,s1,z1,b1⟩) (hu:D u=some ⟨.slice e',s2,z2,b2⟩) (he:D e=some de)
  (h0:de.size=sz∧0<sz∧0<de.bytes∧de.bytes≤1048576∧de.zero.length=sz) (hfl:∀ y,aIo (enc y)=true) {H':bH}
  (hm:(s=.nils∧H'=upd hp id (some (.cells [])))∨(s=.lst .cap sz l.length (fun j=>enc (l.getD j d))∧H'=upd hp id (some (.cells [])))∨(∃ g cs,s=.lst (.tok g) sz l.length (fun j=>enc (l.getD j d))∧hp g=some (.cells cs)∧H'=upd (upd hp g none) id (some (.cells []))))
  (hk:W (f (l++x)) Φ→k (.lst (.tok id) sz (l++x).length fun j=>enc ((l++x).getD j d)) H') :
  rG P t u s (.lst m' sz x.length fun j=>enc (x.getD j d)) id hp k:=by
 unfold ap at h
 obtain ⟨hlen,h⟩:=vE h
 rw [List.length_append] at hk
 have k1:=(hD _ _ ht).k
 have k2:=(hD _ _ hu).k
 simp only [xC] at k1 k2
 obtain ⟨rfl,h1,h2,h3,h4⟩:=h0
 refine aGr ⟨e,e',_,_,_,l.length,x.length,(fun j=>enc (l.getD j d)),(fun j=>enc (x.getD j d)),_,k1,k2,(hD _ _ he).size,(hD _ _ he).bytes,(hD _ _ he).zero,h1,h2,h3,h4,hlen,?_,.lst _ _ _,fun j _=>hfl _,rfl,fun j hj=>?_,fun j hj=>?_,hm⟩ (hk h)
 ·rcases hs with rfl | ⟨rfl,rfl⟩
  ·exact .lst _ _ _
  ·exact .nil _
 ·simp only [aAR,if_pos hj]
 ·simp only [aAR]
  rw [if_neg (by omega),Nat.add_sub_cancel_left]
theorem aHK {P:Program} {D:DT} (hD:DOk P D) {α β:Type} {enc:α→AV} {d:α} {t u:TypeId} {e e':TypeId} {de:TD} {s1 s2 b1 b2:Nat} {z1 z2:List AV} {m':LM} {sz:Nat} {l x:List α} {id:Nat} {hp:bH} {k:AV→bH→Prop} {f:List α→Option β} {Φ:β→Prop}
  (h:W (ap l x f) Φ) (ht:D t=some ⟨.slice e,s1,z1,b1⟩) (hu:D u=some ⟨.slice e',s2,z2,b2⟩) (he:D e=some de)
  (h0:de.size=sz∧0<sz∧0<de.bytes∧de.bytes≤1048576∧de.zero.length=sz) (hfl:∀ y,aIo (enc y)=true)
  (hk:W (f (l++x)) Φ→k (.lst (.tok id) sz (l++x).length fun j=>enc ((l++x).getD j d)) (upd hp id (some (.cells [])))) :
  uN P t u (.lst .cap sz l.length fun j=>enc (l.getD j d)) (.lst m' sz x.length fun j=>enc (x.getD j d)) id hp k:=by
 unfold ap at h
 obtain ⟨hlen,h⟩:=vE h
 rw [List.length_append] at hk
 have k1:=(hD _ _ ht).k
 have k2:=(hD _ _ hu).k
 simp only [xC] at k1 k2
 obtain ⟨rfl,h1,h2,h3,h4⟩:=h0
 refine uP ⟨_,.inr fun H=>⟨e,e',_,_,_,l.length,x.length,(fun j=>enc (l.getD j d)),(fun j=>enc (x.getD j d)),_,k1,k2,(hD _ _ he).size,(hD _ _ he).bytes,(hD _ _ he).zero,h1,h2,h3,h4,hlen,.lst _ _ _,.lst _ _ _,fun j _=>hfl _,rfl,fun j hj=>?_,fun j hj=>?_,.inr (.inl ⟨rfl,rfl⟩)⟩,Wk.refl _⟩ (hk h)
 ·simp only [aAR,if_pos hj]
 ·simp only [aAR]
  rw [if_neg (by omega),Nat.add_sub_cancel_left]
def aPx (p:Nat→Prop):Nat→Prop
 | 0=>True
 | n+1=>p n∧aPx p n
theorem aGq {p:Nat→Prop}:∀ {n:Nat},aPx p n→∀ j,j<n→p j
 | n+1,h,j,hj=>by
  by_cases e:j=n
  ·subst e;exact h.1
  ·exact aGq h.2 j (by omega)
theorem aIR {p:Nat→Prop}:∀ {n:Nat},(∀ j,j<n→p j)→aPx p n
 | 0,_=>trivial
 | _+1,h=>⟨h _ (by omega),aIR fun j hj=>h j (by omega)⟩
def elD (de:TD) (cs:List AV) (j:Nat) (a:AV):Prop:=
 match de.k.agg with
 | true=>a=.agg ((cs.drop (j * de.size)).take de.size)∧j * de.size+de.size≤cs.length
 | false=>de.size=1∧cs[j]?=some a∧a.flat=true
theorem aII {P:Program} {D:DT} (hD:DOk P D) {α β:Type} {enc:α→AV} {d:α} {t:TypeId} {parts:List (Nat×AV)} {id:Nat} {e:TypeId} {de:TD} {s1 b1:Nat} {z1:List AV} {cs:List AV} {k:AV→AB→Prop} {l:List α} {f:List α→Option β} {Φ:β→Prop} {n:Nat}
  (h:W (lt l f) Φ) (ht:D t=some ⟨.slice e,s1,z1,b1⟩) (he:D e=some de) (hn:n=l.length) (h0:n * de.size≤2 ^ 24∧0<de.size∧de.zero.length=de.size)
  (hf:xR (fun i=>some (i * de.size,de.size)) (wB de.zero n) parts=some cs) (hc:aPx (fun j=>∃ a,elD de cs j a∧Wk a (enc (l.getD j d))) n)
  (hk:W (f l) Φ→k (.lst .cap de.size l.length fun j=>enc (l.getD j d)) (.cells [])):bsK P t n parts id k:=by
 unfold lt at h
 subst hn
 have k1:=(hD _ _ ht).k
 simp only [xC] at k1
 have hde:=hD _ _ he
 refine aMF ⟨e,de.size,cs,?_,.inr ⟨_,rfl,rfl,fun j hj=>?_⟩⟩ (hk h)
 ·simp only [sG,k1,hde.size,hde.zero,Option.bind_some]
  rw [if_pos h0,hf];rfl
 ·obtain ⟨a,this,hwk⟩:=aGq hc j hj
  unfold elD at this
  refine ⟨a,?_⟩
  rw [← and_assoc]
  refine ⟨?_,hwk⟩
  unfold vD okE
  rw [hde.agg,hde.size]
  cases ha:de.k.agg with
  | true=>
   simp only [ha] at this
   refine ⟨?_,fun h=>by cases h⟩
   simp only [Option.bind_some,this.2,if_true]
   rw [← this.1]
  | false=>
   simp only [ha] at this
   rw [this.1,Nat.mul_one]
   exact ⟨this.2.1,fun _=>⟨rfl,this.2.2⟩⟩
theorem dL {P:Program} {D:DT} (hD:DOk P D) {α β:Type} {enc:α→AV} {d:α} {t:TypeId} {parts:List (Nat×AV)} {id:Nat} {e:TypeId} {de:TD} {s1 b1:Nat} {z1:List AV} {cs:List AV} {k:AV→AB→Prop} {l:List α} {f:List α→Option β} {Φ:β→Prop} {n:Nat}
  (h:W (lt l f) Φ) (ht:D t=some ⟨.slice e,s1,z1,b1⟩) (he:D e=some de) (hn:n=l.length) (h0:n * de.size≤2 ^ 24∧0<de.size∧de.zero.length=de.size)
  (hf:xR (fun i=>some (i * de.size,de.size)) (wB de.zero n) parts=some cs) (hc:aPx (fun j=>elD de cs j (enc (l.getD j d))) n)
  (hk:W (f l) Φ→k (.lst .cap de.size l.length fun j=>enc (l.getD j d)) (.cells [])):bsK P t n parts id k:=
 aII hD h ht he hn h0 hf (aIR fun j hj=>⟨_,aGq hc j hj,Wk.refl _⟩) hk
end
end Go.Eng
namespace Go.Eng
open Go
open Go.RowKit (Below)
universe u v
variable {P:Program}
def AV.plain (a:AV):Prop:=∀ (β β':cN) (v:Value),V β a v→V β' a v
def aGa (loc:Nat→Option Loc) (ids:List Nat):Nat→Option Loc:=fun j=>(ids[j]?).bind loc
def WkA (ids:List Nat) (a a0:AV):Prop:=∀ (β:cN) (ys:Nat→Prop) (v:Value),V β a v→V ⟨aGa β.loc ids,β.fz,ys⟩ a0 v
def mm (ids ns:List Nat) (base:Nat):List (Nat×Nat):=(ids.zipIdx.map fun p=>(p.2,p.1))++ns.zipIdx.map fun p=>(p.1,base+p.2)
def WkB (M:List (Nat×Nat)) (a0 a:AV):Prop:=∀ (β0:cN) (loc:Nat→Option Loc) (ys:Nat→Prop) (v:Value),(∀ p∈M,loc p.2=β0.loc p.1)→V β0 a0 v→V ⟨loc,β0.fz,ys⟩ a v
inductive aBb {α:Type u} {β:Type v} (R:α→β→Prop):List α→List β→Prop where
 | nil:aBb R [] []
 | cons {a:α} {b:β} {as:List α} {bs:List β} (h:R a b) (k:aBb R as bs):aBb R (a::as) (b::bs)
theorem aBb.len {α:Type u} {β:Type v} {R:α→β→Prop} {as:List α} {bs:List β} (h:aBb R as bs):as.length=bs.length:=by
 induction h with
 | nil=>rfl
 | cons _ _ ih=>simp [ih]
theorem aBb.get {α:Type u} {β:Type v} {R:α→β→Prop} {as:List α} {bs:List β} (h:aBb R as bs):∀ (j:Nat) (b:β),bs[j]?=some b→∃ a,as[j]?=some a∧R a b:=by
 induction h with
 | nil=>intro j b hb;simp at hb
 | cons h _ ih=>
  intro j b hb
  cases j with
  | zero=>simp only [List.getElem?_cons_zero,Option.some.injEq] at hb;subst hb;exact ⟨_,by simp,h⟩
  | succ j=>obtain ⟨a,h1,h2⟩:=ih j b (by simpa using hb);exact ⟨a,by simpa using h1,h2⟩
theorem aBb.vs {ids:List Nat} {as bs:List AV} (h:aBb (WkA ids) as bs) {β:cN} {ys:Nat→Prop} {vs:List Value} (hv:Vs β as vs):Vs ⟨aGa β.loc ids,β.fz,ys⟩ bs vs:=by
 induction h generalizing vs with
 | nil=>simpa [Vs] using hv
 | cons h _ ih=>
  obtain ⟨v,vs',rfl,h1,h2⟩:=hv
  exact ⟨v,vs',rfl,h _ _ _ h1,ih h2⟩
def EnR (R:AV→AV→Prop) (p q:Nat×AV×AV):Prop:=p.1=q.1∧R p.2.1 q.2.1∧R p.2.2 q.2.2
inductive BkX (R:AV→AV→Prop):AB→AB→Prop where
 | cells {as bs:List AV} (h:aBb R as bs):BkX R (.cells as) (.cells bs)
 | part {as bs cs:List AV} (h:aBb R as bs):BkX R (.cells (as++cs)) (.cells bs)
 | map {es ds:List (Nat×AV×AV)} {clk:Nat} (h:aBb (EnR R) es ds):BkX R (.map es clk) (.map ds clk)
 | gh {S:Type} {G:Gh S} {s:S}:BkX R (.gh S G s) (.gh S G s)
def ofB (bs:List AB):bH:=fun j=>bs[j]?
def aLC (P:Program) (rs:Array ResultVar) (ids:List Nat) (base:Nat) (r:AV) (bs' nb:List AB):Exit→AS→Prop:=fun e σ=>match e with
 | .normal | .ret=>∃ (r1:AV) (ns:List Nat),ns.length=nb.length∧ns.Nodup∧(∀ n∈ns,64≤n)∧aGH P rs σ=some r1∧WkB (mm ids ns base) r1 r ∧
   (∀ (j:Nat) (b:AB),bs'[j]?=some b→∃ b0,σ.hp j=some b0∧BkX (WkB (mm ids ns base)) b0 b)∧(∀ (k n:Nat) (b:AB),ns[k]?=some n→nb[k]?=some b→∃ b0,σ.hp n=some b0∧BkX (WkB (mm ids ns base)) b0 b)
 | _=>False
theorem aLM {β β1:cN} {H:bH} {w w2:World} {B B':Bd} (hH:cL β H w B) {i:Nat} {l:Loc} {cs:List AV} (hi:H i=some (.cells cs)) (hl:β i=some l) (hnB:0<l.k→¬ B' l.c) (hw:∀ c,¬ B' c→w2.heap[c]?=w.heap[c]?)
  (hfz:∀ c o,β1.fz c o≠none→β.fz c o≠none∨B' c) (hle:cN.le β β1):cs.length≤l.k∧(0<l.k→B l.c∧(∀ o,l.o≤o→o<l.o+l.k→β1.fz l.c o=none) ∧
  ∃ (full:Array Value) (e:TypeId),w2.heap[l.c]?=some (.cells full e (0,0))∧l.o+l.k≤full.size∧∀ (j:Nat) (a:AV),cs[j]?=some a→∃ v:Value,(full[l.o+j]?:Option Value)=some v∧V β1 a v):=by
 obtain ⟨l',h1,h2,h3⟩:=hH.own i cs hi
 rw [hl] at h1;cases h1
 refine ⟨h2,fun hk=>?_⟩
 obtain ⟨b1,b2,full,t,p,q,r⟩:=h3 hk
 refine ⟨b1,fun o o1 o2=>?_,full,t,(hw _ (hnB hk)).trans p,q,fun j a ha=>let ⟨v,x,y⟩:=r j a ha;⟨v,x,kU hle _ _ y⟩⟩
 cases hh:β1.fz l.c o with
 | none=>rfl
 | some v=>
  rcases hfz l.c o (by rw [hh];simp) with h | h
  ·exact absurd (b2 o o1 o2) h
  ·exact absurd h (hnB hk)
theorem aMj {ids ns:List Nat} {base j i:Nat} (h:ids[j]?=some i):(j,i)∈mm ids ns base:=by
 unfold mm
 refine List.mem_append_left _ (List.mem_map.2 ⟨(i,j),?_,rfl⟩)
 rw [List.mem_zipIdx_iff_getElem?];simpa using h
theorem aIX {ids ns:List Nat} {base k n:Nat} (h:ns[k]?=some n):(n,base+k)∈mm ids ns base:=by
 unfold mm
 refine List.mem_append_right _ (List.mem_map.2 ⟨(n,k),?_,rfl⟩)
 rw [List.mem_zipIdx_iff_getElem?];simpa using h
theorem aOT {ids ns:List Nat} {base:Nat} {p:Nat×Nat} (h:p∈mm ids ns base):ids[p.1]?=some p.2∨∃ k,ns[k]?=some p.1∧p.2=base+k:=by
 unfold mm at h
 rcases List.mem_append.1 h with h | h
 ·obtain ⟨q,h1,rfl⟩:=List.mem_map.1 h
  rw [List.mem_zipIdx_iff_getElem?] at h1
  exact .inl (by simpa using h1)
 ·obtain ⟨q,h1,rfl⟩:=List.mem_map.1 h
  rw [List.mem_zipIdx_iff_getElem?] at h1
  exact .inr ⟨q.2,by simpa using h1,rfl⟩
theorem aBR {ids:List Nat} (h:ids.Nodup) {j k i:Nat} (hj:ids[j]?=some i) (hk:ids[k]?=some i):j=k:=
 (List.getElem?_inj (List.getElem?_eq_some_iff.1 hj).1 h).1 (hj.trans hk.symm)
theorem aD9 {R:AV→AV→Prop} {β β1:cN} (hR:∀ a b v,R a b→V β a v→V β1 b v) {as bs:List AV} (h:aBb R as bs) {full:Array Value} {o:Nat}
  (k:∀ (j:Nat) (a:AV),as[j]?=some a→∃ v:Value,(full[o+j]?:Option Value)=some v∧V β a v):∀ (j:Nat) (b:AV),bs[j]?=some b→∃ v:Value,(full[o+j]?:Option Value)=some v∧V β1 b v:=fun j b hb=>by
 obtain ⟨a,ha,hab⟩:=h.get j b hb
 obtain ⟨v,x,y⟩:=k j a ha
 exact ⟨v,x,hR _ _ _ hab y⟩
theorem aQJ {R:AV→AV→Prop} {β β1:cN} (hR:∀ a b v,R a b→V β a v→V β1 b v) {es ds:List (Nat×AV×AV)} (h:aBb (EnR R) es ds) {ents:Array MapEntry} (m:aAC β es ents):aAC β1 ds ents:=
 ⟨m.len.trans h.len,fun j q hq=>by
  obtain ⟨p,hp,h1,h2,h3⟩:=h.get j q hq
  obtain ⟨e,e1,e2,e3,e4⟩:=m.rel j p hp
  exact ⟨e,e1,e2.trans h1,hR _ _ _ h2 e3,hR _ _ _ h3 e4⟩⟩
theorem aFk {β:cN} {as cs:List AV} {full:Array Value} {o:Nat} (k:∀ (j:Nat) (a:AV),(as++cs)[j]?=some a→∃ v:Value,(full[o+j]?:Option Value)=some v∧V β a v):∀ (j:Nat) (a:AV),as[j]?=some a→∃ v:Value,(full[o+j]?:Option Value)=some v∧V β a v:=
 fun j a h=>k j a (by rw [List.getElem?_append_left (List.getElem?_eq_some_iff.1 h).1];exact h)
set_option maxHeartbeats 1000000 in
theorem aHc {T:Tbl} {pf:FuncId→Bool} (hT:TOk P T) (hpf:cP T pf) {f:FuncId} {fn:Func} {c:Code} {s:aAb} {N:Nat} {rs:Array ResultVar}
  (hf:P.funcs[f]?=some fn) (hb:fn.body=some c) (hN:fn.ntmps=N) (hrs:fn.results=rs) (hn:(fn.name == "runtime.NumGoroutine")=false)
  (h:∀ args H base r H',s args H base r H'→∃ (ids:List Nat) (args0:List AV) (bs bs' nb:List AB),args.length≤N∧ids.length≤32∧nb.length≤64∧ids.Nodup∧bs.length=ids.length∧aBb (WkA ids) args args0 ∧
   (∀ (j i:Nat) (b:AB),ids[j]?=some i→bs[j]?=some b→∃ b1,H i=some b1∧BkX (WkA ids) b1 b)∧(∀ (k:Nat) (b:AB),nb[k]?=some b→aAK b=true)∧(∀ (j:Nat) (b:AB),bs'[j]?=some b→∃ b1,bs[j]?=some b1∧aAK b1=aAK b) ∧
   (∀ (i:Nat) (b:AB),H' i=some b→(i ∉ ids∧H i=some b)∨(∃ j:Nat,ids[j]?=some i∧bs'[j]?=some b)∨∃ k,i=base+k∧nb[k]?=some b) ∧
   HT ⟨P,T,pf,true,false,hT,hpf⟩ N c ⟨aCs args0,ofB bs,64⟩ (aLC P rs ids base r bs' nb)):FOk P f s:=by
 subst hN hrs
 refine ⟨fun av w=>aHE hf hn hb av w,fun args H base r H' e B w β av hβ hH hB hv=>?_⟩
 obtain ⟨ids,args0,bs,bs',nb,hle,hi64,hn64,hnd,hbl,hargs,hblk,hnb,hsame,hH',hh⟩:=h args H base r H' e
 let g:Prop:=∃ (j:Nat) (b:AB),bs[j]?=some b∧aAK b=false
 let ys0:Nat→Prop:=fun c=>g∧β.ys c
 let B':Bd:=fun c=>(∃ (j i:Nat) (l:Loc) (b:AB),ids[j]?=some i∧H i=some b∧β i=some l∧0<l.k∧c=l.c)∨ys0 c∨w.heap.size≤c
 let β0:cN:=⟨aGa β.loc ids,β.fz,ys0⟩
 have hsub:∀ c,B' c→B c:=fun c hc=>by
  rcases hc with ⟨j,i,l,b,_,h2,h3,h4,rfl⟩ | h | h
  ·exact (hH.lt_of_own h2 h3 h4).2
  ·exact (hH.ys c h.2).1
  ·exact hB c h
 have hloc0:∀ j i,ids[j]?=some i→β0 j=β i:=fun j i h=>by show aGa β.loc ids j=_;simp [aGa,h]
 have hids:∀ j l,β0 j=some l→∃ i,ids[j]?=some i∧β i=some l:=fun j l h=>by
  change aGa β.loc ids j=some l at h
  unfold aGa at h
  cases e:ids[j]? with
  | none=>rw [e] at h;cases h
  | some i=>rw [e] at h;exact ⟨i,rfl,h⟩
 have hlt:∀ {j:Nat} {b:AB},bs[j]?=some b→∃ i b1,ids[j]?=some i∧H i=some b1∧BkX (WkA ids) b1 b:=fun {j b} hj=>by
  have:j<ids.length:=by rw [← hbl];exact (List.getElem?_eq_some_iff.1 hj).1
  obtain ⟨b1,h1,h2⟩:=hblk j ids[j] b (by simp [this]) hj
  exact ⟨_,b1,by simp [this],h1,h2⟩
 have wkA:∀ (a b:AV) (v:Value),WkA ids a b→V β a v→V β0 b v:=fun a b v h k=>h β ys0 v k
 have h0:cL β0 (ofB bs) w B':=by
  refine ⟨hH.fz,hH.gb,fun j cs hj=>?_,fun j es clk hj=>?_,fun a b ba bb la lb hab ha hb' ea eb pa pb=>?_,fun c hc=>⟨.inr (.inl hc),(hH.ys c hc.2).2⟩,fun j b l hj hl hk hc=>?_,fun j S G s hj=>?_,fun j k S G s S' G' s' hj hk=>?_,fun j sz es clk ho hj=>?_,fun j k sz es clk ho b hj _ _=>?_⟩
  ·obtain ⟨i,b1,h1,h2,h3⟩:=hlt hj
   cases h3 with
   | cells h3=>
    obtain ⟨l,g1,g2,g3⟩:=hH.own i _ h2
    refine ⟨l,(hloc0 j i h1).trans g1,h3.len ▸ g2,fun hk=>?_⟩
    obtain ⟨_,hu,full,t,p,q,rr⟩:=g3 hk
    exact ⟨.inl ⟨j,i,l,_,h1,h2,g1,hk,rfl⟩,hu,full,t,p,q,aD9 wkA h3 rr⟩
   | part h3=>
    obtain ⟨l,g1,g2,g3⟩:=hH.own i _ h2
    rw [List.length_append] at g2
    refine ⟨l,(hloc0 j i h1).trans g1,by have:=h3.len;omega,fun hk=>?_⟩
    obtain ⟨_,hu,full,t,p,q,rr⟩:=g3 hk
    exact ⟨.inl ⟨j,i,l,_,h1,h2,g1,hk,rfl⟩,hu,full,t,p,q,aD9 wkA h3 (aFk rr)⟩
  ·obtain ⟨i,b1,h1,h2,h3⟩:=hlt hj
   cases h3 with
   | map h3=>
    obtain ⟨l,g1,g2,g3,ents,g4,m⟩:=hH.map i _ _ h2
    exact ⟨l,(hloc0 j i h1).trans g1,g2,.inl ⟨j,i,l,_,h1,h2,g1,g2,rfl⟩,ents,g4,aQJ wkA h3 m⟩
  ·obtain ⟨ia,ba1,a1,a2,_⟩:=hlt ha
   obtain ⟨ib,bb1,b1,b2,_⟩:=hlt hb'
   rw [hloc0 _ _ a1] at ea
   rw [hloc0 _ _ b1] at eb
   exact hH.sep ia ib _ _ la lb (fun e=>hab (aBR hnd a1 (e ▸ b1))) a2 b2 ea eb pa pb
  ·obtain ⟨i,b1,h1,h2,_⟩:=hlt hj
   rw [hloc0 _ _ h1] at hl
   exact hH.yo i _ l h2 hl hk hc.2
  ·obtain ⟨i,b1,h1,h2,h3⟩:=hlt hj
   cases h3
   obtain ⟨l,g1,g2,g3,g4,g5⟩:=hH.gh i S G s h2
   have hg:g:=⟨j,_,hj,rfl⟩
   have:β0.ys=β.ys:=by funext c;show (g∧β.ys c)=β.ys c;simp [hg]
   exact ⟨l,(hloc0 j i h1).trans g1,g2,by rw [this];exact g3,fun c o v hc hv=>g4 c o v hc.2 hv,g5⟩
  ·obtain ⟨i,b1,h1,h2,h3⟩:=hlt hj
   obtain ⟨i',b1',h1',h2',h3'⟩:=hlt hk
   cases h3;cases h3'
   have:=hH.gh1 i i' _ _ _ _ _ _ h2 h2'
   subst this
   exact aBR hnd h1 h1'
  ·obtain ⟨i,b1,h1,h2,h3⟩:=hlt hj
   cases h3
  ·obtain ⟨i,b1,h1,h2,h3⟩:=hlt hj
   cases h3
 have hd0:∀ j,β0 j≠none→j<32:=fun j hj=>by
  cases e:β0 j with
  | none=>exact absurd e hj
  | some l=>
   obtain ⟨i,h1,_⟩:=hids j l e
   have:=(List.getElem?_eq_some_iff.1 h1).1
   omega
 refine aBG (F:=⟨B',w,β0,0⟩) hf hb hh (fun _=>⟨hd0,rfl⟩) (aG7 (aF0 (β:=β0) (base:=64) (fun j hj=>Nat.lt_of_lt_of_le (hd0 j hj) (by omega)) h0 (fun c hc=>.inr (.inr hc)) (hargs.vs hv) (hargs.len ▸ hle))) ?_
 intro e' σ' a' w' β1 ds q hsince hs hH1' hb1 hbel hB1
 have hH1:cL β1 σ'.hp w' B':=hH1'.sup fun c hc=>hc.1
 have fin:(∃ (r1:AV) (ns:List Nat),ns.length=nb.length∧ns.Nodup∧(∀ n∈ns,64≤n)∧aGH P fn.results σ'=some r1∧WkB (mm ids ns base) r1 r ∧
   (∀ (j:Nat) (b:AB),bs'[j]?=some b→∃ b0,σ'.hp j=some b0∧BkX (WkB (mm ids ns base)) b0 b)∧(∀ (k n:Nat) (b:AB),ns[k]?=some n→nb[k]?=some b→∃ b0,σ'.hp n=some b0∧BkX (WkB (mm ids ns base)) b0 b)) →
   ∃ v,(results fn a'.tmps).run P w'=.ok v w'∧zO P β B base w r H' (.returned v) w':=by
  rintro ⟨r1,ns,hnl,hnn,hn64',hr,hwk,hold,hnew⟩
  obtain ⟨v,hv1,hv2⟩:=aIO (P:=P) hr hs hH1
  let ys1:Nat→Prop:=fun c=>(g∧β1.ys c)∨(¬ g∧β.ys c)
  let β':cN:=⟨fun i=>bif decide (base≤i)&&decide (i<base+ns.length) then (ns[i-base]?).bind β1.loc else β.loc i,β1.fz,ys1⟩
  have locOld:∀ i,i<base→β' i=β i:=fun i hi=>by
   show (bif _ then _ else _)=_
   have:decide (base≤i)=false:=by simpa using hi
   rw [this];rfl
  have locNew:∀ k n,ns[k]?=some n→β' (base+k)=β1 n:=fun k n hk=>by
   show (bif _ then _ else _)=_
   have:k<ns.length:=(List.getElem?_eq_some_iff.1 hk).1
   have e1:decide (base≤base+k)=true:=by simp
   have e2:decide (base+k<base+ns.length)=true:=by simpa using this
   rw [e1,e2];simp [hk]
  have hltb:∀ i l,β i=some l→i<base:=fun i l h=>hβ i (by rw [h];simp)
  have locI:∀ j i,ids[j]?=some i→∀ l,β i=some l→β1 j=some l:=fun j i h l hl=>hsince.le.loc _ _ ((hloc0 j i h).trans hl)
  have hle':cN.le β β':=⟨fun i l h=>(locOld i (hltb i l h)).trans h,hsince.le.fz⟩
  have hM:∀ p∈mm ids ns base,p.2<base→True:=fun _ _ _=>trivial
  have locM:∀ (l0:∀ j i,ids[j]?=some i→∃ l,β i=some l),∀ p∈mm ids ns base,β'.loc p.2=β1.loc p.1:=fun l0 p hp=>by
   rcases aOT hp with h | ⟨k,h1,h2⟩
   ·obtain ⟨l,hl⟩:=l0 _ _ h
    rw [show β'.loc p.2=β' p.2 from rfl,locOld _ (hltb _ l hl),hl]
    exact (locI _ _ h l hl).symm
   ·rw [h2];exact locNew k _ h1
  have l0:∀ j i,ids[j]?=some i→∃ l,β i=some l:=fun j i hj=>by
   have:j<bs.length:=by rw [hbl];exact (List.getElem?_eq_some_iff.1 hj).1
   obtain ⟨b1,h1,_⟩:=hblk j i bs[j] hj (by simp [this])
   exact hH.locOf h1
  have wkB:∀ (a b:AV) (v:Value),WkB (mm ids ns base) a b→V β1 a v→V β' b v:=fun a b v h k=>h β1 β'.loc ys1 v (locM l0) k
  have hkeep:∀ c,¬ B' c→w'.heap[c]?=w.heap[c]?:=fun c hc=>hbel.block c hc
  have hfz1:∀ c o,β1.fz c o≠none→β.fz c o≠none∨B' c:=fun c o hc=>hsince.fz c o hc
  have out:∀ i b l,i ∉ ids→H i=some b→β i=some l→0<l.k→¬ B' l.c:=fun i b l hi h1 h2 hk hc=>by
   rcases hc with ⟨j,i',l',b',g1,g2,g3,g4,g5⟩ | hc | hc
   ·exact hH.sep i i' b b' l l' (fun e=>hi (e ▸ List.mem_of_getElem? g1)) h1 g2 h2 g3 hk g4 g5
   ·exact hH.yo i b l h1 h2 hk hc.2
   ·have:=(hH.lt_of_own h1 h2 hk).1;omega
  have ysB:∀ c,¬ g→β.ys c→¬ B' c:=fun c hg hc h=>by
   rcases h with ⟨j,i,l,b,_,h2,h3,h4,rfl⟩ | h | h
   ·exact hH.yo i b l h2 h3 h4 hc
   ·exact hg h.1
   ·have:=(hH.ys c hc).2;omega
  have ys1B:∀ c,ys1 c→B c∧c<w'.heap.size:=fun c hc=>by
   rcases hc with ⟨_,h⟩ | ⟨_,h⟩
   ·exact ⟨hsub c (hH1.ys c h).1,(hH1.ys c h).2⟩
   ·exact ⟨(hH.ys c h).1,Nat.lt_of_lt_of_le (hH.ys c h).2 hbel.size⟩
  have lenI:∀ {m i:Nat},ids[m]?=some i→m<64:=fun h=>Nat.lt_of_lt_of_le (List.getElem?_eq_some_iff.1 h).1 (Nat.le_trans hi64 (by omega))
  let nameOf:Nat→Nat→Prop:=fun i m=>ids[m]?=some i∨∃ k,ns[k]?=some m∧i=base+k
  have name1:∀ {i j m},nameOf i m→nameOf j m→i=j:=fun {i j m} h1 h2=>by
   rcases h1 with h1 | ⟨k,h1,e1⟩
   ·rcases h2 with h2 | ⟨k',h2,e2⟩
    ·rw [h1] at h2;cases h2;rfl
    ·have:=lenI h1;have:=hn64' m (List.mem_of_getElem? h2);omega
   ·rcases h2 with h2 | ⟨k',h2,e2⟩
    ·have:=lenI h2;have:=hn64' m (List.mem_of_getElem? h1);omega
    ·have:=aBR hnn h1 h2;omega
  have loc':∀ i b,H' i=some b→∃ l,β' i=some l∧((i ∉ ids∧H i=some b∧β i=some l)∨∃ m b0,σ'.hp m=some b0∧BkX (WkB (mm ids ns base)) b0 b∧β1 m=some l∧nameOf i m∧(aAK b=false→g)):=fun i b hi=>by
   rcases hH' i b hi with ⟨h1,h2⟩ | ⟨j,h1,h2⟩ | ⟨k,h1,h2⟩
   ·obtain ⟨l,hl⟩:=hH.locOf h2
    exact ⟨l,(locOld i (hltb i l hl)).trans hl,.inl ⟨h1,h2,hl⟩⟩
   ·obtain ⟨l,hl⟩:=l0 j i h1
    obtain ⟨b0,g1,g2⟩:=hold j b h2
    refine ⟨l,(locOld i (hltb i l hl)).trans hl,.inr ⟨j,b0,g1,g2,locI j i h1 l hl,.inl h1,fun hg=>?_⟩⟩
    obtain ⟨bb,hb,he⟩:=hsame j b h2
    exact ⟨j,bb,hb,he.trans hg⟩
   ·have hk:k<ns.length:=by rw [hnl];exact (List.getElem?_eq_some_iff.1 h2).1
    have hks:ns[k]?=some ns[k]:=by simp [hk]
    obtain ⟨b0,g1,g2⟩:=hnew k ns[k] b hks h2
    obtain ⟨l,hl⟩:=hH1.locOf g1
    exact ⟨l,by rw [h1,locNew k ns[k] hks];exact hl,.inr ⟨ns[k],b0,g1,g2,hl,.inr ⟨k,hks,h1⟩,fun hg=>by rw [hnb k b h2] at hg;cases hg⟩⟩
  have ngm:∀ {i sz es clk ho},i ∉ ids→H i=some (.maps sz es clk ho)→¬ g:=fun {i sz es clk ho} h1 h2 ⟨j,b,hj,hb⟩=>by
   obtain ⟨i',b1,k1,k2,k3⟩:=hlt hj
   cases k3 with
   | gh=>
    have:=hH.mp1 _ _ _ _ _ _ _ h2 k2 rfl
    subst this
    exact h1 (List.mem_of_getElem? k1)
   | _=>cases hb
  have inB:∀ {j:Nat} {b0:AB} {l:Loc},σ'.hp j=some b0→β1 j=some l→0<l.k→B' l.c:=fun h1 h2 h3=>(hH1.lt_of_own h1 h2 h3).2
  refine ⟨v,hv1,v,β',rfl,⟨hle',fun j hj=>?_,fun c o hc=>(hfz1 c o hc).imp id (hsub c)⟩,wkB _ _ _ hwk hv2,⟨hH1.fz,hH1.gb,fun i cs hi=>?_,fun i es clk hi=>?_,fun i j bi bj li lj hij hi hj ei ej pi pj=>?_,ys1B,fun i b l hi hl hk hc=>?_,fun i S G s hi=>?_,fun i j S G s S' G' s' hi hj=>?_,fun i sz es clk ho hi=>?_,fun i j sz es clk ho b hi hj hb=>?_⟩,hbel.weaken hsub⟩
  ·by_cases h:base≤j∧j<base+ns.length
   ·exact .inr ⟨h.1,by omega⟩
   ·left
    change (bif _ then _ else _)≠none at hj
    have:(decide (base≤j)&&decide (j<base+ns.length))=false:=by
     simp only [Bool.and_eq_false_iff,decide_eq_false_iff_not];omega
    rw [this] at hj;exact hj
  ·obtain ⟨l,hl,⟨h1,h2,h3⟩ | ⟨m,b0,h3,h4,h7,_,_⟩⟩:=loc' i _ hi
   ·obtain ⟨q1,q2⟩:=aLM (β1:=β') (w2:=w') (B':=B') hH h2 h3 (out i _ l h1 h2 h3) hkeep hfz1 hle'
    exact ⟨l,hl,q1,q2⟩
   ·cases h4 with
    | cells h4=>
     obtain ⟨l',g1,g2,g3⟩:=hH1.own m _ h3
     rw [h7] at g1;cases g1
     refine ⟨l,hl,h4.len ▸ g2,fun hk=>?_⟩
     obtain ⟨_,hu,full,t,p,q,rr⟩:=g3 hk
     exact ⟨hsub _ (inB h3 h7 hk),hu,full,t,p,q,aD9 wkB h4 rr⟩
    | part h4=>
     obtain ⟨l',g1,g2,g3⟩:=hH1.own m _ h3
     rw [h7] at g1;cases g1
     rw [List.length_append] at g2
     refine ⟨l,hl,by have:=h4.len;omega,fun hk=>?_⟩
     obtain ⟨_,hu,full,t,p,q,rr⟩:=g3 hk
     exact ⟨hsub _ (inB h3 h7 hk),hu,full,t,p,q,aD9 wkB h4 (aFk rr)⟩
  ·obtain ⟨l,hl,⟨h1,h2,h3⟩ | ⟨m,b0,h3,h4,h7,_,_⟩⟩:=loc' i _ hi
   ·obtain ⟨l',g1,g2,g3,ents,g4,mr⟩:=hH.map i es clk h2
    rw [h3] at g1;cases g1
    exact ⟨l,hl,g2,g3,ents,(hkeep _ (out i _ l h1 h2 h3 g2)).trans g4,mr.mono hle'⟩
   ·cases h4 with
    | map h4=>
     obtain ⟨l',g1,g2,g3,ents,g4,mr⟩:=hH1.map m _ clk h3
     rw [h7] at g1;cases g1
     exact ⟨l,hl,g2,hsub _ g3,ents,g4,aQJ wkB h4 mr⟩
  ·obtain ⟨l1,hl1,d1⟩:=loc' i bi hi
   obtain ⟨l2,hl2,d2⟩:=loc' j bj hj
   rw [hl1] at ei;cases ei
   rw [hl2] at ej;cases ej
   rcases d1 with ⟨h1,h2,h3⟩ | ⟨m,b0,h3,_,h7,h8,_⟩
   ·rcases d2 with ⟨k1,k2,k3⟩ | ⟨m',b0',k3,_,k7,k8,_⟩
    ·exact hH.sep i j bi bj _ _ hij h2 k2 h3 k3 pi pj
    ·exact fun e=>out i _ _ h1 h2 h3 pi (e ▸ inB k3 k7 pj)
   ·rcases d2 with ⟨k1,k2,k3⟩ | ⟨m',b0',k3,_,k7,k8,_⟩
    ·exact fun e=>out j _ _ k1 k2 k3 pj (e ▸ inB h3 h7 pi)
    ·exact hH1.sep m m' _ _ _ _ (fun e=>hij (name1 h8 (e ▸ k8))) h3 k3 h7 k7 pi pj
  ·obtain ⟨l1,hl1,d1⟩:=loc' i b hi
   rw [hl1] at hl;cases hl
   rcases d1 with ⟨h1,h2,h3⟩ | ⟨m,b0,h3,_,h7,h8,_⟩
   ·rcases hc with ⟨_,hc⟩ | ⟨_,hc⟩
    ·exact out i _ _ h1 h2 h3 hk (hH1.ys _ hc).1
    ·exact hH.yo i b _ h2 h3 hk hc
   ·rcases hc with ⟨_,hc⟩ | ⟨hg,hc⟩
    ·exact hH1.yo m _ _ h3 h7 hk hc
    ·exact ysB _ hg hc (inB h3 h7 hk)
  ·obtain ⟨l,hl,⟨h1,h2,h3⟩ | ⟨m,b0,h3,h4,h7,_,hg⟩⟩:=loc' i _ hi
   ·have hg:¬ g:=fun ⟨j,b,hj,hb⟩=>by
     obtain ⟨i',b1,k1,k2,k3⟩:=hlt hj
     cases k3 with
     | gh=>
      have:=hH.gh1 _ _ _ _ _ _ _ _ h2 k2
      subst this
      exact h1 (List.mem_of_getElem? k1)
     | _=>cases hb
    have e:ys1=β.ys:=by funext c;show ((g∧β1.ys c)∨(¬ g∧β.ys c))=β.ys c;simp [hg]
    obtain ⟨l',g1,g2,g3,g4,g5⟩:=hH.gh i S G s h2
    rw [h3] at g1;cases g1
    refine ⟨l,hl,g2,?_,fun c o v hc hv=>?_,fun c o v hv=>hsince.le.fz c o v (g5 c o v hv)⟩
    ·show G.J s ys1 l.c w'
     rw [e]
     exact G.stable _ _ _ _ _ g3 ⟨hbel.os,hbel.tape,hbel.output,hbel.size,hbel.drawn,fun c hc=>hkeep c (ysB c hg (Classical.not_not.1 hc))⟩ fun c o v hv=>hH1.fz c o v (hsince.le.fz c o v (g5 c o v hv))
    ·change ys1 c at hc
     rw [e] at hc
     refine g4 c o v hc ?_
     rcases hfz1 c o (by rw [show β1.fz c o=some v from hv];simp) with h | h
     ·cases hh:β.fz c o with
      | none=>exact absurd hh h
      | some u=>
       have:=hsince.le.fz c o u hh
       rw [show β1.fz c o=some v from hv] at this
       exact this.symm ▸ rfl
     ·exact absurd h (ysB c hg hc)
   ·cases h4 with
    | gh=>
     have hg:=hg rfl
     have e:ys1=β1.ys:=by funext c;show ((g∧β1.ys c)∨(¬ g∧β.ys c))=β1.ys c;simp [hg]
     obtain ⟨l',g1,g2,g3,g4,g5⟩:=hH1.gh m S G s h3
     rw [h7] at g1;cases g1
     refine ⟨l,hl,g2,by show G.J s ys1 l.c w';rw [e];exact g3,fun c o v hc hv=>g4 c o v (by change ys1 c at hc;rwa [e] at hc) hv,g5⟩
  ·obtain ⟨l1,hl1,d1⟩:=loc' i _ hi
   obtain ⟨l2,hl2,d2⟩:=loc' j _ hj
   have ng:∀ {i S} {G:Gh S} {s},i ∉ ids→H i=some (.gh S G s)→¬ g:=fun {i S G s} h1 h2 ⟨j,b,hj,hb⟩=>by
    obtain ⟨i',b1,k1,k2,k3⟩:=hlt hj
    cases k3 with
    | gh=>
     have:=hH.gh1 _ _ _ _ _ _ _ _ h2 k2
     subst this
     exact h1 (List.mem_of_getElem? k1)
    | _=>cases hb
   rcases d1 with ⟨h1,h2,h3⟩ | ⟨m,b0,h3,h4,h7,h8,h9⟩
   ·rcases d2 with ⟨k1,k2,k3⟩ | ⟨m',b0',k3,_,k7,k8,k9⟩
    ·exact hH.gh1 _ _ _ _ _ _ _ _ h2 k2
    ·exact absurd (k9 rfl) (ng h1 h2)
   ·rcases d2 with ⟨k1,k2,k3⟩ | ⟨m',b0',k3,k4,k7,k8,k9⟩
    ·exact absurd (h9 rfl) (ng k1 k2)
    ·cases h4;cases k4
     have:=hH1.gh1 _ _ _ _ _ _ _ _ h3 k3
     subst this
     exact name1 h8 k8
  ·obtain ⟨l,hl,⟨h1,h2,h3⟩ | ⟨m,b0,h3,h4,h7,_,hg⟩⟩:=loc' i _ hi
   ·have hg:=ngm h1 h2
    have e:ys1=β.ys:=by funext c;show ((g∧β1.ys c)∨(¬ g∧β.ys c))=β.ys c;simp [hg]
    obtain ⟨l',g1,g2,g3,ents,g4,mr,m2⟩:=hH.mps i sz es clk ho h2
    rw [h3] at g1;cases g1
    refine ⟨l,hl,g2,g3,ents,(hkeep _ (out i _ l h1 h2 h3 g2)).trans g4,mr.mono hle',?_⟩
    show aJ6 β1.fz ys1 sz w' _
    rw [e]
    refine m2.mono (fun _ h=>h) (fun c q hc hq=>?_) fun c hc=>hkeep c (ysB c hg hc)
    cases hh:β1.fz c q with
    | none=>rfl
    | some u=>
     rcases hfz1 c q (by simp [hh]) with e | e
     ·exact absurd hq e
     ·exact absurd e (ysB c hg hc)
   ·cases h4
  ·obtain ⟨l1,hl1,d1⟩:=loc' i _ hi
   obtain ⟨l2,hl2,d2⟩:=loc' j _ hj
   rcases d1 with ⟨h1,h2,h3⟩ | ⟨m,b0,h3,h4,h7,h8,h9⟩
   ·rcases d2 with ⟨k1,k2,k3⟩ | ⟨m',b0',k3,_,k7,k8,k9⟩
    ·exact hH.mp1 i j sz es clk ho b h2 k2 hb
    ·exact absurd (k9 hb) (ngm h1 h2)
   ·cases h4
 cases e' with
 | normal=>exact ⟨.inl rfl,fin q⟩
 | ret=>exact ⟨.inr rfl,fin q⟩
 | _=>exact q.elim
theorem aGl {T:Tbl} {pf:FuncId→Bool} (hT:TOk P T) (hpf:cP T pf) {f:FuncId} {fn:Func} {c:Code} {s:aAb} {N:Nat} {rs:Array ResultVar}
  (hf:P.funcs[f]?=some fn) (hb:fn.body=some c) (hN:fn.ntmps=N) (hrs:fn.results=rs) (hn:(fn.name == "runtime.NumGoroutine")=false)
  (h:∀ args H base r H',s args H base r H'→∃ (ids:List Nat) (args0:List AV) (bs bs' nb:List AB),args.length≤N∧ids.length≤32∧nb.length≤64∧ids.Nodup∧bs.length=ids.length∧bs'.length=ids.length∧aBb (WkA ids) args args0 ∧
   (∀ (j i:Nat) (b:AB),ids[j]?=some i→bs[j]?=some b→∃ b1,H i=some b1∧BkX (WkA ids) b1 b)∧(∀ (k:Nat) (b:AB),nb[k]?=some b→aAK b=true)∧(∀ j:Nat,(bs'[j]?).map aAK=(bs[j]?).map aAK) ∧
   (∀ (i:Nat) (b:AB),H' i=some b→(i ∉ ids∧H i=some b)∨(∃ j:Nat,ids[j]?=some i∧bs'[j]?=some b)∨∃ k,i=base+k∧nb[k]?=some b) ∧
   HT ⟨P,T,pf,true,false,hT,hpf⟩ N c ⟨aCs args0,ofB bs,64⟩ (aLC P rs ids base r bs' nb)):FOk P f s:=
 aHc hT hpf hf hb hN hrs hn fun args H base r H' e=>by
  obtain ⟨ids,args0,bs,bs',nb,h1,h2,h3,h4,h5,_,h7,h8,h9,h10,h11,h12⟩:=h args H base r H' e
  refine ⟨ids,args0,bs,bs',nb,h1,h2,h3,h4,h5,h7,h8,h9,fun j b hb=>?_,h11,h12⟩
  have:=h10 j
  rw [hb] at this
  cases hc:bs[j]? with
  | none=>rw [hc] at this;cases this
  | some bb=>rw [hc] at this;simp only [Option.map_some,Option.some.injEq] at this;exact ⟨bb,rfl,this.symm⟩
end Go.Eng
namespace Go.Eng
open Go
def flE {α:Type} (ce:α→List AV) (l:List α):List AV:=l.flatMap ce
theorem uJ {α:Type} {ce:α→List AV} {sz:Nat} (h:∀ x,(ce x).length=sz):∀ l:List α,(flE ce l).length=l.length * sz
 | []=>by simp [flE]
 | a::l=>by
  have:=uJ h l
  simp only [flE,List.flatMap_cons,List.length_append,List.length_cons,h] at this ⊢
  rw [this,Nat.add_mul];omega
theorem aD6 {α:Type} {ce:α→List AV} (l x:List α):flE ce (l++x)=flE ce l++flE ce x:=by simp [flE,List.flatMap_append]
theorem aDV {α:Type} {ce:α→List AV} {sz:Nat} (h:∀ x,(ce x).length=sz):∀ (l:List α) (j:Nat),(flE ce l).drop (j * sz)=flE ce (l.drop j)
 | [],j=>by simp [flE]
 | a::l,0=>by simp
 | a::l,j+1=>by
  have ih:=aDV h l j
  simp only [flE,List.flatMap_cons,List.drop_succ_cons] at ih ⊢
  rw [show (j+1) * sz=(ce a).length+j * sz by rw [h,Nat.add_mul];omega,List.drop_append,List.drop_of_length_le (by omega),List.nil_append,Nat.add_sub_cancel_left]
  exact ih
theorem aAN {α:Type} {ce:α→List AV} {sz:Nat} (h:∀ x,(ce x).length=sz) {l:List α} {j:Nat} {x:α} (hj:l[j]?=some x):((flE ce l).drop (j * sz)).take sz=ce x:=by
 rw [aDV h]
 obtain ⟨hlt,e⟩:=List.getElem?_eq_some_iff.1 hj
 rw [List.drop_eq_getElem_cons hlt,e]
 simp only [flE,List.flatMap_cons]
 rw [List.take_append_of_le_length (by rw [h];exact Nat.le_refl _),List.take_of_length_le (by rw [h];exact Nat.le_refl _)]
theorem aHj {α:Type} {ce:α→List AV} {sz:Nat} (h:∀ x,(ce x).length=sz):∀ (l:List α) (j:Nat),(flE ce l).take (j * sz)=flE ce (l.take j)
 | [],j=>by simp [flE]
 | a::l,0=>by simp [flE]
 | a::l,j+1=>by
  have ih:=aHj h l j
  simp only [flE,List.flatMap_cons,List.take_succ_cons] at ih ⊢
  rw [show (j+1) * sz=(ce a).length+j * sz by rw [h,Nat.add_mul];omega,List.take_append,List.take_of_length_le (by omega),Nat.add_sub_cancel_left,ih]
theorem aNt {α:Type} {ce:α→List AV} {sz:Nat} (h:∀ x,(ce x).length=sz) {l:List α} {j:Nat} (x:α) (hj:j<l.length):dZ (flE ce l) (j * sz) (ce x)=flE ce (l.set j x):=by
 unfold dZ
 rw [aHj h,h,show j * sz+sz=(j+1) * sz by rw [Nat.add_mul];omega,aDV h,List.set_eq_take_append_cons_drop,if_pos hj]
 simp [flE,List.flatMap_append]
theorem aGG {α:Type} {ce:α→List AV} {sz:Nat} (h:∀ x,(ce x).length=sz) {l:List α} {j q:Nat} {x:α} (hj:l[j]?=some x) (hq:q<sz):(flE ce l)[j * sz+q]?=(ce x)[q]?:=by
 have e:=congrArg (fun m=>m[q]?) (aAN h hj)
 simp only [List.getElem?_take,List.getElem?_drop,if_pos hq] at e
 exact e
abbrev ceE {α:Type} (enc:α→AV) (x:α):List AV:=lL (enc x)
section
variable {α:Type} {enc:α→AV} {d:α} {sz:Nat} {l:List α} {i:Int}
theorem aNQ (hi:0≤i∧i<(l.length:Int)):l[i.toNat]?=some (l.getD i.toNat d):=by
 have h:i.toNat<l.length:=by omega
 rw [List.getD_eq_getElem?_getD,List.getElem?_eq_getElem h];rfl
theorem aQH (hsz:∀ x,(ceE enc x).length=sz) (hi:0≤i∧i<(l.length:Int)):i.toNat * sz+sz≤(flE (ceE enc) l).length:=by
 rw [uJ hsz]
 have h:i.toNat+1≤l.length:=by omega
 have:=Nat.mul_le_mul_right sz h
 rw [Nat.add_mul] at this;omega
theorem aNE (hsz:∀ x,(ceE enc x).length=sz) (hi:0≤i∧i<(l.length:Int)) {k:List AV→Prop} (hk:jM (ceE enc (l.getD i.toNat d)) k) :
  0+i.toNat * sz+sz≤(flE (ceE enc) l).length∧jM (((flE (ceE enc) l).drop (0+i.toNat * sz)).take sz) k:=by
 rw [Nat.zero_add]
 refine ⟨aQH hsz hi,?_⟩
 rw [aAN hsz (aNQ (d:=d) hi)];exact hk
theorem aP3 {q:Nat} {a:AV} (hsz:∀ x,(ceE enc x).length=sz) (hi:0≤i∧i<(l.length:Int)) (hq:q<sz) {k:AV→Prop} (ha:(ceE enc (l.getD i.toNat d))[q]?=some a) (hk:uT a k) :
  aIB (flE (ceE enc) l) (0+i.toNat * sz+q) k:=by
 refine gKo ?_ hk
 rw [Nat.zero_add,aGG hsz (aNQ (d:=d) hi) hq];exact ha
theorem aRt {n:Nat} (hn:l.length=n) (hi:0≤i∧i<(n:Int)):0≤i∧i<(l.length:Int):=by rw [hn];exact hi
theorem aHB {n:Nat} (hsz:∀ x,(ceE enc x).length=sz) (hn:l.length=n) (hi:0≤i∧i<(n:Int)) {k:List AV→Prop} (hk:jM (ceE enc (l.getD i.toNat d)) k) :
  0+i.toNat * sz+sz≤(flE (ceE enc) l).length∧jM (((flE (ceE enc) l).drop (0+i.toNat * sz)).take sz) k:=aNE hsz (aRt hn hi) hk
theorem sF {n q:Nat} {a:AV} (hsz:∀ x,(ceE enc x).length=sz) (hn:l.length=n) (hi:0≤i∧i<(n:Int)) (hq:q<sz) {k:AV→Prop} (ha:(ceE enc (l.getD i.toNat d))[q]?=some a) (hk:uT a k) :
  aIB (flE (ceE enc) l) (0+i.toNat * sz+q) k:=aP3 hsz (aRt hn hi) hq ha hk
theorem aOQ {n q m:Nat} {x:α} {xs:List AV} (hsz:∀ x,(ceE enc x).length=sz) (hn:l.length=n) (hi:0≤i∧i<(n:Int)) (hm:xs.length=m) (hq:q+m≤sz) (hx:dZ (ceE enc (l.getD i.toNat d)) q xs=ceE enc x) (hf:xs.all AV.flat=true) {k:List AV→Prop}
  (hk:k (flE (ceE enc) (l.set i.toNat x))) :
  xs.length=m∧0+i.toNat * sz+q+m≤(flE (ceE enc) l).length∧xs.all AV.flat=true∧jM (dZ (flE (ceE enc) l) (0+i.toNat * sz+q) xs) k:=by
 have hi':=aRt hn hi
 have hlt:i.toNat<l.length:=by omega
 have hle:=aQH (enc:=enc) hsz hi'
 refine ⟨hm,by omega,hf,?_⟩
 rw [eY]
 have e:dZ (flE (ceE enc) l) (0+i.toNat * sz+q) xs=flE (ceE enc) (l.set i.toNat x):=by
  rw [← aNt hsz x hlt,← hx]
  have hp:=aAN hsz (aNQ (d:=d) hi')
  have hlen:((flE (ceE enc) l).drop (i.toNat * sz)).length=(flE (ceE enc) l).length-i.toNat * sz:=List.length_drop
  refine List.ext_getElem? fun j=>?_
  have hcl:=hsz (l.getD i.toNat d)
  have hsl:(dZ (ceE enc (l.getD i.toNat d)) q xs).length=sz:=by unfold dZ;rw [List.length_append,List.length_append,List.length_take,List.length_drop];omega
  rw [wK (by omega),wK (by rw [hsl];omega),hsl]
  by_cases h1:i.toNat * sz≤j∧j<i.toNat * sz+sz
  ·rw [if_pos h1,wK (by omega)]
   by_cases h2:0+i.toNat * sz+q≤j∧j<0+i.toNat * sz+q+xs.length
   ·rw [if_pos h2,if_pos (by omega)];congr 1;omega
   ·rw [if_neg h2,if_neg (by omega),← hp,List.getElem?_take,if_pos (by omega),List.getElem?_drop];congr 1;omega
  ·rw [if_neg h1,if_neg (by omega)]
 rw [e];exact hk
end
theorem cF {sz n:Nat} {f:Nat→AV} (h:∀ j,(f j).loose):(AV.lst .cap sz n f).loose:=fun β loc' ys' v hv=>by
 simp only [V] at hv ⊢
 obtain ⟨b,cap,e,h1,h2,h3⟩:=hv
 exact ⟨b,cap,e,h1,h2,fun j hj=>let ⟨c,o,u,k1,k2,k3,k4⟩:=h3 j hj;⟨c,o,u,k1,k2,k3,h j _ _ _ _ k4⟩⟩
theorem aES {L:Ren}:∀ {as:List AV},(∀ a∈as,a.loose)→CkR L as as
 | [],_=>cKn
 | a::as,h=>⟨WkR.wk (Wk.refl _) (h a (by simp)),aES fun b hb=>h b (by simp [hb])⟩
theorem qN {α:Type} {ce:α→List AV} (h:∀ x,∀ a∈ce x,a.loose) (l:List α):∀ a∈flE ce l,a.loose:=fun a ha=>by
 simp only [flE,List.mem_flatMap] at ha
 obtain ⟨x,_,hx⟩:=ha
 exact h x a hx
end Go.Eng
namespace Go.Eng
open Go Go.ChangeShapes Go.WideShapes Go.RowKit
def aKQ (w:World):cN:=⟨fun _=>none,fun c o=>w.cell? ⟨c,o,none⟩,fun _=>False⟩
def Opn (P:Program) (t:TypeId) {α:Type} (enc:α→AV) (ok:α→Prop):Prop:=
 ∀ {H:Type} (eh:TypeId×Value→H) (w:World) (fuel:Nat) (cs:List Value) (x:DataW H×List MemPlace),DataW.trod eh P w 0 (fun _=>true) true fuel t cs=some x→∃ a:α,ok a∧Vs (aKQ w) (lL (enc a)) cs
def aMG (P:Program) (t:TypeId) {α:Type} (enc:α→AV):Prop:=
 (aGb P t=some true∧∀ a,enc a=.agg (lL (enc a)))∨(aGb P t=some false∧∀ a,lL (enc a)=[enc a]∧(enc a).flat=true)
def OpV (P:Program) (t:TypeId) {α:Type} (enc:α→AV) (ok:α→Prop):Prop:=
 ∀ {H:Type} (eh:TypeId×Value→H) (w:World) (r:Reach) (b:Nat) (v:Value) (d:DataW H) (ps:List MemPlace),Value.okWide P w r b t v→DataW.Trod eh P w 0 (fun _=>true) true t v d ps→∃ a:α,ok a∧V (aKQ w) (enc a) v
def okI (n:Int):Prop := -9223372036854775808≤n∧n≤9223372036854775807
def okL {α:Type} (ok:α→Prop) (l:List α):Prop:=(∀ a∈l,ok a)∧l.length≤9223372036854775807
theorem aQD {P:Program} {t:TypeId} (h:P.underlying t=some (.int .i64)):Opn P t eI okI:=fun eh w fuel cs x hx=>by
 obtain ⟨n,rfl,_,hw⟩:=DataW.trod_int h hx
 refine ⟨n,?_,by simp [lL,AV.cells,eI,Vs,V]⟩
 simp only [Lit.wf,Bool.and_eq_true,decide_eq_true_eq] at hw
 unfold okI
 have h1:IntKind.i64.min = -9223372036854775808:=by decide
 have h2:IntKind.i64.max=9223372036854775807:=by decide
 rw [h1,h2] at hw;exact hw
theorem aFI {P:Program} {t:TypeId} {α:Type} {enc:α→AV} {ok:α→Prop} (h:Opn P t enc ok) (h1:aMG P t enc) (h2:aGb P t=some false→∀ (w:World) (r:Reach) (b:Nat) (v:Value),Value.okWide P w r b t v→v.cells=#[v]):OpV P t enc ok:=fun eh w r b v d ps hv hd=>by
 obtain ⟨fuel,hx⟩:=hd
 obtain ⟨a,ha,hs⟩:=h eh w fuel _ _ hx
 refine ⟨a,ha,?_⟩
 rcases h1 with ⟨ht,he⟩ | ⟨ht,he⟩
 ·have hagg:∃ cs,v=.agg cs:=by
   unfold aGb at ht
   unfold Value.okWide at hv
   cases hu:P.underlying t with
   | none=>rw [hu] at ht;cases ht
   | some u=>
    rw [hu] at ht hv
    cases u with
    | struct fs=>obtain ⟨cs,rfl,_⟩:=hv;exact ⟨cs,rfl⟩
    | array n e=>obtain ⟨cs,rfl,_⟩:=hv;exact ⟨cs,rfl⟩
    | _=>cases ht
  obtain ⟨cs,rfl⟩:=hagg
  rw [he]
  simp only [V]
  exact ⟨cs.toList,by simp,by simpa [Value.cells] using hs⟩
 ·rw [(he a).1,h2 ht w r b v hv] at hs
  simp only [Vs] at hs
  obtain ⟨v',vs',e,hV,rfl⟩:=hs
  simp at e;subst e;exact hV
theorem aN2 {P:Program} {t:TypeId} (h:P.underlying t=some (.int .i64)) (w:World) (r:Reach) (b:Nat) (v:Value) (hv:Value.okWide P w r b t v):v.cells=#[v]:=by
 obtain ⟨n,rfl⟩:=okWide_int h hv;rfl
theorem aF3 {P:Program} {t e:TypeId} (h:P.underlying t=some (.slice e)) (w:World) (r:Reach) (b:Nat) (v:Value) (hv:Value.okWide P w r b t v):v.cells=#[v]:=by
 simp only [Value.okWide,h,Cell.okWide,Cell.ok] at hv
 cases v<;>simp_all [Value.cells]
def aP6 (P:Program) (o:Nat) (fs:List (TypeId×Nat)) {α:Type} (encs:α→List AV) (ok:α→Prop):Prop:=
 ∀ {H:Type} (eh:TypeId×Value→H) (w:World) (fuel:Nat) (cs:List Value) (xs:List (DataW H×List MemPlace)),
  (fs.mapM fun f=>DataW.trod eh P w 0 (fun _=>true) true fuel f.1 ((cs.drop f.2).take (P.cellsOf f.1)))=some xs→cs.length=o+(fs.map fun f=>P.cellsOf f.1).sum→∃ a:α,ok a∧Vs (aKQ w) (encs a) (cs.drop o)
theorem aDW {P:Program} {o:Nat}:aP6 P o [] (fun _:Unit=>[]) (fun _=>True):=fun eh w fuel cs xs _ hl=>by
 simp at hl
 exact ⟨(),trivial,by rw [List.drop_eq_nil_of_le (by omega)];simp [Vs]⟩
theorem sU {P:Program} {o o' sz:Nat} {t:TypeId} {fs:List (TypeId×Nat)} {α β:Type} {enc:α→AV} {ok:α→Prop} {encs:β→List AV} {oks:β→Prop} (h:Opn P t enc ok) (hsz:P.cellsOf t=sz) (ho:o'=o+sz) (k:aP6 P o' fs encs oks) :
  aP6 P o ((t,o)::fs) (fun p:α×β=>lL (enc p.1)++encs p.2) (fun p=>ok p.1∧oks p.2):=fun eh w fuel cs xs hx hl=>by
 subst ho hsz
 simp only [List.mapM_cons,List.map_cons,List.sum_cons] at hx hl
 cases h1:DataW.trod eh P w 0 (fun _=>true) true fuel t ((cs.drop o).take (P.cellsOf t)) with
 | none=>rw [h1] at hx;simp at hx
 | some y=>
  rw [h1] at hx
  cases h2:(fs.mapM fun f=>DataW.trod eh P w 0 (fun _=>true) true fuel f.1 ((cs.drop f.2).take (P.cellsOf f.1))) with
  | none=>rw [h2] at hx;simp at hx
  | some ys=>
   obtain ⟨a,ha,hva⟩:=h eh w fuel _ _ h1
   obtain ⟨b,hb,hvb⟩:=k eh w fuel cs ys h2 (by omega)
   refine ⟨(a,b),⟨ha,hb⟩,?_⟩
   have:=qT hva hvb
   rw [show cs.drop (o+P.cellsOf t)=(cs.drop o).drop (P.cellsOf t) by rw [List.drop_drop],List.take_append_drop] at this
   exact this
theorem aJh {P:Program} {t:TypeId} {F:Array Field} {fs:List (TypeId×Nat)} {α β:Type} {encs:β→List AV} {oks:β→Prop} {enc:α→AV} {ok:α→Prop} (ht:P.underlying t=some (.struct F)) (hF:F.toList.map (fun f=>(f.type,f.offset))=fs)
  (hn:P.cellsOf t=(fs.map fun f=>P.cellsOf f.1).sum) (k:aP6 P 0 fs encs oks) (g:β→α) (he:∀ p,lL (enc (g p))=encs p) (hk:∀ p,oks p→ok (g p)):Opn P t enc ok:=fun eh w fuel cs x hx=>by
 cases fuel with
 | zero=>simp [DataW.trod] at hx
 | succ n=>
  subst hF
  have key:cs.length=P.cellsOf t∧∃ xs,(F.toList.mapM fun f=>DataW.trod eh P w 0 (fun _=>true) true n f.type ((cs.drop f.offset).take (P.cellsOf f.type)))=some xs:=by
   unfold DataW.trod at hx
   rw [ht] at hx
   simp only at hx
   split at hx
   ·rename_i hl
    refine ⟨hl,?_⟩
    cases hm:(F.toList.mapM fun f=>DataW.trod eh P w 0 (fun _=>true) true n f.type ((cs.drop f.offset).take (P.cellsOf f.type))) with
    | none=>rw [hm] at hx;simp at hx
    | some xs=>exact ⟨xs,rfl⟩
   ·cases hx
  obtain ⟨hl,xs,hm⟩:=key
  obtain ⟨p,hp,hv⟩:=k eh w n cs xs (by rw [List.mapM_map];exact hm) (by rw [hl,hn];omega)
  exact ⟨g p,hk p hp,by rw [he];exact hv⟩
theorem aG8 {P:Program} {t e:TypeId} {n:Nat} {fs:List (TypeId×Nat)} {α β:Type} {encs:β→List AV} {oks:β→Prop} {enc:α→AV} {ok:α→Prop} (ht:P.underlying t=some (.array n e)) (hF:(List.range n).map (fun i=>(e,i * P.cellsOf e))=fs)
  (hn:P.cellsOf t=(fs.map fun f=>P.cellsOf f.1).sum) (k:aP6 P 0 fs encs oks) (g:β→α) (he:∀ p,lL (enc (g p))=encs p) (hk:∀ p,oks p→ok (g p)):Opn P t enc ok:=fun eh w fuel cs x hx=>by
 cases fuel with
 | zero=>simp [DataW.trod] at hx
 | succ m=>
  subst hF
  have key:cs.length=P.cellsOf t∧∃ xs,((List.range n).mapM fun i=>DataW.trod eh P w 0 (fun _=>true) true m e ((cs.drop (i * P.cellsOf e)).take (P.cellsOf e)))=some xs:=by
   unfold DataW.trod at hx
   rw [ht] at hx
   simp only at hx
   split at hx
   ·rename_i hl
    refine ⟨hl,?_⟩
    cases hm:((List.range n).mapM fun i=>DataW.trod eh P w 0 (fun _=>true) true m e ((cs.drop (i * P.cellsOf e)).take (P.cellsOf e))) with
    | none=>rw [hm] at hx;simp at hx
    | some xs=>exact ⟨xs,rfl⟩
   ·cases hx
  obtain ⟨hl,xs,hm⟩:=key
  obtain ⟨p,hp,hv⟩:=k eh w m cs xs (by rw [List.mapM_map];exact hm) (by rw [hl,hn];omega)
  exact ⟨g p,hk p hp,by rw [he];exact hv⟩
theorem aEh {α β:Type} {f:α→Option β}:∀ {l:List α} {ys:List β},l.mapM f=some ys→ys.length=l.length∧∀ (j:Nat) (a:α),l[j]?=some a→∃ y,f a=some y
 | [],ys,h=>by simp at h;subst h;exact ⟨rfl,fun j a ha=>by simp at ha⟩
 | x::l,ys,h=>by
  simp only [List.mapM_cons] at h
  cases h1:f x with
  | none=>rw [h1] at h;simp at h
  | some y=>
   cases h2:l.mapM f with
   | none=>rw [h1,h2] at h;simp at h
   | some zs=>
    rw [h1,h2] at h;simp at h;subst h
    obtain ⟨e1,e2⟩:=aEh h2
    refine ⟨by simp [e1],fun j a ha=>?_⟩
    cases j with
    | zero=>simp at ha;subst ha;exact ⟨y,h1⟩
    | succ j=>exact e2 j a (by simpa using ha)
theorem aJ9 {α β:Type} {f:α→Option β}:∀ {l:List α} {ys:List β},l.mapM f=some ys→∀ (j:Nat) (a:α),l[j]?=some a→∃ y,f a=some y∧ys[j]?=some y
 | [],ys,h=>fun j a ha=>by simp at ha
 | x::l,ys,h=>by
  simp only [List.mapM_cons] at h
  cases h1:f x with
  | none=>rw [h1] at h;simp at h
  | some y=>
   cases h2:l.mapM f with
   | none=>rw [h1,h2] at h;simp at h
   | some zs=>
    rw [h1,h2] at h;simp at h;subst h
    intro j a ha
    cases j with
    | zero=>simp at ha;subst ha;exact ⟨y,h1,by simp⟩
    | succ j=>
     obtain ⟨y',e1,e2⟩:=aJ9 h2 j a (by simpa using ha)
     exact ⟨y',e1,by simpa using e2⟩
theorem aE8 {α:Type} [Inhabited α] {p:Nat→α→Prop}:∀ n:Nat,(∀ j,j<n→∃ a,p j a)→∃ l:List α,l.length=n∧∀ j,j<n→p j (l.getD j default)
 | 0,_=>⟨[],rfl,fun j hj=>by omega⟩
 | n+1,h=>by
  obtain ⟨l,hl,hp⟩:=aE8 n fun j hj=>h j (by omega)
  obtain ⟨a,ha⟩:=h n (by omega)
  refine ⟨l++[a],by simp [hl],fun j hj=>?_⟩
  by_cases e:j<n
  ·have:=hp j e
   simp only [List.getD_eq_getElem?_getD,List.getElem?_append_left (show j<l.length by omega)] at this ⊢
   exact this
  ·have:j=n:=by omega
   subst this
   simp only [List.getD_eq_getElem?_getD,List.getElem?_append_right (Nat.le_of_eq hl),hl,Nat.sub_self]
   exact ha
theorem aHJ {P:Program} {t e:TypeId} {sz:Nat} {α:Type} [Inhabited α] {enc:α→AV} {ok:α→Prop} (ht:P.underlying t=some (.slice e)) (hsz:P.cellsOf e=sz) (hpos:0<sz) (h:Opn P e enc ok) (h1:aMG P e enc):Opn P t (eL sz enc default) (okL ok):=fun eh w fuel cs x hx=>by
 cases fuel with
 | zero=>simp [DataW.trod] at hx
 | succ n=>
  unfold DataW.trod at hx
  rw [ht] at hx
  simp only at hx
  split at hx
  all_goals try (cases hx;done)
  all_goals try (rename_i e' ; cases e';done)
  ·exact ⟨[],⟨fun a ha=>by simp at ha,by simp⟩,by simp only [lL,AV.cells,eL,Vs,V,List.length_nil];exact ⟨_,_,rfl,⟨none,0,rfl,Nat.le_refl _,trivial,fun j hj=>by omega⟩,rfl⟩⟩
  ·rename_i e' a len cap heq
   cases heq
   subst hsz
   split at hx
   ·rename_i hc
    cases hm:(List.range len).mapM fun i=>(w.cells? 0 (a.add (i * P.cellsOf e)) (P.cellsOf e)).bind (DataW.trod eh P w 0 (fun _=>true) true n e) with
    | none=>rw [hm] at hx;simp at hx
    | some ys=>
     have key:∀ j,j<len→∃ y:α,ok y∧∃ us:List Value,us.length=P.cellsOf e∧(∀ (q:Nat) (v:Value),us[q]?=some v→w.cell? ((a.add (j * P.cellsOf e)).add q)=some v)∧Vs (aKQ w) (lL (enc y)) us:=fun j hj=>by
      obtain ⟨_,e2⟩:=aEh hm
      obtain ⟨y,hy⟩:=e2 j j (by simp [hj])
      cases hcs:w.cells? 0 (a.add (j * P.cellsOf e)) (P.cellsOf e) with
      | none=>rw [hcs] at hy;simp at hy
      | some us=>
       rw [hcs] at hy
       simp only [Option.bind_some] at hy
       obtain ⟨b,hb,hv⟩:=h eh w n us _ hy
       unfold World.cells? at hcs
       rw [if_pos (Nat.zero_le _)] at hcs
       have hl:=(aEh hcs).1
       refine ⟨b,hb,us,by simpa using hl,fun q v hq=>?_,hv⟩
       have hq2:q<P.cellsOf e:=by
        have:=(List.getElem?_eq_some_iff.1 hq).1
        rw [hl] at this;simpa using this
       obtain ⟨v',g1,g2⟩:=aJ9 hcs q q (by simp [hq2])
       rw [hq] at g2;cases g2;exact g1
     obtain ⟨l,hl,hp⟩:=aE8 (p:=fun j y=>ok y∧∃ us:List Value,us.length=P.cellsOf e∧(∀ (q:Nat) (v:Value),us[q]?=some v→w.cell? ((a.add (j * P.cellsOf e)).add q)=some v)∧Vs (aKQ w) (lL (enc y)) us) len key
     refine ⟨l,⟨fun b hb=>?_,?_⟩,?_⟩
     ·obtain ⟨j,hj,rfl⟩:=List.getElem_of_mem hb
      have:=(hp j (by omega)).1
      rw [List.getD_eq_getElem?_getD,List.getElem?_eq_getElem hj] at this
      exact this
     ·have:cap≤maxLen:=hc.2.2
      have:=hc.2.1
      unfold maxLen at *
      omega
     ·simp only [lL,AV.cells,eL,Vs,V]
      refine ⟨_,_,rfl,⟨some a,cap,by rw [hl],by rw [hl];exact hc.2.1,trivial,fun j hj=>?_⟩,rfl⟩
      rw [hl] at hj
      obtain ⟨_,us,hul,hcell,hv⟩:=hp j hj
      have hsp:a.spot=none:=by
       obtain ⟨_,us0,hul0,hcell0,_⟩:=hp 0 (by omega)
       have h0:∃ v,us0[0]?=some v:=⟨us0[0]'(by omega),List.getElem?_eq_getElem (by omega)⟩
       obtain ⟨v,hv0⟩:=h0
       have:=hcell0 0 v hv0
       rw [Nat.zero_mul] at this
       unfold World.cell? at this
       split at this
       ·split at this
        ·cases this
        ·rename_i hs
         cases hsa:a.spot with
         | none=>rfl
         | some s=>exact absurd (by simp [Addr.add,hsa]) hs
       ·cases this
      obtain ⟨ab,ao,asp⟩:=a
      simp only at hsp;subst hsp
      rcases h1 with ⟨_,he⟩ | ⟨_,he⟩
      ·refine ⟨ab,ao,.agg us.toArray,rfl,by simp [Value.cells,hul],fun q v hq=>?_,by rw [he];simp only [V];exact ⟨us,rfl,hv⟩⟩
       have:=hcell q v (by simpa [Value.cells] using hq)
       rw [gC,gC] at this;exact this
      ·rw [(he _).1] at hv
       simp only [Vs] at hv
       obtain ⟨u,us',rfl,hV,rfl⟩:=hv
       have hu:u.cells=#[u]:=by
        have hone:=(he (l.getD j default)).2
        generalize enc (l.getD j default)=r at hone hV
        cases r<;>simp only [AV.flat,Bool.false_eq_true] at hone
        all_goals simp only [V] at hV
        case int=>subst hV;rfl
        case bool=>subst hV;rfl
        case str=>subst hV;rfl
        case nilp=>subst hV;rfl
        case ptr=>obtain ⟨_,_,rfl⟩:=hV;rfl
        case ep=>obtain ⟨_,_,_,rfl,_⟩:=hV;rfl
        case nils=>subst hV;rfl
        case sl=>obtain ⟨_,_,⟨_,_,_,rfl⟩ | ⟨_,_,rfl⟩⟩:=hV<;>rfl
        case so=>obtain ⟨_,_,⟨_,_,rfl⟩ | ⟨_,_,_,rfl⟩⟩:=hV<;>rfl
        case lst=>obtain ⟨_,_,rfl,_⟩:=hV;rfl
        case nilm=>subst hV;rfl
        case mp=>obtain ⟨_,_,rfl⟩:=hV;rfl
        case yld=>obtain ⟨_,_,rfl⟩:=hV;rfl
        case nilf=>subst hV;rfl
        case fn=>obtain ⟨_,_,rfl,_⟩:=hV;rfl
       refine ⟨ab,ao,u,rfl,by rw [hu];simpa using hul,fun q v hq=>?_,hV⟩
       rw [hu] at hq
       have:=hcell q v (by simpa using hq)
       rw [gC,gC] at this;exact this
   ·cases hx
theorem aMe (w:World) (hg:GB (aKQ w).fz):cL (aKQ w) (fun _=>none) w (fun c=>w.heap.size≤c) where
 fz c o v h:=h
 gb:=hg
 own i cs h:=by cases h
 map i es clk h:=by cases h
 sep i j bi bj li lj _ hi:=by cases hi
 ys c h:=h.elim
 yo i b l h:=by cases h
 gh i S G s h:=by cases h
 gh1 i j S G s S' G' s' h:=by cases h
 mps i sz es clk ho h:=by cases h
 mp1 i j sz es clk ho b h:=by cases h
theorem aND {P:Program} {f:FuncId} {S:List AV→AV→Prop} (h:FOk P f (aH S)) {args:List AV} {r:AV} (hs:S args r) (hl:r.loose) (W:World) (hg:GB (aKQ W).fz) (av:List Value) (hv:Vs (aKQ W) args av) :
  Calls P f av.toArray W fun e W'=>∃ v β,e=.returned v∧V β r v∧Below W.heap.size W W':=
 (h.2 args (fun _=>none) 0 r (fun _=>none) ⟨hs,hl,rfl⟩ (fun c=>W.heap.size≤c) W (aKQ W) av (fun _j hj=>absurd rfl hj) (aMe W hg) (fun _c hc=>hc) hv).mono fun _e _W' ⟨v,β,e1,_,e3,_,e5⟩=>⟨v,β,e1,e3,e5.to⟩
theorem xY {H:Type} {eh:TypeId×Value→H} {P:Program} (hl:laidOutB P=true) {W W':World} (hb:Below W.heap.size W W') {sp:Nat→Bool}:∀ {ts:List TypeId} {vs:List Value} {ds:List (DataW H)} {ps:List MemPlace},
  (∀ t∈ts,P.readableRec t=true∧t<P.types.size)→DataW.TrodAll eh P W 0 (fun _=>true) true ts vs ds ps→(∀ x∈ps,x.block<W.heap.size)→(∀ x∈ps,sp x.block=true)→DataW.TrodAll eh P W' 0 sp true ts vs ds ps
 | [],[],[],ps,_,h,_,_=>h
 | t::ts,v::vs,d::ds,ps,hr,⟨p,q,h1,h2,e⟩,hlt,hsp=>by
  subst e
  exact ⟨p,q,WideElems.Trod_stays hl (hr t (by simp)).1 (hr t (by simp)).2 h1 (fun x hx=>hb.same (hlt x (by simp [hx]))) (fun x hx=>hsp x (by simp [hx])),
   xY hl hb (fun t' ht'=>hr t' (by simp [ht'])) h2 (fun x hx=>hlt x (by simp [hx])) (fun x hx=>hsp x (by simp [hx])),rfl⟩
 | [],[],_::_,_,_,h,_,_=>h.elim
 | [],_::_,_,_,_,h,_,_=>by cases h
 | _::_,[],_,_,_,h,_,_=>h.elim
 | _::_,_::_,[],_,_,h,_,_=>h.elim
theorem aLW {H:Type} {eh:TypeId×Value→H} {P:Program} (hl:laidOutB P=true) {f:Func} {s:ChangeSpec} {apart fresh handsOn again:Bool} {W W':World} {args:Array Value} {v:Value} {ds:List (DataW H)} {before:List MemPlace}
  (hW:DataW.Whole eh P f.params.toList s.vars apart W args.toList ds [] before) (hvar:s.vars=[]) (hr:∀ t∈f.params.toList,P.readableRec t=true∧t<P.types.size) (hbel:Below W.heap.size W W')
  (hres:∀ (b:Nat) (sp:Nat→Bool) (hd:Bool),DataW.TrodAll eh P W' b sp hd f.resultTypes.toList (v.resultList f.resultTypes.size) (s.fn H ds).results []) (hargs:(s.fn H ds).args=ds) (hvars:(s.fn H ds).vars=[])
  (hok:∀ (j:Nat) (t:TypeId) (r:Value),f.resultTypes[j]?=some t→(v.resultList f.resultTypes.size)[j]?=some r→Value.okWide P W' .any 0 t r) :
  s.post eh P f apart fresh handsOn again W args v W':=by
 have hlt:=hW.lt
 obtain ⟨p,q,hA,hV,hpq,hz,hn⟩:=id hW
 rw [hvar] at hV
 obtain ⟨_,rfl⟩:=trodVars_none hV
 rw [List.append_nil] at hpq
 subst hpq
 have hst:∀ sp:Nat→Bool,(∀ x∈before,sp x.block=true)→DataW.TrodAll eh P W' 0 sp true f.params.toList args.toList (s.fn H (ds++[])).args before:=fun sp hsp=>by
  rw [List.append_nil,hargs];exact xY hl hbel hr hA hlt hsp
 have hvv:∀ sp:Nat→Bool,DataW.TrodVars eh P W' sp s.vars (s.fn H (ds++[])).vars []:=fun sp=>by
  rw [List.append_nil,hvars,hvar];rfl
 have hrr:∀ (b:Nat) (sp:Nat→Bool) (hd:Bool),DataW.TrodAll eh P W' b sp hd f.resultTypes.toList (v.resultList f.resultTypes.size) (s.fn H (ds++[])).results []:=fun b sp hd=>by
  rw [List.append_nil];exact hres b sp hd
 refine ⟨ds,[],before,[],before,[],hW,hrr _ _ _,hst _ fun x hx=>by simpa using hlt x hx,hvv _,hbel.frame _,fun _=>?_⟩
 refine ⟨hok,_,_,([]++before)++[],⟨[]++before,[],trodAll_append (hst _ fun _ _=>rfl) (hrr _ _ _),hvv _,rfl,?_,?_⟩,?_⟩
 ·intro b off hp
  have hp':MemPlace.cell b off∈before:=by simpa using hp
  rw [hbel.frozen (p:=⟨b,off,none⟩) (hlt _ hp')]
  exact hz b off hp'
 ·intro ha;simpa using hn ha
 ·intro x hx _;simpa using hx
theorem aMW (pf:FuncId→Bool):cP T0 pf:=fun _f _ _args _H _base _r _H' h=>h.elim
theorem bG {T:Tbl} {pf:FuncId→Bool} {f:FuncId} {s:aAb} (h:cP T pf) (k:pf f=true→∃ S,s=aH S):cP (ext T f s) pf:=fun g hg args H base r H' e=>by
 by_cases hgf:g=f
 ·subst hgf
  obtain ⟨S,rfl⟩:=k hg
  rw [aAV] at e
  refine ⟨e.2.2,e.2.1,fun base' H1=>?_⟩
  rw [aAV];exact ⟨e.1,e.2.1,rfl⟩
 ·rw [yW _ _ hgf] at e
  obtain ⟨a,b,c⟩:=h g hg args H base r H' e
  refine ⟨a,b,fun base' H1=>?_⟩
  rw [yW _ _ hgf];exact c base' H1
end Go.Eng
namespace Go.Eng
open Go
theorem aLN {E:Env} {N:Nat} {c:Code} {σ:AS} {Q:Exit→AS→Prop} (i:Nat) {cs:List AV} (hi:σ.hp i=some (.cells cs)) (sl':Nat→AV)
  (hg:∀ (β β':cN) (l:Loc) (vs:List Value),cN.le β β'→β i=some l→Vs β' cs vs→laid β'.fz l.c l.o vs→∀ (t:Nat) (v:Value),V β (σ.sl t) v→V β' (sl' t) v)
  (h:HT E N c ⟨sl',upd σ.hp i none,σ.b+64⟩ Q):HT E N c σ Q:=fun ro F a w hro hF hr=>by
 obtain ⟨β,ds,h0,h1,h2,h3,h4⟩:=hr
 obtain ⟨l,hl,hlen,hblk⟩:=h2.own i cs hi
 have hgn:β σ.b=none:=by
  cases e:β σ.b with
  | none=>rfl
  | some x=>exact absurd (h3 σ.b (by rw [e];simp)) (Nat.lt_irrefl _)
 obtain ⟨β',f1,f2,f3,f4,f5,f6⟩:=h2.freezeRaw (m:=cs.length) hi hl hgn hlen
 obtain ⟨vs,hvs,hcell⟩:∃ vs:List Value,Vs β cs vs∧∀ (j:Nat) (v:Value),vs[j]?=some v→w.cell? ⟨l.c,l.o+j,none⟩=some v:=by
  have key:∀ (j:Nat) (a:AV),cs[j]?=some a→∃ v,w.cell? ⟨l.c,l.o+j,none⟩=some v∧V β a v:=fun j a ha=>h2.cell hi hl ha
  refine ⟨(List.range cs.length).map fun j=>(w.cell? ⟨l.c,l.o+j,none⟩).getD undef,sP (by simp) fun j a ha=>?_,fun j v hv=>?_⟩
  ·obtain ⟨v,x,y⟩:=key j a ha
   have hj:j<cs.length:=(List.getElem?_eq_some_iff.1 ha).1
   exact ⟨v,by simp [hj,x],y⟩
  ·have hj:j<cs.length:=by
    have:=(List.getElem?_eq_some_iff.1 hv).1;simpa using this
   obtain ⟨v',x,y⟩:=key j cs[j] (List.getElem?_eq_some_iff.2 ⟨hj,rfl⟩)
   simp [hj,x] at hv;rw [x,hv]
 refine h ro F a w hro hF ⟨β',ds,⟨cN.le.trans h0.le f1,fun j hj=>?_,Nat.le_trans h0.b (Nat.le_add_right _ _),fun c o hc=>?_⟩,fun t=>?_,?_,fun j hj=>?_,h4⟩
 ·rcases f2 j hj with e | e
  ·exact h0.dom j e
  ·exact .inr (e ▸ h0.b)
 ·rcases f6 c o hc with e | e
  ·exact h0.fz c o e
  ·exact .inr e.1
 ·refine hg β β' l vs f1 hl (rK f1 _ _ hvs) (fun j v hv=>?_) _ _ (h1 t)
  have hj:j<cs.length:=by
   have:=(List.getElem?_eq_some_iff.1 hv).1;rw [← cO hvs] at this;exact this
  rw [f5 j hj];exact hcell j v hv
 ·refine f4.sub fun j b hb=>?_
  have hne:j≠σ.b:=fun e=>by
   subst e
   simp only [upd] at hb
   split at hb
   ·cases hb
   ·obtain ⟨x,hx⟩:=h2.locOf hb;rw [hgn] at hx;cases hx
  rw [aY _ _ hne];exact hb
 ·rcases f2 j hj with e | e
  ·exact Nat.lt_of_lt_of_le (h3 j e) (Nat.le_add_right _ _)
  ·subst e;show σ.b<σ.b+64;omega
theorem aK2 {E:Env} {N:Nat} {c:Code} {σ:AS} {Q:Exit→AS→Prop} (i b:Nat) (hib:b≠i) {cs bs bs':List AV} (hi:σ.hp i=some (.cells cs)) (hb:σ.hp b=some (.cells bs)) (hbl:bs'.length≤bs.length)
  (hbr:∀ (β':cN) (l:Loc) (vs:List Value),β' i=some l→Vs β' cs vs→laid β'.fz l.c l.o vs→∀ (j:Nat) (a':AV),bs'[j]?=some a'→∃ a,bs[j]?=some a∧∀ v,V β' a v→V β' a' v) (sl':Nat→AV)
  (hg:∀ (β β':cN) (l:Loc) (vs:List Value),cN.le β β'→β i=some l→Vs β' cs vs→laid β'.fz l.c l.o vs→∀ (t:Nat) (v:Value),V β (σ.sl t) v→V β' (sl' t) v)
  (h:HT E N c ⟨sl',upd (upd σ.hp i none) b (some (.cells bs')),σ.b+64⟩ Q):HT E N c σ Q:=fun ro F a w hro hF hr=>by
 obtain ⟨β,ds,h0,h1,h2,h3,h4⟩:=hr
 obtain ⟨l,hl,hlen,hblk⟩:=h2.own i cs hi
 have hgn:β σ.b=none:=by
  cases e:β σ.b with
  | none=>rfl
  | some x=>exact absurd (h3 σ.b (by rw [e];simp)) (Nat.lt_irrefl _)
 obtain ⟨β',f1,f2,f3,f4,f5,f6⟩:=h2.freezeRaw (m:=cs.length) hi hl hgn hlen
 obtain ⟨vs,hvs,hcell⟩:∃ vs:List Value,Vs β cs vs∧∀ (j:Nat) (v:Value),vs[j]?=some v→w.cell? ⟨l.c,l.o+j,none⟩=some v:=by
  have key:∀ (j:Nat) (a:AV),cs[j]?=some a→∃ v,w.cell? ⟨l.c,l.o+j,none⟩=some v∧V β a v:=fun j a ha=>h2.cell hi hl ha
  refine ⟨(List.range cs.length).map fun j=>(w.cell? ⟨l.c,l.o+j,none⟩).getD undef,sP (by simp) fun j a ha=>?_,fun j v hv=>?_⟩
  ·obtain ⟨v,x,y⟩:=key j a ha
   have hj:j<cs.length:=(List.getElem?_eq_some_iff.1 ha).1
   exact ⟨v,by simp [hj,x],y⟩
  ·have hj:j<cs.length:=by
    have:=(List.getElem?_eq_some_iff.1 hv).1;simpa using this
   obtain ⟨v',x,y⟩:=key j cs[j] (List.getElem?_eq_some_iff.2 ⟨hj,rfl⟩)
   simp [hj,x] at hv;rw [x,hv]
 refine h ro F a w hro hF ⟨β',ds,⟨cN.le.trans h0.le f1,fun j hj=>?_,Nat.le_trans h0.b (Nat.le_add_right _ _),fun c o hc=>?_⟩,fun t=>?_,?_,fun j hj=>?_,h4⟩
 ·rcases f2 j hj with e | e
  ·exact h0.dom j e
  ·exact .inr (e ▸ h0.b)
 ·rcases f6 c o hc with e | e
  ·exact h0.fz c o e
  ·exact .inr e.1
 ·refine hg β β' l vs f1 hl (rK f1 _ _ hvs) (fun j v hv=>?_) _ _ (h1 t)
  have hj:j<cs.length:=by
   have:=(List.getElem?_eq_some_iff.1 hv).1;rw [← cO hvs] at this;exact this
  rw [f5 j hj];exact hcell j v hv
 ·have f4':cL β' (upd σ.hp i none) w (F.Bx ds):=by
   refine f4.sub fun j b hb=>?_
   have hne:j≠σ.b:=fun e=>by
    subst e
    simp only [upd] at hb
    split at hb
    ·cases hb
    ·obtain ⟨x,hx⟩:=h2.locOf hb;rw [hgn] at hx;cases hx
   rw [aY _ _ hne];exact hb
  refine f4'.recell (cs:=bs) (by rw [aY _ _ hib];exact hb) hbl (hbr β' l vs (f1.loc _ _ hl) (rK f1 _ _ hvs) fun j v hv=>?_)
  have hj:j<cs.length:=by
   have:=(List.getElem?_eq_some_iff.1 hv).1;rw [← cO hvs] at this;exact this
  rw [f5 j hj];exact hcell j v hv
 ·rcases f2 j hj with e | e
  ·exact Nat.lt_of_lt_of_le (h3 j e) (Nat.le_add_right _ _)
  ·subst e;show σ.b<σ.b+64;omega
theorem aNx {E:Env} {N:Nat} {c:Code} {σ:AS} {Q:Exit→AS→Prop} (t i:Nat) {n sz:Nat} {cs:List AV} (f:Nat→AV) {e:TypeId} (hs:σ.sl t=.so i 0 n sz) (hi:σ.hp i=some (.cells cs)) (hsz:szT E.P e=some sz)
  (hf:∀ j,j<n→vD E.P e cs (j * sz)=some (f j)∧okE E.P e sz (f j)) (h:HT E N c ⟨wY σ.sl t (.lst .free sz n f),upd σ.hp i none,σ.b+64⟩ Q):HT E N c σ Q:=by
 refine aLN i hi _ (fun β β' l vs hle hl hvs hlaid q v hv=>?_) h
 rw [aGf]
 split
 ·rename_i e';subst e'
  rw [hs] at hv
  simp only [V] at hv ⊢
  obtain ⟨l',e1,e2⟩:=hv
  rw [hl] at e1;cases e1
  rcases e2 with ⟨rfl,a,rfl⟩ | ⟨mm,h1,h2,rfl⟩
  ·exact ⟨_,_,rfl,Nat.le_refl _,trivial,fun j hj=>by omega⟩
  ·refine ⟨_,_,rfl,h1,trivial,fun j hj=>?_⟩
   obtain ⟨hp,hok⟩:=hf j hj
   obtain ⟨u,u1,u2,u3⟩:=aBF hsz hvs hp hok
   refine ⟨_,_,u,rfl,u1,fun k v hk=>?_,u3⟩
   rw [u2] at hk
   rw [Nat.add_zero,Nat.add_assoc]
   exact hlaid _ _ (eO _ _ _ _ _ hk)
 ·exact kU hle _ _ hv
structure aOy (P:Program) {α:Type} (enc:α→AV) (e:TypeId) (sz:Nat):Prop where
 size:szT P e=some sz
 len:∀ x,(ceE enc x).length=sz
 kind:(aGb P e=some true∧∀ x,enc x=.agg (ceE enc x))∨(aGb P e=some false∧sz=1∧∀ x,ceE enc x=[enc x]∧(enc x).flat=true)
theorem uS {P:Program} {D:DT} (hD:DOk P D) {α:Type} {enc:α→AV} {e:TypeId} {d:TD} (h:D e=some d) (ha:d.k.agg=true) (hl:∀ x,(ceE enc x).length=d.size) (hx:∀ x,enc x=.agg (ceE enc x)):aOy P enc e d.size:=
 ⟨(hD _ _ h).size,hl,.inl ⟨by rw [(hD _ _ h).agg,ha],hx⟩⟩
theorem pS {P:Program} {D:DT} (hD:DOk P D) {α:Type} {enc:α→AV} {e:TypeId} {d:TD} (h:D e=some d) (ha:d.k.agg=false) (h1:d.size=1) (hx:∀ x,ceE enc x=[enc x]∧(enc x).flat=true):aOy P enc e 1:=
 ⟨h1 ▸ (hD _ _ h).size,fun x=>by rw [(hx x).1];rfl,.inr ⟨by rw [(hD _ _ h).agg,ha],rfl,hx⟩⟩
theorem aOy.part {P:Program} {α:Type} {enc:α→AV} {d:α} {e:TypeId} {sz:Nat} (h:aOy P enc e sz) (l:List α):∀ j,j<l.length→vD P e (flE (ceE enc) l) (j * sz)=some (enc (l.getD j d))∧okE P e sz (enc (l.getD j d)):=fun j hj=>by
 have hg:l[j]?=some (l.getD j d):=by rw [List.getD_eq_getElem?_getD,List.getElem?_eq_getElem hj];rfl
 unfold vD okE
 rcases h.kind with ⟨ha,hx⟩ | ⟨ha,h1,hx⟩
 ·rw [ha,h.size]
  refine ⟨?_,fun h=>by cases h⟩
  have hle:j * sz+sz≤(flE (ceE enc) l).length:=by
   rw [uJ h.len]
   have:=Nat.mul_le_mul_right sz (show j+1≤l.length from hj)
   rw [Nat.add_mul] at this;omega
  simp only [Option.bind_some,hle,if_true]
  rw [aAN h.len hg,← hx]
 ·rw [ha]
  subst h1
  refine ⟨?_,fun _=>⟨by trivial,(hx _).2⟩⟩
  have:=aGG h.len (q:=0) hg (by omega)
  rw [Nat.add_zero] at this
  show (flE (ceE enc) l)[j * 1]?=_
  rw [this,(hx _).1];rfl
theorem qM {E:Env} {N:Nat} {c:Code} {σ:AS} {Q:Exit→AS→Prop} (t:Nat) {α:Type} {enc:α→AV} (d:α) {e:TypeId} {sz:Nat} (he:aOy E.P enc e sz)
  (h:iP (yX (σ.sl t)) fun i=>iP σ.b fun g=>∃ (n:Nat) (l:List α),σ.sl t=.so i 0 n sz∧n=l.length∧σ.hp i=some (.cells (flE (ceE enc) l))∧HT E N c ⟨wY σ.sl t (.lst .free sz l.length fun j=>enc (l.getD j d)),upd σ.hp i none,g+64⟩ Q):HT E N c σ Q:=by
 rw [cZ,cZ] at h
 obtain ⟨_,l,h1,rfl,h2,h3⟩:=h
 exact aNx t _ _ h1 h2 he.size (he.part l) h3
theorem aQk {P:Program} {β':cN} {l:Loc} {i n sz:Nat} {cs:List AV} {vs:List Value} {f:Nat→AV} {e:TypeId} (hl:β' i=some l) (hvs:Vs β' cs vs) (hlaid:laid β'.fz l.c l.o vs) (hsz:szT P e=some sz)
  (hf:∀ j,j<n→vD P e cs (j * sz)=some (f j)∧okE P e sz (f j)) {v:Value} (hv:V β' (.so i 0 n sz) v):V β' (.lst .free sz n f) v:=by
 simp only [V] at hv ⊢
 obtain ⟨l',e1,e2⟩:=hv
 rw [hl] at e1;cases e1
 rcases e2 with ⟨rfl,a,rfl⟩ | ⟨mm,h1,h2,rfl⟩
 ·exact ⟨_,_,rfl,Nat.le_refl _,trivial,fun j hj=>by omega⟩
 ·refine ⟨_,_,rfl,h1,trivial,fun j hj=>?_⟩
  obtain ⟨hp,hok⟩:=hf j hj
  obtain ⟨u,u1,u2,u3⟩:=aBF hsz hvs hp hok
  refine ⟨_,_,u,rfl,u1,fun k v hk=>?_,u3⟩
  rw [u2] at hk
  rw [Nat.add_zero,Nat.add_assoc]
  exact hlaid _ _ (eO _ _ _ _ _ hk)
def aTC:AV→Nat
 | .so i _ _ _=>i
 | _=>0
def aMv (hp:bH) (i q:Nat):AV:=match hp i with
 | some (.cells cs)=>(cs[q]?).getD .top
 | _=>.top
theorem tF {E:Env} {N:Nat} {c:Code} {σ:AS} {Q:Exit→AS→Prop} (t q:Nat) {α:Type} {enc:α→AV} (d:α) {e:TypeId} {sz:Nat} (he:aOy E.P enc e sz)
  (h:iP (yX (σ.sl t)) fun b=>iP (aTC (aMv σ.hp b q)) fun i=>iP σ.b fun g=>∃ (bs:List AV) (n:Nat) (l:List α),b≠i∧σ.hp b=some (.cells bs)∧bs[q]?=some (.so i 0 n sz)∧n=l.length∧σ.hp i=some (.cells (flE (ceE enc) l)) ∧
   jM (bs.set q (.lst .free sz l.length fun j=>enc (l.getD j d))) fun bs'=>HT E N c ⟨σ.sl,upd (upd σ.hp i none) b (some (.cells bs')),g+64⟩ Q):HT E N c σ Q:=by
 simp only [cZ,eY] at h
 obtain ⟨bs,_,l,h1,h2,h3,rfl,h4,h5⟩:=h
 refine aK2 _ _ h1 h4 h2 (by simp) (fun β' lc vs g1 g2 g3 j a' ha=>?_) σ.sl (fun β β' l vs hle _ _ _ t v hv=>kU hle _ _ hv) h5
 rw [List.getElem?_set] at ha
 split at ha
 ·rename_i ej;subst ej
  split at ha
  ·cases ha;exact ⟨_,h3,fun v hv=>aQk g1 g2 g3 he.size (he.part l) hv⟩
  ·cases ha
 ·exact ⟨a',ha,fun v hv=>hv⟩
theorem aA1 {P:Program} {D:DT} {n:Nat} (hD:DOk P D) {α β:Type} {enc:α→AV} {d:α} {t u:TypeId} {e e':TypeId} {de:TD} {s1 s2 b1 b2:Nat} {z1 z2:List AV} {m':LM} {sz:Nat} {l x:List α} {i id:Nat} {hp:bH} {k:AV→bH→Prop} {f:List α→Option β} {Φ:β→Prop}
  (h:W (ap l x f) Φ) (ht:D t=some ⟨.slice e,s1,z1,b1⟩) (hu:D u=some ⟨.slice e',s2,z2,b2⟩) (he:D e=some de)
  (h0:de.size=sz∧0<sz∧0<de.bytes∧de.bytes≤1048576∧de.zero.length=sz) (hfl:∀ y,(ceE enc y).all AV.flat=true) (hln:∀ y,(ceE enc y).length=sz) (hc:∀ y,(enc y).cells≠none)
  (hi:hp i=some (.cells (flE (ceE enc) l))) (hn:l.length=n)
  (hk:W (f (l++x)) Φ→k (.so id 0 (l++x).length sz) (upd (upd hp i none) id (some (.cells (flE (ceE enc) (l++x)))))) :
  rG P t u (.so i 0 n sz) (.lst m' sz x.length fun j=>enc (x.getD j d)) id hp k:=by
 subst hn
 unfold ap at h
 obtain ⟨hlen,h⟩:=vE h
 have k1:=(hD _ _ ht).k
 have k2:=(hD _ _ hu).k
 simp only [xC] at k1 k2
 obtain ⟨rfl,h1,h2,h3,h4⟩:=h0
 have hde:=hD _ _ he
 have hxs:((List.range x.length).flatMap fun j=>lL (enc (x.getD j d)))=flE (ceE enc) x:=by
  unfold flE
  rw [List.flatMap_def,List.flatMap_def]
  congr 1
  refine List.ext_getElem? fun j=>?_
  by_cases hj:j<x.length
  ·simp [hj]
  ·simp [hj]
 have hall:(flE (ceE enc) x).all AV.flat=true:=by
  simp only [List.all_eq_true,flE,List.mem_flatMap]
  rintro a ⟨y,_,hy⟩
  exact List.all_eq_true.1 (hfl y) a hy
 rw [List.length_append] at hk
 rw [aD6] at hk
 refine qF trivial (fun j hj=>hc _) ?_ (hk h)
 unfold pH
 simp only [k1,k2,hde.size,hde.bytes,hde.zero,Option.bind_some,aL6,cellsOf,if_true,hxs,hall,h1,h2,h3,h4,and_self]
 simp only [hi]
 have e1:=uJ hln l
 rw [← e1]
 simp only [true_and,hlen,if_true,Nat.le_refl,List.take_length]
def st {α β:Type} (l:List α) (i:Int) (x:α) (f:List α→Option β):Option β:=f (l.set i.toNat x)
theorem aTy {α β:Type} {l:List α} {i:Int} {x:α} {f:List α→Option β} {Φ:β→Prop} (h:W (st l i x f) Φ):W (f (l.set i.toNat x)) Φ:=h
theorem aO3 {α β:Type} (l:List α) (i:Int) (x:α) (f:List α→Option β):st l i x f=f (l.set i.toNat x):=rfl
theorem aKC {α β:Type} {enc:α→AV} {d:α} {sz:Nat} {l:List α} {i:Int} {n q m:Nat} {x:α} {xs:List AV} {f:List α→Option β} {Φ:β→Prop} {k:List AV→Prop} (h:W (st l i x f) Φ) (hsz:∀ x,(ceE enc x).length=sz) (hn:l.length=n) (hi:0≤i∧i<(n:Int)) (hm:xs.length=m) (hq:q+m≤sz)
  (hx:dZ (ceE enc (l.getD i.toNat d)) q xs=ceE enc x) (hf:xs.all AV.flat=true) (hk:W (f (l.set i.toNat x)) Φ→k (flE (ceE enc) (l.set i.toNat x))) :
  xs.length=m∧0+i.toNat * sz+q+m≤(flE (ceE enc) l).length∧xs.all AV.flat=true∧jM (dZ (flE (ceE enc) l) (0+i.toNat * sz+q) xs) k:=
 aOQ (d:=d) hsz hn hi hm hq hx hf (hk (aTy h))
attribute [irreducible] st
theorem aRo {α β:Type} {l:List α} {f:List α→Option β} {Φ:β→Prop} (h:W (lt l f) Φ):W (f l) Φ:=by unfold lt at h;exact h
theorem aMn {P:Program} {D:DT} (hD:DOk P D) {α β:Type} {enc:α→AV} (d:α) {t e:TypeId} {de:TD} {s1 b1:Nat} {z1:List AV} {n:Int} {id:Nat} {k:AV→AB→Prop} {f:List α→Option β} {Φ:β→Prop} {k1 k2:IntKind}
  (h:W (gd (0≤n∧n≤1048576) (lt (List.replicate n.toNat d) f)) Φ) (ht:D t=some ⟨.slice e,s1,z1,b1⟩) (he:D e=some de) (h0:0<de.size∧de.bytes≤1048576∧de.zero.length=de.size) (hz:de.zero=ceE enc d)
  (hk:W (f (List.replicate n.toNat d)) Φ→k (.so id 0 (List.replicate n.toNat d).length de.size) (.cells (flE (ceE enc) (List.replicate n.toNat d)))):aOF P t (.int k1 n) (.int k2 n) id k:=by
 obtain ⟨hn,h⟩:=vE h
 unfold lt at h
 have q1:=(hD _ _ ht).k
 simp only [xC] at q1
 have hde:=hD _ _ he
 have hz2:wB de.zero n.toNat=flE (ceE enc) (List.replicate n.toNat d):=by
  unfold wB flE
  rw [List.flatMap_def,List.map_replicate,hz]
 have e:=hk h
 rw [List.length_replicate,← hz2] at e
 refine aNT (r0:=.sl id 0 n.toNat n.toNat de.size) ?_ (fun β v hv=>?_) e
 ·simp only [qG,q1,hde.size,hde.zero,hde.bytes,Option.bind_some]
  rw [if_pos ⟨hn.1,Int.le_refl _,hn.2,h0.2.1,h0.1,h0.2.2⟩]
 ·simp only [V] at hv ⊢
  obtain ⟨l,h1,h2⟩:=hv
  refine ⟨l,h1,?_⟩
  rcases h2 with ⟨a,_,b⟩ | ⟨a,b,c⟩
  ·exact .inl ⟨a,b⟩
  ·exact .inr ⟨_,a,b,c⟩
theorem WkR.soN {L:Ren} {i i' o n n' z:Nat} (h:∀ loc,aDZ loc L i'=loc i) (hn:n=n'):WkR L (.so i o n z) (.so i' o n' z):=by subst hn;exact WkR.so h
theorem aK9 {g sz:Nat} {f:Nat→AV}:Wk (.lst (.tok g) sz 0 f) (.so g 0 0 sz):=fun β v hv=>by
 simp only [V] at hv ⊢
 obtain ⟨base,cap,rfl,h2,⟨l,h3,h4⟩,_⟩:=hv
 refine ⟨l,h3,?_⟩
 rcases h4 with rfl | ⟨o,rfl,h5,h6⟩
 ·exact .inl ⟨trivial,_,rfl⟩
 ·exact .inr ⟨cap,Nat.zero_le _,by omega,by rw [h5];simp⟩
theorem aFm {α:Type} {l:List α} {n j:Nat} {x:α} (h:l.length=n):(l.set j x).length=n:=by rw [List.length_set];exact h
theorem qZ {α:Type} {i:Int} {m n:Nat} {x:Option α} {Φ:α→Prop} {K:Prop} (h:W (gd (0≤i∧i<(m:Int)) x) Φ) (hn:m=n) (k:0≤i∧i<(n:Int)→W x Φ→K):(0≤i∧i<(n:Int))∧K:=by
 subst hn;exact bW h k
theorem WkR.nilso {L:Ren} {g sz:Nat} (h:∀ loc,aDZ loc L g=some ⟨0,0,0⟩):WkR L .nils (.so g 0 0 sz):=fun β v hv=>by
 simp only [V] at hv ⊢
 subst hv
 exact ⟨_,h _,.inl ⟨trivial,none,rfl⟩⟩
theorem aFN {L:Ren} {hp:bH} {i:Nat} {α:Type} {ce:α→List AV}:BkR L hp i none (.cells (flE ce [])):=rfl
theorem kA {L:Ren} {hp:bH} {i o:Nat} {α:Type} {ce:α→List AV} {l:List α} (h:hp o=some (.cells (flE ce l))) (hl:∀ x,∀ a∈ce x,a.loose):BkR L hp i (some o) (.cells (flE ce l)):=bRc h (aES (qN hl l))
theorem aR {sl:Nat→AV} {hp:bH} {b b':Nat} {l:List (Nat×AV)} {hs hr:List (Nat×AB)}
  (h:aBf sl l fun ps=>yL ((0,some 0)::(aLy ps++aOu (aLy ps) hp hs)) fun L=>aLO L b'=true∧aAw (fun p=>WkR L p.1 p.2) ps∧aAw (fun p=>∃ o,qI L p.1=some o∧BkR L hp p.1 o p.2) (hs++hr)):∃ L,zH L ⟨sl,hp,b⟩ ⟨ofL l,ofH (hs++hr),b'⟩:=by
 rw [vP,uB] at h
 exact ⟨_,aE3 _ (yY (β:=AV×AV) (p:=fun p=>WkR _ p.1 p.2) h.2.1) h.2.2 h.1⟩
section
variable {E:Env} {N:Nat}
theorem cY {S R:Type} {c:Code} {σ:AS} {Q:Exit→AS→Prop} {body:S→Option (Ct S R)} {n:Nat} {s:S} {Φ:S ⊕ R→Prop} (hcl:E.cl=true) (h:W (lp body n s) Φ) (ts hsl rsl bsl:List Nat)
  (I:List (Nat×AV)→List (Nat×AB)→List (Nat×AB)→List Nat→Nat→S→AS)
  (H:vX (aGx σ ts) fun kl=>jR (uE σ hsl) fun kh=>jR (uE σ rsl) fun kr=>tK (bsl.map fun t=>yX (σ.sl t)) fun ids=>iP σ.b fun b=>
   (∃ L,zH L σ (I kl kh kr ids b s))∧∀ (s:S) (m:Nat),W (bd (body s) fun c=>ctK c (lp body m) (fun s=>some (.inl s)) (fun r=>some (.inr r))) Φ →
    HT E N c (I kl kh kr ids b s) (aFA (fun σ'=>∃ s',W (lp body m s') Φ∧∃ L,zH L σ' (I kl kh kr ids b s')) Q)):HT E N (.loop c) σ Q:=by
 rw [pW,fP,fP,oQ,cZ] at H
 exact aL0 hcl h (fun _ s=>I _ _ _ _ _ s) H.1 H.2
theorem aMH {V β:Type} {x y:Code} {σ:AS} {Q:Exit→AS→Prop} {f:V→Option β} {g:(V→Option β)→Option β} {Φ:β→Prop} (hcl:E.cl=true) (h:W (jn f g) Φ) (ts hsl rsl bsl:List Nat)
  (I:List (Nat×AV)→List (Nat×AB)→List (Nat×AB)→List Nat→Nat→V→AS)
  (H:vX (aGx σ ts) fun kl=>jR (uE σ hsl) fun kh=>jR (uE σ rsl) fun kr=>tK (bsl.map fun t=>yX (σ.sl t)) fun ids=>iP σ.b fun b=>
   (∀ s:V,W (f s) Φ→HT E N y (I kl kh kr ids b s) Q)∧∀ k:V→Option β,W (g k) Φ →
    HT E N x σ (aFA (fun σ'=>∃ s,W (k s) Φ∧∃ L,zH L σ' (I kl kh kr ids b s)) Q)):HT E N (.seq x y) σ Q:=by
 rw [pW,fP,fP,oQ,cZ] at H
 refine aF ((H.2 f (lG h)).mono fun e σ' q=>?_)
 cases e with
 | normal=>obtain ⟨s,h1,L,h2⟩:=q;exact aBA hcl h2 (H.1 s h1)
 | _=>exact q
end
end Go.Eng
