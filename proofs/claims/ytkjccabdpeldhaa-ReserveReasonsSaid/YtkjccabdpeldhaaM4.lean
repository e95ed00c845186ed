import Derived.Test.YtkjccabdpeldhaaM2
import Derived.Shelf.SlSortCmp.NoneTotal
set_option linter.unusedVariables false
set_option linter.unusedSimpArgs false
set_option linter.unusedSectionVars false
namespace Go.Eng
open Go Go.Shelf Go.RowKit Go.Lib Go.Sort Go.Proofs
theorem flatMap_get {α β:Type} {g:α→List β} {k:Nat} (h:∀ x,(g x).length=k):∀ (l:List α) (j q:Nat) (x:α),l[j]?=some x→q<k→(l.flatMap g)[j * k+q]?=(g x)[q]?
 | [],j,q,x,hj,_=>by simp at hj
 | a::l,0,q,x,hj,hq=>by
   simp at hj;subst hj
   rw [List.flatMap_cons,Nat.zero_mul,Nat.zero_add,List.getElem?_append_left (by rw [h];exact hq)]
 | a::l,j+1,q,x,hj,hq=>by
   rw [List.flatMap_cons,List.getElem?_append_right (by rw [h,Nat.add_mul];omega),h,show (j+1) * k+q-k=j * k+q by rw [Nat.add_mul];omega]
   exact flatMap_get h l j q x (by simpa using hj) hq
theorem flatMap_len {α β:Type} {g:α→List β} {k:Nat} (h:∀ x,(g x).length=k):∀ (l:List α),(l.flatMap g).length=l.length * k
 | []=>by simp
 | a::l=>by rw [List.flatMap_cons,List.length_append,h,flatMap_len h l,List.length_cons,Nat.add_mul];omega
section
variable {α:Type} [Inhabited α]
theorem flatK_toList {ev:α→List Value} {k:Nat} (hk:∀ x,(ev x).length=k) (d:Array α):(flatK ev k d).toList=d.toList.flatMap ev:=by
 have hl:(flatK ev k d).toList.length=(d.toList.flatMap ev).length:=by rw [flatMap_len hk];simp
 refine List.ext_getElem? fun t=>?_
 by_cases ht:t<d.size * k
 · have k0:0<k:=by
     rcases Nat.eq_zero_or_pos k with h | h
     · subst h;simp at ht
     · exact h
   have hj:t / k<d.size:=Nat.div_lt_of_lt_mul (by rw [Nat.mul_comm];exact ht)
   have e1:(flatK ev k d).toList[t]?=some (flatK ev k d)[t]! := by
     rw [Array.getElem?_toList,getElem!_pos _ t (by simpa using ht),Array.getElem?_eq_getElem (by simpa using ht)]
   have e2:d.toList[t / k]?=some d[t / k]! := by
     rw [Array.getElem?_toList,getElem!_pos d (t / k) hj,Array.getElem?_eq_getElem hj]
   have hq:t % k<k:=Nat.mod_lt _ k0
   have e3:=flatMap_get hk d.toList (t / k) (t % k) _ e2 hq
   rw [Nat.mul_comm,Nat.div_add_mod] at e3
   have hq2:t % k<(ev d[t / k]!).length:=by rw [hk];exact hq
   rw [e1,get_flatK _ _ _ _ ht,e3,getElem!_pos (ev d[t / k]!) (t % k) hq2,List.getElem?_eq_getElem hq2]
 · rw [List.getElem?_eq_none (by rw [Array.length_toList,size_flatK];omega),List.getElem?_eq_none (by rw [flatMap_len hk];simp;omega)]
theorem sw_other (ev:α→List Value) (k:Nat) (w:World) (blk off m:Nat) (d:Array α) (os:Array Obj) {c:Nat} (hc:c<w.heap.size) (hne:c≠blk):(sortWorldK ev k w blk off m d os).heap[c]?=w.heap[c]?:=by
 unfold sortWorldK grow putRowK putRow mapBlock
 show ((Array.modify (Sort.ahead w m).heap blk _)++os)[c]?=_
 rw [Array.getElem?_append,if_pos (by simpa [Sort.ahead] using hc),Array.getElem?_modify,if_neg (fun e=>hne e.symm)]
 rfl
theorem sw_own (ev:α→List Value) (k:Nat) (w:World) (blk off m:Nat) (d:Array α) (os:Array Obj) {full:Array Value} {e:TypeId} {fr:Nat×Nat} (hb:w.heap[blk]?=some (.cells full e fr)) :
   (sortWorldK ev k w blk off m d os).heap[blk]?=some (.cells (putCells id off (flatK ev k d) full) e fr):=by
 have hc:blk<w.heap.size:=(Array.getElem?_eq_some_iff.1 hb).1
 unfold sortWorldK grow putRowK putRow mapBlock
 show ((Array.modify (Sort.ahead w m).heap blk _)++os)[blk]?=_
 rw [Array.getElem?_append,if_pos (by simpa [Sort.ahead] using hc),Array.getElem?_modify,if_pos rfl]
 show (w.heap[blk]?).map _=_
 rw [hb];rfl
theorem sw_below (ev:α→List Value) (k:Nat) (w:World) (blk off m:Nat) (d:Array α) (os:Array Obj) {B:Bd} (hB:B.top w.heap.size) (hb:B blk):BelowP B w (sortWorldK ev k w blk off m d os):=
 ⟨rfl,rfl,rfl,size_sortWorldK_c ev k w blk off m d os,Nat.le_add_right _ _,fun c hc=>sw_other ev k w blk off m d os (Nat.lt_of_not_le fun h=>hc (hB c h)) fun e=>hc (e ▸ hb)⟩
theorem putCells_at (off:Nat) (F:Array Value) (full:Array Value) {t:Nat} (ht:t<F.size) (hf:off+t<full.size):(putCells id off F full)[off+t]?=F[t]?:=by
 simp only [putCells,Array.getElem?_mapIdx,Array.getElem?_eq_getElem hf,Option.map_some]
 rw [if_pos ⟨by omega,by omega⟩,show off+t-off=t by omega]
 show some F[t]! = F[t]?
 rw [Array.getElem?_eq_getElem ht,getElem!_pos F t ht]
theorem putCells_out (off:Nat) (F:Array Value) (full:Array Value) {t:Nat} (ht:t<off∨off+F.size≤t):(putCells id off F full)[t]?=full[t]?:=by
 simp only [putCells,Array.getElem?_mapIdx]
 cases full[t]? with
 | none=>rfl
 | some y=>rw [Option.map_some,if_neg (by omega)]
def sortF (cf:α→α→Int) (l:List α):List α:=(pdq (ltOf cf) l.toArray 0 l.length (Lib.bitLen l.length) true true).toList
theorem sortF_facts (cf:α→α→Int) (hO:SWO (ltOf cf)) (l:List α):PermIn 0 l.length l.toArray (sortF cf l).toArray∧SortedIn (ltOf cf) 0 l.length (sortF cf l).toArray:=by
 have h:=pdq_sorts (ltOf cf) hO l.toArray 0 l.length (Lib.bitLen l.length) true true (Nat.zero_le _) (by simp) (Or.inl rfl)
 simpa [sortF] using h
theorem sortF_len (cf:α→α→Int) (hO:SWO (ltOf cf)) (l:List α):(sortF cf l).length=l.length:=by
 have h:=(sortF_facts cf hO l).1.1
 simpa using h
theorem gd_lk_u {α:Type} {G:Prop} [Decidable G] {x:Option α} {Φ:α→Prop} {K:Prop} (h:W (gd G x) Φ) (k:G→W x Φ→K):K:=k (W_gd h).1 (W_gd h).2
def sortS (enc:α→AV) (okc:List AV→Prop) (cf:List AV→α→α→Int) (g:FuncId):Nat→List AV→List AV→AV→List AV→Prop:=fun n rest bs r bs'=>
 ∃ (l:List α) (caps:List AV),okc caps∧n=l.length∧l.length<4611686018427387904∧rest=[.fn g [] caps]∧bs=flE (ceE enc) l∧r=.tup []∧bs'=flE (ceE enc) (sortF (cf caps) l)
def CmpG (P:Program) (vo:α→Value) (cf:List AV→α→α→Int) (g:FuncId) (caps:List AV):Prop:=
 ∀ (β:Beta) (cv:List Value) (W:World),Vs β caps cv→(∀ c o v,β.fz c o=some v→W.cell? ⟨c,o,none⟩=some v)→∀ x y:α,
   Calls P g (#[vo x,vo y]++cv.toArray) W fun e w'=>e=.returned (.int .i64 (cf caps x y))∧∃ q os',w'=grow (W.drewN q) os'
theorem Vs_append_inv {β:Beta}:∀ {aa bs:List AV} {vs:List Value},Vs β (aa++bs) vs→∃ xs ys,vs=xs++ys∧Vs β aa xs∧Vs β bs ys
 | [],bs,vs,h=>⟨[],vs,rfl,by simp [Vs],h⟩
 | a::aa,bs,vs,h=>by
   simp only [List.cons_append,Vs] at h
   obtain ⟨v,vs',rfl,h1,h2⟩:=h
   obtain ⟨xs,ys,rfl,h3,h4⟩:=Vs_append_inv h2
   exact ⟨v::xs,ys,rfl,⟨v,xs,rfl,h1,h3⟩,h4⟩
omit [Inhabited α] in
theorem Vs_flat_eq {enc:α→AV} {ev:α→List Value} (hve:∀ β x vs,Vs β (ceE enc x) vs→vs=ev x) {β:Beta}:∀ {l:List α} {vs:List Value},Vs β (flE (ceE enc) l) vs→vs=l.flatMap ev
 | [],vs,h=>by simpa [flE,Vs] using h
 | a::l,vs,h=>by
   simp only [flE,List.flatMap_cons] at h
   obtain ⟨xs,ys,rfl,h1,h2⟩:=Vs_append_inv h
   rw [List.flatMap_cons,hve _ _ _ h1,Vs_flat_eq hve (l:=l) h2]
omit [Inhabited α] in
theorem Vs_flatL {enc:α→AV} {ev:α→List Value} (hev:∀ β x,Vs β (ceE enc x) (ev x)) (β:Beta):∀ l:List α,Vs β (flE (ceE enc) l) (l.flatMap ev)
 | []=>by simp [flE,Vs]
 | a::l=>by
   simp only [flE,List.flatMap_cons]
   exact Vs_append (hev β a) (Vs_flatL hev β l)
theorem FOk_sortG {P:Program} {f:FuncId} {k:Nat} (vo:α→Value)
   (enc:α→AV) (ev:α→List Value) (hev:∀ β x,Vs β (ceE enc x) (ev x)) (hve:∀ β x vs,Vs β (ceE enc x) vs→vs=ev x) (hk:∀ x,(ev x).length=k) (hk0:0<k)
   (cf:List AV→α→α→Int) (hO:∀ caps,SWO (ltOf (cf caps))) (g:FuncId) (ef:∀ args w,(callFunc f args).run P w=.ok (.enter f args) w)
   (hcon:∀ (caps:List AV) (cb:Array Value) (blk off cap:Nat) (d:Array α) (w:World),(∀ (m:Nat) (os:Array Obj) (dk:Array α),dk.size=d.size→∀ x y:α,
       Calls P g (#[vo x,vo y]++cb) (sortWorldK ev k w blk off m dk os) fun e w'=>e=.returned (.int .i64 (cf caps x y))∧∃ q os',w'=grow ((sortWorldK ev k w blk off m dk os).drewN q) os') →
     HoldsK ev k w blk off d→blk<w.heap.size→d.size<4611686018427387904→Calls P f #[.slice (some ⟨blk,off,none⟩) d.size cap,.func (.func g) #[] cb] w fun e w'=>
       e=.returned (.tuple #[])∧∃ n os,w'=sortWorldK ev k w blk off n (pdq (ltOf (cf caps)) d 0 d.size (Lib.bitLen d.size) true true) os)
   (hnone:∀ (p:Option Addr) (cap:Nat) (fv:Value) (w:World),Calls P f #[.slice p 0 cap,fv] w fun e w'=>e=.returned (.tuple #[])∧w'=w)
   (okc:List AV→Prop) (hcmp:∀ caps,okc caps→CmpG P vo cf g caps):FOk P f (blkR k (sortS enc okc cf g)):=by
 have hce:∀ x,(ceE enc x).length=k:=fun x=>by rw [Vs_length (hev ⟨fun _=>none,fun _ _=>none,fun _=>False⟩ x),hk]
 refine ⟨fun av w=>ef av w,fun args H base r H' e B w β av hβ hH hB hv=>?_⟩
 obtain ⟨i,n,rest,bs,bs',rfl,hi,⟨l,caps,hoc,rfl,hlt,rfl,rfl,rfl,rfl⟩,rfl⟩:=e
 obtain ⟨v0,av1,rfl,hv0,hv1⟩:=hv
 obtain ⟨v1,av2,rfl,hv1,hv2⟩:=hv1
 simp only [Vs] at hv2
 subst hv2
 simp only [V] at hv1
 obtain ⟨fv,cv,rfl,hfv,hcv⟩:=hv1
 simp only [Vs] at hfv
 subst hfv
 have hlen:=sortF_len (cf caps) (hO caps) l
 obtain ⟨lc,hl,hll,hblk⟩:=hH.own i _ hi
 rw [flE_len hce] at hll
 by_cases hn:l=[]
 · subst hn
   have hs0:sortF (cf caps) ([]:List α)=[]:=List.length_eq_zero_iff.1 hlen
   have hup:upd H i (some (.cells (flE (ceE enc) (sortF (cf caps) []))))=H:=by
     funext j;unfold upd;split
     · rename_i e;subst e;rw [hs0,hi]
     · rfl
   rw [hup]
   simp only [V] at hv0
   obtain ⟨_,_,hv0⟩:=hv0
   have key:∃ p cap,v0=.slice p 0 cap:=by
     rcases hv0 with ⟨_,a,rfl⟩ | ⟨m,_,_,rfl⟩
     · exact ⟨_,_,rfl⟩
     · exact ⟨_,_,rfl⟩
   obtain ⟨p,cap,rfl⟩:=key
   refine (hnone p cap _ w).mono ?_
   rintro e w' ⟨rfl,rfl⟩
   exact ⟨.tuple #[],β,rfl,⟨Beta.le.refl _,fun j hj=>.inl hj,fun c o hc=>.inl hc⟩,by simp only [V];exact ⟨[],rfl,by simp [Vs]⟩,hH,BelowP.refl _ _⟩
 · have hpos:0<l.length:=List.length_pos_iff.2 hn
   simp only [V] at hv0
   obtain ⟨lc',hl',hv0⟩:=hv0
   rw [hl] at hl';cases hl'
   rcases hv0 with ⟨h0,_⟩ | ⟨m,hnm,hmk,rfl⟩
   · omega
   have hkk:0<lc.k:=by
     have:0<m * k:=Nat.mul_pos (by omega) hk0
     omega
   obtain ⟨hBl,hun,full,t,hfull,hfs,hvals⟩:=hblk hkk
   have hblt:lc.c<w.heap.size:=(Array.getElem?_eq_some_iff.1 hfull).1
   have hcell:∀ j v,(l.flatMap ev)[j]?=some v→full[lc.o+j]?=some v:=by
     have hvs:Vs β (flE (ceE enc) l) ((List.range (l.length * k)).map fun j=>(full[lc.o+j]?).getD undef):=
       Vs_of_get (by rw [flE_len hce];simp) fun j a ha=>by
         obtain ⟨u,hu1,hu2⟩:=hvals j a ha
         have hj:j<l.length * k:=by rw [← flE_len hce];exact (List.getElem?_eq_some_iff.1 ha).1
         exact ⟨u,by simp [hj,hu1],hu2⟩
     have he:=Vs_flat_eq hve hvs
     intro j v hj
     have hj2:j<l.length * k:=by rw [← flatMap_len hk];exact (List.getElem?_eq_some_iff.1 hj).1
     obtain ⟨u,hu1,_⟩:=hvals j _ (List.getElem?_eq_getElem (by rw [flE_len hce];exact hj2))
     rw [← he] at hj
     simp [hj2,hu1] at hj
     rw [hu1,hj]
   have hF:∀ d:Array α,d.size=l.length→∀ j,j<l.length * k→(flatK ev k d)[j]?=(d.toList.flatMap ev)[j]?:=fun d _ j _=>by rw [← flatK_toList hk,Array.getElem?_toList]
   have hH0:HoldsK ev k w lc.c (lc.o+0) l.toArray:=by
     intro j hj
     rw [size_flatK,List.size_toArray] at hj
     have e1:(flatK ev k l.toArray)[j]?=some (flatK ev k l.toArray)[j]! := by
       rw [getElem!_pos _ j (by simpa using hj),Array.getElem?_eq_getElem (by simpa using hj)]
     rw [hF _ (by simp) j hj] at e1
     have:=hcell j _ e1
     refine ⟨?_,?_⟩
     · simp only [World.cell?,hfull,Nat.add_zero];simpa using this
     · simp only [World.frozen?,hfull];simp
   have hC:∀ (m:Nat) (os:Array Obj) (dk:Array α),dk.size=l.toArray.size→∀ x y:α,Calls P g (#[vo x,vo y]++cv.toArray) (sortWorldK ev k w lc.c (lc.o+0) m dk os) fun e w'=>e=.returned (.int .i64 (cf caps x y))∧∃ q os',w'=grow ((sortWorldK ev k w lc.c (lc.o+0) m dk os).drewN q) os':=by
     intro q os dk hdk x y
     refine hcmp caps hoc β cv _ hcv (fun c o v hfz=>?_) x y
     have hw:=hH.fz c o v hfz
     have hclt:=cell_lt hw
     by_cases hc:c=lc.c
     · subst hc
       have ho:o<lc.o∨lc.o+lc.k≤o:=by
         rcases Nat.lt_or_ge o lc.o with h | h
         · exact .inl h
         · rcases Nat.lt_or_ge o (lc.o+lc.k) with h' | h'
           · rw [hun o h h'] at hfz;cases hfz
           · exact .inr h'
       have hs:l.length * k≤lc.k:=by have:=Nat.mul_le_mul_right k hnm;omega
       have hdk:dk.size=l.length:=by simpa using hdk
       simp only [World.cell?,sw_own ev k w lc.c (lc.o+0) q dk os hfull] at hw ⊢
       rw [hfull] at hw
       simp only [Option.isSome_none,Bool.false_eq_true,if_false] at hw ⊢
       rw [putCells_out _ _ _ (by rw [size_flatK,hdk];omega)];exact hw
     · simp only [World.cell?,sw_other ev k w lc.c (lc.o+0) q dk os hclt hc] at hw ⊢
       exact hw
   refine (hcon caps cv.toArray lc.c (lc.o+0) m l.toArray w hC hH0 hblt (by simpa using hlt)).mono ?_
   rintro e w' ⟨rfl,q,os,rfl⟩
   rw [List.size_toArray]
   have hd:(pdq (ltOf (cf caps)) l.toArray 0 l.length (Lib.bitLen l.length) true true)=(sortF (cf caps) l).toArray:=by simp [sortF]
   rw [hd]
   have hkeep:∀ c,c<w.heap.size→c≠lc.c→(sortWorldK ev k w lc.c (lc.o+0) q (sortF (cf caps) l).toArray os).heap[c]?=w.heap[c]?:=fun c h1 h2=>sw_other ev k w lc.c (lc.o+0) q _ os h1 h2
   have hown:=sw_own ev k w lc.c (lc.o+0) q (sortF (cf caps) l).toArray os hfull
   have hyb:BelowP (fun c=>¬ β.ys c) w (sortWorldK ev k w lc.c (lc.o+0) q (sortF (cf caps) l).toArray os):=sw_below ev k w lc.c (lc.o+0) q _ os (fun c hc hy=>by have:=(hH.ys c hy).2;omega) (hH.yo i _ lc hi hl hkk)
   have hfz':∀ c o v,β.fz c o=some v→(sortWorldK ev k w lc.c (lc.o+0) q (sortF (cf caps) l).toArray os).cell? ⟨c,o,none⟩=some v:=fun c o v hfz=>by
     have hw:=hH.fz c o v hfz
     have hclt:=cell_lt hw
     by_cases hc:c=lc.c
     · subst hc
       have ho:o<lc.o∨lc.o+lc.k≤o:=by
         rcases Nat.lt_or_ge o lc.o with h | h
         · exact .inl h
         · rcases Nat.lt_or_ge o (lc.o+lc.k) with h' | h'
           · rw [hun o h h'] at hfz;cases hfz
           · exact .inr h'
       have hs:l.length * k≤lc.k:=by have:=Nat.mul_le_mul_right k hnm;omega
       simp only [World.cell?,hown] at hw ⊢
       rw [hfull] at hw
       simp only [Option.isSome_none,Bool.false_eq_true,if_false] at hw ⊢
       rw [putCells_out _ _ _ (by rw [size_flatK,List.size_toArray,hlen];omega)];exact hw
     · simp only [World.cell?,hkeep c hclt hc] at hw ⊢
       exact hw
   refine ⟨.tuple #[],β,rfl,⟨Beta.le.refl _,fun j hj=>.inl hj,fun c o hc=>.inl hc⟩,by simp only [V];exact ⟨[],rfl,by simp [Vs]⟩,⟨hfz',fun j cs hj=>?_,fun j es clk hj=>?_,fun a b ba bb la lb hab ha hb'=>?_,fun c hc=>⟨(hH.ys c hc).1,Nat.lt_of_lt_of_le (hH.ys c hc).2 hyb.size⟩,fun j b lj hj hlj hkj=>?_,fun j S G s hj=>?_,fun j j' S G s S' G' s' hj hj'=>?_,fun j sz es clk ho hj=>?_,fun j j' sz es clk ho b hj hj' hb=>?_⟩,sw_below ev k w lc.c (lc.o+0) q _ os hB hBl⟩
   · unfold upd at hj;split at hj
     · rename_i e;subst e;cases hj
       refine ⟨lc,hl,by rw [flE_len hce,hlen];exact hll,fun _=>⟨hBl,hun,_,_,hown,by simpa [putCells] using hfs,fun j a ha=>?_⟩⟩
       have hvs:=Vs_flatL (enc:=enc) (ev:=ev) hev β (sortF (cf caps) l)
       obtain ⟨u,hu1,hu2⟩:=Vs_get hvs j a ha
       have hj2:j<l.length * k:=by rw [← hlen,← flatMap_len hk];exact (List.getElem?_eq_some_iff.1 hu1).1
       have hs:l.length * k≤lc.k:=by have:=Nat.mul_le_mul_right k hnm;omega
       refine ⟨u,?_,hu2⟩
       have:=putCells_at (lc.o+0) (flatK ev k (sortF (cf caps) l).toArray) full (t:=j) (by rw [size_flatK,List.size_toArray,hlen];exact hj2) (by omega)
       rw [Nat.add_zero] at this ⊢
       rw [this,hF _ (by simpa using hlen) j hj2];exact hu1
     · rename_i hne
       obtain ⟨lj,g1,g2,g3⟩:=hH.own j cs hj
       refine ⟨lj,g1,g2,fun hkj=>?_⟩
       obtain ⟨b1,b2,full',t',p',q',r'⟩:=g3 hkj
       exact ⟨b1,b2,full',t',(hkeep _ (Array.getElem?_eq_some_iff.1 p').1 (hH.sep j i _ _ lj lc hne hj hi g1 hl hkj hkk)).trans p',q',r'⟩
   · unfold upd at hj;split at hj
     · cases hj
     · rename_i hne
       obtain ⟨lj,g1,g2,g3,ents,g4,mm⟩:=hH.map j es clk hj
       exact ⟨lj,g1,g2,g3,ents,(hkeep _ (Array.getElem?_eq_some_iff.1 g4).1 (hH.sep j i _ _ lj lc hne hj hi g1 hl g2 hkk)).trans g4,mm⟩
   · have f:∀ k' b,upd H i (some (.cells (flE (ceE enc) (sortF (cf caps) l)))) k'=some b→∃ b',H k'=some b':=fun k' b hk'=>by
       unfold upd at hk';split at hk'
       · rename_i e;subst e;exact ⟨_,hi⟩
       · exact ⟨_,hk'⟩
     obtain ⟨ba',ha'⟩:=f a ba ha
     obtain ⟨bb',hb''⟩:=f b bb hb'
     exact hH.sep a b ba' bb' la lb hab ha' hb''
   · unfold upd at hj;split at hj
     · rename_i e;subst e;exact hH.yo _ _ lj hi hlj hkj
     · exact hH.yo j b lj hj hlj hkj
   · unfold upd at hj;split at hj
     · cases hj
     · obtain ⟨lj,g1,g2,g3,g4,g5⟩:=hH.gh j S G s hj
       exact ⟨lj,g1,g2,G.stable _ _ _ _ _ g3 hyb (fun c o v hv=>hfz' c o v (g5 c o v hv)),g4,g5⟩
   · unfold upd at hj hj'
     split at hj
     · cases hj
     · split at hj'
       · cases hj'
       · exact hH.gh1 j j' S G s S' G' s' hj hj'
   · unfold upd at hj;split at hj
     · cases hj
     · rename_i hne
       obtain ⟨lj,g1,g2,g3,ents,g4,mm,m2⟩:=hH.mps j sz es clk ho hj
       exact ⟨lj,g1,g2,g3,ents,(hkeep _ (Array.getElem?_eq_some_iff.1 g4).1 (hH.sep j i _ _ lj lc hne hj hi g1 hl g2 hkk)).trans g4,mm,m2.mono (fun _ h=>h) (fun _ _ _ h=>h) fun c hc=>hyb.block c fun h=>h hc⟩
   · unfold upd at hj hj'
     split at hj
     · cases hj
     · split at hj'
       · cases hj';cases hb
       · exact hH.mp1 j j' sz es clk ho b hj hj' hb
omit [Inhabited α] in
theorem grow_of {W w':World} (h:BelowP (fun c=>W.heap.size≤c) W w'):∃ q os',w'=grow (W.drewN q) os':=by
 refine ⟨w'.drawn-W.drawn,w'.heap.extract W.heap.size w'.heap.size,?_⟩
 obtain ⟨h1,h2,h3,h4,h5,h6⟩:=h
 cases w'
 cases W
 simp only at h1 h2 h3 h4 h5 h6
 simp only [grow,World.drewN,World.mk.injEq]
 refine ⟨?_,h2,by omega,h1,h3⟩
 apply Array.ext_getElem?
 intro i
 rw [Array.getElem?_append]
 split
 · rename_i hi;exact h6 i (by omega)
 · rename_i hi
   rw [Array.getElem?_extract]
   split
   · congr 1;omega
   · exact Array.getElem?_eq_none (by omega)
theorem CmpG_pure {γ:Type} {P:Program} {g:FuncId} {S:List AV→AV→Prop} (h:FOk P g (pureR S)) {vo:γ→Value} {enc:γ→AV} {cf:List AV→γ→γ→Int} {caps:List AV} (hvo:∀ β x,V β (enc x) (vo x)) (hl:∀ a∈caps,a.loose)
   (hS:∀ x y,S ([enc x,enc y]++caps) (eI (cf caps x y))):CmpG P vo cf g caps:=by
 intro β cv W hcv hfz x y
 have hH:HRel ⟨fun _=>none,β.fz,fun _=>False⟩ (fun _=>none) W (fun c=>W.heap.size≤c):=⟨hfz,fun i cs hi=>by simp at hi,fun i es clk hi=>by simp at hi,fun i j bi bj li lj _ hi=>by simp at hi,fun c hc=>hc.elim,fun i b l hi=>by simp at hi,fun i S G s hi=>by simp at hi,fun i j S G s S' G' s' hi=>by simp at hi,fun i sz es clk ho hi=>by simp at hi,fun i j sz es clk ho b hi=>by simp at hi⟩
 have hv:Vs ⟨fun _=>none,β.fz,fun _=>False⟩ ([enc x,enc y]++caps) ([vo x,vo y]++cv):=Vs_append ⟨_,_,rfl,hvo _ x,_,_,rfl,hvo _ y,rfl⟩ (Vs_loose hl hcv)
 have:=h.2 _ (fun _=>none) 0 (eI (cf caps x y)) (fun _=>none) ⟨hS x y,loose_eI _,rfl⟩ (fun c=>W.heap.size≤c) W ⟨fun _=>none,β.fz,fun _=>False⟩ _ (fun j hj=>absurd rfl hj) hH (fun c hc=>hc) hv
 have e:([vo x,vo y]++cv).toArray=#[vo x,vo y]++cv.toArray:=by simp
 rw [e] at this
 refine this.mono fun e w' ⟨v,β',e1,_,e3,_,e5⟩=>?_
 cases (show v=.int .i64 (cf caps x y) by simpa only [eI,V] using e3)
 exact ⟨e1,grow_of e5⟩
theorem flat1 (enc:α→Value) (d:Array α):flatK (fun x=>[enc x]) 1 d=d.map enc:=by
 refine Array.ext (by simp) fun i h1 h2=>?_
 have hi:i<d.size:=by simpa using h1
 have e:=get_flatK (fun x=>[enc x]) 1 d i (by simpa using hi)
 rw [getElem!_pos _ i h1] at e
 rw [e]
 simp [Nat.mod_one,hi]
theorem putCells1 (enc:α→Value) (off:Nat) (d:Array α) (c:Array Value):putCells id off (d.map enc) c=putCells enc off d c:=by
 unfold putCells
 congr 1
 funext k x
 simp only [Array.size_map,id]
 split
 · rename_i h
   have:k-off<d.size:=by omega
   rw [getElem!_pos (d.map enc) _ (by simpa using this),getElem!_pos d _ this];simp
 · rfl
theorem sortWorld1 (enc:α→Value) (w:World) (blk off m:Nat) (dk:Array α) (os:Array Obj):sortWorldK (fun x=>[enc x]) 1 w blk off m dk os=sortWorld enc w blk off m dk os:=by
 unfold sortWorldK sortWorld putRowK putRow
 rw [flat1]
 congr 2
 funext c
 exact putCells1 enc off dk c
theorem Holds1 {enc:α→Value} {w:World} {blk off:Nat} {d:Array α} (h:HoldsK (fun x=>[enc x]) 1 w blk off d):Holds enc w blk off d:=fun j hj=>by
 have:=h j (by simpa using hj)
 rw [flat1] at this
 rw [getElem!_pos (d.map enc) j (by simpa using hj)] at this
 rw [getElem!_pos d j hj]
 simpa using this
theorem FOk_sort1 {P:Program} {ρ ρ0:Shelf.Ren} (L:SlLaysF.n6 P ρ) (L0:SlLaysF0.n6 P ρ0) {f:FuncId} (hf:ρ.f 6=f) (hf0:ρ0.f 6=f)
   (enc:α→AV) (ev:α→Value) (hev:∀ β x,Vs β (ceE enc x) [ev x]) (hve:∀ β x vs,Vs β (ceE enc x) vs→vs=[ev x]) (h1:∀ x,(ev x).oneCell'=true)
   (cf:List AV→α→α→Int) (hO:∀ caps,SWO (ltOf (cf caps))) (g:FuncId) (eg:∀ args w,(callFunc g args).run P w=.ok (.enter g args) w) (ef:∀ args w,(callFunc f args).run P w=.ok (.enter f args) w)
   (okc:List AV→Prop) (hcmp:∀ caps,okc caps→CmpG P ev cf g caps):FOk P f (blkR 1 (sortS enc okc cf g)):=by
 refine FOk_sortG (k:=1) ev enc (fun x=>[ev x]) hev hve (fun _=>rfl) (by decide) cf hO g ef (fun caps cb blk off cap d w hC hH hb hs=>?_) (fun p cap fv w=>by
   subst hf0;exact AnyF.slices_SortFunc_none (P:=P) (ρ:=ρ0) L0 p cap fv w) okc hcmp
 subst hf
 simp only [sortWorld1] at hC ⊢
 exact Any.slices_SortFunc_eq (P:=P) (ρ:=ρ) L ev h1 (cf caps) (hO caps) g cb blk off cap d w eg hC (Holds1 hH) hb hs
end
end Go.Eng
namespace Go.Eng
section
variable {α β:Type} {S R:Type}
theorem bd_s (a:α) (f:α→Option β):bd (some a) f=f a:=by unfold bd;rfl
theorem cn_t (x y:Option α):cn true x y=x:=by unfold cn;rfl
theorem cn_f (x y:Option α):cn false x y=y:=by unfold cn;rfl
theorem cn_if (b:Bool) (x y:Option α):cn b x y=if b=true then x else y:=by unfold cn;cases b<;>rfl
theorem cn_dec (p:Prop) [Decidable p] (x y:Option α):cn (decide p) x y=if p then x else y:=by
 by_cases h:p
 · rw [if_pos h,decide_eq_true h,cn_t]
 · rw [if_neg h,decide_eq_false h,cn_f]
theorem cn_beq (a b:Int) (x y:Option α):cn (a==b) x y=if a=b then x else y:=by
 by_cases h:a=b
 · rw [if_pos h,beq_iff_eq.2 h,cn_t]
 · rw [if_neg h,beq_false_of_ne h,cn_f]
theorem cn_not (b:Bool) (x y:Option α):cn (!b) x y=cn b y x:=by cases b<;>simp [cn_t,cn_f]
theorem cn_bne (a b:Int) (x y:Option α):cn (a != b) x y=if a=b then y else x:=by
 show cn (!(a==b)) x y=_
 rw [cn_not,cn_beq]
theorem gd_p {G:Prop} [Decidable G] (x:Option α) (h:G):gd G x=x:=by unfold gd;rw [if_pos h]
theorem jn_d {V:Type} (f:V→Option β) (g:(V→Option β)→Option β):jn f g=g f:=by unfold jn;rfl
theorem ctK_n (s:S) (f g:S→Option β) (h:R→Option β):ctK (.nx s) f g h=f s:=by unfold ctK;rfl
theorem ctK_b (s:S) (f g:S→Option β) (h:R→Option β):ctK (.bk s) f g h=g s:=by unfold ctK;rfl
theorem ctK_r (r:R) (f g:S→Option β) (h:R→Option β):ctK (.rt r) f g h=h r:=by unfold ctK;rfl
theorem smK_l (s:S) (f:S→Option β) (g:R→Option β):smK (.inl s) f g=f s:=by unfold smK;rfl
theorem smK_r (r:R) (f:S→Option β) (g:R→Option β):smK (.inr r) f g=g r:=by unfold smK;rfl
theorem ix_p {l:List α} {d:α} {i:Int} {f:α→Option β} (h0:0≤i) (h1:i<(l.length:Int)):ix l d i f=f (l.getD i.toNat d):=by unfold ix;exact gd_p _ ⟨h0,h1⟩
theorem ix_n {l:List α} {d:α} {k:Nat} {f:α→Option β} (h:k<l.length):ix l d (k:Int) f=f (l.getD k d):=by rw [ix_p (by omega) (by omega),Int.toNat_natCast]
theorem lt_d (l:List α) (f:List α→Option β):lt l f=f l:=by unfold lt;rfl
theorem ap_p {l x:List α} {f:List α→Option β} (h:l.length+x.length≤1048576):ap l x f=f (l++x):=by unfold ap;exact gd_p _ h
theorem slc_p {l:List α} {lo hi:Int} {f:List α→Option β} (h0:0≤lo) (h1:lo≤hi) (h2:hi≤(l.length:Int)):slc l lo hi f=f (sub l lo hi):=by unfold slc;exact gd_p _ ⟨h0,h1,h2⟩
theorem FU_val:FU=18446744073709551616:=by unfold FU;rfl
theorem lp_run {body:S→Option (Ct S R)} (I:S→Prop) (μ:S→Nat) (Q:S ⊕ R→Prop)
   (step:∀ s,I s→(∃ s',body s=some (.nx s')∧I s'∧μ s'<μ s)∨(∃ s',body s=some (.bk s')∧Q (.inl s'))∨(∃ r,body s=some (.rt r)∧Q (.inr r))) :
   ∀ (n:Nat) (s:S),I s→μ s<n→∃ o,lp body n s=some o∧Q o
 | 0,s,_,h=>by omega
 | n+1,s,hI,hm=>by
   unfold lp
   rcases step s hI with ⟨s',e,hI',hm'⟩ | ⟨s',e,q⟩ | ⟨r,e,q⟩
   · rw [e,bd_s,ctK_n];exact lp_run I μ Q step n s' hI' (by omega)
   · rw [e,bd_s,ctK_b];exact ⟨_,rfl,q⟩
   · rw [e,bd_s,ctK_r];exact ⟨_,rfl,q⟩
theorem lp_runF {body:S→Option (Ct S R)} (I:S→Prop) (μ:S→Nat) (Q:S ⊕ R→Prop)
   (step:∀ s,I s→(∃ s',body s=some (.nx s')∧I s'∧μ s'<μ s)∨(∃ s',body s=some (.bk s')∧Q (.inl s'))∨(∃ r,body s=some (.rt r)∧Q (.inr r))) (s:S) (hI:I s) (hm:μ s<18446744073709551616) :
   ∃ o,lp body FU s=some o∧Q o:=lp_run I μ Q step FU s hI (by rw [FU_val];exact hm)
theorem lp_fold {body:S→Option (Ct S R)} (I:Nat→S→Prop) (N:Nat) (hN:N<18446744073709551616)
   (step:∀ k s,k<N→I k s→∃ s',body s=some (.nx s')∧I (k+1) s') (stop:∀ s,I N s→body s=some (.bk s)) (s:S) (hI:I 0 s) :
   ∃ s',lp body FU s=some (.inl s')∧I N s':=by
 have key:∀ (m n k:Nat) (s:S),k+m=N→I k s→m<n→∃ s',lp body n s=some (.inl s')∧I N s':=by
   intro m
   induction m with
   | zero=>
     intro n k s hk hI hn
     obtain ⟨n',rfl⟩:∃ n',n=n'+1:=⟨n-1,by omega⟩
     have:k=N:=by omega
     subst this
     unfold lp
     rw [stop s hI,bd_s,ctK_b];exact ⟨_,rfl,hI⟩
   | succ m ih=>
     intro n k s hk hI hn
     obtain ⟨n',rfl⟩:∃ n',n=n'+1:=⟨n-1,by omega⟩
     obtain ⟨s',e,hI'⟩:=step k s (by omega) hI
     unfold lp
     rw [e,bd_s,ctK_n]
     exact ih n' (k+1) s' (by omega) hI' (by omega)
 exact key N FU 0 s (by omega) hI (by rw [FU_val];exact hN)
end
theorem wr_id {x:Int} (h1 : -9223372036854775808≤x) (h2:x≤9223372036854775807):wr x=x:=wrap64 h1 h2
def pickZ (c n:Int):Int:=(if c<0 then -(c+1) else c) % n
theorem pickZ_lt (c:Int) {n:Int} (h:0<n):0≤pickZ c n∧pickZ c n<n:=⟨Int.emod_nonneg _ (by omega),Int.emod_lt_of_pos _ h⟩
theorem pickZ_eq (c n:Int) (hc : -9223372036854775808≤c) (hc2:c≤9223372036854775807) (_hn:0<n):(if c<0 then Int.tmod (wr (0-wr (c+1))) n else Int.tmod c n)=pickZ c n:=by
 unfold pickZ
 split
 · rw [wr_id (x:=c+1) (by omega) (by omega),wr_id (by omega) (by omega),Int.tmod_eq_emod_of_nonneg (by omega)]
   congr 1;omega
 · rw [Int.tmod_eq_emod_of_nonneg (by omega)]
end Go.Eng
namespace Go.Eng
def sm:Nat→(Nat→Int)→Int
 | 0,_=>0
 | n+1,f=>sm n f+f n
theorem sm_congr {n:Nat} {f g:Nat→Int} (h:∀ i,i<n→f i=g i):sm n f=sm n g:=by
 induction n with
 | zero=>rfl
 | succ n ih=>simp only [sm];rw [ih fun i hi=>h i (by omega),h n (by omega)]
theorem sm_add (n:Nat) (f g:Nat→Int):sm n (fun i=>f i+g i)=sm n f+sm n g:=by
 induction n with
 | zero=>rfl
 | succ n ih=>simp only [sm];rw [ih];omega
theorem sm_sub (n:Nat) (f g:Nat→Int):sm n (fun i=>f i-g i)=sm n f-sm n g:=by
 induction n with
 | zero=>rfl
 | succ n ih=>simp only [sm];rw [ih];omega
theorem sm_mul (n:Nat) (c:Int) (f:Nat→Int):sm n (fun i=>c * f i)=c * sm n f:=by
 induction n with
 | zero=>simp [sm]
 | succ n ih=>simp only [sm];rw [ih,Int.mul_add]
theorem sm_zero {n:Nat} {f:Nat→Int} (h:∀ i,i<n→f i=0):sm n f=0:=by
 induction n with
 | zero=>rfl
 | succ n ih=>simp only [sm];rw [ih fun i hi=>h i (by omega),h n (by omega)];rfl
theorem sm_le {n:Nat} {f g:Nat→Int} (h:∀ i,i<n→f i≤g i):sm n f≤sm n g:=by
 induction n with
 | zero=>exact Int.le_refl _
 | succ n ih=>
   simp only [sm]
   have h1:=ih fun i hi=>h i (by omega)
   have h2:=h n (by omega)
   omega
theorem sm_nn {n:Nat} {f:Nat→Int} (h:∀ i,i<n→0≤f i):0≤sm n f:=by
 have:=sm_le (n:=n) (f:=fun _=>0) (g:=f) h
 rwa [sm_zero fun _ _=>rfl] at this
theorem sm_zero_of {n:Nat} {f:Nat→Int} (h:∀ i,i<n→0≤f i) (e:sm n f=0):∀ i,i<n→f i=0:=by
 induction n with
 | zero=>intro i hi;omega
 | succ n ih=>
   intro i hi
   simp only [sm] at e
   have h1:=sm_nn (n:=n) fun i hi=>h i (by omega)
   have h2:=h n (by omega)
   by_cases e2:i=n
   · subst e2;omega
   · exact ih (fun i hi=>h i (by omega)) (by omega) i (by omega)
theorem sm_swap (n m:Nat) (f:Nat→Nat→Int):sm n (fun i=>sm m fun j=>f i j)=sm m fun j=>sm n fun i=>f i j:=by
 induction n with
 | zero=>simp only [sm];exact (sm_zero fun _ _=>rfl).symm
 | succ n ih=>simp only [sm];rw [ih,← sm_add]
theorem sm_one (n k:Nat) (c:Int):sm n (fun i=>if i=k then c else 0)=if k<n then c else 0:=by
 induction n with
 | zero=>simp [sm]
 | succ n ih=>
   simp only [sm];rw [ih]
   by_cases h:k<n
   · rw [if_pos h,if_neg (by omega),if_pos (by omega)];omega
   · by_cases h2:k=n
     · rw [if_neg h,if_pos h2.symm,if_pos (by omega)];omega
     · rw [if_neg h,if_neg (fun e=>h2 e.symm),if_neg (by omega)];rfl
def leav (n:Nat) (M:Nat→Nat→Int) (S:Nat→Bool):Int:=sm n fun a=>if S a then sm n (fun b=>if S b then 0 else M a b) else 0
theorem leav_nn {n:Nat} {M:Nat→Nat→Int} {S:Nat→Bool} (h:∀ a b,a<n→b<n→0≤M a b):0≤leav n M S:=sm_nn fun a ha=>by
 try simp only
 split
 · exact sm_nn fun b hb=>by split;exact Int.le_refl _;exact h a b ha hb
 · exact Int.le_refl _
theorem leav_zero {n:Nat} {M:Nat→Nat→Int} {S:Nat→Bool} (h:∀ a b,a<n→b<n→0≤M a b) (e:leav n M S=0) {a b:Nat} (ha:a<n) (hb:b<n) (sa:S a=true) (sb:S b=false):M a b=0:=by
 have h1:=sm_zero_of (fun a ha=>by
   try simp only
   split
   · exact sm_nn fun b hb=>by split;exact Int.le_refl _;exact h a b ha hb
   · exact Int.le_refl _) e a ha
 simp only [sa,if_true] at h1
 have h2:=sm_zero_of (fun b hb=>by split;exact Int.le_refl _;exact h a b ha hb) h1 b hb
 simpa [sb] using h2
theorem leav_zero' {n:Nat} {M:Nat→Nat→Int} {S:Nat→Bool} (h:∀ a b,a<n→b<n→S a=true→S b=false→M a b=0):leav n M S=0:=sm_zero fun a ha=>by
 try simp only
 split
 · rename_i sa
   exact sm_zero fun b hb=>by
     try simp only
     split
     · rfl
     · rename_i sb;exact h a b ha hb sa (by simpa using sb)
 · rfl
theorem leav_add (n:Nat) (M M':Nat→Nat→Int) (S:Nat→Bool):leav n (fun a b=>M a b+M' a b) S=leav n M S+leav n M' S:=by
 unfold leav
 rw [← sm_add]
 refine sm_congr fun a _=>?_
 try simp only
 split
 · rw [← sm_add]
   exact sm_congr fun b _=>by split<;>omega
 · rfl
theorem leav_congr {n:Nat} {M M':Nat→Nat→Int} {S S':Nat→Bool} (h:∀ a b,a<n→b<n→M a b=M' a b) (k:∀ a,a<n→S a=S' a):leav n M S=leav n M' S':=by
 unfold leav
 refine sm_congr fun a ha=>?_
 simp only [k a ha]
 split
 · exact sm_congr fun b hb=>by simp only [k b hb];split;rfl;exact h a b ha hb
 · rfl

structure Flo (n:Nat) (M0 M:Nat→Nat→Int) (s t:Nat) (v:Int):Prop where
 nn:∀ a b,a<n→b<n→0≤M a b
 sy:∀ a b,a<n→b<n→M a b+M b a=M0 a b+M0 b a
 co:∀ a,a<n→a≠s→a≠t→sm n (fun b=>M0 a b-M a b)=0
 va:sm n (fun b=>M0 s b-M s b)=v
theorem Flo.start {n:Nat} {M0:Nat→Nat→Int} {s t:Nat} (h:∀ a b,a<n→b<n→0≤M0 a b):Flo n M0 M0 s t 0:=
 ⟨h,fun _ _ _ _=>rfl,fun _ _ _ _=>sm_zero fun _ _=>by omega,sm_zero fun _ _=>by omega⟩
theorem anti_zero {n:Nat} {F:Nat→Nat→Int} (h:∀ a b,a<n→b<n→F a b =-F b a):sm n (fun a=>sm n fun b=>F a b)=0:=by
 have e:=sm_swap n n F
 have e2:sm n (fun j=>sm n fun i=>F i j) =-sm n (fun a=>sm n fun b=>F a b):=by
   have:sm n (fun j=>sm n fun i=>F i j)=sm n (fun j=>(-1) * sm n fun i=>F j i):=sm_congr fun j hj=>by
     try simp only
     rw [← sm_mul]
     exact sm_congr fun i hi=>by have:=h i j hi hj;omega
   rw [this,sm_mul];omega
 omega
theorem Flo.cut {n:Nat} {M0 M:Nat→Nat→Int} {s t:Nat} {v:Int} (h:Flo n M0 M s t v) (hs:s<n) {S:Nat→Bool} (Ss:S s=true) (St:S t=false):v=leav n M0 S-leav n M S:=by
 have e1:sm n (fun a=>if S a then sm n (fun b=>M0 a b-M a b) else 0)=v:=by
   have:sm n (fun a=>if S a then sm n (fun b=>M0 a b-M a b) else 0)=sm n fun a=>if a=s then v else 0:=sm_congr fun a ha=>by
     try simp only
     by_cases ea:a=s
     · subst ea;rw [if_pos Ss,if_pos rfl];exact h.va
     · rw [if_neg ea]
       split
       · rename_i sa
         exact h.co a ha ea fun et=>by subst et;rw [St] at sa;cases sa
       · rfl
   rw [this,sm_one,if_pos hs]
 have e2:sm n (fun a=>if S a then sm n (fun b=>M0 a b-M a b) else 0)=sm n (fun a=>sm n fun b=>if S a&&S b then M0 a b-M a b else 0)+leav n (fun a b=>M0 a b-M a b) S:=by
   unfold leav
   rw [← sm_add]
   refine sm_congr fun a ha=>?_
   try simp only
   cases S a with
   | false=>simp only [Bool.false_and,Bool.false_eq_true,if_false];rw [sm_zero fun _ _=>rfl];rfl
   | true=>
     simp only [Bool.true_and,if_true]
     rw [← sm_add]
     exact sm_congr fun b _=>by cases S b<;>simp
 have e3:sm n (fun a=>sm n fun b=>if S a&&S b then M0 a b-M a b else 0)=0:=anti_zero fun a b ha hb=>by
   have:=h.sy a b ha hb
   rw [Bool.and_comm (S b) (S a)]
   split<;>omega
 have e4:leav n M0 S=leav n (fun a b=>M0 a b-M a b) S+leav n M S:=by
   rw [← leav_add]
   exact leav_congr (fun a b _ _=>by omega) fun _ _=>rfl
 omega
theorem Flo.le {n:Nat} {M0 M:Nat→Nat→Int} {s t:Nat} {v:Int} (h:Flo n M0 M s t v) (hs:s<n) {S:Nat→Bool} (Ss:S s=true) (St:S t=false):v≤leav n M0 S:=by
 have:=h.cut hs Ss St
 have:=leav_nn (S:=S) h.nn
 omega
theorem Flo.eq {n:Nat} {M0 M:Nat→Nat→Int} {s t:Nat} {v:Int} (h:Flo n M0 M s t v) (hs:s<n) {S:Nat→Bool} (Ss:S s=true) (St:S t=false) (hz:∀ a b,a<n→b<n→S a=true→S b=false→M a b=0):v=leav n M0 S:=by
 have:=h.cut hs Ss St
 rw [leav_zero' hz] at this
 omega
theorem Flo.tight {n:Nat} {M0 M:Nat→Nat→Int} {s t:Nat} {v:Int} (h:Flo n M0 M s t v) (hs:s<n) {S:Nat→Bool} (Ss:S s=true) (St:S t=false) (e:v=leav n M0 S) {a b:Nat} (ha:a<n) (hb:b<n) (sa:S a=true) (sb:S b=false):M a b=0:=by
 have:=h.cut hs Ss St
 exact leav_zero h.nn (by omega) ha hb sa sb
theorem Flo.up {n:Nat} {M0 M:Nat→Nat→Int} {s t:Nat} {v:Int} (h:Flo n M0 M s t v) {a b:Nat} (ha:a<n) (hb:b<n):M a b≤M0 a b+M0 b a:=by
 have h1:=h.sy a b ha hb
 have h2:=h.nn b a hb ha
 omega

def aug (M:Nat→Nat→Int) (p x:Nat) (r:Int):Nat→Nat→Int:=fun a b=>(if a=p∧b=x then M a b-r else if a=x∧b=p then M a b+r else M a b)
theorem aug_eq {M:Nat→Nat→Int} {p x:Nat} (r:Int) (h:p≠x) (a b:Nat):aug M p x r a b=M a b+((if a=x then (if b=p then r else 0) else 0)-(if a=p then (if b=x then r else 0) else 0)):=by
 unfold aug
 by_cases h1:a=p<;>by_cases h2:b=x<;>by_cases h3:a=x<;>by_cases h4:b=p<;>simp_all<;>omega
theorem aug_row {n:Nat} {M:Nat→Nat→Int} {p x:Nat} (r:Int) (h:p≠x) (hp:p<n) (hx:x<n) (a:Nat):sm n (aug M p x r a)=sm n (M a)+((if a=x then r else 0)-(if a=p then r else 0)):=by
 rw [show sm n (aug M p x r a)=sm n (fun b=>M a b+((if a=x then (if b=p then r else 0) else 0)-(if a=p then (if b=x then r else 0) else 0))) from sm_congr fun b _=>aug_eq r h a b,sm_add,sm_sub]
 congr 1
 have e1:sm n (fun b=>if a=x then (if b=p then r else 0) else 0)=if a=x then r else 0:=by
   by_cases e:a=x
   · simp only [e,if_true];rw [sm_one,if_pos hp]
   · simp only [e,if_false];exact sm_zero fun _ _=>rfl
 have e2:sm n (fun b=>if a=p then (if b=x then r else 0) else 0)=if a=p then r else 0:=by
   by_cases e:a=p
   · simp only [e,if_true];rw [sm_one,if_pos hx]
   · simp only [e,if_false];exact sm_zero fun _ _=>rfl
 rw [e1,e2]
structure Way (n:Nat) (M1 M:Nat→Nat→Int) (t at_:Nat) (r:Int):Prop where
 nn:∀ a b,a<n→b<n→0≤M a b
 sy:∀ a b,a<n→b<n→M a b+M b a=M1 a b+M1 b a
 row:∀ a,a<n→sm n (M a)=sm n (M1 a)+((if a=t then r else 0)-(if a=at_ then r else 0))
theorem Way.start {n:Nat} {M:Nat→Nat→Int} {t:Nat} {r:Int} (h:∀ a b,a<n→b<n→0≤M a b):Way n M M t t r:=⟨h,fun _ _ _ _=>rfl,fun a _=>by omega⟩
theorem Way.step {n:Nat} {M1 M:Nat→Nat→Int} {t x p:Nat} {r:Int} (h:Way n M1 M t x r) (hpx:p≠x) (hp:p<n) (hx:x<n) (hr:0≤r) (hm:r≤M p x):Way n M1 (aug M p x r) t p r where
 nn a b ha hb:=by
   have h1:=h.nn a b ha hb
   unfold aug
   split
   · rename_i e;obtain ⟨rfl,rfl⟩:=e;omega
   · split<;>omega
 sy a b ha hb:=by
   have h1:=h.sy a b ha hb
   rw [aug_eq r hpx,aug_eq r hpx]
   by_cases e1:a=p<;>by_cases e2:b=x<;>by_cases e3:a=x<;>by_cases e4:b=p<;>simp_all<;>omega
 row a ha:=by
   rw [aug_row r hpx hp hx,h.row a ha]
   omega
theorem Flo.more {n:Nat} {M0 M1 M:Nat→Nat→Int} {s t:Nat} {v r:Int} (h:Flo n M0 M1 s t v) (k:Way n M1 M t s r) (hs:s<n) (hne:s≠t):Flo n M0 M s t (v+r) where
 nn:=k.nn
 sy a b ha hb:=(k.sy a b ha hb).trans (h.sy a b ha hb)
 co a ha h1 h2:=by
   have e:=h.co a ha h1 h2
   rw [sm_sub] at e ⊢
   rw [show sm n (fun b=>M a b)=sm n (M a) from rfl,k.row a ha,if_neg h1,if_neg h2]
   have:sm n (fun b=>M1 a b)=sm n (M1 a):=rfl
   omega
 va:=by
   have e:=h.va
   rw [sm_sub] at e ⊢
   rw [show sm n (fun b=>M s b)=sm n (M s) from rfl,k.row s hs,if_neg hne,if_pos rfl]
   have:sm n (fun b=>M1 s b)=sm n (M1 s):=rfl
   omega
end Go.Eng
