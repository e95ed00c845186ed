import Derived.Test.YtkjccabdpeldhaaM5
import Derived.Test.YtkjccabdpeldhaaM4
import Derived.Handy
import Derived.Test.YtkjccabdpeldhaaM3
set_option linter.unusedVariables false
set_option linter.unusedSimpArgs false
set_option linter.unusedSectionVars false
namespace Go.Proofs.Ytkjccabdpeldhaa
open Go Go.Eng
set_option maxHeartbeats 0
set_option maxRecDepth 100000
def reserve_cuts_1_1_F (a0:Int) (a1:Int) (c900:TNet):Option Int:=ix c900.Edges default a1 fun e1=>ix c900.Edges default a0 fun e2=>
   let v3:=(wr (e1.Capacity-e2.Capacity));some v3
def reserve_cuts_1_1_S:List AV→AV→Prop:=fun args r=>∃ a0 a1 c900,args=[eI a0,eI a1,.ep [eI c900.N,(eL 3 eTEdge default) c900.Edges] 0]∧W (reserve_cuts_1_1_F a0 a1 c900) fun y=>r=(eI y)
theorem reserve_cuts_1_1_ok {T:Tbl} (hT:TOk Try.prog T) (hpf:PfOk T PF):FOk Try.prog 85 (pureR reserve_cuts_1_1_S):=by
 refine FOk_pure hT hpf Try.func85 rfl Try.ntmps85 Try.results85 (by decide) ?_
 rintro args r ⟨a0,a1,c900,rfl,h⟩
 refine ⟨nle rfl,?_,?_⟩
 · exact (lsC (lsI _ _) (lsC (lsI _ _) (lsC (lsE (lsC (lsI _ _) (lsC (lsL fun _=>(lo_TEdge _)) lsN))) lsN)))
 rw [reserve_cuts_1_1_F.eq_1] at h
 refine HT_fr dCo rfl fun K hK=>?_;conv=>whnf
 refine hK _ _ _ ?_;clear hK K
 refine HT_fd dCo mix_ok rfl (by kernel_rfl) fun K hK=>?_;conv=>whnf
 refine gKo rfl ?_;conv=>whnf
 refine ix_lk h fun _ h=>?_;conv=>whnf
 refine gKo rfl ?_;conv=>whnf
 refine gKo rfl ?_;conv=>whnf
 refine ix_lk h fun _ h=>?_;conv=>whnf
 refine gKo rfl ?_;conv=>whnf
 refine hK _ _ _ ?_;clear hK K
 refine HT_ret ?_
 replace h:=W_some h
 refine PostP_r dCo fun K hK=>?_;conv=>whnf
 refine hK _ ?_;clear hK K
 cases h
 exact Wk.refl _
def flow_Worst_1_F (a0:Int) (a1:Int) (c900:TNet):Option Int:=ix c900.Edges default a1 fun e1=>ix c900.Edges default a0 fun e2=>
   let v3:=(wr (e1.Capacity-e2.Capacity));some v3
def flow_Worst_1_S:List AV→AV→Prop:=fun args r=>∃ a0 a1 c900,args=[eI a0,eI a1,.ep [eI c900.N,(eL 3 eTEdge default) c900.Edges] 0]∧W (flow_Worst_1_F a0 a1 c900) fun y=>r=(eI y)
theorem flow_Worst_1_ok {T:Tbl} (hT:TOk Try.prog T) (hpf:PfOk T PF):FOk Try.prog 44 (pureR flow_Worst_1_S):=by
 refine FOk_pure hT hpf Try.func44 rfl Try.ntmps44 Try.results44 (by decide) ?_
 rintro args r ⟨a0,a1,c900,rfl,h⟩
 refine ⟨nle rfl,?_,?_⟩
 · exact (lsC (lsI _ _) (lsC (lsI _ _) (lsC (lsE (lsC (lsI _ _) (lsC (lsL fun _=>(lo_TEdge _)) lsN))) lsN)))
 rw [flow_Worst_1_F.eq_1] at h
 refine HT_fr dCo rfl fun K hK=>?_;conv=>whnf
 refine hK _ _ _ ?_;clear hK K
 refine HT_fd dCo mix_ok rfl (by kernel_rfl) fun K hK=>?_;conv=>whnf
 refine gKo rfl ?_;conv=>whnf
 refine ix_lk h fun _ h=>?_;conv=>whnf
 refine gKo rfl ?_;conv=>whnf
 refine gKo rfl ?_;conv=>whnf
 refine ix_lk h fun _ h=>?_;conv=>whnf
 refine gKo rfl ?_;conv=>whnf
 refine hK _ _ _ ?_;clear hK K
 refine HT_ret ?_
 replace h:=W_some h
 refine PostP_r dCo fun K hK=>?_;conv=>whnf
 refine hK _ ?_;clear hK K
 cases h
 exact Wk.refl _
end Go.Proofs.Ytkjccabdpeldhaa
namespace Go.Proofs
open Go.Shelf
def Try.sortN_ren:Go.Shelf.Ren:=⟨fun | 6=>43 | 15=>73 | 14=>72 | 28=>94 | 29=>95 | 20=>86 | 21=>87 | 22=>88 | 23=>89 | 24=>90 | 25=>91 | 26=>92 | 27=>93 | 46=>96 | 47=>97 | 48=>98 | 49=>99 | 50=>100 | 57=>101 | n=>n,fun | 22=>23 | 24=>3 | 25=>43 | 3=>3 | 39=>98 | 0=>0 | 53=>130 | 55=>132 | 4=>4 | 46=>144 | 45=>143 | 50=>99 | 5=>5 | 9=>9 | 66=>149 | 70=>153 | 76=>155 | 77=>112 | n=>n,fun | n=>n⟩
theorem Try.sortN:Go.Proofs.SlLaysF.n6 Try.prog Try.sortN_ren:={
 mixed:=by kernel_rfl
 f6:=⟨Try.f43.name,by decide,Try.func43.trans (congrArg some (by kernel_rfl))⟩
 f14:=⟨Try.f72.name,by decide,Try.func72.trans (congrArg some (by kernel_rfl))⟩
 f15:=Try.func73.trans (congrArg some (by kernel_rfl))
 f20:=⟨Try.f86.name,by decide,Try.func86.trans (congrArg some (by kernel_rfl))⟩
 f21:=⟨Try.f87.name,by decide,Try.func87.trans (congrArg some (by kernel_rfl))⟩
 f22:=⟨Try.f88.name,by decide,Try.func88.trans (congrArg some (by kernel_rfl))⟩
 f23:=⟨Try.f89.name,by decide,Try.func89.trans (congrArg some (by kernel_rfl))⟩
 f24:=⟨Try.f90.name,by decide,Try.func90.trans (congrArg some (by kernel_rfl))⟩
 f25:=⟨Try.f91.name,by decide,Try.func91.trans (congrArg some (by kernel_rfl))⟩
 f26:=⟨Try.f92.name,by decide,Try.func92.trans (congrArg some (by kernel_rfl))⟩
 f27:=⟨Try.f93.name,by decide,Try.func93.trans (congrArg some (by kernel_rfl))⟩
 f28:=Try.func94.trans (congrArg some (by kernel_rfl))
 f29:=Try.func95.trans (congrArg some (by kernel_rfl))
 f46:=⟨Try.f96.name,by decide,Try.func96.trans (congrArg some (by kernel_rfl))⟩
 f47:=Try.func97.trans (congrArg some (by kernel_rfl))
 f48:=Try.func98.trans (congrArg some (by kernel_rfl))
 f49:=⟨Try.f99.name,by decide,Try.func99.trans (congrArg some (by kernel_rfl))⟩
 f50:=⟨Try.f100.name,by decide,Try.func100.trans (congrArg some (by kernel_rfl))⟩
 f57:=⟨Try.f101.name,by decide,Try.func101.trans (congrArg some (by kernel_rfl))⟩
 t0:=Try.underlying0
 a0:=Try.isAgg0
 z0:=Try.sizeOf0
 v0:=Try.zeroValue0
 t3:=Try.underlying3
 a3:=Try.isAgg3
 z3:=Try.sizeOf3
 v3:=Try.zeroValue3
 t4:=Try.underlying4
 a4:=Try.isAgg4
 z4:=Try.sizeOf4
 v4:=Try.zeroValue4
 t5:=Try.underlying5
 a5:=Try.isAgg5
 z5:=Try.sizeOf5
 v5:=Try.zeroValue5
 t9:=Try.underlying9
 a9:=Try.isAgg9
 z9:=Try.sizeOf9
 v9:=Try.zeroValue9
 t22:=Try.underlying23
 a22:=Try.isAgg23
 z22:=Try.sizeOf23
 v22:=Try.zeroValue23
 a24:=Try.isAgg3
 z24:=Try.sizeOf3
 t25:=Try.underlying43
 a25:=Try.isAgg43
 z25:=Try.sizeOf43
 v25:=Try.zeroValue43
 t39:=Try.underlying98
 a39:=Try.isAgg98
 z39:=Try.sizeOf98
 v39:=Try.zeroValue98
 t45:=Try.underlying143
 a45:=Try.isAgg143
 z45:=Try.sizeOf143
 v45:=Try.zeroValue143
 t46:=Try.underlying144
 a46:=Try.isAgg144
 z46:=Try.sizeOf144
 v46:=Try.zeroValue144
 t50:=Try.underlying99
 a50:=Try.isAgg99
 z50:=Try.sizeOf99
 v50:=Try.zeroValue99
 t53:=Try.underlying130
 a53:=Try.isAgg130
 z53:=Try.sizeOf130
 v53:=Try.zeroValue130
 t55:=Try.underlying132
 a55:=Try.isAgg132
 z55:=Try.sizeOf132
 v55:=Try.zeroValue132
 t66:=Try.underlying149
 a66:=Try.isAgg149
 z66:=Try.sizeOf149
 v66:=Try.zeroValue149
 t70:=Try.underlying153
 a70:=Try.isAgg153
 z70:=Try.sizeOf153
 v70:=Try.zeroValue153
 t76:=Try.underlying155
 a76:=Try.isAgg155
 z76:=Try.sizeOf155
 v76:=Try.zeroValue155
 t77:=Try.underlying112
 a77:=Try.isAgg112
 z77:=Try.sizeOf112
 v77:=Try.zeroValue112 }
def Try.sortN0_ren:Go.Shelf.Ren:=⟨fun | 6=>43 | 15=>73 | 14=>72 | 28=>94 | 29=>95 | 20=>86 | 21=>87 | 22=>88 | 23=>89 | 24=>90 | 25=>91 | 26=>92 | 27=>93 | 46=>96 | 47=>97 | 48=>98 | 49=>99 | 50=>100 | 57=>101 | n=>n,fun | 22=>23 | 24=>3 | 25=>43 | 3=>3 | 39=>98 | 0=>0 | 53=>130 | 55=>132 | 4=>4 | 46=>144 | 45=>143 | 50=>99 | 5=>5 | 9=>9 | 66=>149 | 70=>153 | 76=>155 | 77=>112 | n=>n,fun | n=>n⟩
theorem Try.sortN0:Go.Proofs.SlLaysF0.n6 Try.prog Try.sortN0_ren:={
 mixed:=by kernel_rfl
 f6:=⟨Try.f43.name,by decide,Try.func43.trans (congrArg some (by kernel_rfl))⟩
 f14:=⟨Try.f72.name,by decide,Try.func72.trans (congrArg some (by kernel_rfl))⟩
 f15:=Try.func73.trans (congrArg some (by kernel_rfl))
 f20:=⟨Try.f86.name,by decide,Try.func86.trans (congrArg some (by kernel_rfl))⟩
 f21:=⟨Try.f87.name,by decide,Try.func87.trans (congrArg some (by kernel_rfl))⟩
 f22:=⟨Try.f88.name,by decide,Try.func88.trans (congrArg some (by kernel_rfl))⟩
 f23:=⟨Try.f89.name,by decide,Try.func89.trans (congrArg some (by kernel_rfl))⟩
 f24:=⟨Try.f90.name,by decide,Try.func90.trans (congrArg some (by kernel_rfl))⟩
 f25:=⟨Try.f91.name,by decide,Try.func91.trans (congrArg some (by kernel_rfl))⟩
 f26:=⟨Try.f92.name,by decide,Try.func92.trans (congrArg some (by kernel_rfl))⟩
 f27:=⟨Try.f93.name,by decide,Try.func93.trans (congrArg some (by kernel_rfl))⟩
 f28:=Try.func94.trans (congrArg some (by kernel_rfl))
 f29:=Try.func95.trans (congrArg some (by kernel_rfl))
 f46:=⟨Try.f96.name,by decide,Try.func96.trans (congrArg some (by kernel_rfl))⟩
 f47:=Try.func97.trans (congrArg some (by kernel_rfl))
 f48:=Try.func98.trans (congrArg some (by kernel_rfl))
 f49:=⟨Try.f99.name,by decide,Try.func99.trans (congrArg some (by kernel_rfl))⟩
 f50:=⟨Try.f100.name,by decide,Try.func100.trans (congrArg some (by kernel_rfl))⟩
 f57:=⟨Try.f101.name,by decide,Try.func101.trans (congrArg some (by kernel_rfl))⟩
 t0:=Try.underlying0
 a0:=Try.isAgg0
 z0:=Try.sizeOf0
 v0:=Try.zeroValue0
 t3:=Try.underlying3
 a3:=Try.isAgg3
 z3:=Try.sizeOf3
 v3:=Try.zeroValue3
 t4:=Try.underlying4
 a4:=Try.isAgg4
 z4:=Try.sizeOf4
 v4:=Try.zeroValue4
 t5:=Try.underlying5
 a5:=Try.isAgg5
 z5:=Try.sizeOf5
 v5:=Try.zeroValue5
 t9:=Try.underlying9
 a9:=Try.isAgg9
 z9:=Try.sizeOf9
 v9:=Try.zeroValue9
 t22:=Try.underlying23
 a22:=Try.isAgg23
 z22:=Try.sizeOf23
 v22:=Try.zeroValue23
 t25:=Try.underlying43
 a25:=Try.isAgg43
 z25:=Try.sizeOf43
 v25:=Try.zeroValue43
 t39:=Try.underlying98
 a39:=Try.isAgg98
 z39:=Try.sizeOf98
 v39:=Try.zeroValue98
 t45:=Try.underlying143
 a45:=Try.isAgg143
 z45:=Try.sizeOf143
 v45:=Try.zeroValue143
 t46:=Try.underlying144
 a46:=Try.isAgg144
 z46:=Try.sizeOf144
 v46:=Try.zeroValue144
 t50:=Try.underlying99
 a50:=Try.isAgg99
 z50:=Try.sizeOf99
 v50:=Try.zeroValue99
 t53:=Try.underlying130
 a53:=Try.isAgg130
 z53:=Try.sizeOf130
 v53:=Try.zeroValue130
 t55:=Try.underlying132
 a55:=Try.isAgg132
 z55:=Try.sizeOf132
 v55:=Try.zeroValue132
 t66:=Try.underlying149
 a66:=Try.isAgg149
 z66:=Try.sizeOf149
 v66:=Try.zeroValue149
 t70:=Try.underlying153
 a70:=Try.isAgg153
 z70:=Try.sizeOf153
 v70:=Try.zeroValue153
 t76:=Try.underlying155
 a76:=Try.isAgg155
 z76:=Try.sizeOf155
 v76:=Try.zeroValue155
 t77:=Try.underlying112
 a77:=Try.isAgg112
 z77:=Try.sizeOf112
 v77:=Try.zeroValue112 }
end Go.Proofs
namespace Go.Proofs.Ytkjccabdpeldhaa
open Go Go.Eng Go.Shelf Go.RowKit Go.Lib Go.Sort
set_option maxRecDepth 100000
def capAt (n:TNet) (i:Int):Int:=(n.Edges.getD i.toNat default).Capacity
abbrev inR (n:TNet):Type:={i:Int // 0≤i∧i<(n.Edges.length:Int)}
def toR (n:TNet) (l:List Int):List (inR n):=l.filterMap fun i=>if h:0≤i∧i<(n.Edges.length:Int) then some ⟨i,h⟩ else none
def cmpN (n:TNet) (a b:inR n):Int:=wr (capAt n b.1-capAt n a.1)
def sortG (n:TNet) (l:List Int):Bool:=n.Edges.all (fun e=>decide (-2305843009213693952≤e.Capacity)&&decide (e.Capacity≤2305843009213693952))&&(l.all (fun i=>decide (0≤i)&&decide (i<(n.Edges.length:Int)))&&decide (l.length<4611686018427387904))
def sortN (n:TNet) (l:List Int):List Int:=if sortG n l=true then (if h:0<n.Edges.length then (@sortF (inR n) ⟨⟨0,Int.le_refl _,by omega⟩⟩ (cmpN n) (toR n l)).map (·.1) else l) else l
structure SortG (n:TNet) (l:List Int):Prop where
 cap:∀ e∈n.Edges,-2305843009213693952≤e.Capacity∧e.Capacity≤2305843009213693952
 rng:∀ i∈l,0≤i∧i<(n.Edges.length:Int)
 len:l.length<4611686018427387904
theorem sortG_iff {n:TNet} {l:List Int}:sortG n l=true↔SortG n l:=by
 unfold sortG
 simp only [Bool.and_eq_true,List.all_eq_true,decide_eq_true_eq]
 exact ⟨fun h=>⟨h.1,h.2.1,h.2.2⟩,fun h=>⟨h.cap,h.rng,h.len⟩⟩
theorem toR_map {n:TNet}:∀ {l:List Int},(∀ i∈l,0≤i∧i<(n.Edges.length:Int))→(toR n l).map (·.1)=l
 | [],_=>rfl
 | i::l,h=>by
   have h0:=h i List.mem_cons_self
   unfold toR
   rw [List.filterMap_cons,dif_pos h0]
   simp only [List.map_cons]
   congr 1
   exact toR_map fun j hj=>h j (List.mem_cons_of_mem _ hj)
theorem capAt_bd {n:TNet} {l:List Int} (h:SortG n l) (i:inR n) : -2305843009213693952≤capAt n i.1∧capAt n i.1≤2305843009213693952:=by
 have h1:i.1.toNat<n.Edges.length:=by have:=i.2;omega
 unfold capAt
 rw [List.getD_eq_getElem?_getD,List.getElem?_eq_getElem h1]
 exact h.cap _ (List.getElem_mem h1)
theorem cmpN_eq {n:TNet} {l:List Int} (h:SortG n l) (a b:inR n):cmpN n a b=capAt n b.1-capAt n a.1:=by
 have h1:=capAt_bd h a
 have h2:=capAt_bd h b
 unfold cmpN
 rw [wr_id (by omega) (by omega)]
theorem cmpN_lt {n:TNet} {l:List Int} (h:SortG n l) (a b:inR n):ltOf (cmpN n) a b=decide (capAt n b.1<capAt n a.1):=by
 unfold ltOf
 rw [cmpN_eq h]
 by_cases q:capAt n b.1<capAt n a.1
 · rw [decide_eq_true q];simp;omega
 · rw [decide_eq_false q];simp;omega
theorem cmpN_swo {n:TNet} {l:List Int} (h:SortG n l):SWO (ltOf (cmpN n)) where
 irrefl x:=by rw [cmpN_lt h];simp
 trans x y z h1 h2:=by rw [cmpN_lt h] at *;simp at *;omega
 ntrans x y z h1 h2:=by rw [cmpN_lt h] at *;simp at *;omega
theorem sortN_len (n:TNet) (l:List Int):(sortN n l).length=l.length:=by
 unfold sortN
 split
 · rename_i hg
   have h:=sortG_iff.1 hg
   split
   · rename_i hp
     rw [List.length_map,@sortF_len (inR n) ⟨⟨0,Int.le_refl _,by omega⟩⟩ _ (cmpN_swo h),← List.length_map (f:=(·.1)),toR_map h.rng]
   · rfl
 · rfl
theorem sortN_perm {n:TNet} {l:List Int} (hg:sortG n l=true):(sortN n l).Perm l∧(sortN n l).Pairwise fun i j=>capAt n j≤capAt n i:=by
 have h:=sortG_iff.1 hg
 unfold sortN
 rw [if_pos hg]
 split
 · rename_i hp
   letI:Inhabited (inR n):=⟨⟨0,Int.le_refl _,by omega⟩⟩
   obtain ⟨h1,h2⟩:=sortF_facts (cmpN n) (cmpN_swo h) (toR n l)
   have hl:=sortF_len (cmpN n) (cmpN_swo h) (toR n l)
   have hp:(sortF (cmpN n) (toR n l)).Perm (toR n l):=by
     have:=h1.2.2
     rw [← List.size_toArray,Array.extract_size] at this
     simp only [List.size_toArray] at this
     rw [← hl,List.extract_toArray] at this
     simpa using this
   refine ⟨by have:=hp.map (·.1);rwa [toR_map h.rng] at this,?_⟩
   rw [List.pairwise_map]
   refine List.pairwise_iff_getElem.2 fun i j hi hj hij=>?_
   have h3:=h2 i j (Nat.zero_le _) hij (by omega)
   rw [cmpN_lt h] at h3
   simp only [List.getElem!_toArray,List.getElem!_eq_getElem?_getD,List.getElem?_eq_getElem hi,List.getElem?_eq_getElem hj,Option.getD_some,decide_eq_false_iff_not] at h3
   omega
 · rename_i hp
   have:l=[]:=by
     cases l with
     | nil=>rfl
     | cons i l=>have:=h.rng i List.mem_cons_self;omega
   subst this
   exact ⟨.refl _,.nil⟩
def netE (n:TNet):AV:=.ep [eI n.N,(eL 3 eTEdge default) n.Edges] 0
def sortN_S (g:FuncId):Nat→List AV→List AV→AV→List AV→Prop:=fun n rest bs r bs'=>∃ (net:TNet) (l:List Int),sortG net l=true∧rest=[.fn g [] [netE net]]∧n=l.length∧bs=flE (ceE eI) l∧r=.tup []∧bs'=flE (ceE eI) (sortN net l)
theorem FOk_imp {P:Program} {f:FuncId} {s s':FSpec} (h:FOk P f s) (k:∀ a H b r H',s' a H b r H'→s a H b r H'):FOk P f s':=⟨h.1,fun args H base r H' e=>h.2 args H base r H' (k _ _ _ _ _ e)⟩
theorem FOk_or2 {P:Program} {f:FuncId} {s s':FSpec} (h:FOk P f s) (k:FOk P f s'):FOk P f (fun a H b r H'=>s a H b r H'∨s' a H b r H'):=⟨h.1,fun args H base r H' e=>e.elim (h.2 args H base r H') (k.2 args H base r H')⟩
theorem flE_val {n:TNet} (l:List (inR n)):flE (ceE fun x:inR n=>eI x.1) l=flE (ceE eI) (l.map (·.1)):=by
 unfold flE
 rw [List.flatMap_map]
theorem sort0 {P:Program} {ρ0:Shelf.Ren} (L0:SlLaysF0.n6 P ρ0) {f:FuncId} (hf0:ρ0.f 6=f) (ef:∀ args w,(callFunc f args).run P w=.ok (.enter f args) w):FOk P f (blkR 1 fun n rest bs r bs'=>n=0∧(∃ x,rest=[x])∧bs=[]∧r=.tup []∧bs'=[]):=by
 refine ⟨fun av w=>ef av w,fun args H base r H' e B w β av hβ hH hB hv=>?_⟩
 obtain ⟨i,n,rest,bs,bs',rfl,hi,⟨rfl,⟨x,rfl⟩,rfl,rfl,rfl⟩,rfl⟩:=e
 obtain ⟨v0,av1,rfl,hv0,hv1⟩:=hv
 obtain ⟨v1,av2,rfl,hv1,hv2⟩:=hv1
 simp only [Vs] at hv2
 subst hv2
 have hup:upd H i (some (.cells []))=H:=by
   funext j;unfold upd;split
   · rename_i e;subst e;rw [hi]
   · rfl
 rw [hup]
 simp only [V] at hv0
 obtain ⟨_,_,hv0⟩:=hv0
 have key:∃ p cap,v0=.slice p 0 cap:=by
   rcases hv0 with ⟨_,a,rfl⟩ | ⟨m,_,_,rfl⟩
   · exact ⟨_,_,rfl⟩
   · exact ⟨_,_,rfl⟩
 obtain ⟨p,cap,rfl⟩:=key
 subst hf0
 refine (AnyF.slices_SortFunc_none (P:=P) (ρ:=ρ0) L0 p cap v1 w).mono ?_
 rintro e w' ⟨rfl,rfl⟩
 exact ⟨.tuple #[],β,rfl,⟨Beta.le.refl _,fun j hj=>.inl hj,fun c o hc=>.inl hc⟩,by simp only [V];exact ⟨[],rfl,by simp [Vs]⟩,hH,BelowP.refl _ _⟩
def evR {n:TNet} (x:inR n):Value:=.int .i64 x.1
theorem sort_net {g:FuncId} {S:List AV→AV→Prop} (hg:FOk Try.prog g (pureR S)) (eg:∀ args w,(callFunc g args).run Try.prog w=.ok (.enter g args) w) (net:TNet) (hp:0<net.Edges.length) (hc:∃ l,SortG net l) (hS:∀ a b:inR net,S [eI a.1,eI b.1,netE net] (eI (cmpN net a b))) :
   FOk Try.prog 43 (blkR 1 (@sortS (inR net) ⟨⟨0,Int.le_refl _,by omega⟩⟩ (fun x=>eI x.1) (·=[netE net]) (fun _=>cmpN net) g)):=by
 letI:Inhabited (inR net):=⟨⟨0,Int.le_refl _,by omega⟩⟩
 obtain ⟨l,hl⟩:=hc
 exact FOk_sort1 Try.sortN Try.sortN0 rfl rfl (fun x:inR net=>eI x.1) evR (fun β x=>by simp [ceE,cellsL,AV.cells,evR,Vs,V,eI]) (fun β x vs h=>by
   simp only [ceE,cellsL,AV.cells,Vs,V,eI] at h
   obtain ⟨_,_,rfl,rfl,rfl⟩:=h;rfl) (fun _=>rfl) (fun _=>cmpN net) (fun _=>cmpN_swo hl) g eg
   (enters Try.func43 rfl rfl) (·=[netE net]) (fun caps hc=>by
     subst hc
     exact CmpG_pure hg (enc:=fun x:inR net=>eI x.1) (fun β x=>by simp [evR,V,eI]) (lsC (lsE (lsC (lsI _ _) (lsC (lsL fun _=>lo_TEdge _) lsN))) lsN) fun x y=>hS x y)
theorem sort_any {g:FuncId} {S:List AV→AV→Prop} (hg:FOk Try.prog g (pureR S)) (eg:∀ args w,(callFunc g args).run Try.prog w=.ok (.enter g args) w) (hS:∀ (net:TNet) (a b:inR net),S [eI a.1,eI b.1,netE net] (eI (cmpN net a b))):FOk Try.prog 43 (blkR 1 (sortN_S g)):=by
 have h0:=sort0 Try.sortN0 rfl (enters Try.func43 rfl rfl)
 refine ⟨h0.1,fun args H base r H' e=>?_⟩
 obtain ⟨i,n,rest,bs,bs',rfl,hi,⟨net,l,hG,rfl,rfl,rfl,rfl,rfl⟩,rfl⟩:=e
 have h:=sortG_iff.1 hG
 by_cases hn:l=[]
 · subst hn
   have e0:sortN net []=[]:=List.length_eq_zero_iff.1 (sortN_len net [])
   exact h0.2 _ H base _ _ ⟨i,0,_,[],[],rfl,hi,⟨rfl,⟨_,rfl⟩,rfl,rfl,rfl⟩,by rw [e0];rfl⟩
 · have hp:0<net.Edges.length:=by
     cases l with
     | nil=>exact absurd rfl hn
     | cons i l=>have:=h.rng i List.mem_cons_self;omega
   letI:Inhabited (inR net):=⟨⟨0,Int.le_refl _,by omega⟩⟩
   have hs:=sort_net hg eg net hp ⟨l,h⟩ (hS net)
   have hlen:(toR net l).length=l.length:=by rw [← List.length_map (f:=(·.1)),toR_map h.rng]
   refine hs.2 _ H base _ _ ⟨i,l.length,_,flE (ceE eI) l,flE (ceE eI) (sortN net l),rfl,hi,⟨toR net l,[netE net],rfl,hlen.symm,by rw [hlen];exact h.len,rfl,?_,rfl,?_⟩,rfl⟩
   · rw [flE_val,toR_map h.rng]
   · rw [flE_val]
     unfold sortN
     rw [if_pos hG,dif_pos hp]
theorem reserve_cuts_1_1_cmp (net:TNet) (a b:inR net):reserve_cuts_1_1_S [eI a.1,eI b.1,netE net] (eI (cmpN net a b)):=by
 refine ⟨a.1,b.1,net,rfl,W_of (a:=cmpN net a b) ?_ rfl⟩
 unfold reserve_cuts_1_1_F cmpN capAt
 rw [ix_p (by have:=b.2;omega) (by have:=b.2;omega),ix_p (by have:=a.2;omega) (by have:=a.2;omega)]
theorem flow_Worst_1_cmp (net:TNet) (a b:inR net):flow_Worst_1_S [eI a.1,eI b.1,netE net] (eI (cmpN net a b)):=by
 refine ⟨a.1,b.1,net,rfl,W_of (a:=cmpN net a b) ?_ rfl⟩
 unfold flow_Worst_1_F cmpN capAt
 rw [ix_p (by have:=b.2;omega) (by have:=b.2;omega),ix_p (by have:=a.2;omega) (by have:=a.2;omega)]
def sortN_R:FSpec:=blkR 1 fun n rest bs r bs'=>sortN_S 85 n rest bs r bs'∨sortN_S 44 n rest bs r bs'
theorem sortN_S_mk85 {net:TNet} {l:List Int} (h:sortG net l=true):sortN_S 85 l.length [.fn 85 [] [netE net]] (flE (ceE eI) l) (.tup []) (flE (ceE eI) (sortN net l))∨sortN_S 44 l.length [.fn 85 [] [netE net]] (flE (ceE eI) l) (.tup []) (flE (ceE eI) (sortN net l)):=.inl ⟨net,l,h,rfl,rfl,rfl,rfl,rfl⟩
theorem sortN_ok {T:Tbl} (hT:TOk Try.prog T) (hpf:PfOk T PF):FOk Try.prog 43 (sortN_R):=FOk_imp (FOk_or2 (sort_any (reserve_cuts_1_1_ok hT hpf) (enters Try.func85 rfl rfl) reserve_cuts_1_1_cmp) (sort_any (flow_Worst_1_ok hT hpf) (enters Try.func44 rfl rfl) flow_Worst_1_cmp)) fun a H b r H' ⟨i,n,rest,bs,bs',e1,e2,e3,e4⟩=>e3.elim (fun e=>.inl ⟨i,n,rest,bs,bs',e1,e2,e,e4⟩) fun e=>.inr ⟨i,n,rest,bs,bs',e1,e2,e,e4⟩
end Go.Proofs.Ytkjccabdpeldhaa
namespace Go.Proofs.Ytkjccabdpeldhaa
open Go Go.Eng
set_option maxHeartbeats 0
set_option maxRecDepth 100000
def reserve_cuts_S:List AV→AV→Prop:=fun args r=>∃ a0 a1 a2,args=[eTNet a0,(eL 1 eI default) a1,eI a2]∧r=.fn 84 [] [.ep [eI a0.N,(eL 3 eTEdge default) a0.Edges] 0,.ep [eI a2] 0,.ep [(eL 1 eI default) a1] 0]
theorem reserve_cuts_ok {T:Tbl} (hT:TOk Try.prog T) (hpf:PfOk T PF):FOk Try.prog 65 (pureR reserve_cuts_S):=by
 refine FOk_pure hT hpf Try.func65 rfl Try.ntmps65 Try.results65 (by decide) ?_
 rintro args r ⟨a0,a1,a2,rfl,rfl⟩
 refine ⟨nle rfl,?_,?_⟩
 · exact (lsC (lo_TNet _) (lsC (lsL fun _=>(lsI _ _)) (lsC (lsI _ _) lsN)))
 refine HT_fr dCo rfl fun K hK=>?_;conv=>whnf
 refine hK _ _ _ ?_;clear hK K
 refine HT_frzK 3 ?_;(conv=>whnf);refine ⟨_,rfl,?_⟩
 refine HT_frzK 5 ?_;(conv=>whnf);refine ⟨_,rfl,?_⟩
 refine HT_frzK 4 ?_;(conv=>whnf);refine ⟨_,rfl,?_⟩
 refine HT_fr dCo rfl fun K hK=>?_;conv=>whnf
 refine hK _ _ _ ?_;clear hK K
 refine HT_ret ?_
 refine PostP_r dCo fun K hK=>?_;conv=>whnf
 refine hK _ ?_;clear hK K
 exact Wk.refl _

   def reserve_cuts_1_b4 (a9000:Type) (c900:TNet) (c902:List Int) (s1:Int×a9000) (s22:Int×TCut):Option (Ct (Int×TCut) a9000):=cn (decide (s22.1<(wr (c900.N-1)))) (gd (0≤s22.1) (jn (fun p23:TCut=>
   some (.nx ((wr (s22.1+1)),p23))) fun k24=>cn ((band .i64 (bshr .i64 s1.1 s22.1) 1)==1) (ix c902 default s22.1 fun e25=>
   k24 (⟨s22.2.nodes_f,s22.2.failed_f,(wr (s22.2.margin_f-e25))⟩:TCut)) (k24 s22.2))) (some (.bk (s22.1,s22.2)))
theorem W_breserve_cuts_1_b4 {a9000:Type} {c900:TNet} {c902:List Int} {s1:Int×a9000} {s22:Int×TCut} {Φ:Ct (Int×TCut) a9000→Prop} (h:W (reserve_cuts_1_b4 a9000 c900 c902 s1 s22) Φ):W (cn (decide (s22.1<(wr (c900.N-1)))) (gd (0≤s22.1) (jn (fun p23:TCut=>some (.nx ((wr (s22.1+1)),p23))) fun k24=>cn ((band .i64 (bshr .i64 s1.1 s22.1) 1) ==
   1) (ix c902 default s22.1 fun e25=>k24 (⟨s22.2.nodes_f,s22.2.failed_f,(wr (s22.2.margin_f-e25))⟩:TCut)) (k24 s22.2))) (some (.bk (s22.1,s22.2)))) Φ:=h

   def reserve_cuts_1_b3 (a9000:Type) (c900:TNet) (c901:Int) (m13:List Int) (s11:(List Int)×Int) (s14:Int×TCut):Option (Ct (Int×TCut) a9000):=cn (decide (s14.1<(s11.1.length:Int))) (gd (0≤s14.1∧s14.1<(m13.length:Int)) (let v15:=(m13.getD (s14.1).toNat default);
   jn (fun p16:TCut=>some (.nx ((wr (s14.1+1)),p16))) fun k17=>
   cn (decide (s14.1<c901)) (gd (0≤v15) (k17 (⟨s14.2.nodes_f,(bor .i64 s14.2.failed_f (bshl .i64 1 v15)),s14.2.margin_f⟩:TCut))) (ix c900.Edges default v15 fun e18=>
   k17 (⟨s14.2.nodes_f,s14.2.failed_f,(wr (s14.2.margin_f+e18.Capacity))⟩:TCut)))) (some (.bk (s14.1,s14.2)))
theorem W_breserve_cuts_1_b3 {a9000:Type} {c900:TNet} {c901:Int} {m13:List Int} {s11:(List Int)×Int} {s14:Int×TCut} {Φ:Ct (Int×TCut) a9000→Prop} (h:W (reserve_cuts_1_b3 a9000 c900 c901 m13 s11 s14) Φ):W (cn (decide (s14.1<(s11.1.length:Int))) (gd (0≤s14.1∧s14.1<(m13.length:Int)) (let v15:=(m13.getD (s14.1).toNat default);jn (fun p16:TCut=>
   some (.nx ((wr (s14.1+1)),p16))) fun k17=>
   cn (decide (s14.1<c901)) (gd (0≤v15) (k17 (⟨s14.2.nodes_f,(bor .i64 s14.2.failed_f (bshl .i64 1 v15)),s14.2.margin_f⟩:TCut))) (ix c900.Edges default v15 fun e18=>
   k17 (⟨s14.2.nodes_f,s14.2.failed_f,(wr (s14.2.margin_f+e18.Capacity))⟩:TCut)))) (some (.bk (s14.1,s14.2)))) Φ:=h

   def reserve_cuts_1_b2 (a9000:Type) (c900:TNet) (s1:Int×a9000) (s2:(List Int)×Int):Option (Ct ((List Int)×Int) a9000):=cn (decide (s2.2<(c900.Edges.length:Int))) (ix c900.Edges default s2.2 fun e3=>
   jn (fun p4:Bool=>jn (fun p6:(List Int)=>some (.nx (p6,(wr (s2.2+1))))) fun k7=>cn p4 (lt ([s2.2]:List Int) fun l8=>ap s2.1 l8 fun l9=>
   k7 l9) (k7 s2.1)) fun k5=>gd (0≤e3.From) (cn ((band .i64 (bshr .i64 s1.1 e3.From) 1)==1) (gd (0≤e3.To) (k5 ((band .i64 (bshr .i64 s1.1 e3.To) 1) ==
   0))) (k5 false))) (some (.bk (s2.1,s2.2)))
theorem W_breserve_cuts_1_b2 {a9000:Type} {c900:TNet} {s1:Int×a9000} {s2:(List Int)×Int} {Φ:Ct ((List Int)×Int) a9000→Prop} (h:W (reserve_cuts_1_b2 a9000 c900 s1 s2) Φ):W (cn (decide (s2.2<(c900.Edges.length:Int))) (ix c900.Edges default s2.2 fun e3=>jn (fun p4:Bool=>jn (fun p6:(List Int)=>some (.nx (p6,(wr (s2.2+1))))) fun k7=>
   cn p4 (lt ([s2.2]:List Int) fun l8=>ap s2.1 l8 fun l9=>k7 l9) (k7 s2.1)) fun k5=>gd (0≤e3.From) (cn ((band .i64 (bshr .i64 s1.1 e3.From) 1) ==
   1) (gd (0≤e3.To) (k5 ((band .i64 (bshr .i64 s1.1 e3.To) 1)==0))) (k5 false))) (some (.bk (s2.1,s2.2)))) Φ:=h

   def reserve_cuts_1_b1 (a9000:Type) (c900:TNet) (c901:Int) (c902:List Int) (f9001:TCut→a9000→Option a9000) (s1:Int×a9000):Option (Ct (Int×a9000) a9000):=gd (0≤(wr (c900.N-1))) (cn (decide (s1.1<(bshl .i64 1 (wr (c900.N-1))))) (bd (lp (reserve_cuts_1_b2 a9000 c900 s1) FU ([],0)) fun c10=>
   smK c10 (fun s11=>gd (sortG c900 s11.1=true) (lt (sortN c900 s11.1) fun m13=>bd (lp (reserve_cuts_1_b3 a9000 c900 c901 m13 s11) FU (0,(⟨s1.1,0,0⟩:TCut))) fun c19=>
   smK c19 (fun s20=>bd (lp (reserve_cuts_1_b4 a9000 c900 c902 s1) FU (0,s20.2)) fun c26=>smK c26 (fun s27=>bd (f9001 s27.2 s1.2) fun g29=>
   some (.nx ((wr (s1.1+1)),g29))) (fun r28=>some (.rt r28))) (fun r21=>some (.rt r21)))) (fun r12=>some (.rt r12))) (some (.bk (s1.1,s1.2))))
theorem W_breserve_cuts_1_b1 {a9000:Type} {c900:TNet} {c901:Int} {c902:List Int} {f9001:TCut→a9000→Option a9000} {s1:Int×a9000} {Φ:Ct (Int×a9000) a9000→Prop} (h:W (reserve_cuts_1_b1 a9000 c900 c901 c902 f9001 s1) Φ):W (gd (0≤(wr (c900.N-1))) (cn (decide (s1.1<(bshl .i64 1 (wr (c900.N-1))))) (bd (lp (reserve_cuts_1_b2 a9000 c900 s1) FU ([],0)) fun c10=>smK c10 (fun s11=>
   gd (sortG c900 s11.1=true) (lt (sortN c900 s11.1) fun m13=>bd (lp (reserve_cuts_1_b3 a9000 c900 c901 m13 s11) FU (0,(⟨s1.1,0,0⟩:TCut))) fun c19=>smK c19 (fun s20=>
   bd (lp (reserve_cuts_1_b4 a9000 c900 c902 s1) FU (0,s20.2)) fun c26=>smK c26 (fun s27=>bd (f9001 s27.2 s1.2) fun g29=>some (.nx ((wr (s1.1+1)),g29))) (fun r28=>
   some (.rt r28))) (fun r21=>some (.rt r21)))) (fun r12=>some (.rt r12))) (some (.bk (s1.1,s1.2))))) Φ:=h

   def reserve_cuts_1_F (c900:TNet) (c901:Int) (c902:List Int) (a9000:Type) (f9001:TCut→a9000→Option a9000) (g9002:a9000):Option a9000:=bd (lp (reserve_cuts_1_b1 a9000 c900 c901 c902 f9001) FU (1,g9002)) fun c30=>
   smK c30 (fun s31=>some s31.2) (fun r32=>some r32)
def reserve_cuts_1_C:List AV→(∀ σ:Type,(TCut→σ→Option σ)→σ→Option σ)→Prop:=fun caps F=>∃ c900 c901 c902,caps=[.ep [eI c900.N,(eL 3 eTEdge default) c900.Edges] 0,.ep [eI c901] 0,.ep [(eL 1 eI default) c902] 0]∧F=reserve_cuts_1_F c900 c901 c902
theorem reserve_cuts_1_ok {T:Tbl} (hT:TOk Try.prog T) (hpf:PfOk T PF) (h43:T 43=sortN_R):FOk Try.prog 84 (itR Try.prog vTCut reserve_cuts_1_C):=by
 refine FOk_it hT hpf Try.func84 rfl Try.ntmps84 Try.results84 (by decide) ?_
 rintro caps F ⟨c900,c901,c902,rfl,rfl⟩
 refine ⟨(lsC (lsE (lsC (lsI _ _) (lsC (lsL fun _=>(lo_TEdge _)) lsN))) (lsC (lsE (lsC (lsI _ _) lsN)) (lsC (lsE (lsC (lsL fun _=>(lsI _ _)) lsN)) lsN))),nle rfl,fun gS gG a9000 gi f9001 g9002 gfin hP hY h=>?_⟩
 rw [reserve_cuts_1_F.eq_1] at h
 refine HT_fr dCo rfl fun K hK=>?_;conv=>whnf
 refine hK _ _ _ ?_;clear hK K
 refine HT_block ?_
 replace h:=W_bd h
 refine HT_lpK (body:=reserve_cuts_1_b1 _ _ _ _ _) rfl h [0,1,2,3] [] [] (fun kl kh ids b s=>⟨ofL ([(5,eI s.1)]++kl),ofH ([(0,.gh gS gG (gi s.2))]++kh),b+64⟩) ?_;(conv=>whnf);refine And.intro ?_ (fun s m h=>HT_st ?_)
 · refine weak_k ?_;conv=>whnf
   exact And.intro rfl (And.intro (aLc wkI (aLc (WkR_yld (fun _=>rfl)) (aLc (wkr (lsE (lsC (lsI _ _) (lsC (lsL fun _=>(lo_TEdge _)) lsN)))) (aLc (wkr (lsE (lsC (lsI _ _) lsN))) (aLc (wkr (lsE (lsC (lsL fun _=>(lsI _ _)) lsN))) aLn))))) (aLc ⟨some _,rfl,BkR_g rfl⟩ aLn))
 replace h:=W_breserve_cuts_1_b1 (W_bd h)
 refine HT_seq ?_
 refine HT_fr dCo rfl fun K hK=>?_;conv=>whnf
 refine gKo rfl ?_;conv=>whnf
 refine gd_lk h fun _ h=>?_;conv=>whnf
 refine hK _ _ _ ?_;clear hK K
 refine HT_if fun K1 K2 hK1 hK2=>?_;conv=>whnf
 refine cLk h (fun _ h=>?_) (fun _ h=>?_)
 · refine hK1 ?_;clear hK1 hK2 K1 K2
   refine HT_skip ?_
   refine tHn ?_
   refine HT_seq ?_
   refine HT_block ?_
   refine HT_fr dCo rfl fun K hK=>?_;conv=>whnf
   refine hK _ _ _ ?_;clear hK K
   refine HT_seq ?_
   refine HT_fr dCo rfl fun K hK=>?_;conv=>whnf
   refine gKo rfl ?_;conv=>whnf
   refine hK _ _ _ ?_;clear hK K
   refine HT_block ?_
   replace h:=W_bd h
   refine HT_lpQ (body:=reserve_cuts_1_b2 _ _ _) rfl h [0,1,2,3,5,22,23] (fun σ=>keepG σ++keepH σ []++keepT σ []) (fun σ=>keepT σ []++keepH σ []) [] (fun kl kh kr ids b s=>⟨ofL ([(6,.so (b+0) 0 s.1.length 1),(24,eI s.2)]++kl),ofH (([]++kh)++([(b+0,.cells (flE (ceE eI) s.1))]++kr)),b+128⟩) ?_;(conv=>whnf);refine And.intro ?_ (fun s m h=>HT_st ?_)
   · refine weak_r ?_;conv=>whnf
     exact And.intro rfl (And.intro (aLc (WkR.nilso (fun _=>rfl)) (aLc wkI (aLc (WkR_yld (fun _=>rfl)) (aLc (wkr (lsE (lsC (lsI _ _) (lsC (lsL fun _=>(lo_TEdge _)) lsN)))) (aLc (wkr (lsE (lsC (lsI _ _) lsN))) (aLc (wkr (lsE (lsC (lsL fun _=>(lsI _ _)) lsN))) (aLc wkI (aLc (wkr (lsL fun _=>(lo_TEdge _))) (aLc wkI aLn))))))))) (aLc ⟨some _,rfl,BkR_g rfl⟩ (aLc ⟨none,rfl,BkR_nr⟩ aLn)))
   replace h:=W_breserve_cuts_1_b2 (W_bd h)
   refine HT_fr dCo rfl fun K hK=>?_;conv=>whnf
   refine hK _ _ _ ?_;clear hK K
   refine HT_seq ?_
   refine HT_if fun K1 K2 hK1 hK2=>?_;conv=>whnf
   refine cLk h (fun _ h=>?_) (fun _ h=>?_)
   · refine hK1 ?_;clear hK1 hK2 K1 K2
     refine HT_skip ?_
     refine tHn ?_
     refine HT_seq ?_
     refine HT_block ?_
     refine HT_fr dCo rfl fun K hK=>?_;conv=>whnf
     refine ix_lk h fun _ h=>?_;conv=>whnf
     refine nlA rfl ?_;conv=>whnf
     refine bKo rfl ?_;conv=>whnf
     refine And.intro rfl (And.intro (nle rfl) (And.intro rfl ?_));conv=>whnf
     refine hK _ _ _ ?_;clear hK K
     refine HT_fr dCo rfl fun K hK=>?_;conv=>whnf
     replace h:=W_jn h
     refine nlA rfl ?_;conv=>whnf
     refine bKo rfl ?_;conv=>whnf
     refine gKo rfl ?_;conv=>whnf
     refine gd_lk h fun _ h=>?_;conv=>whnf
     refine cLk h (fun _ h=>?_) (fun _ h=>?_)<;>(conv=>whnf)
     · refine nlA rfl ?_;conv=>whnf
       refine bKo rfl ?_;conv=>whnf
       refine gKo rfl ?_;conv=>whnf
       refine gd_lk h fun _ h=>?_;conv=>whnf
       refine hK _ _ _ ?_;clear hK K
       replace h:=W_jn h
       refine HT_if fun K1 K2 hK1 hK2=>?_;conv=>whnf
       refine cLk h (fun _ h=>?_) (fun _ h=>?_)
       · refine hK1 ?_;clear hK1 hK2 K1 K2
         refine HT_f dCo rfl fun K hK=>?_;conv=>whnf
         refine lt_lk (enc:=eI) (d:=default) dCo h rfl rfl rfl ⟨nle rfl,nle rfl,rfl⟩ rfl ⟨⟨rfl,rfl,rfl⟩,trivial⟩ (fun h=>?_);conv=>whnf
         refine apo_lk (enc:=eI) (d:=default) dCo h rfl rfl rfl ⟨rfl,nle rfl,nle rfl,nle rfl,rfl⟩ (fun _=>rfl) (fun _=>rfl) (fun _=>nofun) rfl (rfl) (fun h=>?_);conv=>whnf
         refine hK _ _ _ ?_;clear hK K
         refine iBn ?_
         refine tHn ?_
         refine HT_f dCo rfl fun K hK=>?_;conv=>whnf
         refine hK _ _ _ ?_;clear hK K
         refine tHn ?_
         replace h:=W_xnx h
         refine ⟨_,h,?_⟩
         refine weak_r ?_;conv=>whnf
         exact And.intro rfl (And.intro (aLc (WkR.so (fun _=>rfl)) (aLc wkI (aLc (WkR_yld (fun _=>rfl)) (aLc (wkr (lsE (lsC (lsI _ _) (lsC (lsL fun _=>(lo_TEdge _)) lsN)))) (aLc (wkr (lsE (lsC (lsI _ _) lsN))) (aLc (wkr (lsE (lsC (lsL fun _=>(lsI _ _)) lsN))) (aLc wkI (aLc (wkr (lsL fun _=>(lo_TEdge _))) (aLc wkI aLn))))))))) (aLc ⟨some _,rfl,BkR_g rfl⟩ (aLc ⟨some _,rfl,BkR_r rfl (fun _=>(lsC (lsI _ _) lsN))⟩ aLn)))
       refine hK2 ?_;clear hK1 hK2 K1 K2
       refine HT_skip ?_
       refine iBn ?_
       refine tHn ?_
       refine HT_f dCo rfl fun K hK=>?_;conv=>whnf
       refine hK _ _ _ ?_;clear hK K
       refine tHn ?_
       replace h:=W_xnx h
       refine ⟨_,h,?_⟩
       refine weak_r ?_;conv=>whnf
       exact And.intro rfl (And.intro (aLc (WkR.so (fun _=>rfl)) (aLc wkI (aLc (WkR_yld (fun _=>rfl)) (aLc (wkr (lsE (lsC (lsI _ _) (lsC (lsL fun _=>(lo_TEdge _)) lsN)))) (aLc (wkr (lsE (lsC (lsI _ _) lsN))) (aLc (wkr (lsE (lsC (lsL fun _=>(lsI _ _)) lsN))) (aLc wkI (aLc (wkr (lsL fun _=>(lo_TEdge _))) (aLc wkI aLn))))))))) (aLc ⟨some _,rfl,BkR_g rfl⟩ (aLc ⟨some _,rfl,BkR_r rfl (fun _=>(lsC (lsI _ _) lsN))⟩ aLn)))
     refine hK _ _ _ ?_;clear hK K
     replace h:=W_jn h
     refine HT_if fun K1 K2 hK1 hK2=>?_;conv=>whnf
     refine hK2 ?_;clear hK1 hK2 K1 K2
     replace h:=W_cnF h
     refine HT_skip ?_
     refine iBn ?_
     refine tHn ?_
     refine HT_f dCo rfl fun K hK=>?_;conv=>whnf
     refine hK _ _ _ ?_;clear hK K
     refine tHn ?_
     replace h:=W_xnx h
     refine ⟨_,h,?_⟩
     refine weak_r ?_;conv=>whnf
     exact And.intro rfl (And.intro (aLc (WkR.so (fun _=>rfl)) (aLc wkI (aLc (WkR_yld (fun _=>rfl)) (aLc (wkr (lsE (lsC (lsI _ _) (lsC (lsL fun _=>(lo_TEdge _)) lsN)))) (aLc (wkr (lsE (lsC (lsI _ _) lsN))) (aLc (wkr (lsE (lsC (lsL fun _=>(lsI _ _)) lsN))) (aLc wkI (aLc (wkr (lsL fun _=>(lo_TEdge _))) (aLc wkI aLn))))))))) (aLc ⟨some _,rfl,BkR_g rfl⟩ (aLc ⟨some _,rfl,BkR_r rfl (fun _=>(lsC (lsI _ _) lsN))⟩ aLn)))
   refine hK2 ?_;clear hK1 hK2 K1 K2
   refine HT_exit ?_
   refine Then_e ?_
   refine Then_e ?_
   refine InBlock_e ?_
   replace h:=W_xbk h
   replace h:=W_inl h
   refine tHn ?_
   refine HT_fr dCo rfl fun K hK=>?_;conv=>whnf
   refine gd_lk_u h fun hg h=>?_
   replace h:=W_lt h
   refine callsK_blk h43 (WkL.refl _) rfl (sortN_S_mk85 hg) ?_;conv=>whnf
   refine hK _ _ _ ?_;clear hK K
   refine HT_fr dCo rfl fun K hK=>?_;conv=>whnf
   refine bKo rfl ?_;conv=>whnf
   refine And.intro rfl (And.intro (nle rfl) (And.intro rfl ?_));conv=>whnf
   refine hK _ _ _ ?_;clear hK K
   refine HT_seq ?_
   refine HT_fr dCo rfl fun K hK=>?_;conv=>whnf
   refine hK _ _ _ ?_;clear hK K
   refine HT_block ?_
   replace h:=W_bd h
   refine HT_lpQ (body:=reserve_cuts_1_b3 _ _ _ _ _) rfl h [0,1,2,3,5,9,53,54] (fun σ=>keepG σ++keepH σ []++keepT σ []) (fun σ=>keepT σ []++keepH σ [53]) [9] (fun kl kh kr ids b s=>⟨ofL ([(55,eI s.1)]++kl),ofH (([(nthN ids 0,.cells [eI s.2.nodes_f,eI s.2.failed_f,eI s.2.margin_f])]++kh)++([]++kr)),b+64⟩) ?_;(conv=>whnf);refine And.intro ?_ (fun s m h=>HT_st ?_)
   · refine weak_r ?_;conv=>whnf
     exact And.intro rfl (And.intro (aLc wkI (aLc (WkR_yld (fun _=>rfl)) (aLc (wkr (lsE (lsC (lsI _ _) (lsC (lsL fun _=>(lo_TEdge _)) lsN)))) (aLc (wkr (lsE (lsC (lsI _ _) lsN))) (aLc (wkr (lsE (lsC (lsL fun _=>(lsI _ _)) lsN))) (aLc wkI (aLc (WkR.ptr (fun _=>rfl)) (aLc (WkR.so (fun _=>rfl)) (aLc wkI aLn))))))))) (aLc ⟨some _,rfl,bRc rfl (cKc wkI (cKc wkI (cKc wkI cKn)))⟩ (aLc ⟨some _,rfl,BkR_g rfl⟩ (aLc ⟨some _,rfl,BkR_r rfl (fun _=>(lsC (lsI _ _) lsN))⟩ aLn))))
   replace h:=W_breserve_cuts_1_b3 (W_bd h)
   refine HT_fr dCo rfl fun K hK=>?_;conv=>whnf
   refine hK _ _ _ ?_;clear hK K
   refine HT_seq ?_
   refine HT_if fun K1 K2 hK1 hK2=>?_;conv=>whnf
   refine cLk h (fun _ h=>?_) (fun _ h=>?_)
   · refine hK1 ?_;clear hK1 hK2 K1 K2
     refine HT_skip ?_
     refine tHn ?_
     refine HT_seq ?_
     refine HT_block ?_
     refine HT_fr dCo rfl fun K hK=>?_;conv=>whnf
     refine gd_lkN h (sortN_len _ _) fun hx100 h=>?_;conv=>whnf
     refine nlA rfl ?_;conv=>whnf
     refine bKo rfl ?_;conv=>whnf
     refine get_flN (enc:=eI) (d:=default) (q:=0) (fun _=>rfl) (sortN_len _ _) hx100 (nle rfl) rfl ?_;conv=>whnf
     refine hK _ _ _ ?_;clear hK K
     refine HT_fr dCo rfl fun K hK=>?_;conv=>whnf
     refine gKo rfl ?_;conv=>whnf
     refine hK _ _ _ ?_;clear hK K
     replace h:=W_jn h
     refine HT_if fun K1 K2 hK1 hK2=>?_;conv=>whnf
     refine cLk h (fun _ h=>?_) (fun _ h=>?_)
     · refine hK1 ?_;clear hK1 hK2 K1 K2
       refine HT_fD dCo mix_ok rfl (by kernel_rfl) fun K hK=>?_;conv=>whnf
       refine nlA rfl ?_;conv=>whnf
       refine bKo rfl ?_;conv=>whnf
       refine gKo rfl ?_;conv=>whnf
       refine gd_lk h fun _ h=>?_;conv=>whnf
       refine bKo rfl ?_;conv=>whnf
       refine And.intro rfl (And.intro (nle rfl) (And.intro rfl ?_));conv=>whnf
       refine hK _ _ _ ?_;clear hK K
       refine iBn ?_
       refine tHn ?_
       refine HT_f dCo rfl fun K hK=>?_;conv=>whnf
       refine hK _ _ _ ?_;clear hK K
       refine tHn ?_
       replace h:=W_xnx h
       refine ⟨_,h,?_⟩
       refine weak_r ?_;conv=>whnf
       exact And.intro rfl (And.intro (aLc wkI (aLc (WkR_yld (fun _=>rfl)) (aLc (wkr (lsE (lsC (lsI _ _) (lsC (lsL fun _=>(lo_TEdge _)) lsN)))) (aLc (wkr (lsE (lsC (lsI _ _) lsN))) (aLc (wkr (lsE (lsC (lsL fun _=>(lsI _ _)) lsN))) (aLc wkI (aLc (WkR.ptr (fun _=>rfl)) (aLc (WkR.so (fun _=>rfl)) (aLc wkI aLn))))))))) (aLc ⟨some _,rfl,bRc rfl (cKc wkI (cKc wkI (cKc wkI cKn)))⟩ (aLc ⟨some _,rfl,BkR_g rfl⟩ (aLc ⟨some _,rfl,BkR_r rfl (fun _=>(lsC (lsI _ _) lsN))⟩ aLn))))
     refine hK2 ?_;clear hK1 hK2 K1 K2
     refine HT_fD dCo mix_ok rfl (by kernel_rfl) fun K hK=>?_;conv=>whnf
     refine nlA rfl ?_;conv=>whnf
     refine bKo rfl ?_;conv=>whnf
     refine gKo rfl ?_;conv=>whnf
     refine gKo rfl ?_;conv=>whnf
     refine ix_lk h fun _ h=>?_;conv=>whnf
     refine gKo rfl ?_;conv=>whnf
     refine bKo rfl ?_;conv=>whnf
     refine And.intro rfl (And.intro (nle rfl) (And.intro rfl ?_));conv=>whnf
     refine hK _ _ _ ?_;clear hK K
     refine iBn ?_
     refine tHn ?_
     refine HT_f dCo rfl fun K hK=>?_;conv=>whnf
     refine hK _ _ _ ?_;clear hK K
     refine tHn ?_
     replace h:=W_xnx h
     refine ⟨_,h,?_⟩
     refine weak_r ?_;conv=>whnf
     exact And.intro rfl (And.intro (aLc wkI (aLc (WkR_yld (fun _=>rfl)) (aLc (wkr (lsE (lsC (lsI _ _) (lsC (lsL fun _=>(lo_TEdge _)) lsN)))) (aLc (wkr (lsE (lsC (lsI _ _) lsN))) (aLc (wkr (lsE (lsC (lsL fun _=>(lsI _ _)) lsN))) (aLc wkI (aLc (WkR.ptr (fun _=>rfl)) (aLc (WkR.so (fun _=>rfl)) (aLc wkI aLn))))))))) (aLc ⟨some _,rfl,bRc rfl (cKc wkI (cKc wkI (cKc wkI cKn)))⟩ (aLc ⟨some _,rfl,BkR_g rfl⟩ (aLc ⟨some _,rfl,BkR_r rfl (fun _=>(lsC (lsI _ _) lsN))⟩ aLn))))
   refine hK2 ?_;clear hK1 hK2 K1 K2
   refine HT_exit ?_
   refine Then_e ?_
   refine Then_e ?_
   refine InBlock_e ?_
   replace h:=W_xbk h
   replace h:=W_inl h
   refine tHn ?_
   refine HT_seq ?_
   refine HT_fr dCo rfl fun K hK=>?_;conv=>whnf
   refine gKo rfl ?_;conv=>whnf
   refine hK _ _ _ ?_;clear hK K
   refine HT_block ?_
   replace h:=W_bd h
   refine HT_lpG (body:=reserve_cuts_1_b4 _ _ _ _) rfl h [0,1,2,3,5,9,82] (fun σ=>keepG σ++keepH σ []++keepT σ []) [9] (fun kl kh ids b s=>⟨ofL ([(83,eI s.1)]++kl),ofH ([(nthN ids 0,.cells [eI s.2.nodes_f,eI s.2.failed_f,eI s.2.margin_f])]++kh),b+64⟩) ?_;(conv=>whnf);refine And.intro ?_ (fun s m h=>HT_st ?_)
   · refine weak_k ?_;conv=>whnf
     exact And.intro rfl (And.intro (aLc wkI (aLc (WkR_yld (fun _=>rfl)) (aLc (wkr (lsE (lsC (lsI _ _) (lsC (lsL fun _=>(lo_TEdge _)) lsN)))) (aLc (wkr (lsE (lsC (lsI _ _) lsN))) (aLc (wkr (lsE (lsC (lsL fun _=>(lsI _ _)) lsN))) (aLc wkI (aLc (WkR.ptr (fun _=>rfl)) (aLc wkI aLn)))))))) (aLc ⟨some _,rfl,bRc rfl (cKc wkI (cKc wkI (cKc wkI cKn)))⟩ (aLc ⟨some _,rfl,BkR_g rfl⟩ aLn)))
   replace h:=W_breserve_cuts_1_b4 (W_bd h)
   refine HT_fr dCo rfl fun K hK=>?_;conv=>whnf
   refine hK _ _ _ ?_;clear hK K
   refine HT_seq ?_
   refine HT_if fun K1 K2 hK1 hK2=>?_;conv=>whnf
   refine cLk h (fun _ h=>?_) (fun _ h=>?_)
   · refine hK1 ?_;clear hK1 hK2 K1 K2
     refine HT_skip ?_
     refine tHn ?_
     refine HT_seq ?_
     refine HT_block ?_
     refine HT_fr dCo rfl fun K hK=>?_;conv=>whnf
     refine hK _ _ _ ?_;clear hK K
     refine HT_fr dCo rfl fun K hK=>?_;conv=>whnf
     refine gd_lk h fun _ h=>?_;conv=>whnf
     refine hK _ _ _ ?_;clear hK K
     replace h:=W_jn h
     refine HT_if fun K1 K2 hK1 hK2=>?_;conv=>whnf
     refine cLk h (fun _ h=>?_) (fun _ h=>?_)
     · refine hK1 ?_;clear hK1 hK2 K1 K2
       refine HT_fD dCo mix_ok rfl (by kernel_rfl) fun K hK=>?_;conv=>whnf
       refine nlA rfl ?_;conv=>whnf
       refine bKo rfl ?_;conv=>whnf
       refine gKo rfl ?_;conv=>whnf
       refine gKo rfl ?_;conv=>whnf
       refine ix_lk h fun _ h=>?_;conv=>whnf
       refine gKo rfl ?_;conv=>whnf
       refine bKo rfl ?_;conv=>whnf
       refine And.intro rfl (And.intro (nle rfl) (And.intro rfl ?_));conv=>whnf
       refine hK _ _ _ ?_;clear hK K
       refine iBn ?_
       refine tHn ?_
       refine HT_f dCo rfl fun K hK=>?_;conv=>whnf
       refine hK _ _ _ ?_;clear hK K
       refine tHn ?_
       replace h:=W_xnx h
       refine ⟨_,h,?_⟩
       refine weak_k ?_;conv=>whnf
       exact And.intro rfl (And.intro (aLc wkI (aLc (WkR_yld (fun _=>rfl)) (aLc (wkr (lsE (lsC (lsI _ _) (lsC (lsL fun _=>(lo_TEdge _)) lsN)))) (aLc (wkr (lsE (lsC (lsI _ _) lsN))) (aLc (wkr (lsE (lsC (lsL fun _=>(lsI _ _)) lsN))) (aLc wkI (aLc (WkR.ptr (fun _=>rfl)) (aLc wkI aLn)))))))) (aLc ⟨some _,rfl,bRc rfl (cKc wkI (cKc wkI (cKc wkI cKn)))⟩ (aLc ⟨some _,rfl,BkR_g rfl⟩ aLn)))
     refine hK2 ?_;clear hK1 hK2 K1 K2
     refine HT_skip ?_
     refine iBn ?_
     refine tHn ?_
     refine HT_f dCo rfl fun K hK=>?_;conv=>whnf
     refine hK _ _ _ ?_;clear hK K
     refine tHn ?_
     replace h:=W_xnx h
     refine ⟨_,h,?_⟩
     refine weak_k ?_;conv=>whnf
     exact And.intro rfl (And.intro (aLc wkI (aLc (WkR_yld (fun _=>rfl)) (aLc (wkr (lsE (lsC (lsI _ _) (lsC (lsL fun _=>(lo_TEdge _)) lsN)))) (aLc (wkr (lsE (lsC (lsI _ _) lsN))) (aLc (wkr (lsE (lsC (lsL fun _=>(lsI _ _)) lsN))) (aLc wkI (aLc (WkR.ptr (fun _=>rfl)) (aLc wkI aLn)))))))) (aLc ⟨some _,rfl,bRc rfl (cKc wkI (cKc wkI (cKc wkI cKn)))⟩ (aLc ⟨some _,rfl,BkR_g rfl⟩ aLn)))
   refine hK2 ?_;clear hK1 hK2 K1 K2
   refine HT_exit ?_
   refine Then_e ?_
   refine Then_e ?_
   refine InBlock_e ?_
   replace h:=W_xbk h
   replace h:=W_inl h
   refine tHn ?_
   refine HT_fr dCo rfl fun K hK=>?_;conv=>whnf
   refine nlA rfl ?_;conv=>whnf
   refine bKo rfl ?_;conv=>whnf
   refine nlA rfl ?_;conv=>whnf
   refine yld_lk hY hP h rfl (vinv_86 _) (fun _ h=>?_);conv=>whnf
   refine hK _ _ _ ?_;clear hK K
   refine HT_if fun K1 K2 hK1 hK2=>?_;conv=>whnf
   refine hK2 ?_;clear hK1 hK2 K1 K2
   refine HT_skip ?_
   refine iBn ?_
   refine tHn ?_
   refine HT_f dCo rfl fun K hK=>?_;conv=>whnf
   refine hK _ _ _ ?_;clear hK K
   refine tHn ?_
   replace h:=W_xnx h
   refine ⟨_,h,?_⟩
   refine weak_k ?_;conv=>whnf
   exact And.intro rfl (And.intro (aLc wkI (aLc (WkR_yld (fun _=>rfl)) (aLc (wkr (lsE (lsC (lsI _ _) (lsC (lsL fun _=>(lo_TEdge _)) lsN)))) (aLc (wkr (lsE (lsC (lsI _ _) lsN))) (aLc (wkr (lsE (lsC (lsL fun _=>(lsI _ _)) lsN))) aLn))))) (aLc ⟨some _,rfl,BkR_g rfl⟩ aLn))
 refine hK2 ?_;clear hK1 hK2 K1 K2
 refine HT_exit ?_
 refine Then_e ?_
 refine Then_e ?_
 refine InBlock_e ?_
 replace h:=W_xbk h
 replace h:=W_inl h
 replace h:=W_some h
 cases h
 exact ⟨rfl,rfl⟩
def reserve_worst_b1 (x1:TCut) (s2:TCut):Option TCut:=jn (fun p4:Bool=>jn (fun p6:TCut=>some p6) fun k7=>cn p4 (k7 x1) (k7 s2)) fun k5=>cn ((s2.nodes_f ==
   0)&&((s2.failed_f==0)&&(s2.margin_f==0))) (k5 true) (k5 (decide (x1.margin_f<s2.margin_f)))
def reserve_worst_F (a0:TNet) (a1:List Int) (a2:Int):Option TCut:=bd (reserve_cuts_1_F a0 a2 a1 TCut (reserve_worst_b1) (⟨0,0,0⟩:TCut)) fun s3=>some s3
def reserve_worst_S:List AV→AV→Prop:=fun args r=>∃ a0 a1 a2,args=[eTNet a0,(eL 1 eI default) a1,eI a2]∧W (reserve_worst_F a0 a1 a2) fun y=>r=(eTCut y)
theorem reserve_worst_ok {T:Tbl} (hT:TOk Try.prog T) (hpf:PfOk T PF) (h65:T 65=pureR reserve_cuts_S) (h84:T 84=itR Try.prog vTCut reserve_cuts_1_C):FOk Try.prog 36 (pureR reserve_worst_S):=by
 refine FOk_pure hT hpf Try.func36 rfl Try.ntmps36 Try.results36 (by decide) ?_
 rintro args r ⟨a0,a1,a2,rfl,h⟩
 refine ⟨nle rfl,?_,?_⟩
 · exact (lsC (lo_TNet _) (lsC (lsL fun _=>(lsI _ _)) (lsC (lsI _ _) lsN)))
 rw [reserve_worst_F.eq_1] at h
 refine HT_fr dCo rfl fun K hK=>?_;conv=>whnf
 refine hK _ _ _ ?_;clear hK K
 refine HT_fr dCo rfl fun K hK=>?_;conv=>whnf
 refine hK _ _ _ ?_;clear hK K
 refine HT_seq ?_
 refine HT_fr dCo rfl fun K hK=>?_;conv=>whnf
 refine nlA rfl ?_;conv=>whnf
 refine bKo rfl ?_;conv=>whnf
 refine nlA rfl ?_;conv=>whnf
 refine callpK_pure h65 (S:=reserve_cuts_S) ⟨a0,a1,a2,rfl,rfl⟩ (loose_fn lsN (lsC (lsE (lsC (lsI _ _) (lsC (lsL fun _=>(lo_TEdge _)) lsN))) (lsC (lsE (lsC (lsI _ _) lsN)) (lsC (lsE (lsC (lsL fun _=>(lsI _ _)) lsN)) lsN)))) (WkL.refl _) ?_;conv=>whnf
 refine hK _ _ _ ?_;clear hK K
 refine HT_block ?_
 refine HT_ancK rfl rfl [6,7,12] [(6,32),(7,33)] ?_;conv=>whnf
 refine And.intro ?_ ?_
 · refine weak_kN ?_;conv=>whnf
   exact And.intro rfl (And.intro (aLc (WkR.ptr (fun _=>rfl)) (aLc (WkR.ptr (fun _=>rfl)) (aLc (WkR_fn VsR_nil (VsR_cons (wkr (lsE (lsC (lsI _ _) (lsC (lsL fun _=>(lo_TEdge _)) lsN)))) (VsR_cons (wkr (lsE (lsC (lsI _ _) lsN))) (VsR_cons (wkr (lsE (lsC (lsL fun _=>(lsI _ _)) lsN))) VsR_nil)))) aLn))) (aLc ⟨some _,rfl,bRc rfl (cKc wkI (cKc wkI (cKc wkI cKn)))⟩ (aLc ⟨some _,rfl,bRc rfl (cKc wkI (cKc wkI (cKc wkI cKn)))⟩ aLn)))
 obtain ⟨gfin,hfin,h⟩:=W_inv (W_bd h)
 refine HT_rngS rfl rfl (fun x=>[eTCut x]) vx_86 (fun _=>rfl) (by decide) h84 rfl (F:=reserve_cuts_1_F _ _ _) hfin ⟨_,_,_,rfl,rfl⟩ (nle rfl) (aLc (a64_ptr (by decide)) (aLc (a64_ptr (by decide)) (aLc (a64_fn a64_nil (a64_cons (a64_ep (a64_cons (a64_loose (lsI _ _)) (a64_cons (a64_loose (lsL fun _=>(lo_TEdge _))) a64_nil))) (a64_cons (a64_ep (a64_cons (a64_loose (lsI _ _)) a64_nil)) (a64_cons (a64_ep (a64_cons (a64_loose (lsL fun _=>(lsI _ _))) a64_nil)) a64_nil)))) aLn))) (fun s=>[(32,.cells [eI 0,eI 0,eI 0]),(33,.cells [eI s.nodes_f,eI s.failed_f,eI s.margin_f])]) (fun s=>(aLc rfl (aLc rfl aLn))) (fun x s gfin h=>?_) ?_
 · clear hfin
   rw [reserve_worst_b1.eq_1] at h
   refine HT_f dCo rfl fun K hK=>?_;conv=>whnf
   refine bKo rfl ?_;conv=>whnf
   refine And.intro rfl (And.intro (nle rfl) (And.intro rfl ?_));conv=>whnf
   refine hK _ _ _ ?_;clear hK K
   refine tHn ?_
   refine HT_block ?_
   refine HT_fr dCo rfl fun K hK=>?_;conv=>whnf
   replace h:=W_jn h
   refine nlA rfl ?_;conv=>whnf
   refine bKo rfl ?_;conv=>whnf
   refine nlA rfl ?_;conv=>whnf
   refine eqK_e (eqv86 _ _ _ _ _ _) ?_;conv=>whnf
   refine cLk h (fun _ h=>?_) (fun _ h=>?_)<;>(conv=>whnf)
   · refine hK _ _ _ ?_;clear hK K
     replace h:=W_jn h
     refine HT_if fun K1 K2 hK1 hK2=>?_;conv=>whnf
     refine hK1 ?_;clear hK1 hK2 K1 K2
     replace h:=W_cnT h
     refine HT_f dCo rfl fun K hK=>?_;conv=>whnf
     refine nlA rfl ?_;conv=>whnf
     refine bKo rfl ?_;conv=>whnf
     refine nlA rfl ?_;conv=>whnf
     refine bKo rfl ?_;conv=>whnf
     refine And.intro rfl (And.intro (nle rfl) (And.intro rfl ?_));conv=>whnf
     refine hK _ _ _ ?_;clear hK K
     refine iBn ?_
     replace h:=W_some h
     cases h
     refine ⟨rfl,?_⟩
     refine weak_k (l:=[]) ?_;conv=>whnf
     exact And.intro rfl (And.intro aLn (aLc ⟨some _,rfl,bRc rfl (cKc wkI (cKc wkI (cKc wkI cKn)))⟩ (aLc ⟨some _,rfl,bRc rfl (cKc wkI (cKc wkI (cKc wkI cKn)))⟩ aLn)))
   refine nlA rfl ?_;conv=>whnf
   refine bKo rfl ?_;conv=>whnf
   refine gKo rfl ?_;conv=>whnf
   refine nlA rfl ?_;conv=>whnf
   refine bKo rfl ?_;conv=>whnf
   refine gKo rfl ?_;conv=>whnf
   refine hK _ _ _ ?_;clear hK K
   replace h:=W_jn h
   refine HT_if fun K1 K2 hK1 hK2=>?_;conv=>whnf
   refine cLk h (fun _ h=>?_) (fun _ h=>?_)
   · refine hK1 ?_;clear hK1 hK2 K1 K2
     refine HT_f dCo rfl fun K hK=>?_;conv=>whnf
     refine nlA rfl ?_;conv=>whnf
     refine bKo rfl ?_;conv=>whnf
     refine nlA rfl ?_;conv=>whnf
     refine bKo rfl ?_;conv=>whnf
     refine And.intro rfl (And.intro (nle rfl) (And.intro rfl ?_));conv=>whnf
     refine hK _ _ _ ?_;clear hK K
     refine iBn ?_
     replace h:=W_some h
     cases h
     refine ⟨rfl,?_⟩
     refine weak_k (l:=[]) ?_;conv=>whnf
     exact And.intro rfl (And.intro aLn (aLc ⟨some _,rfl,bRc rfl (cKc wkI (cKc wkI (cKc wkI cKn)))⟩ (aLc ⟨some _,rfl,bRc rfl (cKc wkI (cKc wkI (cKc wkI cKn)))⟩ aLn)))
   refine hK2 ?_;clear hK1 hK2 K1 K2
   refine HT_skip ?_
   refine iBn ?_
   replace h:=W_some h
   cases h
   refine ⟨rfl,?_⟩
   refine weak_k (l:=[]) ?_;conv=>whnf
   exact And.intro rfl (And.intro aLn (aLc ⟨some _,rfl,bRc rfl (cKc wkI (cKc wkI (cKc wkI cKn)))⟩ (aLc ⟨some _,rfl,bRc rfl (cKc wkI (cKc wkI (cKc wkI cKn)))⟩ aLn)))
 clear hfin
 refine iBn ?_
 refine tHn ?_
 refine HT_fr dCo rfl fun K hK=>?_;conv=>whnf
 refine nlA rfl ?_;conv=>whnf
 refine bKo rfl ?_;conv=>whnf
 refine nlA rfl ?_;conv=>whnf
 refine bKo rfl ?_;conv=>whnf
 refine And.intro rfl (And.intro (nle rfl) (And.intro rfl ?_));conv=>whnf
 refine hK _ _ _ ?_;clear hK K
 refine HT_ret ?_
 replace h:=W_some h
 refine PostP_r dCo fun K hK=>?_;conv=>whnf
 refine nlA rfl ?_;conv=>whnf
 refine bKo rfl ?_;conv=>whnf
 refine nlA rfl ?_;conv=>whnf
 refine hK _ ?_;clear hK K
 cases h
 exact Wk.refl _
theorem reserve_worst_call {T:Tbl} (hT:T 36=pureR reserve_worst_S) {args:List AV} {hp:Heap} {id:Nat} {k:AV→Prop} {a0:TNet} {a1:List Int} {a2:Int} {Φ:TCut→Prop} (h:W (reserve_worst_F a0 a1 a2) Φ) (hw:WkL args [eTNet a0,(eL 1 eI default) a1,eI a2]) (hk:∀ y,Φ y→k (eTCut y)):callpK T 36 args hp id k:=by
 obtain ⟨y,e,hy⟩:=W_inv h
 exact callpK_pure hT ⟨a0,a1,a2,rfl,W_of e rfl⟩ (by exact (lo_TCut _)) hw (hk y hy)
def reserve_Slack_F (a0:TReserve) (a1:Int):Option (Int×Int):=bd (reserve_Left_F a0 a1) fun y1=>cn (y1.2.2 !=
   0) (some (0,330)) (bd (reserve_worst_F y1.1 y1.2.1 a0.Faults) fun y2=>some (y2.margin_f,0))
def reserve_Slack_S:List AV→AV→Prop:=fun args r=>∃ a0 a1,args=[eTReserve a0,eI a1]∧W (reserve_Slack_F a0 a1) fun y=>r=(.tup [eI y.1,eI y.2])
theorem reserve_Slack_ok {T:Tbl} (hT:TOk Try.prog T) (hpf:PfOk T PF) (h20:T 20=pureR reserve_Left_S) (h36:T 36=pureR reserve_worst_S):FOk Try.prog 18 (pureR reserve_Slack_S):=by
 refine FOk_pure hT hpf Try.func18 rfl Try.ntmps18 Try.results18 (by decide) ?_
 rintro args r ⟨a0,a1,rfl,h⟩
 refine ⟨nle rfl,?_,?_⟩
 · exact (lsC (lo_TReserve _) (lsC (lsI _ _) lsN))
 rw [reserve_Slack_F.eq_1] at h
 refine HT_fr dCo rfl fun K hK=>?_;conv=>whnf
 refine hK _ _ _ ?_;clear hK K
 refine HT_fr dCo rfl fun K hK=>?_;conv=>whnf
 refine nlA rfl ?_;conv=>whnf
 refine bKo rfl ?_;conv=>whnf
 refine nlA rfl ?_;conv=>whnf
 replace h:=W_bd h
 refine reserve_Left_call h20 h (WkL.refl _) (fun _ h=>?_);conv=>whnf
 refine bKo rfl ?_;conv=>whnf
 refine And.intro rfl (And.intro (nle rfl) (And.intro rfl ?_));conv=>whnf
 refine hK _ _ _ ?_;clear hK K
 refine HT_seq ?_
 refine HT_fr dCo rfl fun K hK=>?_;conv=>whnf
 refine hK _ _ _ ?_;clear hK K
 refine HT_if fun K1 K2 hK1 hK2=>?_;conv=>whnf
 refine cLk h (fun _ h=>?_) (fun _ h=>?_)
 · refine hK1 ?_;clear hK1 hK2 K1 K2
   refine HT_fr dCo rfl fun K hK=>?_;conv=>whnf
   refine hK _ _ _ ?_;clear hK K
   refine HT_ret ?_
   refine Then_r ?_
   replace h:=W_some h
   refine PostP_r dCo fun K hK=>?_;conv=>whnf
   refine hK _ ?_;clear hK K
   cases h
   exact Wk.refl _
 refine hK2 ?_;clear hK1 hK2 K1 K2
 refine HT_skip ?_
 refine tHn ?_
 refine HT_fr dCo rfl fun K hK=>?_;conv=>whnf
 refine nlA rfl ?_;conv=>whnf
 refine bKo rfl ?_;conv=>whnf
 refine nlA rfl ?_;conv=>whnf
 refine nlA rfl ?_;conv=>whnf
 refine bKo rfl ?_;conv=>whnf
 refine gKo rfl ?_;conv=>whnf
 replace h:=W_bd h
 refine reserve_worst_call h36 h (WkL.refl _) (fun _ h=>?_);conv=>whnf
 refine gKo rfl ?_;conv=>whnf
 refine hK _ _ _ ?_;clear hK K
 refine HT_ret ?_
 replace h:=W_some h
 refine PostP_r dCo fun K hK=>?_;conv=>whnf
 refine hK _ ?_;clear hK K
 cases h
 exact Wk.refl _
theorem reserve_Slack_call {T:Tbl} (hT:T 18=pureR reserve_Slack_S) {args:List AV} {hp:Heap} {id:Nat} {k:AV→Prop} {a0:TReserve} {a1:Int} {Φ:Int×Int→Prop} (h:W (reserve_Slack_F a0 a1) Φ) (hw:WkL args [eTReserve a0,eI a1]) (hk:∀ y,Φ y→k (.tup [eI y.1,eI y.2])):callpK T 18 args hp id k:=by
 obtain ⟨y,e,hy⟩:=W_inv h
 exact callpK_pure hT ⟨a0,a1,rfl,W_of e rfl⟩ (by exact loose_tup (lsC (lsI _ _) (lsC (lsI _ _) lsN))) hw (hk y hy)
def reserve_Safe_F (a0:TReserve) (a1:Int):Option Bool:=bd (reserve_Slack_F a0 a1) fun y1=>jn (fun p2:Bool=>some p2) fun k3=>cn (y1.2 ==
   0) (k3 (decide (y1.1≥0))) (k3 false)
def reserve_Safe_S:List AV→AV→Prop:=fun args r=>∃ a0 a1,args=[eTReserve a0,eI a1]∧W (reserve_Safe_F a0 a1) fun y=>r=(eB y)
theorem reserve_Safe_ok {T:Tbl} (hT:TOk Try.prog T) (hpf:PfOk T PF) (h18:T 18=pureR reserve_Slack_S):FOk Try.prog 14 (pureR reserve_Safe_S):=by
 refine FOk_pure hT hpf Try.func14 rfl Try.ntmps14 Try.results14 (by decide) ?_
 rintro args r ⟨a0,a1,rfl,h⟩
 refine ⟨nle rfl,?_,?_⟩
 · exact (lsC (lo_TReserve _) (lsC (lsI _ _) lsN))
 rw [reserve_Safe_F.eq_1] at h
 refine HT_fr dCo rfl fun K hK=>?_;conv=>whnf
 refine hK _ _ _ ?_;clear hK K
 refine HT_fr dCo rfl fun K hK=>?_;conv=>whnf
 refine nlA rfl ?_;conv=>whnf
 refine bKo rfl ?_;conv=>whnf
 refine nlA rfl ?_;conv=>whnf
 replace h:=W_bd h
 refine reserve_Slack_call h18 h (WkL.refl _) (fun _ h=>?_);conv=>whnf
 refine hK _ _ _ ?_;clear hK K
 refine HT_fr dCo rfl fun K hK=>?_;conv=>whnf
 replace h:=W_jn h
 refine cLk h (fun _ h=>?_) (fun _ h=>?_)<;>(conv=>whnf)
 · refine hK _ _ _ ?_;clear hK K
   refine HT_ret ?_
   replace h:=W_some h
   refine PostP_r dCo fun K hK=>?_;conv=>whnf
   refine hK _ ?_;clear hK K
   cases h
   exact Wk.refl _
 refine hK _ _ _ ?_;clear hK K
 refine HT_ret ?_
 replace h:=W_some h
 refine PostP_r dCo fun K hK=>?_;conv=>whnf
 refine hK _ ?_;clear hK K
 cases h
 exact Wk.refl _
theorem reserve_Safe_call {T:Tbl} (hT:T 14=pureR reserve_Safe_S) {args:List AV} {hp:Heap} {id:Nat} {k:AV→Prop} {a0:TReserve} {a1:Int} {Φ:Bool→Prop} (h:W (reserve_Safe_F a0 a1) Φ) (hw:WkL args [eTReserve a0,eI a1]) (hk:∀ y,Φ y→k (eB y)):callpK T 14 args hp id k:=by
 obtain ⟨y,e,hy⟩:=W_inv h
 exact callpK_pure hT ⟨a0,a1,rfl,W_of e rfl⟩ (by exact (lsB _)) hw (hk y hy)
end Go.Proofs.Ytkjccabdpeldhaa
namespace Go.Proofs.Ytkjccabdpeldhaa
open Go Go.Eng
set_option maxHeartbeats 0
set_option maxRecDepth 100000

   def reserve_CheckDenied_b1 (a0:TReserve) (a2:TDenied) (p5:Int) (s13:Int×Int):Option (Ct (Int×Int) Bool):=cn (decide (s13.2<(a0.Calls.length:Int))) (ix a0.Calls default s13.2 fun e14=>
   jn (fun p15:Bool=>jn (fun p18:Int=>some (.nx (p18,(wr (s13.2+1))))) fun k19=>cn p15 (let v20:=(wr (s13.1+e14.Amount));k19 v20) (k19 s13.1)) fun k16=>
   gd (0≤s13.2) (cn ((band .i64 (bshr .i64 p5 s13.2) 1)==1) (bd (slices_Contains_int_F e14.Edges a2.Edge) fun y17=>k16 y17) (k16 false))) (some (.bk (s13.1,s13.2)))
theorem W_breserve_CheckDenied_b1 {a0:TReserve} {a2:TDenied} {p5:Int} {s13:Int×Int} {Φ:Ct (Int×Int) Bool→Prop} (h:W (reserve_CheckDenied_b1 a0 a2 p5 s13) Φ):W (cn (decide (s13.2<(a0.Calls.length:Int))) (ix a0.Calls default s13.2 fun e14=>jn (fun p15:Bool=>jn (fun p18:Int=>some (.nx (p18,(wr (s13.2+1))))) fun k19=>
   cn p15 (let v20:=(wr (s13.1+e14.Amount));k19 v20) (k19 s13.1)) fun k16=>gd (0≤s13.2) (cn ((band .i64 (bshr .i64 p5 s13.2) 1) ==
   1) (bd (slices_Contains_int_F e14.Edges a2.Edge) fun y17=>k16 y17) (k16 false))) (some (.bk (s13.1,s13.2)))) Φ:=h
def reserve_CheckDenied_F (a0:TReserve) (a1:Int) (a2:TDenied):Option Bool:=jn (fun p1:Bool=>cn p1 (some false) (jn (fun p5:Int=>jn (fun p8:Bool=>
   cn p8 (some false) (cn (a2.Edge != (-1)) (jn (fun p10:Bool=>cn p10 (some false) (bd (lp (reserve_CheckDenied_b1 a0 a2 p5) FU (0,0)) fun c21=>smK c21 (fun s22=>
   ix a0.Net.Edges default a2.Edge fun e24=>let v25:=(decide (s22.1>e24.Capacity));some v25) (fun r23=>some r23))) fun k11=>
   bd (reserve_isIn_F a2.Edge 0 (wr ((a0.Net.Edges.length:Int)-1))) fun y12=>cn (!y12) (k11 true) (k11 (!((a2.Call==a2.Call)&&((a2.Edge==a2.Edge)&&((a2.Failed ==
   0)&&(a2.Set==0))))))) (bd (reserve_left_F a0 p5) fun y26=>cn (decide (y26.2.2≥0)) (some false) (bd (flow_Without_F y26.1 a2.Failed) fun y27=>jn (fun p28:Bool=>
   some p28) fun k29=>cn (y27.2==0) (bd (math_bits_OnesCount_F (IntKind.u64.wrap (a2.Failed))) fun y30=>
   cn (decide (y30≤a0.Faults)) (bd (flow_CheckMeet_F y27.1 y26.2.1 (⟨false,[],a2.Set⟩:TSupply)) fun y31=>k29 y31) (k29 false)) (k29 false))))) fun k9=>cn (!((p5==a1) ==
   (decide (a2.Call<0)))) (k9 true) (cn (decide (a2.Call<0)) (k9 (a1 != 0)) (k9 false))) fun k6=>
   cn (decide (a2.Call≥0)) (gd (0≤a2.Call) (let v7:=(bor .i64 a1 (bshl .i64 1 a2.Call));k6 v7)) (k6 a1))) fun k2=>bd (reserve_isSet_F a0 a1) fun y3=>
   cn (!y3) (k2 true) (bd (reserve_isIn_F a2.Call (-1) (wr ((a0.Calls.length:Int)-1))) fun y4=>k2 (!y4))
def reserve_CheckDenied_S:List AV→AV→Prop:=fun args r=>∃ a0 a1 a2,args=[eTReserve a0,eI a1,eTDenied a2]∧W (reserve_CheckDenied_F a0 a1 a2) fun y=>r=(eB y)
theorem reserve_CheckDenied_ok {T:Tbl} (hT:TOk Try.prog T) (hpf:PfOk T PF) (h25:T 25=pureR flow_Without_S) (h27:T 27=pureR flow_CheckMeet_S) (h37:T 37=pureR reserve_isSet_S) (h38:T 38=pureR reserve_left_S) (h45:T 45=pureR math_bits_OnesCount_S) (h48:T 48=pureR reserve_isIn_S) (h63:T 63=pureR slices_Contains_int_S):FOk Try.prog 30 (pureR reserve_CheckDenied_S):=by
 refine FOk_pure hT hpf Try.func30 rfl Try.ntmps30 Try.results30 (by decide) ?_
 rintro args r ⟨a0,a1,a2,rfl,h⟩
 refine ⟨nle rfl,?_,?_⟩
 · exact (lsC (lo_TReserve _) (lsC (lsI _ _) (lsC (lo_TDenied _) lsN)))
 rw [reserve_CheckDenied_F.eq_1] at h
 refine HT_fr dCo rfl fun K hK=>?_;conv=>whnf
 refine hK _ _ _ ?_;clear hK K
 refine HT_seq ?_
 refine HT_fr dCo rfl fun K hK=>?_;conv=>whnf
 replace h:=W_jn h
 refine nlA rfl ?_;conv=>whnf
 refine bKo rfl ?_;conv=>whnf
 refine nlA rfl ?_;conv=>whnf
 replace h:=W_bd h
 refine reserve_isSet_call h37 h (WkL.refl _) (fun _ h=>?_);conv=>whnf
 refine cLk h (fun _ h=>?_) (fun _ h=>?_)<;>(conv=>whnf)
 · refine hK _ _ _ ?_;clear hK K
   refine HT_if fun K1 K2 hK1 hK2=>?_;conv=>whnf
   refine hK1 ?_;clear hK1 hK2 K1 K2
   replace h:=W_cnT h
   refine HT_fr dCo rfl fun K hK=>?_;conv=>whnf
   refine hK _ _ _ ?_;clear hK K
   refine HT_ret ?_
   refine Then_r ?_
   replace h:=W_some h
   refine PostP_r dCo fun K hK=>?_;conv=>whnf
   refine hK _ ?_;clear hK K
   cases h
   exact Wk.refl _
 refine nlA rfl ?_;conv=>whnf
 refine bKo rfl ?_;conv=>whnf
 refine gKo rfl ?_;conv=>whnf
 refine nlA rfl ?_;conv=>whnf
 refine bKo rfl ?_;conv=>whnf
 refine gKo rfl ?_;conv=>whnf
 replace h:=W_bd h
 refine reserve_isIn_call h48 h (WkL.refl _) (fun _ h=>?_);conv=>whnf
 refine hK _ _ _ ?_;clear hK K
 refine HT_if fun K1 K2 hK1 hK2=>?_;conv=>whnf
 refine cLk h (fun _ h=>?_) (fun _ h=>?_)
 · refine hK1 ?_;clear hK1 hK2 K1 K2
   refine HT_fr dCo rfl fun K hK=>?_;conv=>whnf
   refine hK _ _ _ ?_;clear hK K
   refine HT_ret ?_
   refine Then_r ?_
   replace h:=W_some h
   refine PostP_r dCo fun K hK=>?_;conv=>whnf
   refine hK _ ?_;clear hK K
   cases h
   exact Wk.refl _
 refine hK2 ?_;clear hK1 hK2 K1 K2
 refine HT_skip ?_
 refine tHn ?_
 refine HT_fr dCo rfl fun K hK=>?_;conv=>whnf
 refine hK _ _ _ ?_;clear hK K
 refine HT_seq ?_
 refine HT_fr dCo rfl fun K hK=>?_;conv=>whnf
 refine nlA rfl ?_;conv=>whnf
 refine bKo rfl ?_;conv=>whnf
 refine gKo rfl ?_;conv=>whnf
 refine hK _ _ _ ?_;clear hK K
 replace h:=W_jn h
 refine HT_if fun K1 K2 hK1 hK2=>?_;conv=>whnf
 refine cLk h (fun _ h=>?_) (fun _ h=>?_)
 · refine hK1 ?_;clear hK1 hK2 K1 K2
   refine HT_f dCo rfl fun K hK=>?_;conv=>whnf
   refine nlA rfl ?_;conv=>whnf
   refine bKo rfl ?_;conv=>whnf
   refine gKo rfl ?_;conv=>whnf
   refine gd_lk h fun _ h=>?_;conv=>whnf
   refine hK _ _ _ ?_;clear hK K
   refine tHn ?_
   refine HT_seq ?_
   refine HT_fr dCo rfl fun K hK=>?_;conv=>whnf
   replace h:=W_jn h
   refine nlA rfl ?_;conv=>whnf
   refine bKo rfl ?_;conv=>whnf
   refine gKo rfl ?_;conv=>whnf
   refine eqK_n (eqv_bool dCo rfl _ _) ?_;conv=>whnf
   refine cLk h (fun _ h=>?_) (fun _ h=>?_)<;>(conv=>whnf)
   · refine hK _ _ _ ?_;clear hK K
     refine HT_if fun K1 K2 hK1 hK2=>?_;conv=>whnf
     refine hK1 ?_;clear hK1 hK2 K1 K2
     replace h:=W_cnT h
     refine HT_fr dCo rfl fun K hK=>?_;conv=>whnf
     refine hK _ _ _ ?_;clear hK K
     refine HT_ret ?_
     refine Then_r ?_
     replace h:=W_some h
     refine PostP_r dCo fun K hK=>?_;conv=>whnf
     refine hK _ ?_;clear hK K
     cases h
     exact Wk.refl _
   refine nlA rfl ?_;conv=>whnf
   refine bKo rfl ?_;conv=>whnf
   refine gKo rfl ?_;conv=>whnf
   refine cLk h (fun _ h=>?_) (fun _ h=>?_)<;>(conv=>whnf)
   · refine hK _ _ _ ?_;clear hK K
     refine HT_if fun K1 K2 hK1 hK2=>?_;conv=>whnf
     refine cLk h (fun _ h=>?_) (fun _ h=>?_)
     · refine hK1 ?_;clear hK1 hK2 K1 K2
       refine HT_fr dCo rfl fun K hK=>?_;conv=>whnf
       refine hK _ _ _ ?_;clear hK K
       refine HT_ret ?_
       refine Then_r ?_
       replace h:=W_some h
       refine PostP_r dCo fun K hK=>?_;conv=>whnf
       refine hK _ ?_;clear hK K
       cases h
       exact Wk.refl _
     refine hK2 ?_;clear hK1 hK2 K1 K2
     refine HT_skip ?_
     refine tHn ?_
     refine HT_seq ?_
     refine HT_fr dCo rfl fun K hK=>?_;conv=>whnf
     refine nlA rfl ?_;conv=>whnf
     refine bKo rfl ?_;conv=>whnf
     refine gKo rfl ?_;conv=>whnf
     refine hK _ _ _ ?_;clear hK K
     refine HT_if fun K1 K2 hK1 hK2=>?_;conv=>whnf
     refine cLk h (fun _ h=>?_) (fun _ h=>?_)
     · refine hK1 ?_;clear hK1 hK2 K1 K2
       refine HT_seq ?_
       refine HT_fr dCo rfl fun K hK=>?_;conv=>whnf
       replace h:=W_jn h
       refine nlA rfl ?_;conv=>whnf
       refine bKo rfl ?_;conv=>whnf
       refine gKo rfl ?_;conv=>whnf
       refine nlA rfl ?_;conv=>whnf
       refine bKo rfl ?_;conv=>whnf
       refine gKo rfl ?_;conv=>whnf
       replace h:=W_bd h
       refine reserve_isIn_call h48 h (WkL.refl _) (fun _ h=>?_);conv=>whnf
       refine cLk h (fun _ h=>?_) (fun _ h=>?_)<;>(conv=>whnf)
       · refine hK _ _ _ ?_;clear hK K
         refine HT_if fun K1 K2 hK1 hK2=>?_;conv=>whnf
         refine hK1 ?_;clear hK1 hK2 K1 K2
         replace h:=W_cnT h
         refine HT_fr dCo rfl fun K hK=>?_;conv=>whnf
         refine hK _ _ _ ?_;clear hK K
         refine HT_ret ?_
         refine Then_r ?_
         refine Then_r ?_
         replace h:=W_some h
         refine PostP_r dCo fun K hK=>?_;conv=>whnf
         refine hK _ ?_;clear hK K
         cases h
         exact Wk.refl _
       refine nlA rfl ?_;conv=>whnf
       refine bKo rfl ?_;conv=>whnf
       refine nlA rfl ?_;conv=>whnf
       refine nlA rfl ?_;conv=>whnf
       refine bKo rfl ?_;conv=>whnf
       refine gKo rfl ?_;conv=>whnf
       refine nlA rfl ?_;conv=>whnf
       refine bKo rfl ?_;conv=>whnf
       refine gKo rfl ?_;conv=>whnf
       refine eqK_n (eqv45 _ _ _ _ _ _ _ _) ?_;conv=>whnf
       refine hK _ _ _ ?_;clear hK K
       refine HT_if fun K1 K2 hK1 hK2=>?_;conv=>whnf
       refine cLk h (fun _ h=>?_) (fun _ h=>?_)
       · refine hK1 ?_;clear hK1 hK2 K1 K2
         refine HT_fr dCo rfl fun K hK=>?_;conv=>whnf
         refine hK _ _ _ ?_;clear hK K
         refine HT_ret ?_
         refine Then_r ?_
         refine Then_r ?_
         replace h:=W_some h
         refine PostP_r dCo fun K hK=>?_;conv=>whnf
         refine hK _ ?_;clear hK K
         cases h
         exact Wk.refl _
       refine hK2 ?_;clear hK1 hK2 K1 K2
       refine HT_skip ?_
       refine tHn ?_
       refine HT_fr dCo rfl fun K hK=>?_;conv=>whnf
       refine hK _ _ _ ?_;clear hK K
       refine HT_seq ?_
       refine HT_fr dCo rfl fun K hK=>?_;conv=>whnf
       refine nlA rfl ?_;conv=>whnf
       refine bKo rfl ?_;conv=>whnf
       refine gKo rfl ?_;conv=>whnf
       refine hK _ _ _ ?_;clear hK K
       refine HT_block ?_
       replace h:=W_bd h
       refine HT_lpK (body:=reserve_CheckDenied_b1 _ _ _) rfl h [3,5,7,77,78] [3,5] [] (fun kl kh ids b s=>⟨ofL ([(8,eI s.1),(79,eI s.2)]++kl),ofH ([]++kh),b+64⟩) ?_;(conv=>whnf);refine And.intro ?_ (fun s m h=>HT_st ?_)
       · refine weak_k ?_;conv=>whnf
         exact And.intro rfl (And.intro (aLc wkI (aLc wkI (aLc (WkR.ptr (fun _=>rfl)) (aLc (WkR.ptr (fun _=>rfl)) (aLc wkI (aLc (wkr (lsL fun _=>(lo_TOrdinary _))) (aLc wkI aLn))))))) (aLc ⟨some _,rfl,bRc rfl (cKc wkI (cKc (wkr (lsL fun _=>(lo_TEdge _))) (cKc (wkr (lsL fun _=>(lsI _ _))) (cKc (wkr (lsL fun _=>(lsI _ _))) (cKc wkI (cKc (wkr (lsL fun _=>(lo_TOrdinary _))) cKn))))))⟩ (aLc ⟨some _,rfl,bRc rfl (cKc wkI (cKc wkI (cKc wkI (cKc wkI cKn))))⟩ aLn)))
       replace h:=W_breserve_CheckDenied_b1 (W_bd h)
       refine HT_fr dCo rfl fun K hK=>?_;conv=>whnf
       refine hK _ _ _ ?_;clear hK K
       refine HT_seq ?_
       refine HT_if fun K1 K2 hK1 hK2=>?_;conv=>whnf
       refine cLk h (fun _ h=>?_) (fun _ h=>?_)
       · refine hK1 ?_;clear hK1 hK2 K1 K2
         refine HT_skip ?_
         refine tHn ?_
         refine HT_seq ?_
         refine HT_block ?_
         refine HT_fr dCo rfl fun K hK=>?_;conv=>whnf
         refine ix_lk h fun _ h=>?_;conv=>whnf
         refine nlA rfl ?_;conv=>whnf
         refine bKo rfl ?_;conv=>whnf
         refine And.intro rfl (And.intro (nle rfl) (And.intro rfl ?_));conv=>whnf
         refine hK _ _ _ ?_;clear hK K
         refine HT_fr dCo rfl fun K hK=>?_;conv=>whnf
         replace h:=W_jn h
         refine gd_lk h fun _ h=>?_;conv=>whnf
         refine cLk h (fun _ h=>?_) (fun _ h=>?_)<;>(conv=>whnf)
         · refine nlA rfl ?_;conv=>whnf
           refine bKo rfl ?_;conv=>whnf
           refine gKo rfl ?_;conv=>whnf
           refine nlA rfl ?_;conv=>whnf
           refine bKo rfl ?_;conv=>whnf
           refine gKo rfl ?_;conv=>whnf
           replace h:=W_bd h
           refine slices_Contains_int_call h63 h (WkL.refl _) (fun _ h=>?_);conv=>whnf
           refine hK _ _ _ ?_;clear hK K
           replace h:=W_jn h
           refine HT_if fun K1 K2 hK1 hK2=>?_;conv=>whnf
           refine cLk h (fun _ h=>?_) (fun _ h=>?_)
           · refine hK1 ?_;clear hK1 hK2 K1 K2
             refine HT_f dCo rfl fun K hK=>?_;conv=>whnf
             refine nlA rfl ?_;conv=>whnf
             refine bKo rfl ?_;conv=>whnf
             refine gKo rfl ?_;conv=>whnf
             refine hK _ _ _ ?_;clear hK K
             refine iBn ?_
             refine tHn ?_
             refine HT_f dCo rfl fun K hK=>?_;conv=>whnf
             refine hK _ _ _ ?_;clear hK K
             refine tHn ?_
             replace h:=W_xnx h
             refine ⟨_,h,?_⟩
             refine weak_k ?_;conv=>whnf
             exact And.intro rfl (And.intro (aLc wkI (aLc wkI (aLc (WkR.ptr (fun _=>rfl)) (aLc (WkR.ptr (fun _=>rfl)) (aLc wkI (aLc (wkr (lsL fun _=>(lo_TOrdinary _))) (aLc wkI aLn))))))) (aLc ⟨some _,rfl,bRc rfl (cKc wkI (cKc (wkr (lsL fun _=>(lo_TEdge _))) (cKc (wkr (lsL fun _=>(lsI _ _))) (cKc (wkr (lsL fun _=>(lsI _ _))) (cKc wkI (cKc (wkr (lsL fun _=>(lo_TOrdinary _))) cKn))))))⟩ (aLc ⟨some _,rfl,bRc rfl (cKc wkI (cKc wkI (cKc wkI (cKc wkI cKn))))⟩ aLn)))
           refine hK2 ?_;clear hK1 hK2 K1 K2
           refine HT_skip ?_
           refine iBn ?_
           refine tHn ?_
           refine HT_f dCo rfl fun K hK=>?_;conv=>whnf
           refine hK _ _ _ ?_;clear hK K
           refine tHn ?_
           replace h:=W_xnx h
           refine ⟨_,h,?_⟩
           refine weak_k ?_;conv=>whnf
           exact And.intro rfl (And.intro (aLc wkI (aLc wkI (aLc (WkR.ptr (fun _=>rfl)) (aLc (WkR.ptr (fun _=>rfl)) (aLc wkI (aLc (wkr (lsL fun _=>(lo_TOrdinary _))) (aLc wkI aLn))))))) (aLc ⟨some _,rfl,bRc rfl (cKc wkI (cKc (wkr (lsL fun _=>(lo_TEdge _))) (cKc (wkr (lsL fun _=>(lsI _ _))) (cKc (wkr (lsL fun _=>(lsI _ _))) (cKc wkI (cKc (wkr (lsL fun _=>(lo_TOrdinary _))) cKn))))))⟩ (aLc ⟨some _,rfl,bRc rfl (cKc wkI (cKc wkI (cKc wkI (cKc wkI cKn))))⟩ aLn)))
         refine hK _ _ _ ?_;clear hK K
         replace h:=W_jn h
         refine HT_if fun K1 K2 hK1 hK2=>?_;conv=>whnf
         refine hK2 ?_;clear hK1 hK2 K1 K2
         replace h:=W_cnF h
         refine HT_skip ?_
         refine iBn ?_
         refine tHn ?_
         refine HT_f dCo rfl fun K hK=>?_;conv=>whnf
         refine hK _ _ _ ?_;clear hK K
         refine tHn ?_
         replace h:=W_xnx h
         refine ⟨_,h,?_⟩
         refine weak_k ?_;conv=>whnf
         exact And.intro rfl (And.intro (aLc wkI (aLc wkI (aLc (WkR.ptr (fun _=>rfl)) (aLc (WkR.ptr (fun _=>rfl)) (aLc wkI (aLc (wkr (lsL fun _=>(lo_TOrdinary _))) (aLc wkI aLn))))))) (aLc ⟨some _,rfl,bRc rfl (cKc wkI (cKc (wkr (lsL fun _=>(lo_TEdge _))) (cKc (wkr (lsL fun _=>(lsI _ _))) (cKc (wkr (lsL fun _=>(lsI _ _))) (cKc wkI (cKc (wkr (lsL fun _=>(lo_TOrdinary _))) cKn))))))⟩ (aLc ⟨some _,rfl,bRc rfl (cKc wkI (cKc wkI (cKc wkI (cKc wkI cKn))))⟩ aLn)))
       refine hK2 ?_;clear hK1 hK2 K1 K2
       refine HT_exit ?_
       refine Then_e ?_
       refine Then_e ?_
       refine InBlock_e ?_
       replace h:=W_xbk h
       replace h:=W_inl h
       refine tHn ?_
       refine HT_fr dCo rfl fun K hK=>?_;conv=>whnf
       refine nlA rfl ?_;conv=>whnf
       refine bKo rfl ?_;conv=>whnf
       refine gKo rfl ?_;conv=>whnf
       refine nlA rfl ?_;conv=>whnf
       refine bKo rfl ?_;conv=>whnf
       refine gKo rfl ?_;conv=>whnf
       refine ix_lk h fun _ h=>?_;conv=>whnf
       refine gKo rfl ?_;conv=>whnf
       refine hK _ _ _ ?_;clear hK K
       refine HT_ret ?_
       refine Then_r ?_
       replace h:=W_some h
       refine PostP_r dCo fun K hK=>?_;conv=>whnf
       refine hK _ ?_;clear hK K
       cases h
       exact Wk.refl _
     refine hK2 ?_;clear hK1 hK2 K1 K2
     refine HT_skip ?_
     refine tHn ?_
     refine HT_fr dCo rfl fun K hK=>?_;conv=>whnf
     refine nlA rfl ?_;conv=>whnf
     refine bKo rfl ?_;conv=>whnf
     refine nlA rfl ?_;conv=>whnf
     replace h:=W_bd h
     refine reserve_left_call h38 h (WkL.refl _) (fun _ h=>?_);conv=>whnf
     refine bKo rfl ?_;conv=>whnf
     refine And.intro rfl (And.intro (nle rfl) (And.intro rfl ?_));conv=>whnf
     refine hK _ _ _ ?_;clear hK K
     refine HT_seq ?_
     refine HT_fr dCo rfl fun K hK=>?_;conv=>whnf
     refine hK _ _ _ ?_;clear hK K
     refine HT_if fun K1 K2 hK1 hK2=>?_;conv=>whnf
     refine cLk h (fun _ h=>?_) (fun _ h=>?_)
     · refine hK1 ?_;clear hK1 hK2 K1 K2
       refine HT_fr dCo rfl fun K hK=>?_;conv=>whnf
       refine hK _ _ _ ?_;clear hK K
       refine HT_ret ?_
       refine Then_r ?_
       replace h:=W_some h
       refine PostP_r dCo fun K hK=>?_;conv=>whnf
       refine hK _ ?_;clear hK K
       cases h
       exact Wk.refl _
     refine hK2 ?_;clear hK1 hK2 K1 K2
     refine HT_skip ?_
     refine tHn ?_
     refine HT_fr dCo rfl fun K hK=>?_;conv=>whnf
     refine nlA rfl ?_;conv=>whnf
     refine bKo rfl ?_;conv=>whnf
     refine nlA rfl ?_;conv=>whnf
     refine nlA rfl ?_;conv=>whnf
     refine bKo rfl ?_;conv=>whnf
     refine gKo rfl ?_;conv=>whnf
     replace h:=W_bd h
     refine flow_Without_call h25 h (WkL.refl _) (fun _ h=>?_);conv=>whnf
     refine bKo rfl ?_;conv=>whnf
     refine And.intro rfl (And.intro (nle rfl) (And.intro rfl ?_));conv=>whnf
     refine hK _ _ _ ?_;clear hK K
     refine HT_fd dCo mix_ok rfl (by kernel_rfl) fun K hK=>?_;conv=>whnf
     replace h:=W_jn h
     refine cLk h (fun _ h=>?_) (fun _ h=>?_)<;>(conv=>whnf)
     · refine nlA rfl ?_;conv=>whnf
       refine bKo rfl ?_;conv=>whnf
       refine gKo rfl ?_;conv=>whnf
       replace h:=W_bd h
       refine math_bits_OnesCount_call h45 h (WkL.refl _) (fun _ h=>?_);conv=>whnf
       refine nlA rfl ?_;conv=>whnf
       refine bKo rfl ?_;conv=>whnf
       refine gKo rfl ?_;conv=>whnf
       refine cLk h (fun _ h=>?_) (fun _ h=>?_)<;>(conv=>whnf)
       · refine nlA rfl ?_;conv=>whnf
         refine bKo rfl ?_;conv=>whnf
         refine nlA rfl ?_;conv=>whnf
         refine nlA rfl ?_;conv=>whnf
         refine bKo rfl ?_;conv=>whnf
         refine gKo rfl ?_;conv=>whnf
         replace h:=W_bd h
         refine flow_CheckMeet_call h27 h (WkL_cons (Wk.refl _) (WkL_cons (Wk.refl _) (WkL_cons (Wk_agg (WkL_cons (Wk.refl _) (WkL_cons Wk_nil (WkL_cons (Wk.refl _) WkL_nil)))) WkL_nil))) (fun _ h=>?_);conv=>whnf
         refine hK _ _ _ ?_;clear hK K
         refine HT_ret ?_
         replace h:=W_some h
         refine PostP_r dCo fun K hK=>?_;conv=>whnf
         refine hK _ ?_;clear hK K
         cases h
         exact Wk.refl _
       refine hK _ _ _ ?_;clear hK K
       refine HT_ret ?_
       replace h:=W_some h
       refine PostP_r dCo fun K hK=>?_;conv=>whnf
       refine hK _ ?_;clear hK K
       cases h
       exact Wk.refl _
     refine hK _ _ _ ?_;clear hK K
     refine HT_ret ?_
     replace h:=W_some h
     refine PostP_r dCo fun K hK=>?_;conv=>whnf
     refine hK _ ?_;clear hK K
     cases h
     exact Wk.refl _
   refine hK _ _ _ ?_;clear hK K
   refine HT_if fun K1 K2 hK1 hK2=>?_;conv=>whnf
   refine hK2 ?_;clear hK1 hK2 K1 K2
   replace h:=W_cnF h
   refine HT_skip ?_
   refine tHn ?_
   refine HT_seq ?_
   refine HT_fr dCo rfl fun K hK=>?_;conv=>whnf
   refine nlA rfl ?_;conv=>whnf
   refine bKo rfl ?_;conv=>whnf
   refine gKo rfl ?_;conv=>whnf
   refine hK _ _ _ ?_;clear hK K
   refine HT_if fun K1 K2 hK1 hK2=>?_;conv=>whnf
   refine cLk h (fun _ h=>?_) (fun _ h=>?_)
   · refine hK1 ?_;clear hK1 hK2 K1 K2
     refine HT_seq ?_
     refine HT_fr dCo rfl fun K hK=>?_;conv=>whnf
     replace h:=W_jn h
     refine nlA rfl ?_;conv=>whnf
     refine bKo rfl ?_;conv=>whnf
     refine gKo rfl ?_;conv=>whnf
     refine nlA rfl ?_;conv=>whnf
     refine bKo rfl ?_;conv=>whnf
     refine gKo rfl ?_;conv=>whnf
     replace h:=W_bd h
     refine reserve_isIn_call h48 h (WkL.refl _) (fun _ h=>?_);conv=>whnf
     refine cLk h (fun _ h=>?_) (fun _ h=>?_)<;>(conv=>whnf)
     · refine hK _ _ _ ?_;clear hK K
       refine HT_if fun K1 K2 hK1 hK2=>?_;conv=>whnf
       refine hK1 ?_;clear hK1 hK2 K1 K2
       replace h:=W_cnT h
       refine HT_fr dCo rfl fun K hK=>?_;conv=>whnf
       refine hK _ _ _ ?_;clear hK K
       refine HT_ret ?_
       refine Then_r ?_
       refine Then_r ?_
       replace h:=W_some h
       refine PostP_r dCo fun K hK=>?_;conv=>whnf
       refine hK _ ?_;clear hK K
       cases h
       exact Wk.refl _
     refine nlA rfl ?_;conv=>whnf
     refine bKo rfl ?_;conv=>whnf
     refine nlA rfl ?_;conv=>whnf
     refine nlA rfl ?_;conv=>whnf
     refine bKo rfl ?_;conv=>whnf
     refine gKo rfl ?_;conv=>whnf
     refine nlA rfl ?_;conv=>whnf
     refine bKo rfl ?_;conv=>whnf
     refine gKo rfl ?_;conv=>whnf
     refine eqK_n (eqv45 _ _ _ _ _ _ _ _) ?_;conv=>whnf
     refine hK _ _ _ ?_;clear hK K
     refine HT_if fun K1 K2 hK1 hK2=>?_;conv=>whnf
     refine cLk h (fun _ h=>?_) (fun _ h=>?_)
     · refine hK1 ?_;clear hK1 hK2 K1 K2
       refine HT_fr dCo rfl fun K hK=>?_;conv=>whnf
       refine hK _ _ _ ?_;clear hK K
       refine HT_ret ?_
       refine Then_r ?_
       refine Then_r ?_
       replace h:=W_some h
       refine PostP_r dCo fun K hK=>?_;conv=>whnf
       refine hK _ ?_;clear hK K
       cases h
       exact Wk.refl _
     refine hK2 ?_;clear hK1 hK2 K1 K2
     refine HT_skip ?_
     refine tHn ?_
     refine HT_fr dCo rfl fun K hK=>?_;conv=>whnf
     refine hK _ _ _ ?_;clear hK K
     refine HT_seq ?_
     refine HT_fr dCo rfl fun K hK=>?_;conv=>whnf
     refine nlA rfl ?_;conv=>whnf
     refine bKo rfl ?_;conv=>whnf
     refine gKo rfl ?_;conv=>whnf
     refine hK _ _ _ ?_;clear hK K
     refine HT_block ?_
     replace h:=W_bd h
     refine HT_lpK (body:=reserve_CheckDenied_b1 _ _ _) rfl h [3,5,7,77,78] [3,5] [] (fun kl kh ids b s=>⟨ofL ([(8,eI s.1),(79,eI s.2)]++kl),ofH ([]++kh),b+64⟩) ?_;(conv=>whnf);refine And.intro ?_ (fun s m h=>HT_st ?_)
     · refine weak_k ?_;conv=>whnf
       exact And.intro rfl (And.intro (aLc wkI (aLc wkI (aLc (WkR.ptr (fun _=>rfl)) (aLc (WkR.ptr (fun _=>rfl)) (aLc wkI (aLc (wkr (lsL fun _=>(lo_TOrdinary _))) (aLc wkI aLn))))))) (aLc ⟨some _,rfl,bRc rfl (cKc wkI (cKc (wkr (lsL fun _=>(lo_TEdge _))) (cKc (wkr (lsL fun _=>(lsI _ _))) (cKc (wkr (lsL fun _=>(lsI _ _))) (cKc wkI (cKc (wkr (lsL fun _=>(lo_TOrdinary _))) cKn))))))⟩ (aLc ⟨some _,rfl,bRc rfl (cKc wkI (cKc wkI (cKc wkI (cKc wkI cKn))))⟩ aLn)))
     replace h:=W_breserve_CheckDenied_b1 (W_bd h)
     refine HT_fr dCo rfl fun K hK=>?_;conv=>whnf
     refine hK _ _ _ ?_;clear hK K
     refine HT_seq ?_
     refine HT_if fun K1 K2 hK1 hK2=>?_;conv=>whnf
     refine cLk h (fun _ h=>?_) (fun _ h=>?_)
     · refine hK1 ?_;clear hK1 hK2 K1 K2
       refine HT_skip ?_
       refine tHn ?_
       refine HT_seq ?_
       refine HT_block ?_
       refine HT_fr dCo rfl fun K hK=>?_;conv=>whnf
       refine ix_lk h fun _ h=>?_;conv=>whnf
       refine nlA rfl ?_;conv=>whnf
       refine bKo rfl ?_;conv=>whnf
       refine And.intro rfl (And.intro (nle rfl) (And.intro rfl ?_));conv=>whnf
       refine hK _ _ _ ?_;clear hK K
       refine HT_fr dCo rfl fun K hK=>?_;conv=>whnf
       replace h:=W_jn h
       refine gd_lk h fun _ h=>?_;conv=>whnf
       refine cLk h (fun _ h=>?_) (fun _ h=>?_)<;>(conv=>whnf)
       · refine nlA rfl ?_;conv=>whnf
         refine bKo rfl ?_;conv=>whnf
         refine gKo rfl ?_;conv=>whnf
         refine nlA rfl ?_;conv=>whnf
         refine bKo rfl ?_;conv=>whnf
         refine gKo rfl ?_;conv=>whnf
         replace h:=W_bd h
         refine slices_Contains_int_call h63 h (WkL.refl _) (fun _ h=>?_);conv=>whnf
         refine hK _ _ _ ?_;clear hK K
         replace h:=W_jn h
         refine HT_if fun K1 K2 hK1 hK2=>?_;conv=>whnf
         refine cLk h (fun _ h=>?_) (fun _ h=>?_)
         · refine hK1 ?_;clear hK1 hK2 K1 K2
           refine HT_f dCo rfl fun K hK=>?_;conv=>whnf
           refine nlA rfl ?_;conv=>whnf
           refine bKo rfl ?_;conv=>whnf
           refine gKo rfl ?_;conv=>whnf
           refine hK _ _ _ ?_;clear hK K
           refine iBn ?_
           refine tHn ?_
           refine HT_f dCo rfl fun K hK=>?_;conv=>whnf
           refine hK _ _ _ ?_;clear hK K
           refine tHn ?_
           replace h:=W_xnx h
           refine ⟨_,h,?_⟩
           refine weak_k ?_;conv=>whnf
           exact And.intro rfl (And.intro (aLc wkI (aLc wkI (aLc (WkR.ptr (fun _=>rfl)) (aLc (WkR.ptr (fun _=>rfl)) (aLc wkI (aLc (wkr (lsL fun _=>(lo_TOrdinary _))) (aLc wkI aLn))))))) (aLc ⟨some _,rfl,bRc rfl (cKc wkI (cKc (wkr (lsL fun _=>(lo_TEdge _))) (cKc (wkr (lsL fun _=>(lsI _ _))) (cKc (wkr (lsL fun _=>(lsI _ _))) (cKc wkI (cKc (wkr (lsL fun _=>(lo_TOrdinary _))) cKn))))))⟩ (aLc ⟨some _,rfl,bRc rfl (cKc wkI (cKc wkI (cKc wkI (cKc wkI cKn))))⟩ aLn)))
         refine hK2 ?_;clear hK1 hK2 K1 K2
         refine HT_skip ?_
         refine iBn ?_
         refine tHn ?_
         refine HT_f dCo rfl fun K hK=>?_;conv=>whnf
         refine hK _ _ _ ?_;clear hK K
         refine tHn ?_
         replace h:=W_xnx h
         refine ⟨_,h,?_⟩
         refine weak_k ?_;conv=>whnf
         exact And.intro rfl (And.intro (aLc wkI (aLc wkI (aLc (WkR.ptr (fun _=>rfl)) (aLc (WkR.ptr (fun _=>rfl)) (aLc wkI (aLc (wkr (lsL fun _=>(lo_TOrdinary _))) (aLc wkI aLn))))))) (aLc ⟨some _,rfl,bRc rfl (cKc wkI (cKc (wkr (lsL fun _=>(lo_TEdge _))) (cKc (wkr (lsL fun _=>(lsI _ _))) (cKc (wkr (lsL fun _=>(lsI _ _))) (cKc wkI (cKc (wkr (lsL fun _=>(lo_TOrdinary _))) cKn))))))⟩ (aLc ⟨some _,rfl,bRc rfl (cKc wkI (cKc wkI (cKc wkI (cKc wkI cKn))))⟩ aLn)))
       refine hK _ _ _ ?_;clear hK K
       replace h:=W_jn h
       refine HT_if fun K1 K2 hK1 hK2=>?_;conv=>whnf
       refine hK2 ?_;clear hK1 hK2 K1 K2
       replace h:=W_cnF h
       refine HT_skip ?_
       refine iBn ?_
       refine tHn ?_
       refine HT_f dCo rfl fun K hK=>?_;conv=>whnf
       refine hK _ _ _ ?_;clear hK K
       refine tHn ?_
       replace h:=W_xnx h
       refine ⟨_,h,?_⟩
       refine weak_k ?_;conv=>whnf
       exact And.intro rfl (And.intro (aLc wkI (aLc wkI (aLc (WkR.ptr (fun _=>rfl)) (aLc (WkR.ptr (fun _=>rfl)) (aLc wkI (aLc (wkr (lsL fun _=>(lo_TOrdinary _))) (aLc wkI aLn))))))) (aLc ⟨some _,rfl,bRc rfl (cKc wkI (cKc (wkr (lsL fun _=>(lo_TEdge _))) (cKc (wkr (lsL fun _=>(lsI _ _))) (cKc (wkr (lsL fun _=>(lsI _ _))) (cKc wkI (cKc (wkr (lsL fun _=>(lo_TOrdinary _))) cKn))))))⟩ (aLc ⟨some _,rfl,bRc rfl (cKc wkI (cKc wkI (cKc wkI (cKc wkI cKn))))⟩ aLn)))
     refine hK2 ?_;clear hK1 hK2 K1 K2
     refine HT_exit ?_
     refine Then_e ?_
     refine Then_e ?_
     refine InBlock_e ?_
     replace h:=W_xbk h
     replace h:=W_inl h
     refine tHn ?_
     refine HT_fr dCo rfl fun K hK=>?_;conv=>whnf
     refine nlA rfl ?_;conv=>whnf
     refine bKo rfl ?_;conv=>whnf
     refine gKo rfl ?_;conv=>whnf
     refine nlA rfl ?_;conv=>whnf
     refine bKo rfl ?_;conv=>whnf
     refine gKo rfl ?_;conv=>whnf
     refine ix_lk h fun _ h=>?_;conv=>whnf
     refine gKo rfl ?_;conv=>whnf
     refine hK _ _ _ ?_;clear hK K
     refine HT_ret ?_
     refine Then_r ?_
     replace h:=W_some h
     refine PostP_r dCo fun K hK=>?_;conv=>whnf
     refine hK _ ?_;clear hK K
     cases h
     exact Wk.refl _
   refine hK2 ?_;clear hK1 hK2 K1 K2
   refine HT_skip ?_
   refine tHn ?_
   refine HT_fr dCo rfl fun K hK=>?_;conv=>whnf
   refine nlA rfl ?_;conv=>whnf
   refine bKo rfl ?_;conv=>whnf
   refine nlA rfl ?_;conv=>whnf
   replace h:=W_bd h
   refine reserve_left_call h38 h (WkL.refl _) (fun _ h=>?_);conv=>whnf
   refine bKo rfl ?_;conv=>whnf
   refine And.intro rfl (And.intro (nle rfl) (And.intro rfl ?_));conv=>whnf
   refine hK _ _ _ ?_;clear hK K
   refine HT_seq ?_
   refine HT_fr dCo rfl fun K hK=>?_;conv=>whnf
   refine hK _ _ _ ?_;clear hK K
   refine HT_if fun K1 K2 hK1 hK2=>?_;conv=>whnf
   refine cLk h (fun _ h=>?_) (fun _ h=>?_)
   · refine hK1 ?_;clear hK1 hK2 K1 K2
     refine HT_fr dCo rfl fun K hK=>?_;conv=>whnf
     refine hK _ _ _ ?_;clear hK K
     refine HT_ret ?_
     refine Then_r ?_
     replace h:=W_some h
     refine PostP_r dCo fun K hK=>?_;conv=>whnf
     refine hK _ ?_;clear hK K
     cases h
     exact Wk.refl _
   refine hK2 ?_;clear hK1 hK2 K1 K2
   refine HT_skip ?_
   refine tHn ?_
   refine HT_fr dCo rfl fun K hK=>?_;conv=>whnf
   refine nlA rfl ?_;conv=>whnf
   refine bKo rfl ?_;conv=>whnf
   refine nlA rfl ?_;conv=>whnf
   refine nlA rfl ?_;conv=>whnf
   refine bKo rfl ?_;conv=>whnf
   refine gKo rfl ?_;conv=>whnf
   replace h:=W_bd h
   refine flow_Without_call h25 h (WkL.refl _) (fun _ h=>?_);conv=>whnf
   refine bKo rfl ?_;conv=>whnf
   refine And.intro rfl (And.intro (nle rfl) (And.intro rfl ?_));conv=>whnf
   refine hK _ _ _ ?_;clear hK K
   refine HT_fd dCo mix_ok rfl (by kernel_rfl) fun K hK=>?_;conv=>whnf
   replace h:=W_jn h
   refine cLk h (fun _ h=>?_) (fun _ h=>?_)<;>(conv=>whnf)
   · refine nlA rfl ?_;conv=>whnf
     refine bKo rfl ?_;conv=>whnf
     refine gKo rfl ?_;conv=>whnf
     replace h:=W_bd h
     refine math_bits_OnesCount_call h45 h (WkL.refl _) (fun _ h=>?_);conv=>whnf
     refine nlA rfl ?_;conv=>whnf
     refine bKo rfl ?_;conv=>whnf
     refine gKo rfl ?_;conv=>whnf
     refine cLk h (fun _ h=>?_) (fun _ h=>?_)<;>(conv=>whnf)
     · refine nlA rfl ?_;conv=>whnf
       refine bKo rfl ?_;conv=>whnf
       refine nlA rfl ?_;conv=>whnf
       refine nlA rfl ?_;conv=>whnf
       refine bKo rfl ?_;conv=>whnf
       refine gKo rfl ?_;conv=>whnf
       replace h:=W_bd h
       refine flow_CheckMeet_call h27 h (WkL_cons (Wk.refl _) (WkL_cons (Wk.refl _) (WkL_cons (Wk_agg (WkL_cons (Wk.refl _) (WkL_cons Wk_nil (WkL_cons (Wk.refl _) WkL_nil)))) WkL_nil))) (fun _ h=>?_);conv=>whnf
       refine hK _ _ _ ?_;clear hK K
       refine HT_ret ?_
       replace h:=W_some h
       refine PostP_r dCo fun K hK=>?_;conv=>whnf
       refine hK _ ?_;clear hK K
       cases h
       exact Wk.refl _
     refine hK _ _ _ ?_;clear hK K
     refine HT_ret ?_
     replace h:=W_some h
     refine PostP_r dCo fun K hK=>?_;conv=>whnf
     refine hK _ ?_;clear hK K
     cases h
     exact Wk.refl _
   refine hK _ _ _ ?_;clear hK K
   refine HT_ret ?_
   replace h:=W_some h
   refine PostP_r dCo fun K hK=>?_;conv=>whnf
   refine hK _ ?_;clear hK K
   cases h
   exact Wk.refl _
 refine hK2 ?_;clear hK1 hK2 K1 K2
 refine HT_skip ?_
 refine tHn ?_
 refine HT_seq ?_
 refine HT_fr dCo rfl fun K hK=>?_;conv=>whnf
 replace h:=W_jn h
 refine nlA rfl ?_;conv=>whnf
 refine bKo rfl ?_;conv=>whnf
 refine gKo rfl ?_;conv=>whnf
 refine eqK_n (eqv_bool dCo rfl _ _) ?_;conv=>whnf
 refine cLk h (fun _ h=>?_) (fun _ h=>?_)<;>(conv=>whnf)
 · refine hK _ _ _ ?_;clear hK K
   refine HT_if fun K1 K2 hK1 hK2=>?_;conv=>whnf
   refine hK1 ?_;clear hK1 hK2 K1 K2
   replace h:=W_cnT h
   refine HT_fr dCo rfl fun K hK=>?_;conv=>whnf
   refine hK _ _ _ ?_;clear hK K
   refine HT_ret ?_
   refine Then_r ?_
   replace h:=W_some h
   refine PostP_r dCo fun K hK=>?_;conv=>whnf
   refine hK _ ?_;clear hK K
   cases h
   exact Wk.refl _
 refine nlA rfl ?_;conv=>whnf
 refine bKo rfl ?_;conv=>whnf
 refine gKo rfl ?_;conv=>whnf
 refine cLk h (fun _ h=>?_) (fun _ h=>?_)<;>(conv=>whnf)
 · refine hK _ _ _ ?_;clear hK K
   refine HT_if fun K1 K2 hK1 hK2=>?_;conv=>whnf
   refine cLk h (fun _ h=>?_) (fun _ h=>?_)
   · refine hK1 ?_;clear hK1 hK2 K1 K2
     refine HT_fr dCo rfl fun K hK=>?_;conv=>whnf
     refine hK _ _ _ ?_;clear hK K
     refine HT_ret ?_
     refine Then_r ?_
     replace h:=W_some h
     refine PostP_r dCo fun K hK=>?_;conv=>whnf
     refine hK _ ?_;clear hK K
     cases h
     exact Wk.refl _
   refine hK2 ?_;clear hK1 hK2 K1 K2
   refine HT_skip ?_
   refine tHn ?_
   refine HT_seq ?_
   refine HT_fr dCo rfl fun K hK=>?_;conv=>whnf
   refine nlA rfl ?_;conv=>whnf
   refine bKo rfl ?_;conv=>whnf
   refine gKo rfl ?_;conv=>whnf
   refine hK _ _ _ ?_;clear hK K
   refine HT_if fun K1 K2 hK1 hK2=>?_;conv=>whnf
   refine cLk h (fun _ h=>?_) (fun _ h=>?_)
   · refine hK1 ?_;clear hK1 hK2 K1 K2
     refine HT_seq ?_
     refine HT_fr dCo rfl fun K hK=>?_;conv=>whnf
     replace h:=W_jn h
     refine nlA rfl ?_;conv=>whnf
     refine bKo rfl ?_;conv=>whnf
     refine gKo rfl ?_;conv=>whnf
     refine nlA rfl ?_;conv=>whnf
     refine bKo rfl ?_;conv=>whnf
     refine gKo rfl ?_;conv=>whnf
     replace h:=W_bd h
     refine reserve_isIn_call h48 h (WkL.refl _) (fun _ h=>?_);conv=>whnf
     refine cLk h (fun _ h=>?_) (fun _ h=>?_)<;>(conv=>whnf)
     · refine hK _ _ _ ?_;clear hK K
       refine HT_if fun K1 K2 hK1 hK2=>?_;conv=>whnf
       refine hK1 ?_;clear hK1 hK2 K1 K2
       replace h:=W_cnT h
       refine HT_fr dCo rfl fun K hK=>?_;conv=>whnf
       refine hK _ _ _ ?_;clear hK K
       refine HT_ret ?_
       refine Then_r ?_
       refine Then_r ?_
       replace h:=W_some h
       refine PostP_r dCo fun K hK=>?_;conv=>whnf
       refine hK _ ?_;clear hK K
       cases h
       exact Wk.refl _
     refine nlA rfl ?_;conv=>whnf
     refine bKo rfl ?_;conv=>whnf
     refine nlA rfl ?_;conv=>whnf
     refine nlA rfl ?_;conv=>whnf
     refine bKo rfl ?_;conv=>whnf
     refine gKo rfl ?_;conv=>whnf
     refine nlA rfl ?_;conv=>whnf
     refine bKo rfl ?_;conv=>whnf
     refine gKo rfl ?_;conv=>whnf
     refine eqK_n (eqv45 _ _ _ _ _ _ _ _) ?_;conv=>whnf
     refine hK _ _ _ ?_;clear hK K
     refine HT_if fun K1 K2 hK1 hK2=>?_;conv=>whnf
     refine cLk h (fun _ h=>?_) (fun _ h=>?_)
     · refine hK1 ?_;clear hK1 hK2 K1 K2
       refine HT_fr dCo rfl fun K hK=>?_;conv=>whnf
       refine hK _ _ _ ?_;clear hK K
       refine HT_ret ?_
       refine Then_r ?_
       refine Then_r ?_
       replace h:=W_some h
       refine PostP_r dCo fun K hK=>?_;conv=>whnf
       refine hK _ ?_;clear hK K
       cases h
       exact Wk.refl _
     refine hK2 ?_;clear hK1 hK2 K1 K2
     refine HT_skip ?_
     refine tHn ?_
     refine HT_fr dCo rfl fun K hK=>?_;conv=>whnf
     refine hK _ _ _ ?_;clear hK K
     refine HT_seq ?_
     refine HT_fr dCo rfl fun K hK=>?_;conv=>whnf
     refine nlA rfl ?_;conv=>whnf
     refine bKo rfl ?_;conv=>whnf
     refine gKo rfl ?_;conv=>whnf
     refine hK _ _ _ ?_;clear hK K
     refine HT_block ?_
     replace h:=W_bd h
     refine HT_lpK (body:=reserve_CheckDenied_b1 _ _ _) rfl h [3,5,7,77,78] [3,5] [] (fun kl kh ids b s=>⟨ofL ([(8,eI s.1),(79,eI s.2)]++kl),ofH ([]++kh),b+64⟩) ?_;(conv=>whnf);refine And.intro ?_ (fun s m h=>HT_st ?_)
     · refine weak_k ?_;conv=>whnf
       exact And.intro rfl (And.intro (aLc wkI (aLc wkI (aLc (WkR.ptr (fun _=>rfl)) (aLc (WkR.ptr (fun _=>rfl)) (aLc wkI (aLc (wkr (lsL fun _=>(lo_TOrdinary _))) (aLc wkI aLn))))))) (aLc ⟨some _,rfl,bRc rfl (cKc wkI (cKc (wkr (lsL fun _=>(lo_TEdge _))) (cKc (wkr (lsL fun _=>(lsI _ _))) (cKc (wkr (lsL fun _=>(lsI _ _))) (cKc wkI (cKc (wkr (lsL fun _=>(lo_TOrdinary _))) cKn))))))⟩ (aLc ⟨some _,rfl,bRc rfl (cKc wkI (cKc wkI (cKc wkI (cKc wkI cKn))))⟩ aLn)))
     replace h:=W_breserve_CheckDenied_b1 (W_bd h)
     refine HT_fr dCo rfl fun K hK=>?_;conv=>whnf
     refine hK _ _ _ ?_;clear hK K
     refine HT_seq ?_
     refine HT_if fun K1 K2 hK1 hK2=>?_;conv=>whnf
     refine cLk h (fun _ h=>?_) (fun _ h=>?_)
     · refine hK1 ?_;clear hK1 hK2 K1 K2
       refine HT_skip ?_
       refine tHn ?_
       refine HT_seq ?_
       refine HT_block ?_
       refine HT_fr dCo rfl fun K hK=>?_;conv=>whnf
       refine ix_lk h fun _ h=>?_;conv=>whnf
       refine nlA rfl ?_;conv=>whnf
       refine bKo rfl ?_;conv=>whnf
       refine And.intro rfl (And.intro (nle rfl) (And.intro rfl ?_));conv=>whnf
       refine hK _ _ _ ?_;clear hK K
       refine HT_fr dCo rfl fun K hK=>?_;conv=>whnf
       replace h:=W_jn h
       refine gd_lk h fun _ h=>?_;conv=>whnf
       refine cLk h (fun _ h=>?_) (fun _ h=>?_)<;>(conv=>whnf)
       · refine nlA rfl ?_;conv=>whnf
         refine bKo rfl ?_;conv=>whnf
         refine gKo rfl ?_;conv=>whnf
         refine nlA rfl ?_;conv=>whnf
         refine bKo rfl ?_;conv=>whnf
         refine gKo rfl ?_;conv=>whnf
         replace h:=W_bd h
         refine slices_Contains_int_call h63 h (WkL.refl _) (fun _ h=>?_);conv=>whnf
         refine hK _ _ _ ?_;clear hK K
         replace h:=W_jn h
         refine HT_if fun K1 K2 hK1 hK2=>?_;conv=>whnf
         refine cLk h (fun _ h=>?_) (fun _ h=>?_)
         · refine hK1 ?_;clear hK1 hK2 K1 K2
           refine HT_f dCo rfl fun K hK=>?_;conv=>whnf
           refine nlA rfl ?_;conv=>whnf
           refine bKo rfl ?_;conv=>whnf
           refine gKo rfl ?_;conv=>whnf
           refine hK _ _ _ ?_;clear hK K
           refine iBn ?_
           refine tHn ?_
           refine HT_f dCo rfl fun K hK=>?_;conv=>whnf
           refine hK _ _ _ ?_;clear hK K
           refine tHn ?_
           replace h:=W_xnx h
           refine ⟨_,h,?_⟩
           refine weak_k ?_;conv=>whnf
           exact And.intro rfl (And.intro (aLc wkI (aLc wkI (aLc (WkR.ptr (fun _=>rfl)) (aLc (WkR.ptr (fun _=>rfl)) (aLc wkI (aLc (wkr (lsL fun _=>(lo_TOrdinary _))) (aLc wkI aLn))))))) (aLc ⟨some _,rfl,bRc rfl (cKc wkI (cKc (wkr (lsL fun _=>(lo_TEdge _))) (cKc (wkr (lsL fun _=>(lsI _ _))) (cKc (wkr (lsL fun _=>(lsI _ _))) (cKc wkI (cKc (wkr (lsL fun _=>(lo_TOrdinary _))) cKn))))))⟩ (aLc ⟨some _,rfl,bRc rfl (cKc wkI (cKc wkI (cKc wkI (cKc wkI cKn))))⟩ aLn)))
         refine hK2 ?_;clear hK1 hK2 K1 K2
         refine HT_skip ?_
         refine iBn ?_
         refine tHn ?_
         refine HT_f dCo rfl fun K hK=>?_;conv=>whnf
         refine hK _ _ _ ?_;clear hK K
         refine tHn ?_
         replace h:=W_xnx h
         refine ⟨_,h,?_⟩
         refine weak_k ?_;conv=>whnf
         exact And.intro rfl (And.intro (aLc wkI (aLc wkI (aLc (WkR.ptr (fun _=>rfl)) (aLc (WkR.ptr (fun _=>rfl)) (aLc wkI (aLc (wkr (lsL fun _=>(lo_TOrdinary _))) (aLc wkI aLn))))))) (aLc ⟨some _,rfl,bRc rfl (cKc wkI (cKc (wkr (lsL fun _=>(lo_TEdge _))) (cKc (wkr (lsL fun _=>(lsI _ _))) (cKc (wkr (lsL fun _=>(lsI _ _))) (cKc wkI (cKc (wkr (lsL fun _=>(lo_TOrdinary _))) cKn))))))⟩ (aLc ⟨some _,rfl,bRc rfl (cKc wkI (cKc wkI (cKc wkI (cKc wkI cKn))))⟩ aLn)))
       refine hK _ _ _ ?_;clear hK K
       replace h:=W_jn h
       refine HT_if fun K1 K2 hK1 hK2=>?_;conv=>whnf
       refine hK2 ?_;clear hK1 hK2 K1 K2
       replace h:=W_cnF h
       refine HT_skip ?_
       refine iBn ?_
       refine tHn ?_
       refine HT_f dCo rfl fun K hK=>?_;conv=>whnf
       refine hK _ _ _ ?_;clear hK K
       refine tHn ?_
       replace h:=W_xnx h
       refine ⟨_,h,?_⟩
       refine weak_k ?_;conv=>whnf
       exact And.intro rfl (And.intro (aLc wkI (aLc wkI (aLc (WkR.ptr (fun _=>rfl)) (aLc (WkR.ptr (fun _=>rfl)) (aLc wkI (aLc (wkr (lsL fun _=>(lo_TOrdinary _))) (aLc wkI aLn))))))) (aLc ⟨some _,rfl,bRc rfl (cKc wkI (cKc (wkr (lsL fun _=>(lo_TEdge _))) (cKc (wkr (lsL fun _=>(lsI _ _))) (cKc (wkr (lsL fun _=>(lsI _ _))) (cKc wkI (cKc (wkr (lsL fun _=>(lo_TOrdinary _))) cKn))))))⟩ (aLc ⟨some _,rfl,bRc rfl (cKc wkI (cKc wkI (cKc wkI (cKc wkI cKn))))⟩ aLn)))
     refine hK2 ?_;clear hK1 hK2 K1 K2
     refine HT_exit ?_
     refine Then_e ?_
     refine Then_e ?_
     refine InBlock_e ?_
     replace h:=W_xbk h
     replace h:=W_inl h
     refine tHn ?_
     refine HT_fr dCo rfl fun K hK=>?_;conv=>whnf
     refine nlA rfl ?_;conv=>whnf
     refine bKo rfl ?_;conv=>whnf
     refine gKo rfl ?_;conv=>whnf
     refine nlA rfl ?_;conv=>whnf
     refine bKo rfl ?_;conv=>whnf
     refine gKo rfl ?_;conv=>whnf
     refine ix_lk h fun _ h=>?_;conv=>whnf
     refine gKo rfl ?_;conv=>whnf
     refine hK _ _ _ ?_;clear hK K
     refine HT_ret ?_
     refine Then_r ?_
     replace h:=W_some h
     refine PostP_r dCo fun K hK=>?_;conv=>whnf
     refine hK _ ?_;clear hK K
     cases h
     exact Wk.refl _
   refine hK2 ?_;clear hK1 hK2 K1 K2
   refine HT_skip ?_
   refine tHn ?_
   refine HT_fr dCo rfl fun K hK=>?_;conv=>whnf
   refine nlA rfl ?_;conv=>whnf
   refine bKo rfl ?_;conv=>whnf
   refine nlA rfl ?_;conv=>whnf
   replace h:=W_bd h
   refine reserve_left_call h38 h (WkL.refl _) (fun _ h=>?_);conv=>whnf
   refine bKo rfl ?_;conv=>whnf
   refine And.intro rfl (And.intro (nle rfl) (And.intro rfl ?_));conv=>whnf
   refine hK _ _ _ ?_;clear hK K
   refine HT_seq ?_
   refine HT_fr dCo rfl fun K hK=>?_;conv=>whnf
   refine hK _ _ _ ?_;clear hK K
   refine HT_if fun K1 K2 hK1 hK2=>?_;conv=>whnf
   refine cLk h (fun _ h=>?_) (fun _ h=>?_)
   · refine hK1 ?_;clear hK1 hK2 K1 K2
     refine HT_fr dCo rfl fun K hK=>?_;conv=>whnf
     refine hK _ _ _ ?_;clear hK K
     refine HT_ret ?_
     refine Then_r ?_
     replace h:=W_some h
     refine PostP_r dCo fun K hK=>?_;conv=>whnf
     refine hK _ ?_;clear hK K
     cases h
     exact Wk.refl _
   refine hK2 ?_;clear hK1 hK2 K1 K2
   refine HT_skip ?_
   refine tHn ?_
   refine HT_fr dCo rfl fun K hK=>?_;conv=>whnf
   refine nlA rfl ?_;conv=>whnf
   refine bKo rfl ?_;conv=>whnf
   refine nlA rfl ?_;conv=>whnf
   refine nlA rfl ?_;conv=>whnf
   refine bKo rfl ?_;conv=>whnf
   refine gKo rfl ?_;conv=>whnf
   replace h:=W_bd h
   refine flow_Without_call h25 h (WkL.refl _) (fun _ h=>?_);conv=>whnf
   refine bKo rfl ?_;conv=>whnf
   refine And.intro rfl (And.intro (nle rfl) (And.intro rfl ?_));conv=>whnf
   refine hK _ _ _ ?_;clear hK K
   refine HT_fd dCo mix_ok rfl (by kernel_rfl) fun K hK=>?_;conv=>whnf
   replace h:=W_jn h
   refine cLk h (fun _ h=>?_) (fun _ h=>?_)<;>(conv=>whnf)
   · refine nlA rfl ?_;conv=>whnf
     refine bKo rfl ?_;conv=>whnf
     refine gKo rfl ?_;conv=>whnf
     replace h:=W_bd h
     refine math_bits_OnesCount_call h45 h (WkL.refl _) (fun _ h=>?_);conv=>whnf
     refine nlA rfl ?_;conv=>whnf
     refine bKo rfl ?_;conv=>whnf
     refine gKo rfl ?_;conv=>whnf
     refine cLk h (fun _ h=>?_) (fun _ h=>?_)<;>(conv=>whnf)
     · refine nlA rfl ?_;conv=>whnf
       refine bKo rfl ?_;conv=>whnf
       refine nlA rfl ?_;conv=>whnf
       refine nlA rfl ?_;conv=>whnf
       refine bKo rfl ?_;conv=>whnf
       refine gKo rfl ?_;conv=>whnf
       replace h:=W_bd h
       refine flow_CheckMeet_call h27 h (WkL_cons (Wk.refl _) (WkL_cons (Wk.refl _) (WkL_cons (Wk_agg (WkL_cons (Wk.refl _) (WkL_cons Wk_nil (WkL_cons (Wk.refl _) WkL_nil)))) WkL_nil))) (fun _ h=>?_);conv=>whnf
       refine hK _ _ _ ?_;clear hK K
       refine HT_ret ?_
       replace h:=W_some h
       refine PostP_r dCo fun K hK=>?_;conv=>whnf
       refine hK _ ?_;clear hK K
       cases h
       exact Wk.refl _
     refine hK _ _ _ ?_;clear hK K
     refine HT_ret ?_
     replace h:=W_some h
     refine PostP_r dCo fun K hK=>?_;conv=>whnf
     refine hK _ ?_;clear hK K
     cases h
     exact Wk.refl _
   refine hK _ _ _ ?_;clear hK K
   refine HT_ret ?_
   replace h:=W_some h
   refine PostP_r dCo fun K hK=>?_;conv=>whnf
   refine hK _ ?_;clear hK K
   cases h
   exact Wk.refl _
 refine hK _ _ _ ?_;clear hK K
 refine HT_if fun K1 K2 hK1 hK2=>?_;conv=>whnf
 refine hK2 ?_;clear hK1 hK2 K1 K2
 replace h:=W_cnF h
 refine HT_skip ?_
 refine tHn ?_
 refine HT_seq ?_
 refine HT_fr dCo rfl fun K hK=>?_;conv=>whnf
 refine nlA rfl ?_;conv=>whnf
 refine bKo rfl ?_;conv=>whnf
 refine gKo rfl ?_;conv=>whnf
 refine hK _ _ _ ?_;clear hK K
 refine HT_if fun K1 K2 hK1 hK2=>?_;conv=>whnf
 refine cLk h (fun _ h=>?_) (fun _ h=>?_)
 · refine hK1 ?_;clear hK1 hK2 K1 K2
   refine HT_seq ?_
   refine HT_fr dCo rfl fun K hK=>?_;conv=>whnf
   replace h:=W_jn h
   refine nlA rfl ?_;conv=>whnf
   refine bKo rfl ?_;conv=>whnf
   refine gKo rfl ?_;conv=>whnf
   refine nlA rfl ?_;conv=>whnf
   refine bKo rfl ?_;conv=>whnf
   refine gKo rfl ?_;conv=>whnf
   replace h:=W_bd h
   refine reserve_isIn_call h48 h (WkL.refl _) (fun _ h=>?_);conv=>whnf
   refine cLk h (fun _ h=>?_) (fun _ h=>?_)<;>(conv=>whnf)
   · refine hK _ _ _ ?_;clear hK K
     refine HT_if fun K1 K2 hK1 hK2=>?_;conv=>whnf
     refine hK1 ?_;clear hK1 hK2 K1 K2
     replace h:=W_cnT h
     refine HT_fr dCo rfl fun K hK=>?_;conv=>whnf
     refine hK _ _ _ ?_;clear hK K
     refine HT_ret ?_
     refine Then_r ?_
     refine Then_r ?_
     replace h:=W_some h
     refine PostP_r dCo fun K hK=>?_;conv=>whnf
     refine hK _ ?_;clear hK K
     cases h
     exact Wk.refl _
   refine nlA rfl ?_;conv=>whnf
   refine bKo rfl ?_;conv=>whnf
   refine nlA rfl ?_;conv=>whnf
   refine nlA rfl ?_;conv=>whnf
   refine bKo rfl ?_;conv=>whnf
   refine gKo rfl ?_;conv=>whnf
   refine nlA rfl ?_;conv=>whnf
   refine bKo rfl ?_;conv=>whnf
   refine gKo rfl ?_;conv=>whnf
   refine eqK_n (eqv45 _ _ _ _ _ _ _ _) ?_;conv=>whnf
   refine hK _ _ _ ?_;clear hK K
   refine HT_if fun K1 K2 hK1 hK2=>?_;conv=>whnf
   refine cLk h (fun _ h=>?_) (fun _ h=>?_)
   · refine hK1 ?_;clear hK1 hK2 K1 K2
     refine HT_fr dCo rfl fun K hK=>?_;conv=>whnf
     refine hK _ _ _ ?_;clear hK K
     refine HT_ret ?_
     refine Then_r ?_
     refine Then_r ?_
     replace h:=W_some h
     refine PostP_r dCo fun K hK=>?_;conv=>whnf
     refine hK _ ?_;clear hK K
     cases h
     exact Wk.refl _
   refine hK2 ?_;clear hK1 hK2 K1 K2
   refine HT_skip ?_
   refine tHn ?_
   refine HT_fr dCo rfl fun K hK=>?_;conv=>whnf
   refine hK _ _ _ ?_;clear hK K
   refine HT_seq ?_
   refine HT_fr dCo rfl fun K hK=>?_;conv=>whnf
   refine nlA rfl ?_;conv=>whnf
   refine bKo rfl ?_;conv=>whnf
   refine gKo rfl ?_;conv=>whnf
   refine hK _ _ _ ?_;clear hK K
   refine HT_block ?_
   replace h:=W_bd h
   refine HT_lpK (body:=reserve_CheckDenied_b1 _ _ _) rfl h [3,5,7,77,78] [3,5] [] (fun kl kh ids b s=>⟨ofL ([(8,eI s.1),(79,eI s.2)]++kl),ofH ([]++kh),b+64⟩) ?_;(conv=>whnf);refine And.intro ?_ (fun s m h=>HT_st ?_)
   · refine weak_k ?_;conv=>whnf
     exact And.intro rfl (And.intro (aLc wkI (aLc wkI (aLc (WkR.ptr (fun _=>rfl)) (aLc (WkR.ptr (fun _=>rfl)) (aLc wkI (aLc (wkr (lsL fun _=>(lo_TOrdinary _))) (aLc wkI aLn))))))) (aLc ⟨some _,rfl,bRc rfl (cKc wkI (cKc (wkr (lsL fun _=>(lo_TEdge _))) (cKc (wkr (lsL fun _=>(lsI _ _))) (cKc (wkr (lsL fun _=>(lsI _ _))) (cKc wkI (cKc (wkr (lsL fun _=>(lo_TOrdinary _))) cKn))))))⟩ (aLc ⟨some _,rfl,bRc rfl (cKc wkI (cKc wkI (cKc wkI (cKc wkI cKn))))⟩ aLn)))
   replace h:=W_breserve_CheckDenied_b1 (W_bd h)
   refine HT_fr dCo rfl fun K hK=>?_;conv=>whnf
   refine hK _ _ _ ?_;clear hK K
   refine HT_seq ?_
   refine HT_if fun K1 K2 hK1 hK2=>?_;conv=>whnf
   refine cLk h (fun _ h=>?_) (fun _ h=>?_)
   · refine hK1 ?_;clear hK1 hK2 K1 K2
     refine HT_skip ?_
     refine tHn ?_
     refine HT_seq ?_
     refine HT_block ?_
     refine HT_fr dCo rfl fun K hK=>?_;conv=>whnf
     refine ix_lk h fun _ h=>?_;conv=>whnf
     refine nlA rfl ?_;conv=>whnf
     refine bKo rfl ?_;conv=>whnf
     refine And.intro rfl (And.intro (nle rfl) (And.intro rfl ?_));conv=>whnf
     refine hK _ _ _ ?_;clear hK K
     refine HT_fr dCo rfl fun K hK=>?_;conv=>whnf
     replace h:=W_jn h
     refine gd_lk h fun _ h=>?_;conv=>whnf
     refine cLk h (fun _ h=>?_) (fun _ h=>?_)<;>(conv=>whnf)
     · refine nlA rfl ?_;conv=>whnf
       refine bKo rfl ?_;conv=>whnf
       refine gKo rfl ?_;conv=>whnf
       refine nlA rfl ?_;conv=>whnf
       refine bKo rfl ?_;conv=>whnf
       refine gKo rfl ?_;conv=>whnf
       replace h:=W_bd h
       refine slices_Contains_int_call h63 h (WkL.refl _) (fun _ h=>?_);conv=>whnf
       refine hK _ _ _ ?_;clear hK K
       replace h:=W_jn h
       refine HT_if fun K1 K2 hK1 hK2=>?_;conv=>whnf
       refine cLk h (fun _ h=>?_) (fun _ h=>?_)
       · refine hK1 ?_;clear hK1 hK2 K1 K2
         refine HT_f dCo rfl fun K hK=>?_;conv=>whnf
         refine nlA rfl ?_;conv=>whnf
         refine bKo rfl ?_;conv=>whnf
         refine gKo rfl ?_;conv=>whnf
         refine hK _ _ _ ?_;clear hK K
         refine iBn ?_
         refine tHn ?_
         refine HT_f dCo rfl fun K hK=>?_;conv=>whnf
         refine hK _ _ _ ?_;clear hK K
         refine tHn ?_
         replace h:=W_xnx h
         refine ⟨_,h,?_⟩
         refine weak_k ?_;conv=>whnf
         exact And.intro rfl (And.intro (aLc wkI (aLc wkI (aLc (WkR.ptr (fun _=>rfl)) (aLc (WkR.ptr (fun _=>rfl)) (aLc wkI (aLc (wkr (lsL fun _=>(lo_TOrdinary _))) (aLc wkI aLn))))))) (aLc ⟨some _,rfl,bRc rfl (cKc wkI (cKc (wkr (lsL fun _=>(lo_TEdge _))) (cKc (wkr (lsL fun _=>(lsI _ _))) (cKc (wkr (lsL fun _=>(lsI _ _))) (cKc wkI (cKc (wkr (lsL fun _=>(lo_TOrdinary _))) cKn))))))⟩ (aLc ⟨some _,rfl,bRc rfl (cKc wkI (cKc wkI (cKc wkI (cKc wkI cKn))))⟩ aLn)))
       refine hK2 ?_;clear hK1 hK2 K1 K2
       refine HT_skip ?_
       refine iBn ?_
       refine tHn ?_
       refine HT_f dCo rfl fun K hK=>?_;conv=>whnf
       refine hK _ _ _ ?_;clear hK K
       refine tHn ?_
       replace h:=W_xnx h
       refine ⟨_,h,?_⟩
       refine weak_k ?_;conv=>whnf
       exact And.intro rfl (And.intro (aLc wkI (aLc wkI (aLc (WkR.ptr (fun _=>rfl)) (aLc (WkR.ptr (fun _=>rfl)) (aLc wkI (aLc (wkr (lsL fun _=>(lo_TOrdinary _))) (aLc wkI aLn))))))) (aLc ⟨some _,rfl,bRc rfl (cKc wkI (cKc (wkr (lsL fun _=>(lo_TEdge _))) (cKc (wkr (lsL fun _=>(lsI _ _))) (cKc (wkr (lsL fun _=>(lsI _ _))) (cKc wkI (cKc (wkr (lsL fun _=>(lo_TOrdinary _))) cKn))))))⟩ (aLc ⟨some _,rfl,bRc rfl (cKc wkI (cKc wkI (cKc wkI (cKc wkI cKn))))⟩ aLn)))
     refine hK _ _ _ ?_;clear hK K
     replace h:=W_jn h
     refine HT_if fun K1 K2 hK1 hK2=>?_;conv=>whnf
     refine hK2 ?_;clear hK1 hK2 K1 K2
     replace h:=W_cnF h
     refine HT_skip ?_
     refine iBn ?_
     refine tHn ?_
     refine HT_f dCo rfl fun K hK=>?_;conv=>whnf
     refine hK _ _ _ ?_;clear hK K
     refine tHn ?_
     replace h:=W_xnx h
     refine ⟨_,h,?_⟩
     refine weak_k ?_;conv=>whnf
     exact And.intro rfl (And.intro (aLc wkI (aLc wkI (aLc (WkR.ptr (fun _=>rfl)) (aLc (WkR.ptr (fun _=>rfl)) (aLc wkI (aLc (wkr (lsL fun _=>(lo_TOrdinary _))) (aLc wkI aLn))))))) (aLc ⟨some _,rfl,bRc rfl (cKc wkI (cKc (wkr (lsL fun _=>(lo_TEdge _))) (cKc (wkr (lsL fun _=>(lsI _ _))) (cKc (wkr (lsL fun _=>(lsI _ _))) (cKc wkI (cKc (wkr (lsL fun _=>(lo_TOrdinary _))) cKn))))))⟩ (aLc ⟨some _,rfl,bRc rfl (cKc wkI (cKc wkI (cKc wkI (cKc wkI cKn))))⟩ aLn)))
   refine hK2 ?_;clear hK1 hK2 K1 K2
   refine HT_exit ?_
   refine Then_e ?_
   refine Then_e ?_
   refine InBlock_e ?_
   replace h:=W_xbk h
   replace h:=W_inl h
   refine tHn ?_
   refine HT_fr dCo rfl fun K hK=>?_;conv=>whnf
   refine nlA rfl ?_;conv=>whnf
   refine bKo rfl ?_;conv=>whnf
   refine gKo rfl ?_;conv=>whnf
   refine nlA rfl ?_;conv=>whnf
   refine bKo rfl ?_;conv=>whnf
   refine gKo rfl ?_;conv=>whnf
   refine ix_lk h fun _ h=>?_;conv=>whnf
   refine gKo rfl ?_;conv=>whnf
   refine hK _ _ _ ?_;clear hK K
   refine HT_ret ?_
   refine Then_r ?_
   replace h:=W_some h
   refine PostP_r dCo fun K hK=>?_;conv=>whnf
   refine hK _ ?_;clear hK K
   cases h
   exact Wk.refl _
 refine hK2 ?_;clear hK1 hK2 K1 K2
 refine HT_skip ?_
 refine tHn ?_
 refine HT_fr dCo rfl fun K hK=>?_;conv=>whnf
 refine nlA rfl ?_;conv=>whnf
 refine bKo rfl ?_;conv=>whnf
 refine nlA rfl ?_;conv=>whnf
 replace h:=W_bd h
 refine reserve_left_call h38 h (WkL.refl _) (fun _ h=>?_);conv=>whnf
 refine bKo rfl ?_;conv=>whnf
 refine And.intro rfl (And.intro (nle rfl) (And.intro rfl ?_));conv=>whnf
 refine hK _ _ _ ?_;clear hK K
 refine HT_seq ?_
 refine HT_fr dCo rfl fun K hK=>?_;conv=>whnf
 refine hK _ _ _ ?_;clear hK K
 refine HT_if fun K1 K2 hK1 hK2=>?_;conv=>whnf
 refine cLk h (fun _ h=>?_) (fun _ h=>?_)
 · refine hK1 ?_;clear hK1 hK2 K1 K2
   refine HT_fr dCo rfl fun K hK=>?_;conv=>whnf
   refine hK _ _ _ ?_;clear hK K
   refine HT_ret ?_
   refine Then_r ?_
   replace h:=W_some h
   refine PostP_r dCo fun K hK=>?_;conv=>whnf
   refine hK _ ?_;clear hK K
   cases h
   exact Wk.refl _
 refine hK2 ?_;clear hK1 hK2 K1 K2
 refine HT_skip ?_
 refine tHn ?_
 refine HT_fr dCo rfl fun K hK=>?_;conv=>whnf
 refine nlA rfl ?_;conv=>whnf
 refine bKo rfl ?_;conv=>whnf
 refine nlA rfl ?_;conv=>whnf
 refine nlA rfl ?_;conv=>whnf
 refine bKo rfl ?_;conv=>whnf
 refine gKo rfl ?_;conv=>whnf
 replace h:=W_bd h
 refine flow_Without_call h25 h (WkL.refl _) (fun _ h=>?_);conv=>whnf
 refine bKo rfl ?_;conv=>whnf
 refine And.intro rfl (And.intro (nle rfl) (And.intro rfl ?_));conv=>whnf
 refine hK _ _ _ ?_;clear hK K
 refine HT_fd dCo mix_ok rfl (by kernel_rfl) fun K hK=>?_;conv=>whnf
 replace h:=W_jn h
 refine cLk h (fun _ h=>?_) (fun _ h=>?_)<;>(conv=>whnf)
 · refine nlA rfl ?_;conv=>whnf
   refine bKo rfl ?_;conv=>whnf
   refine gKo rfl ?_;conv=>whnf
   replace h:=W_bd h
   refine math_bits_OnesCount_call h45 h (WkL.refl _) (fun _ h=>?_);conv=>whnf
   refine nlA rfl ?_;conv=>whnf
   refine bKo rfl ?_;conv=>whnf
   refine gKo rfl ?_;conv=>whnf
   refine cLk h (fun _ h=>?_) (fun _ h=>?_)<;>(conv=>whnf)
   · refine nlA rfl ?_;conv=>whnf
     refine bKo rfl ?_;conv=>whnf
     refine nlA rfl ?_;conv=>whnf
     refine nlA rfl ?_;conv=>whnf
     refine bKo rfl ?_;conv=>whnf
     refine gKo rfl ?_;conv=>whnf
     replace h:=W_bd h
     refine flow_CheckMeet_call h27 h (WkL_cons (Wk.refl _) (WkL_cons (Wk.refl _) (WkL_cons (Wk_agg (WkL_cons (Wk.refl _) (WkL_cons Wk_nil (WkL_cons (Wk.refl _) WkL_nil)))) WkL_nil))) (fun _ h=>?_);conv=>whnf
     refine hK _ _ _ ?_;clear hK K
     refine HT_ret ?_
     replace h:=W_some h
     refine PostP_r dCo fun K hK=>?_;conv=>whnf
     refine hK _ ?_;clear hK K
     cases h
     exact Wk.refl _
   refine hK _ _ _ ?_;clear hK K
   refine HT_ret ?_
   replace h:=W_some h
   refine PostP_r dCo fun K hK=>?_;conv=>whnf
   refine hK _ ?_;clear hK K
   cases h
   exact Wk.refl _
 refine hK _ _ _ ?_;clear hK K
 refine HT_ret ?_
 replace h:=W_some h
 refine PostP_r dCo fun K hK=>?_;conv=>whnf
 refine hK _ ?_;clear hK K
 cases h
 exact Wk.refl _
theorem reserve_CheckDenied_call {T:Tbl} (hT:T 30=pureR reserve_CheckDenied_S) {args:List AV} {hp:Heap} {id:Nat} {k:AV→Prop} {a0:TReserve} {a1:Int} {a2:TDenied} {Φ:Bool→Prop} (h:W (reserve_CheckDenied_F a0 a1 a2) Φ) (hw:WkL args [eTReserve a0,eI a1,eTDenied a2]) (hk:∀ y,Φ y→k (eB y)):callpK T 30 args hp id k:=by
 obtain ⟨y,e,hy⟩:=W_inv h
 exact callpK_pure hT ⟨a0,a1,a2,rfl,W_of e rfl⟩ (by exact (lsB _)) hw (hk y hy)
end Go.Proofs.Ytkjccabdpeldhaa
namespace Go.Proofs.Ytkjccabdpeldhaa
open Go Go.Eng
set_option maxHeartbeats 0
set_option maxRecDepth 100000
def reserve_reason_F (a0:TReserve) (a1:Int) (a2:Int):Option (TDenied×Bool):=bd (reserve_left_F a0 a2) fun y1=>
   cn (decide (y1.2.2≥0)) (some ((⟨a1,y1.2.2,0,0⟩:TDenied),true)) (bd (reserve_worst_F y1.1 y1.2.1 a0.Faults) fun y2=>let v3:=(decide (y2.margin_f<0));
   some ((⟨a1,(-1),y2.failed_f,y2.nodes_f⟩:TDenied),v3))
def reserve_reason_S:List AV→AV→Prop:=fun args r=>∃ a0 a1 a2,args=[eTReserve a0,eI a1,eI a2]∧W (reserve_reason_F a0 a1 a2) fun y=>r=(.tup [eTDenied y.1,eB y.2])
theorem reserve_reason_ok {T:Tbl} (hT:TOk Try.prog T) (hpf:PfOk T PF) (h36:T 36=pureR reserve_worst_S) (h38:T 38=pureR reserve_left_S):FOk Try.prog 35 (pureR reserve_reason_S):=by
 refine FOk_pure hT hpf Try.func35 rfl Try.ntmps35 Try.results35 (by decide) ?_
 rintro args r ⟨a0,a1,a2,rfl,h⟩
 refine ⟨nle rfl,?_,?_⟩
 · exact (lsC (lo_TReserve _) (lsC (lsI _ _) (lsC (lsI _ _) lsN)))
 rw [reserve_reason_F.eq_1] at h
 refine HT_fr dCo rfl fun K hK=>?_;conv=>whnf
 refine hK _ _ _ ?_;clear hK K
 refine HT_fr dCo rfl fun K hK=>?_;conv=>whnf
 refine nlA rfl ?_;conv=>whnf
 refine bKo rfl ?_;conv=>whnf
 refine nlA rfl ?_;conv=>whnf
 replace h:=W_bd h
 refine reserve_left_call h38 h (WkL.refl _) (fun _ h=>?_);conv=>whnf
 refine bKo rfl ?_;conv=>whnf
 refine And.intro rfl (And.intro (nle rfl) (And.intro rfl ?_));conv=>whnf
 refine hK _ _ _ ?_;clear hK K
 refine HT_seq ?_
 refine HT_fr dCo rfl fun K hK=>?_;conv=>whnf
 refine hK _ _ _ ?_;clear hK K
 refine HT_if fun K1 K2 hK1 hK2=>?_;conv=>whnf
 refine cLk h (fun _ h=>?_) (fun _ h=>?_)
 · refine hK1 ?_;clear hK1 hK2 K1 K2
   refine HT_fr dCo rfl fun K hK=>?_;conv=>whnf
   refine bKo rfl ?_;conv=>whnf
   refine And.intro rfl (And.intro (nle rfl) (And.intro rfl ?_));conv=>whnf
   refine hK _ _ _ ?_;clear hK K
   refine HT_ret ?_
   refine Then_r ?_
   replace h:=W_some h
   refine PostP_r dCo fun K hK=>?_;conv=>whnf
   refine nlA rfl ?_;conv=>whnf
   refine bKo rfl ?_;conv=>whnf
   refine nlA rfl ?_;conv=>whnf
   refine hK _ ?_;clear hK K
   cases h
   exact Wk.refl _
 refine hK2 ?_;clear hK1 hK2 K1 K2
 refine HT_skip ?_
 refine tHn ?_
 refine HT_fr dCo rfl fun K hK=>?_;conv=>whnf
 refine nlA rfl ?_;conv=>whnf
 refine bKo rfl ?_;conv=>whnf
 refine nlA rfl ?_;conv=>whnf
 refine nlA rfl ?_;conv=>whnf
 refine bKo rfl ?_;conv=>whnf
 refine gKo rfl ?_;conv=>whnf
 replace h:=W_bd h
 refine reserve_worst_call h36 h (WkL.refl _) (fun _ h=>?_);conv=>whnf
 refine bKo rfl ?_;conv=>whnf
 refine And.intro rfl (And.intro (nle rfl) (And.intro rfl ?_));conv=>whnf
 refine hK _ _ _ ?_;clear hK K
 refine HT_fdP (.step 0 (.step 1 (.step 2 (.step 3 (.step 4 (.step 5 (.step 6 (.two 7 9 (.step 9 (.step 8 (.step 10 (.nil)))) (.step 7 (.step 8 (.step 10 (.nil)))))))))))) dCo mix_ok rfl (by kernel_rfl) fun K hK=>?_;conv=>whnf
 refine nlA rfl ?_;conv=>whnf
 refine bKo rfl ?_;conv=>whnf
 refine gKo rfl ?_;conv=>whnf
 refine nlA rfl ?_;conv=>whnf
 refine bKo rfl ?_;conv=>whnf
 refine gKo rfl ?_;conv=>whnf
 refine And.intro ?_ ?_<;>(conv=>whnf)
 · refine nlA rfl ?_;conv=>whnf
   refine bKo rfl ?_;conv=>whnf
   refine gKo rfl ?_;conv=>whnf
   refine bKo rfl ?_;conv=>whnf
   refine And.intro rfl (And.intro (nle rfl) (And.intro rfl ?_));conv=>whnf
   refine hK _ _ _ ?_;clear hK K
   refine HT_ret ?_
   replace h:=W_some h
   refine PostP_r dCo fun K hK=>?_;conv=>whnf
   refine nlA rfl ?_;conv=>whnf
   refine bKo rfl ?_;conv=>whnf
   refine nlA rfl ?_;conv=>whnf
   refine hK _ ?_;clear hK K
   cases h
   exact Wk.refl _
 refine bKo rfl ?_;conv=>whnf
 refine And.intro rfl (And.intro (nle rfl) (And.intro rfl ?_));conv=>whnf
 refine nlA rfl ?_;conv=>whnf
 refine bKo rfl ?_;conv=>whnf
 refine gKo rfl ?_;conv=>whnf
 refine hK _ _ _ ?_;clear hK K
 refine HT_ret ?_
 replace h:=W_some h
 refine PostP_r dCo fun K hK=>?_;conv=>whnf
 refine nlA rfl ?_;conv=>whnf
 refine bKo rfl ?_;conv=>whnf
 refine nlA rfl ?_;conv=>whnf
 refine hK _ ?_;clear hK K
 cases h
 exact Wk.refl _
theorem reserve_reason_call {T:Tbl} (hT:T 35=pureR reserve_reason_S) {args:List AV} {hp:Heap} {id:Nat} {k:AV→Prop} {a0:TReserve} {a1:Int} {a2:Int} {Φ:TDenied×Bool→Prop} (h:W (reserve_reason_F a0 a1 a2) Φ) (hw:WkL args [eTReserve a0,eI a1,eI a2]) (hk:∀ y,Φ y→k (.tup [eTDenied y.1,eB y.2])):callpK T 35 args hp id k:=by
 obtain ⟨y,e,hy⟩:=W_inv h
 exact callpK_pure hT ⟨a0,a1,a2,rfl,W_of e rfl⟩ (by exact loose_tup (lsC (lo_TDenied _) (lsC (lsB _) lsN))) hw (hk y hy)
def reserve_Lack_F (a0:TReserve):Option (TDenied×Bool):=bd (reserve_Valid_F a0) fun y1=>
   cn (!y1) (some ((⟨0,0,0,0⟩:TDenied),false)) (bd (reserve_reason_F a0 (-1) 0) fun y2=>cn (!y2.2) (some ((⟨0,0,0,0⟩:TDenied),false)) (some (y2.1,true)))
def reserve_Lack_S:List AV→AV→Prop:=fun args r=>∃ a0,args=[eTReserve a0]∧W (reserve_Lack_F a0) fun y=>r=(.tup [eTDenied y.1,eB y.2])
theorem reserve_Lack_ok {T:Tbl} (hT:TOk Try.prog T) (hpf:PfOk T PF) (h23:T 23=pureR reserve_Valid_S) (h35:T 35=pureR reserve_reason_S):FOk Try.prog 28 (pureR reserve_Lack_S):=by
 refine FOk_pure hT hpf Try.func28 rfl Try.ntmps28 Try.results28 (by decide) ?_
 rintro args r ⟨a0,rfl,h⟩
 refine ⟨nle rfl,?_,?_⟩
 · exact (lsC (lo_TReserve _) lsN)
 rw [reserve_Lack_F.eq_1] at h
 refine HT_fr dCo rfl fun K hK=>?_;conv=>whnf
 refine hK _ _ _ ?_;clear hK K
 refine HT_seq ?_
 refine HT_fr dCo rfl fun K hK=>?_;conv=>whnf
 refine nlA rfl ?_;conv=>whnf
 refine bKo rfl ?_;conv=>whnf
 refine nlA rfl ?_;conv=>whnf
 replace h:=W_bd h
 refine reserve_Valid_call h23 h (WkL.refl _) (fun _ h=>?_);conv=>whnf
 refine hK _ _ _ ?_;clear hK K
 refine HT_if fun K1 K2 hK1 hK2=>?_;conv=>whnf
 refine cLk h (fun _ h=>?_) (fun _ h=>?_)
 · refine hK1 ?_;clear hK1 hK2 K1 K2
   refine HT_fr dCo rfl fun K hK=>?_;conv=>whnf
   refine bKo rfl ?_;conv=>whnf
   refine And.intro rfl (And.intro (nle rfl) (And.intro rfl ?_));conv=>whnf
   refine hK _ _ _ ?_;clear hK K
   refine HT_ret ?_
   refine Then_r ?_
   replace h:=W_some h
   refine PostP_r dCo fun K hK=>?_;conv=>whnf
   refine nlA rfl ?_;conv=>whnf
   refine bKo rfl ?_;conv=>whnf
   refine nlA rfl ?_;conv=>whnf
   refine hK _ ?_;clear hK K
   cases h
   exact Wk.refl _
 refine hK2 ?_;clear hK1 hK2 K1 K2
 refine HT_skip ?_
 refine tHn ?_
 refine HT_fr dCo rfl fun K hK=>?_;conv=>whnf
 refine nlA rfl ?_;conv=>whnf
 refine bKo rfl ?_;conv=>whnf
 refine nlA rfl ?_;conv=>whnf
 replace h:=W_bd h
 refine reserve_reason_call h35 h (WkL.refl _) (fun _ h=>?_);conv=>whnf
 refine bKo rfl ?_;conv=>whnf
 refine And.intro rfl (And.intro (nle rfl) (And.intro rfl ?_));conv=>whnf
 refine hK _ _ _ ?_;clear hK K
 refine HT_seq ?_
 refine HT_fr dCo rfl fun K hK=>?_;conv=>whnf
 refine hK _ _ _ ?_;clear hK K
 refine HT_if fun K1 K2 hK1 hK2=>?_;conv=>whnf
 refine cLk h (fun _ h=>?_) (fun _ h=>?_)
 · refine hK1 ?_;clear hK1 hK2 K1 K2
   refine HT_fr dCo rfl fun K hK=>?_;conv=>whnf
   refine bKo rfl ?_;conv=>whnf
   refine And.intro rfl (And.intro (nle rfl) (And.intro rfl ?_));conv=>whnf
   refine hK _ _ _ ?_;clear hK K
   refine HT_ret ?_
   refine Then_r ?_
   replace h:=W_some h
   refine PostP_r dCo fun K hK=>?_;conv=>whnf
   refine nlA rfl ?_;conv=>whnf
   refine bKo rfl ?_;conv=>whnf
   refine nlA rfl ?_;conv=>whnf
   refine hK _ ?_;clear hK K
   cases h
   exact Wk.refl _
 refine hK2 ?_;clear hK1 hK2 K1 K2
 refine HT_skip ?_
 refine tHn ?_
 refine HT_fr dCo rfl fun K hK=>?_;conv=>whnf
 refine nlA rfl ?_;conv=>whnf
 refine bKo rfl ?_;conv=>whnf
 refine nlA rfl ?_;conv=>whnf
 refine bKo rfl ?_;conv=>whnf
 refine And.intro rfl (And.intro (nle rfl) (And.intro rfl ?_));conv=>whnf
 refine hK _ _ _ ?_;clear hK K
 refine HT_ret ?_
 replace h:=W_some h
 refine PostP_r dCo fun K hK=>?_;conv=>whnf
 refine nlA rfl ?_;conv=>whnf
 refine bKo rfl ?_;conv=>whnf
 refine nlA rfl ?_;conv=>whnf
 refine hK _ ?_;clear hK K
 cases h
 exact Wk.refl _
theorem reserve_Lack_call {T:Tbl} (hT:T 28=pureR reserve_Lack_S) {args:List AV} {hp:Heap} {id:Nat} {k:AV→Prop} {a0:TReserve} {Φ:TDenied×Bool→Prop} (h:W (reserve_Lack_F a0) Φ) (hw:WkL args [eTReserve a0]) (hk:∀ y,Φ y→k (.tup [eTDenied y.1,eB y.2])):callpK T 28 args hp id k:=by
 obtain ⟨y,e,hy⟩:=W_inv h
 exact callpK_pure hT ⟨a0,rfl,W_of e rfl⟩ (by exact loose_tup (lsC (lo_TDenied _) (lsC (lsB _) lsN))) hw (hk y hy)

   def reserve_Admit_b1 (a0:TReserve) (s2:Int×TAdmission):Option (Ct (Int×TAdmission) (TAdmission×Int)):=cn (decide (s2.1<(a0.Calls.length:Int))) (gd (0≤s2.1) (bd (reserve_reason_F a0 s2.1 (bor .i64 s2.2.Admitted (bshl .i64 1 s2.1))) fun y3=>
   jn (fun p4:TAdmission=>some (.nx ((wr (s2.1+1)),p4))) fun k5=>cn y3.2 (lt ([y3.1]:List TDenied) fun l6=>ap s2.2.Denied l6 fun l7=>
   k5 (⟨s2.2.Admitted,l7⟩:TAdmission)) (gd (0≤s2.1) (k5 (⟨(bor .i64 s2.2.Admitted (bshl .i64 1 s2.1)),s2.2.Denied⟩:TAdmission))))) (some (.bk (s2.1,s2.2)))
theorem W_breserve_Admit_b1 {a0:TReserve} {s2:Int×TAdmission} {Φ:Ct (Int×TAdmission) (TAdmission×Int)→Prop} (h:W (reserve_Admit_b1 a0 s2) Φ):W (cn (decide (s2.1<(a0.Calls.length:Int))) (gd (0≤s2.1) (bd (reserve_reason_F a0 s2.1 (bor .i64 s2.2.Admitted (bshl .i64 1 s2.1))) fun y3=>jn (fun p4:TAdmission=>
   some (.nx ((wr (s2.1+1)),p4))) fun k5=>cn y3.2 (lt ([y3.1]:List TDenied) fun l6=>ap s2.2.Denied l6 fun l7=>
   k5 (⟨s2.2.Admitted,l7⟩:TAdmission)) (gd (0≤s2.1) (k5 (⟨(bor .i64 s2.2.Admitted (bshl .i64 1 s2.1)),s2.2.Denied⟩:TAdmission))))) (some (.bk (s2.1,s2.2)))) Φ:=h
def reserve_Admit_F (a0:TReserve):Option (TAdmission×Int):=bd (reserve_Safe_F a0 0) fun y1=>
   cn (!y1) (some ((⟨0,[]⟩:TAdmission),330)) (bd (lp (reserve_Admit_b1 a0) FU (0,(⟨0,[]⟩:TAdmission))) fun c8=>smK c8 (fun s9=>some (s9.2,0)) (fun r10=>some r10))
def reserve_Admit_S:List AV→AV→Prop:=fun args r=>∃ a0,args=[eTReserve a0]∧W (reserve_Admit_F a0) fun y=>r=(.tup [eTAdmission y.1,eI y.2])
theorem reserve_Admit_ok {T:Tbl} (hT:TOk Try.prog T) (hpf:PfOk T PF) (h14:T 14=pureR reserve_Safe_S) (h35:T 35=pureR reserve_reason_S):FOk Try.prog 13 (pureR reserve_Admit_S):=by
 refine FOk_pure hT hpf Try.func13 rfl Try.ntmps13 Try.results13 (by decide) ?_
 rintro args r ⟨a0,rfl,h⟩
 refine ⟨nle rfl,?_,?_⟩
 · exact (lsC (lo_TReserve _) lsN)
 rw [reserve_Admit_F.eq_1] at h
 refine HT_fr dCo rfl fun K hK=>?_;conv=>whnf
 refine hK _ _ _ ?_;clear hK K
 refine HT_seq ?_
 refine HT_fr dCo rfl fun K hK=>?_;conv=>whnf
 refine nlA rfl ?_;conv=>whnf
 refine bKo rfl ?_;conv=>whnf
 refine nlA rfl ?_;conv=>whnf
 replace h:=W_bd h
 refine reserve_Safe_call h14 h (WkL.refl _) (fun _ h=>?_);conv=>whnf
 refine hK _ _ _ ?_;clear hK K
 refine HT_if fun K1 K2 hK1 hK2=>?_;conv=>whnf
 refine cLk h (fun _ h=>?_) (fun _ h=>?_)
 · refine hK1 ?_;clear hK1 hK2 K1 K2
   refine HT_fr dCo rfl fun K hK=>?_;conv=>whnf
   refine bKo rfl ?_;conv=>whnf
   refine And.intro rfl (And.intro (nle rfl) (And.intro rfl ?_));conv=>whnf
   refine hK _ _ _ ?_;clear hK K
   refine HT_ret ?_
   refine Then_r ?_
   replace h:=W_some h
   refine PostP_r dCo fun K hK=>?_;conv=>whnf
   refine nlA rfl ?_;conv=>whnf
   refine bKo rfl ?_;conv=>whnf
   refine nlA rfl ?_;conv=>whnf
   refine hK _ ?_;clear hK K
   cases h
   exact Wk_tup (WkL_cons (Wk_agg (WkL_cons (Wk.refl _) (WkL_cons Wk_nil WkL_nil))) (WkL_cons (Wk.refl _) WkL_nil))
 refine hK2 ?_;clear hK1 hK2 K1 K2
 refine HT_skip ?_
 refine tHn ?_
 refine HT_fr dCo rfl fun K hK=>?_;conv=>whnf
 refine hK _ _ _ ?_;clear hK K
 refine HT_seq ?_
 refine HT_fr dCo rfl fun K hK=>?_;conv=>whnf
 refine nlA rfl ?_;conv=>whnf
 refine bKo rfl ?_;conv=>whnf
 refine gKo rfl ?_;conv=>whnf
 refine hK _ _ _ ?_;clear hK K
 refine HT_block ?_
 replace h:=W_bd h
 refine HT_lpK (body:=reserve_Admit_b1 _) rfl h [1,2,4,14] [1,2] [4] (fun kl kh ids b s=>⟨ofL ([(15,eI s.1)]++kl),ofH ([(nthN ids 0,.cells [eI s.2.Admitted,.lst (.tok (b+0)) 4 s.2.Denied.length (fun j=>eTDenied (s.2.Denied.getD j default))]),(b+0,.cells [])]++kh),b+128⟩) ?_;(conv=>whnf);refine And.intro ?_ (fun s m h=>HT_st ?_)
 · refine weak_k ?_;conv=>whnf
   exact And.intro rfl (And.intro (aLc wkI (aLc (WkR.ptr (fun _=>rfl)) (aLc (WkR.ptr (fun _=>rfl)) (aLc (WkR.ptr (fun _=>rfl)) (aLc wkI aLn))))) (aLc ⟨some _,rfl,bRc rfl (cKc wkI (cKc (WkR.nil (fun _=>rfl)) cKn))⟩ (aLc ⟨none,rfl,BkR_n⟩ (aLc ⟨some _,rfl,bRc rfl (cKc wkI (cKc (wkr (lsL fun _=>(lo_TEdge _))) (cKc (wkr (lsL fun _=>(lsI _ _))) (cKc (wkr (lsL fun _=>(lsI _ _))) (cKc wkI (cKc (wkr (lsL fun _=>(lo_TOrdinary _))) cKn))))))⟩ (aLc ⟨some _,rfl,bRc rfl (cKc wkI (cKc (wkr loose_nils) cKn))⟩ aLn)))))
 replace h:=W_breserve_Admit_b1 (W_bd h)
 refine HT_fr dCo rfl fun K hK=>?_;conv=>whnf
 refine hK _ _ _ ?_;clear hK K
 refine HT_seq ?_
 refine HT_if fun K1 K2 hK1 hK2=>?_;conv=>whnf
 refine cLk h (fun _ h=>?_) (fun _ h=>?_)
 · refine hK1 ?_;clear hK1 hK2 K1 K2
   refine HT_skip ?_
   refine tHn ?_
   refine HT_seq ?_
   refine HT_block ?_
   refine HT_fr dCo rfl fun K hK=>?_;conv=>whnf
   refine hK _ _ _ ?_;clear hK K
   refine HT_fd dCo mix_ok rfl (by kernel_rfl) fun K hK=>?_;conv=>whnf
   refine nlA rfl ?_;conv=>whnf
   refine bKo rfl ?_;conv=>whnf
   refine nlA rfl ?_;conv=>whnf
   refine nlA rfl ?_;conv=>whnf
   refine bKo rfl ?_;conv=>whnf
   refine gKo rfl ?_;conv=>whnf
   refine gd_lk h fun _ h=>?_;conv=>whnf
   replace h:=W_bd h
   refine reserve_reason_call h35 h (WkL.refl _) (fun _ h=>?_);conv=>whnf
   refine bKo rfl ?_;conv=>whnf
   refine And.intro rfl (And.intro (nle rfl) (And.intro rfl ?_));conv=>whnf
   refine hK _ _ _ ?_;clear hK K
   refine HT_fr dCo rfl fun K hK=>?_;conv=>whnf
   refine hK _ _ _ ?_;clear hK K
   replace h:=W_jn h
   refine HT_if fun K1 K2 hK1 hK2=>?_;conv=>whnf
   refine cLk h (fun _ h=>?_) (fun _ h=>?_)
   · refine hK1 ?_;clear hK1 hK2 K1 K2
     refine HT_f dCo rfl fun K hK=>?_;conv=>whnf
     refine nlA rfl ?_;conv=>whnf
     refine bKo rfl ?_;conv=>whnf
     refine gKo rfl ?_;conv=>whnf
     refine nlA rfl ?_;conv=>whnf
     refine bKo rfl ?_;conv=>whnf
     refine nlA rfl ?_;conv=>whnf
     refine lt_lk (enc:=eTDenied) (d:=default) dCo h rfl rfl rfl ⟨nle rfl,nle rfl,rfl⟩ rfl ⟨⟨rfl,nle rfl⟩,trivial⟩ (fun h=>?_);conv=>whnf
     refine ap_lk (enc:=eTDenied) (d:=default) dCo h (.inl rfl) rfl rfl rfl ⟨rfl,nle rfl,nle rfl,nle rfl,rfl⟩ (fun _=>rfl) (.inr (.inr ⟨_,_,rfl,rfl,rfl⟩)) (fun h=>?_);conv=>whnf
     refine bKo rfl ?_;conv=>whnf
     refine And.intro rfl (And.intro (nle rfl) (And.intro rfl ?_));conv=>whnf
     refine hK _ _ _ ?_;clear hK K
     refine iBn ?_
     refine tHn ?_
     refine HT_f dCo rfl fun K hK=>?_;conv=>whnf
     refine hK _ _ _ ?_;clear hK K
     refine tHn ?_
     replace h:=W_xnx h
     refine ⟨_,h,?_⟩
     refine weak_k ?_;conv=>whnf
     exact And.intro rfl (And.intro (aLc wkI (aLc (WkR.ptr (fun _=>rfl)) (aLc (WkR.ptr (fun _=>rfl)) (aLc (WkR.ptr (fun _=>rfl)) (aLc wkI aLn))))) (aLc ⟨some _,rfl,bRc rfl (cKc wkI (cKc (WkR.tok (fun _=>rfl) rfl (fun _ _=>Wk.refl _) (fun _=>(lo_TDenied _))) cKn))⟩ (aLc ⟨some _,rfl,bRc rfl cKn⟩ (aLc ⟨some _,rfl,bRc rfl (cKc wkI (cKc (wkr (lsL fun _=>(lo_TEdge _))) (cKc (wkr (lsL fun _=>(lsI _ _))) (cKc (wkr (lsL fun _=>(lsI _ _))) (cKc wkI (cKc (wkr (lsL fun _=>(lo_TOrdinary _))) cKn))))))⟩ (aLc ⟨some _,rfl,bRc rfl (cKc wkI (cKc (wkr loose_nils) cKn))⟩ aLn)))))
   refine hK2 ?_;clear hK1 hK2 K1 K2
   refine HT_fD dCo mix_ok rfl (by kernel_rfl) fun K hK=>?_;conv=>whnf
   refine nlA rfl ?_;conv=>whnf
   refine bKo rfl ?_;conv=>whnf
   refine gKo rfl ?_;conv=>whnf
   refine gd_lk h fun _ h=>?_;conv=>whnf
   refine bKo rfl ?_;conv=>whnf
   refine And.intro rfl (And.intro (nle rfl) (And.intro rfl ?_));conv=>whnf
   refine hK _ _ _ ?_;clear hK K
   refine iBn ?_
   refine tHn ?_
   refine HT_f dCo rfl fun K hK=>?_;conv=>whnf
   refine hK _ _ _ ?_;clear hK K
   refine tHn ?_
   replace h:=W_xnx h
   refine ⟨_,h,?_⟩
   refine weak_k ?_;conv=>whnf
   exact And.intro rfl (And.intro (aLc wkI (aLc (WkR.ptr (fun _=>rfl)) (aLc (WkR.ptr (fun _=>rfl)) (aLc (WkR.ptr (fun _=>rfl)) (aLc wkI aLn))))) (aLc ⟨some _,rfl,bRc rfl (cKc wkI (cKc (WkR.tok (fun _=>rfl) rfl (fun _ _=>Wk.refl _) (fun _=>(lo_TDenied _))) cKn))⟩ (aLc ⟨some _,rfl,bRc rfl cKn⟩ (aLc ⟨some _,rfl,bRc rfl (cKc wkI (cKc (wkr (lsL fun _=>(lo_TEdge _))) (cKc (wkr (lsL fun _=>(lsI _ _))) (cKc (wkr (lsL fun _=>(lsI _ _))) (cKc wkI (cKc (wkr (lsL fun _=>(lo_TOrdinary _))) cKn))))))⟩ (aLc ⟨some _,rfl,bRc rfl (cKc wkI (cKc (wkr loose_nils) cKn))⟩ aLn)))))
 refine hK2 ?_;clear hK1 hK2 K1 K2
 refine HT_exit ?_
 refine Then_e ?_
 refine Then_e ?_
 refine InBlock_e ?_
 replace h:=W_xbk h
 replace h:=W_inl h
 refine tHn ?_
 refine HT_fr dCo rfl fun K hK=>?_;conv=>whnf
 refine nlA rfl ?_;conv=>whnf
 refine bKo rfl ?_;conv=>whnf
 refine nlA rfl ?_;conv=>whnf
 refine bKo rfl ?_;conv=>whnf
 refine And.intro rfl (And.intro (nle rfl) (And.intro rfl ?_));conv=>whnf
 refine hK _ _ _ ?_;clear hK K
 refine HT_ret ?_
 replace h:=W_some h
 refine PostP_r dCo fun K hK=>?_;conv=>whnf
 refine nlA rfl ?_;conv=>whnf
 refine bKo rfl ?_;conv=>whnf
 refine nlA rfl ?_;conv=>whnf
 refine hK _ ?_;clear hK K
 cases h
 exact Wk_tup (WkL_cons (Wk_agg (WkL_cons (Wk.refl _) (WkL_cons Wk_free WkL_nil))) (WkL_cons (Wk.refl _) WkL_nil))
theorem reserve_Admit_call {T:Tbl} (hT:T 13=pureR reserve_Admit_S) {args:List AV} {hp:Heap} {id:Nat} {k:AV→Prop} {a0:TReserve} {Φ:TAdmission×Int→Prop} (h:W (reserve_Admit_F a0) Φ) (hw:WkL args [eTReserve a0]) (hk:∀ y,Φ y→k (.tup [eTAdmission y.1,eI y.2])):callpK T 13 args hp id k:=by
 obtain ⟨y,e,hy⟩:=W_inv h
 exact callpK_pure hT ⟨a0,rfl,W_of e rfl⟩ (by exact loose_tup (lsC (lo_TAdmission _) (lsC (lsI _ _) lsN))) hw (hk y hy)

   def reserve_Check_b1 (a0:TReserve) (a1:TAdmission) (s2:(List TDenied)×Int):Option (Ct ((List TDenied)×Int) Bool):=cn (decide (s2.2<(a0.Calls.length:Int))) (jn (fun p3:(List TDenied)=>
   some (.nx (p3,(wr (s2.2+1))))) fun k4=>gd (0≤s2.2) (let v5:=((band .i64 (bshr .i64 a1.Admitted s2.2) 1)==1);cn v5 (k4 s2.1) (let v6:=((s2.1.length:Int)==0);
   jn (fun p7:Bool=>cn p7 (some (.rt false)) (slc s2.1 1 (s2.1.length:Int) fun l14=>k4 l14)) fun k8=>cn v6 (k8 v6) (ix s2.1 default 0 fun e9=>jn (fun p10:Bool=>
   k8 p10) fun k11=>cn (e9.Call != s2.2) (k11 (e9.Call != s2.2)) (gd (0≤s2.2) (ix s2.1 default 0 fun e12=>
   bd (reserve_CheckDenied_F a0 (band .i64 a1.Admitted (wr ((bshl .i64 1 s2.2)-1))) e12) fun y13=>k11 (!y13))))))) (some (.bk (s2.1,s2.2)))
theorem W_breserve_Check_b1 {a0:TReserve} {a1:TAdmission} {s2:(List TDenied)×Int} {Φ:Ct ((List TDenied)×Int) Bool→Prop} (h:W (reserve_Check_b1 a0 a1 s2) Φ):W (cn (decide (s2.2<(a0.Calls.length:Int))) (jn (fun p3:(List TDenied)=>some (.nx (p3,(wr (s2.2+1))))) fun k4=>
   gd (0≤s2.2) (let v5:=((band .i64 (bshr .i64 a1.Admitted s2.2) 1)==1);cn v5 (k4 s2.1) (let v6:=((s2.1.length:Int)==0);jn (fun p7:Bool=>
   cn p7 (some (.rt false)) (slc s2.1 1 (s2.1.length:Int) fun l14=>k4 l14)) fun k8=>cn v6 (k8 v6) (ix s2.1 default 0 fun e9=>jn (fun p10:Bool=>k8 p10) fun k11=>
   cn (e9.Call != s2.2) (k11 (e9.Call != s2.2)) (gd (0≤s2.2) (ix s2.1 default 0 fun e12=>
   bd (reserve_CheckDenied_F a0 (band .i64 a1.Admitted (wr ((bshl .i64 1 s2.2)-1))) e12) fun y13=>k11 (!y13))))))) (some (.bk (s2.1,s2.2)))) Φ:=h
def reserve_Check_F (a0:TReserve) (a1:TAdmission):Option Bool:=bd (reserve_Safe_F a0 a1.Admitted) fun y1=>
   cn (!y1) (some false) (bd (lp (reserve_Check_b1 a0 a1) FU (a1.Denied,0)) fun c15=>smK c15 (fun s16=>let v18:=((s16.1.length:Int)==0);some v18) (fun r17=>some r17))
def reserve_Check_S:List AV→AV→Prop:=fun args r=>∃ a0 a1,args=[eTReserve a0,eTAdmission a1]∧W (reserve_Check_F a0 a1) fun y=>r=(eB y)
theorem reserve_Check_ok {T:Tbl} (hT:TOk Try.prog T) (hpf:PfOk T PF) (h14:T 14=pureR reserve_Safe_S) (h30:T 30=pureR reserve_CheckDenied_S):FOk Try.prog 15 (pureR reserve_Check_S):=by
 refine FOk_pure hT hpf Try.func15 rfl Try.ntmps15 Try.results15 (by decide) ?_
 rintro args r ⟨a0,a1,rfl,h⟩
 refine ⟨nle rfl,?_,?_⟩
 · exact (lsC (lo_TReserve _) (lsC (lo_TAdmission _) lsN))
 rw [reserve_Check_F.eq_1] at h
 refine HT_fr dCo rfl fun K hK=>?_;conv=>whnf
 refine hK _ _ _ ?_;clear hK K
 refine HT_scope ?_
 refine HT_seq ?_
 refine HT_fr dCo rfl fun K hK=>?_;conv=>whnf
 refine nlA rfl ?_;conv=>whnf
 refine bKo rfl ?_;conv=>whnf
 refine nlA rfl ?_;conv=>whnf
 refine nlA rfl ?_;conv=>whnf
 refine bKo rfl ?_;conv=>whnf
 refine gKo rfl ?_;conv=>whnf
 replace h:=W_bd h
 refine reserve_Safe_call h14 h (WkL.refl _) (fun _ h=>?_);conv=>whnf
 refine hK _ _ _ ?_;clear hK K
 refine HT_if fun K1 K2 hK1 hK2=>?_;conv=>whnf
 refine cLk h (fun _ h=>?_) (fun _ h=>?_)
 · refine hK1 ?_;clear hK1 hK2 K1 K2
   refine HT_fr dCo rfl fun K hK=>?_;conv=>whnf
   refine hK _ _ _ ?_;clear hK K
   refine HT_ret ?_
   refine Then_r ?_
   refine NoGoto_r ?_
   replace h:=W_some h
   refine PostP_r dCo fun K hK=>?_;conv=>whnf
   refine hK _ ?_;clear hK K
   cases h
   exact Wk.refl _
 refine hK2 ?_;clear hK1 hK2 K1 K2
 refine HT_skip ?_
 refine tHn ?_
 refine HT_fr dCo rfl fun K hK=>?_;conv=>whnf
 refine nlA rfl ?_;conv=>whnf
 refine bKo rfl ?_;conv=>whnf
 refine gKo rfl ?_;conv=>whnf
 refine hK _ _ _ ?_;clear hK K
 refine HT_seq ?_
 refine HT_label ?_
 refine tHn ?_
 refine HT_seq ?_
 refine HT_fr dCo rfl fun K hK=>?_;conv=>whnf
 refine nlA rfl ?_;conv=>whnf
 refine bKo rfl ?_;conv=>whnf
 refine gKo rfl ?_;conv=>whnf
 refine hK _ _ _ ?_;clear hK K
 refine HT_block ?_
 replace h:=W_bd h
 refine HT_lpK (body:=reserve_Check_b1 _ _) rfl h [2,3,16] [2,3] [] (fun kl kh ids b s=>⟨ofL ([(5,(eL 4 eTDenied default) s.1),(17,eI s.2)]++kl),ofH ([]++kh),b+64⟩) ?_;(conv=>whnf);refine And.intro ?_ (fun s m h=>HT_st ?_)
 · refine weak_k ?_;conv=>whnf
   exact And.intro rfl (And.intro (aLc (wkr (lsL fun _=>(lo_TDenied _))) (aLc wkI (aLc (WkR.ptr (fun _=>rfl)) (aLc (WkR.ptr (fun _=>rfl)) (aLc wkI aLn))))) (aLc ⟨some _,rfl,bRc rfl (cKc wkI (cKc (wkr (lsL fun _=>(lo_TEdge _))) (cKc (wkr (lsL fun _=>(lsI _ _))) (cKc (wkr (lsL fun _=>(lsI _ _))) (cKc wkI (cKc (wkr (lsL fun _=>(lo_TOrdinary _))) cKn))))))⟩ (aLc ⟨some _,rfl,bRc rfl (cKc wkI (cKc (wkr (lsL fun _=>(lo_TDenied _))) cKn))⟩ aLn)))
 replace h:=W_breserve_Check_b1 (W_bd h)
 refine HT_fr dCo rfl fun K hK=>?_;conv=>whnf
 refine hK _ _ _ ?_;clear hK K
 refine HT_seq ?_
 refine HT_if fun K1 K2 hK1 hK2=>?_;conv=>whnf
 refine cLk h (fun _ h=>?_) (fun _ h=>?_)
 · refine hK1 ?_;clear hK1 hK2 K1 K2
   refine HT_skip ?_
   refine tHn ?_
   refine HT_seq ?_
   replace h:=W_jn h
   refine HT_block ?_
   refine HT_fr dCo rfl fun K hK=>?_;conv=>whnf
   refine hK _ _ _ ?_;clear hK K
   refine HT_seq ?_
   refine HT_block ?_
   refine HT_fr dCo rfl fun K hK=>?_;conv=>whnf
   refine nlA rfl ?_;conv=>whnf
   refine bKo rfl ?_;conv=>whnf
   refine gKo rfl ?_;conv=>whnf
   refine gd_lk h fun _ h=>?_;conv=>whnf
   refine hK _ _ _ ?_;clear hK K
   refine HT_if fun K1 K2 hK1 hK2=>?_;conv=>whnf
   refine cLk h (fun _ h=>?_) (fun _ h=>?_)
   · refine hK1 ?_;clear hK1 hK2 K1 K2
     refine HT_exit ?_
     refine InBlock_o (by decide) ?_
     refine Then_e ?_
     refine InBlock_e ?_
     refine tHn ?_
     refine HT_f dCo rfl fun K hK=>?_;conv=>whnf
     refine hK _ _ _ ?_;clear hK K
     refine tHn ?_
     replace h:=W_xnx h
     refine ⟨_,h,?_⟩
     refine weak_k ?_;conv=>whnf
     exact And.intro rfl (And.intro (aLc (wkr (lsL fun _=>(lo_TDenied _))) (aLc wkI (aLc (WkR.ptr (fun _=>rfl)) (aLc (WkR.ptr (fun _=>rfl)) (aLc wkI aLn))))) (aLc ⟨some _,rfl,bRc rfl (cKc wkI (cKc (wkr (lsL fun _=>(lo_TEdge _))) (cKc (wkr (lsL fun _=>(lsI _ _))) (cKc (wkr (lsL fun _=>(lsI _ _))) (cKc wkI (cKc (wkr (lsL fun _=>(lo_TOrdinary _))) cKn))))))⟩ (aLc ⟨some _,rfl,bRc rfl (cKc wkI (cKc (wkr (lsL fun _=>(lo_TDenied _))) cKn))⟩ aLn)))
   refine hK2 ?_;clear hK1 hK2 K1 K2
   refine HT_seq ?_
   refine HT_fr dCo rfl fun K hK=>?_;conv=>whnf
   refine hK _ _ _ ?_;clear hK K
   replace h:=W_jn h
   refine HT_if fun K1 K2 hK1 hK2=>?_;conv=>whnf
   refine cLk h (fun _ h=>?_) (fun _ h=>?_)
   · refine hK1 ?_;clear hK1 hK2 K1 K2
     refine HT_skip ?_
     refine tHn ?_
     refine HT_if fun K1 K2 hK1 hK2=>?_;conv=>whnf
     refine cLk h (fun _ h=>?_) (fun _ h=>?_)
     · refine hK1 ?_;clear hK1 hK2 K1 K2
       refine HT_fr dCo rfl fun K hK=>?_;conv=>whnf
       refine hK _ _ _ ?_;clear hK K
       refine HT_ret ?_
       refine InBlock_r ?_
       refine Then_r ?_
       refine InBlock_r ?_
       refine Then_r ?_
       refine Then_r ?_
       refine InBlock_r ?_
       refine Then_r ?_
       refine NoGoto_r ?_
       replace h:=W_xrt h
       replace h:=W_inr h
       replace h:=W_some h
       refine PostP_r dCo fun K hK=>?_;conv=>whnf
       refine hK _ ?_;clear hK K
       cases h
       exact Wk.refl _
     refine hK2 ?_;clear hK1 hK2 K1 K2
     refine HT_skip ?_
     refine iBn ?_
     refine tHn ?_
     refine HT_f dCo rfl fun K hK=>?_;conv=>whnf
     refine sl_lk h (.inr ⟨_,rfl⟩) (.inl ⟨rfl,rfl⟩) (fun h=>?_);conv=>whnf
     refine hK _ _ _ ?_;clear hK K
     refine iBn ?_
     refine tHn ?_
     refine HT_f dCo rfl fun K hK=>?_;conv=>whnf
     refine hK _ _ _ ?_;clear hK K
     refine tHn ?_
     replace h:=W_xnx h
     refine ⟨_,h,?_⟩
     refine weak_k ?_;conv=>whnf
     exact And.intro rfl (And.intro (aLc (wkr (lsL fun _=>(lo_TDenied _))) (aLc wkI (aLc (WkR.ptr (fun _=>rfl)) (aLc (WkR.ptr (fun _=>rfl)) (aLc wkI aLn))))) (aLc ⟨some _,rfl,bRc rfl (cKc wkI (cKc (wkr (lsL fun _=>(lo_TEdge _))) (cKc (wkr (lsL fun _=>(lsI _ _))) (cKc (wkr (lsL fun _=>(lsI _ _))) (cKc wkI (cKc (wkr (lsL fun _=>(lo_TOrdinary _))) cKn))))))⟩ (aLc ⟨some _,rfl,bRc rfl (cKc wkI (cKc (wkr (lsL fun _=>(lo_TDenied _))) cKn))⟩ aLn)))
   refine hK2 ?_;clear hK1 hK2 K1 K2
   refine HT_fr dCo rfl fun K hK=>?_;conv=>whnf
   refine ix_lk h fun _ h=>?_;conv=>whnf
   refine gKo rfl ?_;conv=>whnf
   refine hK _ _ _ ?_;clear hK K
   replace h:=W_jn h
   refine HT_if fun K1 K2 hK1 hK2=>?_;conv=>whnf
   refine cLk h (fun _ h=>?_) (fun _ h=>?_)
   · refine hK1 ?_;clear hK1 hK2 K1 K2
     refine HT_skip ?_
     refine tHn ?_
     refine HT_if fun K1 K2 hK1 hK2=>?_;conv=>whnf
     refine cLk h (fun _ h=>?_) (fun _ h=>?_)
     · refine hK1 ?_;clear hK1 hK2 K1 K2
       refine HT_fr dCo rfl fun K hK=>?_;conv=>whnf
       refine hK _ _ _ ?_;clear hK K
       refine HT_ret ?_
       refine InBlock_r ?_
       refine Then_r ?_
       refine InBlock_r ?_
       refine Then_r ?_
       refine Then_r ?_
       refine InBlock_r ?_
       refine Then_r ?_
       refine NoGoto_r ?_
       replace h:=W_xrt h
       replace h:=W_inr h
       replace h:=W_some h
       refine PostP_r dCo fun K hK=>?_;conv=>whnf
       refine hK _ ?_;clear hK K
       cases h
       exact Wk.refl _
     refine hK2 ?_;clear hK1 hK2 K1 K2
     refine HT_skip ?_
     refine iBn ?_
     refine tHn ?_
     refine HT_f dCo rfl fun K hK=>?_;conv=>whnf
     refine sl_lk h (.inr ⟨_,rfl⟩) (.inl ⟨rfl,rfl⟩) (fun h=>?_);conv=>whnf
     refine hK _ _ _ ?_;clear hK K
     refine iBn ?_
     refine tHn ?_
     refine HT_f dCo rfl fun K hK=>?_;conv=>whnf
     refine hK _ _ _ ?_;clear hK K
     refine tHn ?_
     replace h:=W_xnx h
     refine ⟨_,h,?_⟩
     refine weak_k ?_;conv=>whnf
     exact And.intro rfl (And.intro (aLc (wkr (lsL fun _=>(lo_TDenied _))) (aLc wkI (aLc (WkR.ptr (fun _=>rfl)) (aLc (WkR.ptr (fun _=>rfl)) (aLc wkI aLn))))) (aLc ⟨some _,rfl,bRc rfl (cKc wkI (cKc (wkr (lsL fun _=>(lo_TEdge _))) (cKc (wkr (lsL fun _=>(lsI _ _))) (cKc (wkr (lsL fun _=>(lsI _ _))) (cKc wkI (cKc (wkr (lsL fun _=>(lo_TOrdinary _))) cKn))))))⟩ (aLc ⟨some _,rfl,bRc rfl (cKc wkI (cKc (wkr (lsL fun _=>(lo_TDenied _))) cKn))⟩ aLn)))
   refine hK2 ?_;clear hK1 hK2 K1 K2
   refine HT_fD dCo mix_ok rfl (by kernel_rfl) fun K hK=>?_;conv=>whnf
   refine nlA rfl ?_;conv=>whnf
   refine bKo rfl ?_;conv=>whnf
   refine nlA rfl ?_;conv=>whnf
   refine nlA rfl ?_;conv=>whnf
   refine bKo rfl ?_;conv=>whnf
   refine gKo rfl ?_;conv=>whnf
   refine gd_lk h fun _ h=>?_;conv=>whnf
   refine ix_lk h fun _ h=>?_;conv=>whnf
   refine nlA rfl ?_;conv=>whnf
   replace h:=W_bd h
   refine reserve_CheckDenied_call h30 h (WkL.refl _) (fun _ h=>?_);conv=>whnf
   refine hK _ _ _ ?_;clear hK K
   refine tHn ?_
   refine HT_if fun K1 K2 hK1 hK2=>?_;conv=>whnf
   refine cLk h (fun _ h=>?_) (fun _ h=>?_)
   · refine hK1 ?_;clear hK1 hK2 K1 K2
     refine HT_fr dCo rfl fun K hK=>?_;conv=>whnf
     refine hK _ _ _ ?_;clear hK K
     refine HT_ret ?_
     refine InBlock_r ?_
     refine Then_r ?_
     refine InBlock_r ?_
     refine Then_r ?_
     refine Then_r ?_
     refine InBlock_r ?_
     refine Then_r ?_
     refine NoGoto_r ?_
     replace h:=W_xrt h
     replace h:=W_inr h
     replace h:=W_some h
     refine PostP_r dCo fun K hK=>?_;conv=>whnf
     refine hK _ ?_;clear hK K
     cases h
     exact Wk.refl _
   refine hK2 ?_;clear hK1 hK2 K1 K2
   refine HT_skip ?_
   refine iBn ?_
   refine tHn ?_
   refine HT_f dCo rfl fun K hK=>?_;conv=>whnf
   refine sl_lk h (.inr ⟨_,rfl⟩) (.inl ⟨rfl,rfl⟩) (fun h=>?_);conv=>whnf
   refine hK _ _ _ ?_;clear hK K
   refine iBn ?_
   refine tHn ?_
   refine HT_f dCo rfl fun K hK=>?_;conv=>whnf
   refine hK _ _ _ ?_;clear hK K
   refine tHn ?_
   replace h:=W_xnx h
   refine ⟨_,h,?_⟩
   refine weak_k ?_;conv=>whnf
   exact And.intro rfl (And.intro (aLc (wkr (lsL fun _=>(lo_TDenied _))) (aLc wkI (aLc (WkR.ptr (fun _=>rfl)) (aLc (WkR.ptr (fun _=>rfl)) (aLc wkI aLn))))) (aLc ⟨some _,rfl,bRc rfl (cKc wkI (cKc (wkr (lsL fun _=>(lo_TEdge _))) (cKc (wkr (lsL fun _=>(lsI _ _))) (cKc (wkr (lsL fun _=>(lsI _ _))) (cKc wkI (cKc (wkr (lsL fun _=>(lo_TOrdinary _))) cKn))))))⟩ (aLc ⟨some _,rfl,bRc rfl (cKc wkI (cKc (wkr (lsL fun _=>(lo_TDenied _))) cKn))⟩ aLn)))
 refine hK2 ?_;clear hK1 hK2 K1 K2
 refine HT_exit ?_
 refine Then_e ?_
 refine Then_e ?_
 refine InBlock_e ?_
 replace h:=W_xbk h
 replace h:=W_inl h
 refine tHn ?_
 refine HT_fr dCo rfl fun K hK=>?_;conv=>whnf
 refine hK _ _ _ ?_;clear hK K
 refine HT_ret ?_
 refine NoGoto_r ?_
 replace h:=W_some h
 refine PostP_r dCo fun K hK=>?_;conv=>whnf
 refine hK _ ?_;clear hK K
 cases h
 exact Wk.refl _
theorem reserve_Check_call {T:Tbl} (hT:T 15=pureR reserve_Check_S) {args:List AV} {hp:Heap} {id:Nat} {k:AV→Prop} {a0:TReserve} {a1:TAdmission} {Φ:Bool→Prop} (h:W (reserve_Check_F a0 a1) Φ) (hw:WkL args [eTReserve a0,eTAdmission a1]) (hk:∀ y,Φ y→k (eB y)):callpK T 15 args hp id k:=by
 obtain ⟨y,e,hy⟩:=W_inv h
 exact callpK_pure hT ⟨a0,a1,rfl,W_of e rfl⟩ (by exact (lsB _)) hw (hk y hy)
end Go.Proofs.Ytkjccabdpeldhaa
namespace Go.Proofs.Ytkjccabdpeldhaa
open Go Go.Eng
set_option maxHeartbeats 0
set_option maxRecDepth 100000
def law33_example_F:Option TReserve:=lt ([(⟨0,1,5⟩:TEdge),(⟨0,2,4⟩:TEdge),(⟨1,2,6⟩:TEdge),(⟨2,1,6⟩:TEdge)]:List TEdge) fun l1=>
   lt ([3,0,0]:List Int) fun l2=>lt ([0,10,10]:List Int) fun l3=>lt ([0]:List Int) fun l4=>lt ([1]:List Int) fun l5=>lt ([0]:List Int) fun l6=>
   lt ([(⟨l4,1⟩:TOrdinary),(⟨l5,1⟩:TOrdinary),(⟨l6,2⟩:TOrdinary)]:List TOrdinary) fun l7=>some (⟨(⟨3,l1⟩:TNet),l2,l3,1,l7⟩:TReserve)
def law33_example_res (y:TReserve) (b:Nat):AV:=.agg [eI y.Net.N,(eL 3 eTEdge default) y.Net.Edges,(eL 1 eI default) y.Urgent,(eL 1 eI default) y.Centres,eI y.Faults,.so b 0 y.Calls.length 2]
def law33_example_blk (y:TReserve):List AB:=[.cells (flE (ceE eTOrdinary) y.Calls)]
def law33_example_S:List AV→TReserve→Prop:=fun args y =>  args=[]∧law33_example_F  = some y
theorem law33_example_ok {T:Tbl} (hT:TOk Try.prog T) (hpf:PfOk T PF):FOk Try.prog 31 (ownR law33_example_res law33_example_blk law33_example_S):=by
 refine FOk_own hT hpf Try.func31 rfl Try.ntmps31 Try.results31 (by decide) (fun y=>⟨by simp [law33_example_blk],by simp [law33_example_blk,noGh]⟩) ?_
 rintro args y ⟨rfl,hF⟩
 refine ⟨nle rfl,lsN,fun base=>?_⟩
 have h:W (law33_example_F ) (fun z=>z=y):=W_of hF rfl
 rw [law33_example_F.eq_1] at h
 refine HT_fr dCo rfl fun K hK=>?_;conv=>whnf
 refine hK _ _ _ ?_;clear hK K
 refine HT_fr dCo rfl fun K hK=>?_;conv=>whnf
 refine lt_lk (enc:=eTEdge) (d:=default) dCo h rfl rfl rfl ⟨nle rfl,nle rfl,rfl⟩ rfl ⟨⟨rfl,nle rfl⟩,⟨⟨rfl,nle rfl⟩,⟨⟨rfl,nle rfl⟩,⟨⟨rfl,nle rfl⟩,trivial⟩⟩⟩⟩ (fun h=>?_);conv=>whnf
 refine lt_lk (enc:=eI) (d:=default) dCo h rfl rfl rfl ⟨nle rfl,nle rfl,rfl⟩ rfl ⟨⟨rfl,rfl,rfl⟩,⟨⟨rfl,rfl,rfl⟩,⟨⟨rfl,rfl,rfl⟩,trivial⟩⟩⟩ (fun h=>?_);conv=>whnf
 refine lt_lk (enc:=eI) (d:=default) dCo h rfl rfl rfl ⟨nle rfl,nle rfl,rfl⟩ rfl ⟨⟨rfl,rfl,rfl⟩,⟨⟨rfl,rfl,rfl⟩,⟨⟨rfl,rfl,rfl⟩,trivial⟩⟩⟩ (fun h=>?_);conv=>whnf
 refine bKo rfl ?_;conv=>whnf
 refine And.intro rfl (And.intro (nle rfl) (And.intro rfl ?_));conv=>whnf
 refine hK _ _ _ ?_;clear hK K
 refine HT_fr dCo rfl fun K hK=>?_;conv=>whnf
 refine lt_lk (enc:=eI) (d:=default) dCo h rfl rfl rfl ⟨nle rfl,nle rfl,rfl⟩ rfl ⟨⟨rfl,rfl,rfl⟩,trivial⟩ (fun h=>?_);conv=>whnf
 refine lt_lk (enc:=eI) (d:=default) dCo h rfl rfl rfl ⟨nle rfl,nle rfl,rfl⟩ rfl ⟨⟨rfl,rfl,rfl⟩,trivial⟩ (fun h=>?_);conv=>whnf
 refine lt_lk (enc:=eI) (d:=default) dCo h rfl rfl rfl ⟨nle rfl,nle rfl,rfl⟩ rfl ⟨⟨rfl,rfl,rfl⟩,trivial⟩ (fun h=>?_);conv=>whnf
 refine lto_lk (enc:=eTOrdinary) dCo h rfl rfl rfl ⟨nle rfl,nle rfl,rfl⟩ rfl (WkL_cons Wk_free (WkL_cons (Wk.refl _) (WkL_cons Wk_free (WkL_cons (Wk.refl _) (WkL_cons Wk_free (WkL_cons (Wk.refl _) WkL_nil)))))) (fun h=>?_);conv=>whnf
 refine bKo rfl ?_;conv=>whnf
 refine And.intro rfl (And.intro (nle rfl) (And.intro rfl ?_));conv=>whnf
 refine hK _ _ _ ?_;clear hK K
 refine HT_fr dCo rfl fun K hK=>?_;conv=>whnf
 refine nlA rfl ?_;conv=>whnf
 refine bKo rfl ?_;conv=>whnf
 refine nlA rfl ?_;conv=>whnf
 refine bKo rfl ?_;conv=>whnf
 refine And.intro rfl (And.intro (nle rfl) (And.intro rfl ?_));conv=>whnf
 refine hK _ _ _ ?_;clear hK K
 refine HT_ret ?_
 replace h:=W_some h
 refine PostO_r dCo fun K hK=>?_;conv=>whnf
 refine nlA rfl ?_;conv=>whnf
 refine bKo rfl ?_;conv=>whnf
 refine nlA rfl ?_;conv=>whnf
 refine hK _ ?_;clear hK K
 cases h
 refine ⟨rfl,rfl,rfl,(WkB_agg (VsB_cons (WkB_loose (Wk.refl _) (lsI _ _)) (VsB_cons (WkB_loose Wk_free (lsL fun _=>(lo_TEdge _))) (VsB_cons (WkB_loose Wk_free (lsL fun _=>(lsI _ _))) (VsB_cons (WkB_loose Wk_free (lsL fun _=>(lsI _ _))) (VsB_cons (WkB_loose (Wk.refl _) (lsI _ _)) (VsB_cons (WkB_soN (mm_ns (k:=0) rfl) rfl) VsB_nil))))))),fun k n x h1 h2=>?_⟩
 exact match k,n,x,h1,h2 with | 0,n,x,h1,h2=>by cases h1;cases h2;exact ⟨_,rfl,BkX_fl (fun _=>(lsC (lsL fun _=>(lsI _ _)) (lsC (lsI _ _) lsN))) _⟩ | k+1,n,x,h1,h2=>by cases h1
end Go.Proofs.Ytkjccabdpeldhaa
namespace Go.Proofs.Ytkjccabdpeldhaa
open Go Go.Eng
set_option maxHeartbeats 0
set_option maxRecDepth 100000
def law33_sane_b1 (l2:List Int) (l3:List Int) (y1:TReserve) (s4:Int):Option (Ct Int Bool):=cn (decide (s4<(l2.length:Int))) (ix l2 default s4 fun e5=>
   bd (reserve_Slack_F (⟨(⟨y1.Net.N,y1.Net.Edges⟩:TNet),y1.Urgent,y1.Centres,y1.Faults,y1.Calls⟩:TReserve) e5) fun y6=>jn (fun p7:Bool=>
   cn p7 (some (.rt false)) (some (.nx (wr (s4+1))))) fun k8=>cn (y6.2 != 0) (k8 true) (ix l3 default s4 fun e9=>cn (y6.1 != e9) (k8 true) (ix l2 default s4 fun e10=>
   bd (reserve_Safe_F (⟨(⟨y1.Net.N,y1.Net.Edges⟩:TNet),y1.Urgent,y1.Centres,y1.Faults,y1.Calls⟩:TReserve) e10) fun y11=>k8 (!(y11 ==
   (decide (y6.1≥0))))))) (some (.bk s4))
theorem W_blaw33_sane_b1 {l2:List Int} {l3:List Int} {y1:TReserve} {s4:Int} {Φ:Ct Int Bool→Prop} (h:W (law33_sane_b1 l2 l3 y1 s4) Φ):W (cn (decide (s4<(l2.length:Int))) (ix l2 default s4 fun e5=>
   bd (reserve_Slack_F (⟨(⟨y1.Net.N,y1.Net.Edges⟩:TNet),y1.Urgent,y1.Centres,y1.Faults,y1.Calls⟩:TReserve) e5) fun y6=>jn (fun p7:Bool=>
   cn p7 (some (.rt false)) (some (.nx (wr (s4+1))))) fun k8=>cn (y6.2 != 0) (k8 true) (ix l3 default s4 fun e9=>cn (y6.1 != e9) (k8 true) (ix l2 default s4 fun e10=>
   bd (reserve_Safe_F (⟨(⟨y1.Net.N,y1.Net.Edges⟩:TNet),y1.Urgent,y1.Centres,y1.Faults,y1.Calls⟩:TReserve) e10) fun y11=>k8 (!(y11 ==
   (decide (y6.1≥0))))))) (some (.bk s4))) Φ:=h
def law33_sane_F:Option Bool:=bd (law33_example_F) fun y1=>lt ([0,1,3,7]:List Int) fun l2=>lt ([1,1,0,(-1)]:List Int) fun l3=>
   bd (lp (law33_sane_b1 l2 l3 y1) FU 0) fun c12=>smK c12 (fun s13=>
   bd (reserve_Left_F (⟨(⟨y1.Net.N,y1.Net.Edges⟩:TNet),y1.Urgent,y1.Centres,y1.Faults,y1.Calls⟩:TReserve) 3) fun y15=>
   bd (reserve_Admit_F (⟨(⟨y1.Net.N,y1.Net.Edges⟩:TNet),y1.Urgent,y1.Centres,y1.Faults,y1.Calls⟩:TReserve)) fun y16=>jn (fun p17:Bool=>
   cn p17 (some false) (jn (fun p23:Bool=>bd (reserve_Lack_F (⟨(⟨y1.Net.N,y1.Net.Edges⟩:TNet),y1.Urgent,y1.Centres,y1.Faults,y1.Calls⟩:TReserve)) fun y31=>
   bd (law33_example_F) fun y32=>lt ([2]:List Int) fun l33=>gd ((0:Int)≤2∧2<(y32.Calls.length:Int)) (st y32.Calls (2) (⟨l33,7⟩:TOrdinary) fun l34=>
   bd (reserve_Admit_F (⟨(⟨y32.Net.N,y32.Net.Edges⟩:TNet),y32.Urgent,y32.Centres,y32.Faults,l34⟩:TReserve)) fun y35=>
   bd (reserve_Slack_F (⟨(⟨y1.Net.N,y1.Net.Edges⟩:TNet),y1.Urgent,y1.Centres,2,y1.Calls⟩:TReserve) 0) fun y36=>
   bd (reserve_Lack_F (⟨(⟨y1.Net.N,y1.Net.Edges⟩:TNet),y1.Urgent,y1.Centres,2,y1.Calls⟩:TReserve)) fun y37=>
   bd (reserve_Admit_F (⟨(⟨y1.Net.N,y1.Net.Edges⟩:TNet),y1.Urgent,y1.Centres,2,y1.Calls⟩:TReserve)) fun y38=>jn (fun p39:Bool=>some p39) fun k40=>
   cn p23 (cn (!y31.2) (cn (y35.2==0) (cn ((y35.1.Denied.length:Int)==1) (ix y35.1.Denied default 0 fun e41=>cn ((e41.Call==2)&&((e41.Edge==2)&&((e41.Failed ==
   0)&&(e41.Set==0)))) (cn (y36.2==0) (cn (y36.1==(-3)) (cn y37.2 (cn (y37.1.Call ==
   (-1)) (bd (reserve_CheckDenied_F (⟨(⟨y1.Net.N,y1.Net.Edges⟩:TNet),y1.Urgent,y1.Centres,2,y1.Calls⟩:TReserve) 0 y37.1) fun y42=>cn y42 (cn (y38.2 ==
   330) (bd (reserve_Valid_F (⟨(⟨y1.Net.N,y1.Net.Edges⟩:TNet),y1.Urgent,y1.Centres,2,y1.Calls⟩:TReserve)) fun y43=>
   cn y43 (bd (reserve_Valid_F (⟨(⟨0,[]⟩:TNet),[],[],0,[]⟩:TReserve)) fun y44=>
   k40 (!y44)) (k40 false)) (k40 false)) (k40 false)) (k40 false)) (k40 false)) (k40 false)) (k40 false)) (k40 false)) (k40 false)) (k40 false)) (k40 false)) (k40 false))) fun k24=>
   bd (reserve_CheckDenied_F (⟨(⟨y1.Net.N,y1.Net.Edges⟩:TNet),y1.Urgent,y1.Centres,y1.Faults,y1.Calls⟩:TReserve) 3 (⟨2,(-1),2,1⟩:TDenied)) fun y25=>
   cn y25 (bd (reserve_CheckDenied_F (⟨(⟨y1.Net.N,y1.Net.Edges⟩:TNet),y1.Urgent,y1.Centres,y1.Faults,y1.Calls⟩:TReserve) 3 (⟨2,(-1),2,3⟩:TDenied)) fun y26=>
   cn (!y26) (bd (reserve_Check_F (⟨(⟨y1.Net.N,y1.Net.Edges⟩:TNet),y1.Urgent,y1.Centres,y1.Faults,y1.Calls⟩:TReserve) y16.1) fun y27=>
   cn y27 (lt ([(⟨2,(-1),2,1⟩:TDenied)]:List TDenied) fun l28=>
   bd (reserve_Check_F (⟨(⟨y1.Net.N,y1.Net.Edges⟩:TNet),y1.Urgent,y1.Centres,y1.Faults,y1.Calls⟩:TReserve) (⟨3,l28⟩:TAdmission)) fun y29=>
   cn y29 (bd (reserve_Check_F (⟨(⟨y1.Net.N,y1.Net.Edges⟩:TNet),y1.Urgent,y1.Centres,y1.Faults,y1.Calls⟩:TReserve) (⟨1,[]⟩:TAdmission)) fun y30=>
   k24 (!y30)) (k24 false)) (k24 false)) (k24 false)) (k24 false))) fun k18=>cn (y15.2.2 != 0) (k18 true) (cn (y16.2 != 0) (k18 true) (cn (y15.1.N !=
   4) (k18 true) (cn ((y15.1.Edges.length:Int) != 7) (k18 true) (ix y15.1.Edges default 0 fun e19=>cn (e19.Capacity != 4) (k18 true) (lt ([3,0,0,(-3)]:List Int) fun l20=>
   bd (ref33_Ints_F y15.2.1 l20) fun y21=>cn (!y21) (k18 true) (cn (y16.1.Admitted != 3) (k18 true) (cn ((y16.1.Denied.length:Int) !=
   1) (k18 true) (ix y16.1.Denied default 0 fun e22=>k18 (e22.Call != 2)))))))))) (fun r14=>some r14)
def law33_sane_S:List AV→AV→Prop:=fun args r =>  args=[]∧W (law33_sane_F ) fun y=>r=(eB y)
theorem law33_sane_ok {T:Tbl} (hT:TOk Try.prog T) (hpf:PfOk T PF) (h13:T 13=pureR reserve_Admit_S) (h14:T 14=pureR reserve_Safe_S) (h15:T 15=pureR reserve_Check_S) (h18:T 18=pureR reserve_Slack_S) (h20:T 20=pureR reserve_Left_S) (h23:T 23=pureR reserve_Valid_S) (h28:T 28=pureR reserve_Lack_S) (h30:T 30=pureR reserve_CheckDenied_S) (h31:T 31=ownR law33_example_res law33_example_blk law33_example_S) (h32:T 32=pureR ref33_Ints_S):FOk Try.prog 11 (pureR law33_sane_S):=by
 refine FOk_pure hT hpf Try.func11 rfl Try.ntmps11 Try.results11 (by decide) ?_
 rintro args r ⟨rfl,h⟩
 refine ⟨nle rfl,?_,?_⟩
 · exact lsN
 rw [law33_sane_F.eq_1] at h
 refine HT_fr dCo rfl fun K hK=>?_;conv=>whnf
 refine hK _ _ _ ?_;clear hK K
 refine HT_fr dCo rfl fun K hK=>?_;conv=>whnf
 refine callsK_own h31 h (fun y e=>(⟨rfl,e⟩:law33_example_S _ _)) (WkL.refl _) (fun _ h=>?_);conv=>whnf
 refine bKo rfl ?_;conv=>whnf
 refine And.intro rfl (And.intro (nle rfl) (And.intro rfl ?_));conv=>whnf
 refine hK _ _ _ ?_;clear hK K
 refine HT_fr dCo rfl fun K hK=>?_;conv=>whnf
 refine lt_lk (enc:=eI) (d:=default) dCo h rfl rfl rfl ⟨nle rfl,nle rfl,rfl⟩ rfl ⟨⟨rfl,rfl,rfl⟩,⟨⟨rfl,rfl,rfl⟩,⟨⟨rfl,rfl,rfl⟩,⟨⟨rfl,rfl,rfl⟩,trivial⟩⟩⟩⟩ (fun h=>?_);conv=>whnf
 refine hK _ _ _ ?_;clear hK K
 refine HT_fr dCo rfl fun K hK=>?_;conv=>whnf
 refine lt_lk (enc:=eI) (d:=default) dCo h rfl rfl rfl ⟨nle rfl,nle rfl,rfl⟩ rfl ⟨⟨rfl,rfl,rfl⟩,⟨⟨rfl,rfl,rfl⟩,⟨⟨rfl,rfl,rfl⟩,⟨⟨rfl,rfl,rfl⟩,trivial⟩⟩⟩⟩ (fun h=>?_);conv=>whnf
 refine hK _ _ _ ?_;clear hK K
 refine HT_seq ?_
 refine HT_fr dCo rfl fun K hK=>?_;conv=>whnf
 refine hK _ _ _ ?_;clear hK K
 refine HT_block ?_
 refine HT_frzBK 1 5 (enc:=eTOrdinary) (e:=56) default (ElOk_agg dCo rfl rfl (fun _=>rfl) (fun _=>rfl)) ?_;(conv=>whnf);refine ⟨_,_,_,(Nat.ne_of_beq_eq_false rfl),rfl,rfl,rfl,rfl,?_⟩;conv=>whnf
 replace h:=W_bd h
 refine HT_lpK (body:=law33_sane_b1 _ _ _) rfl h [1,2,3] [1] [] (fun kl kh ids b s=>⟨ofL ([(4,eI s)]++kl),ofH ([]++kh),b+64⟩) ?_;(conv=>whnf);refine And.intro ?_ (fun s m h=>HT_st ?_)
 · refine weak_k ?_;conv=>whnf
   exact And.intro rfl (And.intro (aLc wkI (aLc (WkR.ptr (fun _=>rfl)) (aLc (wkr (loose_lstc fun _=>(lsI _ _))) (aLc (wkr (loose_lstc fun _=>(lsI _ _))) aLn)))) (aLc ⟨some _,rfl,bRc rfl (cKc wkI (cKc (wkr (lsL fun _=>(lo_TEdge _))) (cKc (wkr (lsL fun _=>(lsI _ _))) (cKc (wkr (lsL fun _=>(lsI _ _))) (cKc wkI (cKc (wkr (lsL fun _=>(lo_TOrdinary _))) cKn))))))⟩ aLn))
 replace h:=W_blaw33_sane_b1 (W_bd h)
 refine HT_seq ?_
 refine HT_fr dCo rfl fun K hK=>?_;conv=>whnf
 refine hK _ _ _ ?_;clear hK K
 refine HT_if fun K1 K2 hK1 hK2=>?_;conv=>whnf
 refine cLk h (fun _ h=>?_) (fun _ h=>?_)
 · refine hK1 ?_;clear hK1 hK2 K1 K2
   refine HT_skip ?_
   refine tHn ?_
   refine HT_seq ?_
   refine HT_block ?_
   refine HT_fd dCo mix_ok rfl (by kernel_rfl) fun K hK=>?_;conv=>whnf
   refine nlA rfl ?_;conv=>whnf
   refine bKo rfl ?_;conv=>whnf
   refine nlA rfl ?_;conv=>whnf
   refine ix_lk h fun _ h=>?_;conv=>whnf
   refine gKo rfl ?_;conv=>whnf
   replace h:=W_bd h
   refine reserve_Slack_call h18 h (WkL.refl _) (fun _ h=>?_);conv=>whnf
   refine hK _ _ _ ?_;clear hK K
   refine HT_fd dCo mix_ok rfl (by kernel_rfl) fun K hK=>?_;conv=>whnf
   replace h:=W_jn h
   refine cLk h (fun _ h=>?_) (fun _ h=>?_)<;>(conv=>whnf)
   · refine hK _ _ _ ?_;clear hK K
     refine HT_if fun K1 K2 hK1 hK2=>?_;conv=>whnf
     refine hK1 ?_;clear hK1 hK2 K1 K2
     replace h:=W_cnT h
     refine HT_fr dCo rfl fun K hK=>?_;conv=>whnf
     refine hK _ _ _ ?_;clear hK K
     refine HT_ret ?_
     refine InBlock_r ?_
     refine Then_r ?_
     refine Then_r ?_
     refine InBlock_r ?_
     refine Then_r ?_
     replace h:=W_xrt h
     replace h:=W_inr h
     replace h:=W_some h
     refine PostP_r dCo fun K hK=>?_;conv=>whnf
     refine hK _ ?_;clear hK K
     cases h
     exact Wk.refl _
   refine ix_lk h fun _ h=>?_;conv=>whnf
   refine gKo rfl ?_;conv=>whnf
   refine cLk h (fun _ h=>?_) (fun _ h=>?_)<;>(conv=>whnf)
   · refine hK _ _ _ ?_;clear hK K
     refine HT_if fun K1 K2 hK1 hK2=>?_;conv=>whnf
     refine hK1 ?_;clear hK1 hK2 K1 K2
     replace h:=W_cnT h
     refine HT_fr dCo rfl fun K hK=>?_;conv=>whnf
     refine hK _ _ _ ?_;clear hK K
     refine HT_ret ?_
     refine InBlock_r ?_
     refine Then_r ?_
     refine Then_r ?_
     refine InBlock_r ?_
     refine Then_r ?_
     replace h:=W_xrt h
     replace h:=W_inr h
     replace h:=W_some h
     refine PostP_r dCo fun K hK=>?_;conv=>whnf
     refine hK _ ?_;clear hK K
     cases h
     exact Wk.refl _
   refine nlA rfl ?_;conv=>whnf
   refine bKo rfl ?_;conv=>whnf
   refine nlA rfl ?_;conv=>whnf
   refine ix_lk h fun _ h=>?_;conv=>whnf
   refine gKo rfl ?_;conv=>whnf
   replace h:=W_bd h
   refine reserve_Safe_call h14 h (WkL.refl _) (fun _ h=>?_);conv=>whnf
   refine eqK_n (eqv_bool dCo rfl _ _) ?_;conv=>whnf
   refine hK _ _ _ ?_;clear hK K
   refine HT_if fun K1 K2 hK1 hK2=>?_;conv=>whnf
   refine cLk h (fun _ h=>?_) (fun _ h=>?_)
   · refine hK1 ?_;clear hK1 hK2 K1 K2
     refine HT_fr dCo rfl fun K hK=>?_;conv=>whnf
     refine hK _ _ _ ?_;clear hK K
     refine HT_ret ?_
     refine InBlock_r ?_
     refine Then_r ?_
     refine Then_r ?_
     refine InBlock_r ?_
     refine Then_r ?_
     replace h:=W_xrt h
     replace h:=W_inr h
     replace h:=W_some h
     refine PostP_r dCo fun K hK=>?_;conv=>whnf
     refine hK _ ?_;clear hK K
     cases h
     exact Wk.refl _
   refine hK2 ?_;clear hK1 hK2 K1 K2
   refine HT_skip ?_
   refine iBn ?_
   refine tHn ?_
   refine HT_f dCo rfl fun K hK=>?_;conv=>whnf
   refine hK _ _ _ ?_;clear hK K
   refine tHn ?_
   replace h:=W_xnx h
   refine ⟨_,h,?_⟩
   refine weak_k ?_;conv=>whnf
   exact And.intro rfl (And.intro (aLc wkI (aLc (WkR.ptr (fun _=>rfl)) (aLc (wkr (loose_lstc fun _=>(lsI _ _))) (aLc (wkr (loose_lstc fun _=>(lsI _ _))) aLn)))) (aLc ⟨some _,rfl,bRc rfl (cKc wkI (cKc (wkr (lsL fun _=>(lo_TEdge _))) (cKc (wkr (lsL fun _=>(lsI _ _))) (cKc (wkr (lsL fun _=>(lsI _ _))) (cKc wkI (cKc (wkr (lsL fun _=>(lo_TOrdinary _))) cKn))))))⟩ aLn))
 refine hK2 ?_;clear hK1 hK2 K1 K2
 refine HT_exit ?_
 refine Then_e ?_
 refine Then_e ?_
 refine InBlock_e ?_
 replace h:=W_xbk h
 replace h:=W_inl h
 refine tHn ?_
 refine HT_ancK rfl rfl [1] [(1,32)] ?_;conv=>whnf
 refine And.intro ?_ ?_
 · refine weak_kN ?_;conv=>whnf
   exact And.intro rfl (And.intro (aLc (WkR.ptr (fun _=>rfl)) aLn) (aLc ⟨some _,rfl,bRc rfl (cKc wkI (cKc (wkr (lsL fun _=>(lo_TEdge _))) (cKc (wkr (lsL fun _=>(lsI _ _))) (cKc (wkr (lsL fun _=>(lsI _ _))) (cKc wkI (cKc (wkr (lsL fun _=>(lo_TOrdinary _))) cKn))))))⟩ aLn))
 refine HT_fr dCo rfl fun K hK=>?_;conv=>whnf
 refine nlA rfl ?_;conv=>whnf
 refine bKo rfl ?_;conv=>whnf
 refine nlA rfl ?_;conv=>whnf
 replace h:=W_bd h
 refine reserve_Left_call h20 h (WkL.refl _) (fun _ h=>?_);conv=>whnf
 refine bKo rfl ?_;conv=>whnf
 refine And.intro rfl (And.intro (nle rfl) (And.intro rfl ?_));conv=>whnf
 refine hK _ _ _ ?_;clear hK K
 refine HT_fr dCo rfl fun K hK=>?_;conv=>whnf
 refine nlA rfl ?_;conv=>whnf
 refine bKo rfl ?_;conv=>whnf
 refine nlA rfl ?_;conv=>whnf
 replace h:=W_bd h
 refine reserve_Admit_call h13 h (WkL.refl _) (fun _ h=>?_);conv=>whnf
 refine bKo rfl ?_;conv=>whnf
 refine And.intro rfl (And.intro (nle rfl) (And.intro rfl ?_));conv=>whnf
 refine hK _ _ _ ?_;clear hK K
 refine HT_fr dCo rfl fun K hK=>?_;conv=>whnf
 refine bKo rfl ?_;conv=>whnf
 refine And.intro rfl (And.intro (nle rfl) (And.intro rfl ?_));conv=>whnf
 refine hK _ _ _ ?_;clear hK K
 refine HT_fr dCo rfl fun K hK=>?_;conv=>whnf
 refine nlA rfl ?_;conv=>whnf
 refine bKo rfl ?_;conv=>whnf
 refine nlA rfl ?_;conv=>whnf
 refine bKo rfl ?_;conv=>whnf
 refine And.intro rfl (And.intro (nle rfl) (And.intro rfl ?_));conv=>whnf
 refine hK _ _ _ ?_;clear hK K
 refine HT_fr dCo rfl fun K hK=>?_;conv=>whnf
 refine bKo rfl ?_;conv=>whnf
 refine And.intro rfl (And.intro (nle rfl) (And.intro rfl ?_));conv=>whnf
 refine hK _ _ _ ?_;clear hK K
 refine HT_seq ?_
 refine HT_jnK rfl h [1,10,12,13] [1,10,12,13] [] (fun kl kh ids b s=>⟨ofL ([(128,eB s)]++kl),ofH ([]++kh),b+64⟩) ?_;(conv=>whnf);refine And.intro (fun s h=>HT_st ?_) (fun k h=>?_)
 · refine HT_if fun K1 K2 hK1 hK2=>?_;conv=>whnf
   refine cLk h (fun _ h=>?_) (fun _ h=>?_)
   · refine hK1 ?_;clear hK1 hK2 K1 K2
     refine HT_fr dCo rfl fun K hK=>?_;conv=>whnf
     refine hK _ _ _ ?_;clear hK K
     refine HT_ret ?_
     refine Then_r ?_
     replace h:=W_some h
     refine PostP_r dCo fun K hK=>?_;conv=>whnf
     refine hK _ ?_;clear hK K
     cases h
     exact Wk.refl _
   refine hK2 ?_;clear hK1 hK2 K1 K2
   refine HT_skip ?_
   refine tHn ?_
   refine HT_ancK rfl rfl [1,10,12,13] [(1,32),(10,33),(12,34),(13,35)] ?_;conv=>whnf
   refine And.intro ?_ ?_
   · refine weak_kN ?_;conv=>whnf
     exact And.intro rfl (And.intro (aLc (WkR.ptr (fun _=>rfl)) (aLc (WkR.ptr (fun _=>rfl)) (aLc (WkR.ptr (fun _=>rfl)) (aLc (WkR.ptr (fun _=>rfl)) aLn)))) (aLc ⟨some _,rfl,bRc rfl (cKc wkI (cKc (wkr (lsL fun _=>(lo_TEdge _))) (cKc (wkr (lsL fun _=>(lsI _ _))) (cKc (wkr (lsL fun _=>(lsI _ _))) (cKc wkI (cKc (wkr (lsL fun _=>(lo_TOrdinary _))) cKn))))))⟩ (aLc ⟨some _,rfl,bRc rfl (cKc wkI (cKc (wkr (lsL fun _=>(lo_TDenied _))) cKn))⟩ (aLc ⟨some _,rfl,bRc rfl (cKc wkI (cKc wkI (cKc wkI (cKc wkI cKn))))⟩ (aLc ⟨some _,rfl,bRc rfl (cKc wkI (cKc wkI (cKc wkI (cKc wkI cKn))))⟩ aLn)))))
   refine HT_jnK rfl h [1] [1] [] (fun kl kh ids b s=>⟨ofL ([(14,eB s)]++kl),ofH ([]++kh),b+64⟩) ?_;(conv=>whnf);refine And.intro (fun s h=>HT_st ?_) (fun k h=>?_)
   · refine HT_fr dCo rfl fun K hK=>?_;conv=>whnf
     refine nlA rfl ?_;conv=>whnf
     refine bKo rfl ?_;conv=>whnf
     refine nlA rfl ?_;conv=>whnf
     replace h:=W_bd h
     refine reserve_Lack_call h28 h (WkL.refl _) (fun _ h=>?_);conv=>whnf
     refine bKo rfl ?_;conv=>whnf
     refine And.intro rfl (And.intro (nle rfl) (And.intro rfl ?_));conv=>whnf
     refine hK _ _ _ ?_;clear hK K
     refine HT_fr dCo rfl fun K hK=>?_;conv=>whnf
     refine callsK_own h31 h (fun y e=>(⟨rfl,e⟩:law33_example_S _ _)) (WkL.refl _) (fun _ h=>?_);conv=>whnf
     refine bKo rfl ?_;conv=>whnf
     refine And.intro rfl (And.intro (nle rfl) (And.intro rfl ?_));conv=>whnf
     refine hK _ _ _ ?_;clear hK K
     refine HT_fr dCo rfl fun K hK=>?_;conv=>whnf
     refine nlA rfl ?_;conv=>whnf
     refine bKo rfl ?_;conv=>whnf
     refine gKo rfl ?_;conv=>whnf
     refine lt_lk (enc:=eI) (d:=default) dCo h rfl rfl rfl ⟨nle rfl,nle rfl,rfl⟩ rfl ⟨⟨rfl,rfl,rfl⟩,trivial⟩ (fun h=>?_);conv=>whnf
     refine gd_lkN h (rfl) fun hx2 h=>?_;conv=>whnf
     refine bKo rfl ?_;conv=>whnf
     refine st_lkR (enc:=eTOrdinary) (d:=default) (q:=0) h (fun _=>rfl) (rfl) hx2 rfl (nle rfl) rfl (fun h=>?_);conv=>whnf
     refine hK _ _ _ ?_;clear hK K
     refine HT_frzBW 17 5 (enc:=eTOrdinary) (e:=56) default (ElOk_agg dCo rfl rfl (fun _=>rfl) (fun _=>rfl)) ?_;(conv=>whnf);refine ⟨_,_,_,_,(Nat.ne_of_beq_eq_false rfl),rfl,rfl,(lenset rfl).symm,rfl,splice_fl (enc:=eTOrdinary) (d:=default) (sz:=2) (q:=0) (x:=(⟨[2],7⟩:TOrdinary)) (xs':=[eL 1 eI default [2],eI 7]) (fun _=>rfl) rfl hx2 (nle rfl) rfl rfl (WkL_cons Wk_free (WkL.refl _)) rfl,?_⟩;conv=>whnf
     refine HT_fr dCo rfl fun K hK=>?_;conv=>whnf
     refine nlA rfl ?_;conv=>whnf
     refine bKo rfl ?_;conv=>whnf
     refine nlA rfl ?_;conv=>whnf
     replace h:=W_bd h
     refine reserve_Admit_call h13 h (WkL.refl _) (fun _ h=>?_);conv=>whnf
     refine bKo rfl ?_;conv=>whnf
     refine And.intro rfl (And.intro (nle rfl) (And.intro rfl ?_));conv=>whnf
     refine hK _ _ _ ?_;clear hK K
     refine HT_fr dCo rfl fun K hK=>?_;conv=>whnf
     refine bKo rfl ?_;conv=>whnf
     refine And.intro rfl (And.intro (nle rfl) (And.intro rfl ?_));conv=>whnf
     refine hK _ _ _ ?_;clear hK K
     refine HT_fr dCo rfl fun K hK=>?_;conv=>whnf
     refine nlA rfl ?_;conv=>whnf
     refine bKo rfl ?_;conv=>whnf
     refine nlA rfl ?_;conv=>whnf
     replace h:=W_bd h
     refine reserve_Slack_call h18 h (WkL.refl _) (fun _ h=>?_);conv=>whnf
     refine hK _ _ _ ?_;clear hK K
     refine HT_fr dCo rfl fun K hK=>?_;conv=>whnf
     refine nlA rfl ?_;conv=>whnf
     refine bKo rfl ?_;conv=>whnf
     refine nlA rfl ?_;conv=>whnf
     replace h:=W_bd h
     refine reserve_Lack_call h28 h (WkL.refl _) (fun _ h=>?_);conv=>whnf
     refine bKo rfl ?_;conv=>whnf
     refine And.intro rfl (And.intro (nle rfl) (And.intro rfl ?_));conv=>whnf
     refine hK _ _ _ ?_;clear hK K
     refine HT_fr dCo rfl fun K hK=>?_;conv=>whnf
     refine nlA rfl ?_;conv=>whnf
     refine bKo rfl ?_;conv=>whnf
     refine nlA rfl ?_;conv=>whnf
     replace h:=W_bd h
     refine reserve_Admit_call h13 h (WkL.refl _) (fun _ h=>?_);conv=>whnf
     refine bKo rfl ?_;conv=>whnf
     refine And.intro rfl (And.intro (nle rfl) (And.intro rfl ?_));conv=>whnf
     refine hK _ _ _ ?_;clear hK K
     refine HT_fr dCo rfl fun K hK=>?_;conv=>whnf
     replace h:=W_jn h
     refine cLk h (fun _ h=>?_) (fun _ h=>?_)<;>(conv=>whnf)
     · refine cLk h (fun _ h=>?_) (fun _ h=>?_)<;>(conv=>whnf)
       · refine cLk h (fun _ h=>?_) (fun _ h=>?_)<;>(conv=>whnf)
         · refine nlA rfl ?_;conv=>whnf
           refine bKo rfl ?_;conv=>whnf
           refine gKo rfl ?_;conv=>whnf
           refine cLk h (fun _ h=>?_) (fun _ h=>?_)<;>(conv=>whnf)
           · refine nlA rfl ?_;conv=>whnf
             refine bKo rfl ?_;conv=>whnf
             refine gKo rfl ?_;conv=>whnf
             refine ix_lk h fun _ h=>?_;conv=>whnf
             refine nlA rfl ?_;conv=>whnf
             refine eqK_e (eqv45 _ _ _ _ _ _ _ _) ?_;conv=>whnf
             refine cLk h (fun _ h=>?_) (fun _ h=>?_)<;>(conv=>whnf)
             · refine cLk h (fun _ h=>?_) (fun _ h=>?_)<;>(conv=>whnf)
               · refine cLk h (fun _ h=>?_) (fun _ h=>?_)<;>(conv=>whnf)
                 · refine cLk h (fun _ h=>?_) (fun _ h=>?_)<;>(conv=>whnf)
                   · refine nlA rfl ?_;conv=>whnf
                     refine bKo rfl ?_;conv=>whnf
                     refine gKo rfl ?_;conv=>whnf
                     refine cLk h (fun _ h=>?_) (fun _ h=>?_)<;>(conv=>whnf)
                     · refine nlA rfl ?_;conv=>whnf
                       refine bKo rfl ?_;conv=>whnf
                       refine nlA rfl ?_;conv=>whnf
                       refine nlA rfl ?_;conv=>whnf
                       refine bKo rfl ?_;conv=>whnf
                       refine nlA rfl ?_;conv=>whnf
                       replace h:=W_bd h
                       refine reserve_CheckDenied_call h30 h (WkL.refl _) (fun _ h=>?_);conv=>whnf
                       refine cLk h (fun _ h=>?_) (fun _ h=>?_)<;>(conv=>whnf)
                       · refine cLk h (fun _ h=>?_) (fun _ h=>?_)<;>(conv=>whnf)
                         · refine nlA rfl ?_;conv=>whnf
                           refine bKo rfl ?_;conv=>whnf
                           refine nlA rfl ?_;conv=>whnf
                           replace h:=W_bd h
                           refine reserve_Valid_call h23 h (WkL.refl _) (fun _ h=>?_);conv=>whnf
                           refine cLk h (fun _ h=>?_) (fun _ h=>?_)<;>(conv=>whnf)
                           · replace h:=W_bd h
                             refine reserve_Valid_call h23 h (WkL_cons (Wk_agg (WkL_cons (Wk.refl _) (WkL_cons Wk_nil (WkL_cons Wk_nil (WkL_cons Wk_nil (WkL_cons (Wk.refl _) (WkL_cons Wk_nil WkL_nil))))))) WkL_nil) (fun _ h=>?_);conv=>whnf
                             refine hK _ _ _ ?_;clear hK K
                             refine HT_ret ?_
                             replace h:=W_some h
                             refine PostP_r dCo fun K hK=>?_;conv=>whnf
                             refine hK _ ?_;clear hK K
                             cases h
                             exact Wk.refl _
                           refine hK _ _ _ ?_;clear hK K
                           refine HT_ret ?_
                           replace h:=W_some h
                           refine PostP_r dCo fun K hK=>?_;conv=>whnf
                           refine hK _ ?_;clear hK K
                           cases h
                           exact Wk.refl _
                         refine hK _ _ _ ?_;clear hK K
                         refine HT_ret ?_
                         replace h:=W_some h
                         refine PostP_r dCo fun K hK=>?_;conv=>whnf
                         refine hK _ ?_;clear hK K
                         cases h
                         exact Wk.refl _
                       refine hK _ _ _ ?_;clear hK K
                       refine HT_ret ?_
                       replace h:=W_some h
                       refine PostP_r dCo fun K hK=>?_;conv=>whnf
                       refine hK _ ?_;clear hK K
                       cases h
                       exact Wk.refl _
                     refine hK _ _ _ ?_;clear hK K
                     refine HT_ret ?_
                     replace h:=W_some h
                     refine PostP_r dCo fun K hK=>?_;conv=>whnf
                     refine hK _ ?_;clear hK K
                     cases h
                     exact Wk.refl _
                   refine hK _ _ _ ?_;clear hK K
                   refine HT_ret ?_
                   replace h:=W_some h
                   refine PostP_r dCo fun K hK=>?_;conv=>whnf
                   refine hK _ ?_;clear hK K
                   cases h
                   exact Wk.refl _
                 refine hK _ _ _ ?_;clear hK K
                 refine HT_ret ?_
                 replace h:=W_some h
                 refine PostP_r dCo fun K hK=>?_;conv=>whnf
                 refine hK _ ?_;clear hK K
                 cases h
                 exact Wk.refl _
               refine hK _ _ _ ?_;clear hK K
               refine HT_ret ?_
               replace h:=W_some h
               refine PostP_r dCo fun K hK=>?_;conv=>whnf
               refine hK _ ?_;clear hK K
               cases h
               exact Wk.refl _
             refine hK _ _ _ ?_;clear hK K
             refine HT_ret ?_
             replace h:=W_some h
             refine PostP_r dCo fun K hK=>?_;conv=>whnf
             refine hK _ ?_;clear hK K
             cases h
             exact Wk.refl _
           refine hK _ _ _ ?_;clear hK K
           refine HT_ret ?_
           replace h:=W_some h
           refine PostP_r dCo fun K hK=>?_;conv=>whnf
           refine hK _ ?_;clear hK K
           cases h
           exact Wk.refl _
         refine hK _ _ _ ?_;clear hK K
         refine HT_ret ?_
         replace h:=W_some h
         refine PostP_r dCo fun K hK=>?_;conv=>whnf
         refine hK _ ?_;clear hK K
         cases h
         exact Wk.refl _
       refine hK _ _ _ ?_;clear hK K
       refine HT_ret ?_
       replace h:=W_some h
       refine PostP_r dCo fun K hK=>?_;conv=>whnf
       refine hK _ ?_;clear hK K
       cases h
       exact Wk.refl _
     refine hK _ _ _ ?_;clear hK K
     refine HT_ret ?_
     replace h:=W_some h
     refine PostP_r dCo fun K hK=>?_;conv=>whnf
     refine hK _ ?_;clear hK K
     cases h
     exact Wk.refl _
   refine HT_f dCo rfl fun K hK=>?_;conv=>whnf
   refine nlA rfl ?_;conv=>whnf
   refine bKo rfl ?_;conv=>whnf
   refine nlA rfl ?_;conv=>whnf
   refine nlA rfl ?_;conv=>whnf
   refine bKo rfl ?_;conv=>whnf
   refine nlA rfl ?_;conv=>whnf
   replace h:=W_bd h
   refine reserve_CheckDenied_call h30 h (WkL.refl _) (fun _ h=>?_);conv=>whnf
   refine cLk h (fun _ h=>?_) (fun _ h=>?_)<;>(conv=>whnf)
   · refine nlA rfl ?_;conv=>whnf
     refine bKo rfl ?_;conv=>whnf
     refine nlA rfl ?_;conv=>whnf
     refine nlA rfl ?_;conv=>whnf
     refine bKo rfl ?_;conv=>whnf
     refine nlA rfl ?_;conv=>whnf
     replace h:=W_bd h
     refine reserve_CheckDenied_call h30 h (WkL.refl _) (fun _ h=>?_);conv=>whnf
     refine cLk h (fun _ h=>?_) (fun _ h=>?_)<;>(conv=>whnf)
     · refine nlA rfl ?_;conv=>whnf
       refine bKo rfl ?_;conv=>whnf
       refine nlA rfl ?_;conv=>whnf
       refine nlA rfl ?_;conv=>whnf
       refine bKo rfl ?_;conv=>whnf
       refine nlA rfl ?_;conv=>whnf
       replace h:=W_bd h
       refine reserve_Check_call h15 h (WkL.refl _) (fun _ h=>?_);conv=>whnf
       refine cLk h (fun _ h=>?_) (fun _ h=>?_)<;>(conv=>whnf)
       · refine nlA rfl ?_;conv=>whnf
         refine bKo rfl ?_;conv=>whnf
         refine nlA rfl ?_;conv=>whnf
         refine nlA rfl ?_;conv=>whnf
         refine bKo rfl ?_;conv=>whnf
         refine nlA rfl ?_;conv=>whnf
         refine lt_lk (enc:=eTDenied) (d:=default) dCo h rfl rfl rfl ⟨nle rfl,nle rfl,rfl⟩ rfl ⟨⟨rfl,nle rfl⟩,trivial⟩ (fun h=>?_);conv=>whnf
         replace h:=W_bd h
         refine reserve_Check_call h15 h (WkL_cons (Wk.refl _) (WkL_cons (Wk_agg (WkL_cons (Wk.refl _) (WkL_cons Wk_free WkL_nil))) WkL_nil)) (fun _ h=>?_);conv=>whnf
         refine cLk h (fun _ h=>?_) (fun _ h=>?_)<;>(conv=>whnf)
         · refine nlA rfl ?_;conv=>whnf
           refine bKo rfl ?_;conv=>whnf
           refine nlA rfl ?_;conv=>whnf
           replace h:=W_bd h
           refine reserve_Check_call h15 h (WkL_cons (Wk.refl _) (WkL_cons (Wk_agg (WkL_cons (Wk.refl _) (WkL_cons Wk_nil WkL_nil))) WkL_nil)) (fun _ h=>?_);conv=>whnf
           refine hK _ _ _ ?_;clear hK K
           refine tHn ?_
           refine ⟨_,h,?_⟩
           refine weak_k ?_;conv=>whnf
           exact And.intro rfl (And.intro (aLc (wkr (lsB _)) (aLc (WkR.ptr (fun _=>rfl)) aLn)) (aLc ⟨some _,rfl,bRc rfl (cKc wkI (cKc (wkr (lsL fun _=>(lo_TEdge _))) (cKc (wkr (lsL fun _=>(lsI _ _))) (cKc (wkr (lsL fun _=>(lsI _ _))) (cKc wkI (cKc (wkr (lsL fun _=>(lo_TOrdinary _))) cKn))))))⟩ aLn))
         refine hK _ _ _ ?_;clear hK K
         refine tHn ?_
         refine ⟨_,h,?_⟩
         refine weak_k ?_;conv=>whnf
         exact And.intro rfl (And.intro (aLc (wkr (lsB _)) (aLc (WkR.ptr (fun _=>rfl)) aLn)) (aLc ⟨some _,rfl,bRc rfl (cKc wkI (cKc (wkr (lsL fun _=>(lo_TEdge _))) (cKc (wkr (lsL fun _=>(lsI _ _))) (cKc (wkr (lsL fun _=>(lsI _ _))) (cKc wkI (cKc (wkr (lsL fun _=>(lo_TOrdinary _))) cKn))))))⟩ aLn))
       refine hK _ _ _ ?_;clear hK K
       refine tHn ?_
       refine ⟨_,h,?_⟩
       refine weak_k ?_;conv=>whnf
       exact And.intro rfl (And.intro (aLc (wkr (lsB _)) (aLc (WkR.ptr (fun _=>rfl)) aLn)) (aLc ⟨some _,rfl,bRc rfl (cKc wkI (cKc (wkr (lsL fun _=>(lo_TEdge _))) (cKc (wkr (lsL fun _=>(lsI _ _))) (cKc (wkr (lsL fun _=>(lsI _ _))) (cKc wkI (cKc (wkr (lsL fun _=>(lo_TOrdinary _))) cKn))))))⟩ aLn))
     refine hK _ _ _ ?_;clear hK K
     refine tHn ?_
     refine ⟨_,h,?_⟩
     refine weak_k ?_;conv=>whnf
     exact And.intro rfl (And.intro (aLc (wkr (lsB _)) (aLc (WkR.ptr (fun _=>rfl)) aLn)) (aLc ⟨some _,rfl,bRc rfl (cKc wkI (cKc (wkr (lsL fun _=>(lo_TEdge _))) (cKc (wkr (lsL fun _=>(lsI _ _))) (cKc (wkr (lsL fun _=>(lsI _ _))) (cKc wkI (cKc (wkr (lsL fun _=>(lo_TOrdinary _))) cKn))))))⟩ aLn))
   refine hK _ _ _ ?_;clear hK K
   refine tHn ?_
   refine ⟨_,h,?_⟩
   refine weak_k ?_;conv=>whnf
   exact And.intro rfl (And.intro (aLc (wkr (lsB _)) (aLc (WkR.ptr (fun _=>rfl)) aLn)) (aLc ⟨some _,rfl,bRc rfl (cKc wkI (cKc (wkr (lsL fun _=>(lo_TEdge _))) (cKc (wkr (lsL fun _=>(lsI _ _))) (cKc (wkr (lsL fun _=>(lsI _ _))) (cKc wkI (cKc (wkr (lsL fun _=>(lo_TOrdinary _))) cKn))))))⟩ aLn))
 refine HT_f dCo rfl fun K hK=>?_;conv=>whnf
 refine cLk h (fun _ h=>?_) (fun _ h=>?_)<;>(conv=>whnf)
 · refine hK _ _ _ ?_;clear hK K
   refine tHn ?_
   refine ⟨_,h,?_⟩
   refine weak_k ?_;conv=>whnf
   exact And.intro rfl (And.intro (aLc (wkr (lsB _)) (aLc (WkR.ptr (fun _=>rfl)) (aLc (WkR.ptr (fun _=>rfl)) (aLc (WkR.ptr (fun _=>rfl)) (aLc (WkR.ptr (fun _=>rfl)) aLn))))) (aLc ⟨some _,rfl,bRc rfl (cKc wkI (cKc (wkr (lsL fun _=>(lo_TEdge _))) (cKc (wkr (lsL fun _=>(lsI _ _))) (cKc (wkr (lsL fun _=>(lsI _ _))) (cKc wkI (cKc (wkr (lsL fun _=>(lo_TOrdinary _))) cKn))))))⟩ (aLc ⟨some _,rfl,bRc rfl (cKc wkI (cKc (wkr (lsL fun _=>(lo_TDenied _))) cKn))⟩ (aLc ⟨some _,rfl,bRc rfl (cKc wkI (cKc wkI (cKc wkI (cKc wkI cKn))))⟩ (aLc ⟨some _,rfl,bRc rfl (cKc wkI (cKc wkI (cKc wkI (cKc wkI cKn))))⟩ aLn)))))
 refine cLk h (fun _ h=>?_) (fun _ h=>?_)<;>(conv=>whnf)
 · refine hK _ _ _ ?_;clear hK K
   refine tHn ?_
   refine ⟨_,h,?_⟩
   refine weak_k ?_;conv=>whnf
   exact And.intro rfl (And.intro (aLc (wkr (lsB _)) (aLc (WkR.ptr (fun _=>rfl)) (aLc (WkR.ptr (fun _=>rfl)) (aLc (WkR.ptr (fun _=>rfl)) (aLc (WkR.ptr (fun _=>rfl)) aLn))))) (aLc ⟨some _,rfl,bRc rfl (cKc wkI (cKc (wkr (lsL fun _=>(lo_TEdge _))) (cKc (wkr (lsL fun _=>(lsI _ _))) (cKc (wkr (lsL fun _=>(lsI _ _))) (cKc wkI (cKc (wkr (lsL fun _=>(lo_TOrdinary _))) cKn))))))⟩ (aLc ⟨some _,rfl,bRc rfl (cKc wkI (cKc (wkr (lsL fun _=>(lo_TDenied _))) cKn))⟩ (aLc ⟨some _,rfl,bRc rfl (cKc wkI (cKc wkI (cKc wkI (cKc wkI cKn))))⟩ (aLc ⟨some _,rfl,bRc rfl (cKc wkI (cKc wkI (cKc wkI (cKc wkI cKn))))⟩ aLn)))))
 refine nlA rfl ?_;conv=>whnf
 refine bKo rfl ?_;conv=>whnf
 refine gKo rfl ?_;conv=>whnf
 refine cLk h (fun _ h=>?_) (fun _ h=>?_)<;>(conv=>whnf)
 · refine hK _ _ _ ?_;clear hK K
   refine tHn ?_
   refine ⟨_,h,?_⟩
   refine weak_k ?_;conv=>whnf
   exact And.intro rfl (And.intro (aLc (wkr (lsB _)) (aLc (WkR.ptr (fun _=>rfl)) (aLc (WkR.ptr (fun _=>rfl)) (aLc (WkR.ptr (fun _=>rfl)) (aLc (WkR.ptr (fun _=>rfl)) aLn))))) (aLc ⟨some _,rfl,bRc rfl (cKc wkI (cKc (wkr (lsL fun _=>(lo_TEdge _))) (cKc (wkr (lsL fun _=>(lsI _ _))) (cKc (wkr (lsL fun _=>(lsI _ _))) (cKc wkI (cKc (wkr (lsL fun _=>(lo_TOrdinary _))) cKn))))))⟩ (aLc ⟨some _,rfl,bRc rfl (cKc wkI (cKc (wkr (lsL fun _=>(lo_TDenied _))) cKn))⟩ (aLc ⟨some _,rfl,bRc rfl (cKc wkI (cKc wkI (cKc wkI (cKc wkI cKn))))⟩ (aLc ⟨some _,rfl,bRc rfl (cKc wkI (cKc wkI (cKc wkI (cKc wkI cKn))))⟩ aLn)))))
 refine nlA rfl ?_;conv=>whnf
 refine bKo rfl ?_;conv=>whnf
 refine gKo rfl ?_;conv=>whnf
 refine cLk h (fun _ h=>?_) (fun _ h=>?_)<;>(conv=>whnf)
 · refine hK _ _ _ ?_;clear hK K
   refine tHn ?_
   refine ⟨_,h,?_⟩
   refine weak_k ?_;conv=>whnf
   exact And.intro rfl (And.intro (aLc (wkr (lsB _)) (aLc (WkR.ptr (fun _=>rfl)) (aLc (WkR.ptr (fun _=>rfl)) (aLc (WkR.ptr (fun _=>rfl)) (aLc (WkR.ptr (fun _=>rfl)) aLn))))) (aLc ⟨some _,rfl,bRc rfl (cKc wkI (cKc (wkr (lsL fun _=>(lo_TEdge _))) (cKc (wkr (lsL fun _=>(lsI _ _))) (cKc (wkr (lsL fun _=>(lsI _ _))) (cKc wkI (cKc (wkr (lsL fun _=>(lo_TOrdinary _))) cKn))))))⟩ (aLc ⟨some _,rfl,bRc rfl (cKc wkI (cKc (wkr (lsL fun _=>(lo_TDenied _))) cKn))⟩ (aLc ⟨some _,rfl,bRc rfl (cKc wkI (cKc wkI (cKc wkI (cKc wkI cKn))))⟩ (aLc ⟨some _,rfl,bRc rfl (cKc wkI (cKc wkI (cKc wkI (cKc wkI cKn))))⟩ aLn)))))
 refine nlA rfl ?_;conv=>whnf
 refine bKo rfl ?_;conv=>whnf
 refine gKo rfl ?_;conv=>whnf
 refine ix_lk h fun _ h=>?_;conv=>whnf
 refine gKo rfl ?_;conv=>whnf
 refine cLk h (fun _ h=>?_) (fun _ h=>?_)<;>(conv=>whnf)
 · refine hK _ _ _ ?_;clear hK K
   refine tHn ?_
   refine ⟨_,h,?_⟩
   refine weak_k ?_;conv=>whnf
   exact And.intro rfl (And.intro (aLc (wkr (lsB _)) (aLc (WkR.ptr (fun _=>rfl)) (aLc (WkR.ptr (fun _=>rfl)) (aLc (WkR.ptr (fun _=>rfl)) (aLc (WkR.ptr (fun _=>rfl)) aLn))))) (aLc ⟨some _,rfl,bRc rfl (cKc wkI (cKc (wkr (lsL fun _=>(lo_TEdge _))) (cKc (wkr (lsL fun _=>(lsI _ _))) (cKc (wkr (lsL fun _=>(lsI _ _))) (cKc wkI (cKc (wkr (lsL fun _=>(lo_TOrdinary _))) cKn))))))⟩ (aLc ⟨some _,rfl,bRc rfl (cKc wkI (cKc (wkr (lsL fun _=>(lo_TDenied _))) cKn))⟩ (aLc ⟨some _,rfl,bRc rfl (cKc wkI (cKc wkI (cKc wkI (cKc wkI cKn))))⟩ (aLc ⟨some _,rfl,bRc rfl (cKc wkI (cKc wkI (cKc wkI (cKc wkI cKn))))⟩ aLn)))))
 refine lt_lk (enc:=eI) (d:=default) dCo h rfl rfl rfl ⟨nle rfl,nle rfl,rfl⟩ rfl ⟨⟨rfl,rfl,rfl⟩,⟨⟨rfl,rfl,rfl⟩,⟨⟨rfl,rfl,rfl⟩,⟨⟨rfl,rfl,rfl⟩,trivial⟩⟩⟩⟩ (fun h=>?_);conv=>whnf
 replace h:=W_bd h
 refine ref33_Ints_call h32 h (WkL_cons (Wk.refl _) (WkL_cons Wk_free WkL_nil)) (fun _ h=>?_);conv=>whnf
 refine cLk h (fun _ h=>?_) (fun _ h=>?_)<;>(conv=>whnf)
 · refine hK _ _ _ ?_;clear hK K
   refine tHn ?_
   refine ⟨_,h,?_⟩
   refine weak_k ?_;conv=>whnf
   exact And.intro rfl (And.intro (aLc (wkr (lsB _)) (aLc (WkR.ptr (fun _=>rfl)) (aLc (WkR.ptr (fun _=>rfl)) (aLc (WkR.ptr (fun _=>rfl)) (aLc (WkR.ptr (fun _=>rfl)) aLn))))) (aLc ⟨some _,rfl,bRc rfl (cKc wkI (cKc (wkr (lsL fun _=>(lo_TEdge _))) (cKc (wkr (lsL fun _=>(lsI _ _))) (cKc (wkr (lsL fun _=>(lsI _ _))) (cKc wkI (cKc (wkr (lsL fun _=>(lo_TOrdinary _))) cKn))))))⟩ (aLc ⟨some _,rfl,bRc rfl (cKc wkI (cKc (wkr (lsL fun _=>(lo_TDenied _))) cKn))⟩ (aLc ⟨some _,rfl,bRc rfl (cKc wkI (cKc wkI (cKc wkI (cKc wkI cKn))))⟩ (aLc ⟨some _,rfl,bRc rfl (cKc wkI (cKc wkI (cKc wkI (cKc wkI cKn))))⟩ aLn)))))
 refine nlA rfl ?_;conv=>whnf
 refine bKo rfl ?_;conv=>whnf
 refine gKo rfl ?_;conv=>whnf
 refine cLk h (fun _ h=>?_) (fun _ h=>?_)<;>(conv=>whnf)
 · refine hK _ _ _ ?_;clear hK K
   refine tHn ?_
   refine ⟨_,h,?_⟩
   refine weak_k ?_;conv=>whnf
   exact And.intro rfl (And.intro (aLc (wkr (lsB _)) (aLc (WkR.ptr (fun _=>rfl)) (aLc (WkR.ptr (fun _=>rfl)) (aLc (WkR.ptr (fun _=>rfl)) (aLc (WkR.ptr (fun _=>rfl)) aLn))))) (aLc ⟨some _,rfl,bRc rfl (cKc wkI (cKc (wkr (lsL fun _=>(lo_TEdge _))) (cKc (wkr (lsL fun _=>(lsI _ _))) (cKc (wkr (lsL fun _=>(lsI _ _))) (cKc wkI (cKc (wkr (lsL fun _=>(lo_TOrdinary _))) cKn))))))⟩ (aLc ⟨some _,rfl,bRc rfl (cKc wkI (cKc (wkr (lsL fun _=>(lo_TDenied _))) cKn))⟩ (aLc ⟨some _,rfl,bRc rfl (cKc wkI (cKc wkI (cKc wkI (cKc wkI cKn))))⟩ (aLc ⟨some _,rfl,bRc rfl (cKc wkI (cKc wkI (cKc wkI (cKc wkI cKn))))⟩ aLn)))))
 refine nlA rfl ?_;conv=>whnf
 refine bKo rfl ?_;conv=>whnf
 refine gKo rfl ?_;conv=>whnf
 refine cLk h (fun _ h=>?_) (fun _ h=>?_)<;>(conv=>whnf)
 · refine hK _ _ _ ?_;clear hK K
   refine tHn ?_
   refine ⟨_,h,?_⟩
   refine weak_k ?_;conv=>whnf
   exact And.intro rfl (And.intro (aLc (wkr (lsB _)) (aLc (WkR.ptr (fun _=>rfl)) (aLc (WkR.ptr (fun _=>rfl)) (aLc (WkR.ptr (fun _=>rfl)) (aLc (WkR.ptr (fun _=>rfl)) aLn))))) (aLc ⟨some _,rfl,bRc rfl (cKc wkI (cKc (wkr (lsL fun _=>(lo_TEdge _))) (cKc (wkr (lsL fun _=>(lsI _ _))) (cKc (wkr (lsL fun _=>(lsI _ _))) (cKc wkI (cKc (wkr (lsL fun _=>(lo_TOrdinary _))) cKn))))))⟩ (aLc ⟨some _,rfl,bRc rfl (cKc wkI (cKc (wkr (lsL fun _=>(lo_TDenied _))) cKn))⟩ (aLc ⟨some _,rfl,bRc rfl (cKc wkI (cKc wkI (cKc wkI (cKc wkI cKn))))⟩ (aLc ⟨some _,rfl,bRc rfl (cKc wkI (cKc wkI (cKc wkI (cKc wkI cKn))))⟩ aLn)))))
 refine nlA rfl ?_;conv=>whnf
 refine bKo rfl ?_;conv=>whnf
 refine gKo rfl ?_;conv=>whnf
 refine ix_lk h fun _ h=>?_;conv=>whnf
 refine gKo rfl ?_;conv=>whnf
 refine hK _ _ _ ?_;clear hK K
 refine tHn ?_
 refine ⟨_,h,?_⟩
 refine weak_k ?_;conv=>whnf
 exact And.intro rfl (And.intro (aLc (wkr (lsB _)) (aLc (WkR.ptr (fun _=>rfl)) (aLc (WkR.ptr (fun _=>rfl)) (aLc (WkR.ptr (fun _=>rfl)) (aLc (WkR.ptr (fun _=>rfl)) aLn))))) (aLc ⟨some _,rfl,bRc rfl (cKc wkI (cKc (wkr (lsL fun _=>(lo_TEdge _))) (cKc (wkr (lsL fun _=>(lsI _ _))) (cKc (wkr (lsL fun _=>(lsI _ _))) (cKc wkI (cKc (wkr (lsL fun _=>(lo_TOrdinary _))) cKn))))))⟩ (aLc ⟨some _,rfl,bRc rfl (cKc wkI (cKc (wkr (lsL fun _=>(lo_TDenied _))) cKn))⟩ (aLc ⟨some _,rfl,bRc rfl (cKc wkI (cKc wkI (cKc wkI (cKc wkI cKn))))⟩ (aLc ⟨some _,rfl,bRc rfl (cKc wkI (cKc wkI (cKc wkI (cKc wkI cKn))))⟩ aLn)))))
theorem law33_sane_call {T:Tbl} (hT:T 11=pureR law33_sane_S) {args:List AV} {hp:Heap} {id:Nat} {k:AV→Prop} {Φ:Bool→Prop} (h:W (law33_sane_F ) Φ) (hw:WkL args []) (hk:∀ y,Φ y→k (eB y)):callpK T 11 args hp id k:=by
 obtain ⟨y,e,hy⟩:=W_inv h
 exact callpK_pure hT ⟨rfl,W_of e rfl⟩ (by exact (lsB _)) hw (hk y hy)
end Go.Proofs.Ytkjccabdpeldhaa
namespace Go.Proofs.Ytkjccabdpeldhaa
open Go Go.Eng
set_option maxHeartbeats 0
set_option maxRecDepth 100000
def push_2_F (a0:Int) (a1:Int) (x0:Int) (m0:Ar 196):Option Int:=gd (0≤a0∧a0<(14:Int)) (gd (0≤a1∧a1<(14:Int)) (some (imin x0 (m0.at2 14 a0 a1))))
def push_2_S:List AV→List (List AV)→AV→List (List AV)→Prop:=fun args bs r bs'=>∃ a0 a1 x0 m0 y,args=[eI a0,eI a1,.ptr 0 0,.ep [.ptr 1 0] 0]∧bs=[[eI x0],cA m0]∧push_2_F a0 a1 x0 m0=some y∧r=.tup []∧bs'=[[eI y],cA m0]
theorem push_2_ok {T:Tbl} (hT:TOk Try.prog T) (hpf:PfOk T PF):FOk Try.prog 82 (blkF push_2_S):=by
 refine FOk_blkF hT hpf Try.func82 rfl Try.ntmps82 Try.results82 (by decide) ?_
 rintro args bs r bs' ⟨a0,a1,x0,m0,y,rfl,rfl,hF,rfl,rfl⟩
 refine ⟨nle rfl,rfl,(loose_tup lsN),(all2 (loose_1 _) (cA_loose _)),(all2 (loose_1 _) (cA_loose _)),?_⟩
 have h:W (push_2_F a0 a1 x0 m0) (fun z=>z=y):=W_of hF rfl
 rw [push_2_F.eq_1] at h
 refine HT_fD dCo mix_ok rfl (by kernel_rfl) fun K hK=>?_;conv=>whnf
 refine nlA rfl ?_;conv=>whnf
 refine bKo rfl ?_;conv=>whnf
 refine gKo rfl ?_;conv=>whnf
 refine gKo rfl ?_;conv=>whnf
 refine gd_lk h fun hx3 h=>?_;conv=>whnf
 refine gd_lk h fun hx4 h=>?_;conv=>whnf
 refine nlA rfl ?_;conv=>whnf
 refine bKo rfl ?_;conv=>whnf
 refine get_ar2 (m:=14) rfl rfl hx3 hx4 ?_;conv=>whnf
 refine bKo rfl ?_;conv=>whnf
 refine And.intro rfl (And.intro (nle rfl) (And.intro rfl ?_));conv=>whnf
 refine hK _ _ _ ?_;clear hK K
 replace h:=W_some h
 refine PostB_n dCo fun K hK=>?_;conv=>whnf
 refine hK _ ?_;clear hK K
 cases h
 exact ⟨Wk.refl _,rfl,rfl,trivial⟩

   def push_3_F (a0:Int) (a1:Int) (x0:Int) (m0:Ar 196):Option ((Ar 196)):=gd (0≤a0∧a0<(14:Int)) (gd (0≤a1∧a1<(14:Int)) (gd (0≤a0∧a0<(14:Int)) (gd (0≤a1∧a1<(14:Int)) (let m1:=m0.st2 14 a0 a1 (wr ((m0.at2 14 a0 a1)-x0));
   gd (0≤a1∧a1<(14:Int)) (gd (0≤a0∧a0<(14:Int)) (gd (0≤a1∧a1<(14:Int)) (gd (0≤a0∧a0<(14:Int)) (let m2:=m1.st2 14 a1 a0 (wr ((m1.at2 14 a1 a0)+x0));
   some m2))))))))
def push_3_S:List AV→List (List AV)→AV→List (List AV)→Prop:=fun args bs r bs'=>∃ a0 a1 x0 m0 y,args=[eI a0,eI a1,.ep [.ptr 1 0] 0,.ptr 0 0]∧bs=[[eI x0],cA m0]∧push_3_F a0 a1 x0 m0=some y∧r=.tup []∧bs'=[[eI x0],cA y]
theorem push_3_ok {T:Tbl} (hT:TOk Try.prog T) (hpf:PfOk T PF):FOk Try.prog 83 (blkF push_3_S):=by
 refine FOk_blkF hT hpf Try.func83 rfl Try.ntmps83 Try.results83 (by decide) ?_
 rintro args bs r bs' ⟨a0,a1,x0,m0,y,rfl,rfl,hF,rfl,rfl⟩
 refine ⟨nle rfl,rfl,(loose_tup lsN),(all2 (loose_1 _) (cA_loose _)),(all2 (loose_1 _) (cA_loose _)),?_⟩
 have h:W (push_3_F a0 a1 x0 m0) (fun z=>z=y):=W_of hF rfl
 rw [push_3_F.eq_1] at h
 refine HT_fd dCo mix_ok rfl (by kernel_rfl) fun K hK=>?_;conv=>whnf
 refine gKo rfl ?_;conv=>whnf
 refine gd_lk h fun hx9 h=>?_;conv=>whnf
 refine gd_lk h fun hx10 h=>?_;conv=>whnf
 refine nlA rfl ?_;conv=>whnf
 refine bKo rfl ?_;conv=>whnf
 refine get_ar2 (m:=14) rfl rfl hx9 hx10 ?_;conv=>whnf
 refine nlA rfl ?_;conv=>whnf
 refine bKo rfl ?_;conv=>whnf
 refine gKo rfl ?_;conv=>whnf
 refine gd_lk h fun hx11 h=>?_;conv=>whnf
 refine gd_lk h fun hx12 h=>?_;conv=>whnf
 refine bKo rfl ?_;conv=>whnf
 refine st_ar2 (m:=14) rfl rfl hx11 hx12 rfl rfl ?_;conv=>whnf
 refine hK _ _ _ ?_;clear hK K
 refine HT_fD dCo mix_ok rfl (by kernel_rfl) fun K hK=>?_;conv=>whnf
 refine gKo rfl ?_;conv=>whnf
 refine gd_lk h fun hx13 h=>?_;conv=>whnf
 refine gd_lk h fun hx14 h=>?_;conv=>whnf
 refine nlA rfl ?_;conv=>whnf
 refine bKo rfl ?_;conv=>whnf
 refine get_ar2 (m:=14) rfl rfl hx13 hx14 ?_;conv=>whnf
 refine nlA rfl ?_;conv=>whnf
 refine bKo rfl ?_;conv=>whnf
 refine gKo rfl ?_;conv=>whnf
 refine gd_lk h fun hx15 h=>?_;conv=>whnf
 refine gd_lk h fun hx16 h=>?_;conv=>whnf
 refine bKo rfl ?_;conv=>whnf
 refine st_ar2 (m:=14) rfl rfl hx15 hx16 rfl rfl ?_;conv=>whnf
 refine hK _ _ _ ?_;clear hK K
 replace h:=W_some h
 refine PostB_n dCo fun K hK=>?_;conv=>whnf
 refine hK _ ?_;clear hK K
 cases h
 exact ⟨Wk.refl _,rfl,rfl,trivial⟩
end Go.Proofs.Ytkjccabdpeldhaa
namespace Go.Proofs.Ytkjccabdpeldhaa
open Go Go.Eng
set_option maxHeartbeats 0
set_option maxRecDepth 100000
def push_1a_b1 (c2:Int) (c3:Ar 14) (m0:Ar 196) (s1:Int×Int):Option (Ct (Int×Int) Int):=cn (s1.1 !=
   c2) (gd (0≤s1.1∧s1.1<(14:Int)) (bd (push_2_F (wr ((c3.at1 s1.1)-1)) s1.1 s1.2 m0) fun y2=>
   gd (0≤s1.1∧s1.1<(14:Int)) (some (.nx ((wr ((c3.at1 s1.1)-1)),y2))))) (some (.bk (s1.1,s1.2)))
theorem W_bpush_1a_b1 {c2:Int} {c3:Ar 14} {m0:Ar 196} {s1:Int×Int} {Φ:Ct (Int×Int) Int→Prop} (h:W (push_1a_b1 c2 c3 m0 s1) Φ):W (cn (s1.1 != c2) (gd (0≤s1.1∧s1.1<(14:Int)) (bd (push_2_F (wr ((c3.at1 s1.1)-1)) s1.1 s1.2 m0) fun y2=>
   gd (0≤s1.1∧s1.1<(14:Int)) (some (.nx ((wr ((c3.at1 s1.1)-1)),y2))))) (some (.bk (s1.1,s1.2)))) Φ:=h
def push_1a_F (c1:Int) (c2:Int) (c3:Ar 14) (x0:Int) (m0:Ar 196):Option Int:=bd (lp (push_1a_b1 c2 c3 m0) FU (c1,x0)) fun c3=>smK c3 (fun s4=>some s4.2) (fun r5=>
   some r5)
def push_1a_S:List AV→List (List AV)→AV→List (List AV)→Prop:=fun args bs r bs'=>∃ c1 c2 c3 x0 m0 y,args=[.fn 82 [] [.ptr 0 0,.ep [.ptr 1 0] 0],.ep [eI c1] 0,.ep [eI c2] 0,.ep (cA c3) 0]∧bs=[[eI x0],cA m0]∧push_1a_F c1 c2 c3 x0 m0=some y∧r=.tup []∧bs'=[[eI y],cA m0]
theorem push_1a_okv {T:Tbl} (hT:TOk Try.prog T) (hpf:PfOk T PF) (h82:T 82=blkF push_2_S) :  FOk Try.prog 81 (blkF push_1a_S):=by
 refine FOk_blkF hT hpf Try.func81 rfl Try.ntmps81 Try.results81 (by decide) ?_
 rintro args bs r bs' ⟨c1,c2,c3,x0,m0,y,rfl,rfl,hF,rfl,rfl⟩
 refine ⟨nle rfl,rfl,(loose_tup lsN),(all2 (loose_1 _) (cA_loose _)),(all2 (loose_1 _) (cA_loose _)),?_⟩
 have h:W (push_1a_F c1 c2 c3 x0 m0) (fun z=>z=y):=W_of hF rfl
 rw [push_1a_F.eq_1] at h
 refine HT_fr dCo rfl fun K hK=>?_;conv=>whnf
 refine gKo rfl ?_;conv=>whnf
 refine hK _ _ _ ?_;clear hK K
 refine HT_block ?_
 replace h:=W_bd h
 refine HT_lpQ (body:=push_1a_b1 _ _ _) rfl h [0,2,3] (fun σ=>keepH σ []++keepT σ []) (fun σ=>keepT σ []++keepH σ []++keepN σ [1]) [] (fun kl kh kr ids b s=>⟨ofL ([(5,eI s.1)]++kl),ofH (([(0,.cells ([eI s.2]))]++kh)++([]++kr)),b+64⟩) ?_;(conv=>whnf);refine And.intro ?_ (fun s m h=>HT_st ?_)
 · refine weak_r ?_;conv=>whnf
   exact And.intro rfl (And.intro (aLc wkI (aLc (WkR_fn VsR_nil (VsR_cons (WkR.ptr (fun _=>rfl)) (VsR_cons (WkR_ep (VsR_cons (WkR.ptr (fun _=>rfl)) VsR_nil)) VsR_nil))) (aLc (wkr (lsE (lsC (lsI _ _) lsN))) (aLc (wkr (lsE (cA_loose _))) aLn)))) (aLc ⟨some _,rfl,bRc rfl (cKc wkI cKn)⟩ (aLc ⟨some _,rfl,BkR_arr rfl rfl⟩ aLn)))
 replace h:=W_bpush_1a_b1 (W_bd h)
 refine HT_seq ?_
 refine HT_fr dCo rfl fun K hK=>?_;conv=>whnf
 refine gKo rfl ?_;conv=>whnf
 refine hK _ _ _ ?_;clear hK K
 refine HT_if fun K1 K2 hK1 hK2=>?_;conv=>whnf
 refine cLk h (fun _ h=>?_) (fun _ h=>?_)
 · refine hK1 ?_;clear hK1 hK2 K1 K2
   refine HT_skip ?_
   refine tHn ?_
   refine HT_seq ?_
   refine HT_block ?_
   refine HT_f dCo rfl fun K hK=>?_;conv=>whnf
   refine gd_lk h fun hx32 h=>?_;conv=>whnf
   refine get_ar1 rfl hx32 ?_;conv=>whnf
   refine callsK_blkF (bs:=[_,_]) (args0:=[_,_,.ptr 0 0,.ep [.ptr 1 0] 0]) h82 [_,_] h (.cons (WkA_wk (Wk.refl _) (lsI _ _)) (.cons (WkA_wk (Wk.refl _) (lsI _ _)) (.cons (WkA_ptr rfl) (.cons (WkA_ep (VsA_cons (WkA_ptr rfl) VsA_nil)) .nil)))) ⟨rfl,rfl,trivial⟩ rfl (nle rfl) (fun y e=>(⟨_,_,_,_,_,rfl,rfl,e,rfl,rfl⟩:push_2_S _ _ _ _)) (fun _ h=>?_);conv=>whnf
   refine hK _ _ _ ?_;clear hK K
   refine iBn ?_
   refine tHn ?_
   refine HT_f dCo rfl fun K hK=>?_;conv=>whnf
   refine gd_lk h fun hx33 h=>?_;conv=>whnf
   refine get_ar1 rfl hx33 ?_;conv=>whnf
   refine hK _ _ _ ?_;clear hK K
   refine tHn ?_
   replace h:=W_xnx h
   refine ⟨_,h,?_⟩
   refine weak_r ?_;conv=>whnf
   exact And.intro rfl (And.intro (aLc wkI (aLc (WkR_fn VsR_nil (VsR_cons (WkR.ptr (fun _=>rfl)) (VsR_cons (WkR_ep (VsR_cons (WkR.ptr (fun _=>rfl)) VsR_nil)) VsR_nil))) (aLc (wkr (lsE (lsC (lsI _ _) lsN))) (aLc (wkr (lsE (cA_loose _))) aLn)))) (aLc ⟨some _,rfl,bRc rfl (cKc wkI cKn)⟩ (aLc ⟨some _,rfl,BkR_arr rfl rfl⟩ aLn)))
 refine hK2 ?_;clear hK1 hK2 K1 K2
 refine HT_exit ?_
 refine Then_e ?_
 refine Then_e ?_
 refine InBlock_e ?_
 replace h:=W_xbk h
 replace h:=W_inl h
 replace h:=W_some h
 refine PostB_n dCo fun K hK=>?_;conv=>whnf
 refine hK _ ?_;clear hK K
 cases h
 exact ⟨Wk.refl _,rfl,rfl,trivial⟩
def push_1b_b1 (c2:Int) (c3:Ar 14) (x0:Int) (s1:Int×(Ar 196)):Option (Ct (Int×(Ar 196)) ((Ar 196))):=cn (s1.1 !=
   c2) (gd (0≤s1.1∧s1.1<(14:Int)) (bd (push_3_F (wr ((c3.at1 s1.1)-1)) s1.1 x0 s1.2) fun y2=>
   gd (0≤s1.1∧s1.1<(14:Int)) (some (.nx ((wr ((c3.at1 s1.1)-1)),y2))))) (some (.bk (s1.1,s1.2)))
theorem W_bpush_1b_b1 {c2:Int} {c3:Ar 14} {x0:Int} {s1:Int×(Ar 196)} {Φ:Ct (Int×(Ar 196)) ((Ar 196))→Prop} (h:W (push_1b_b1 c2 c3 x0 s1) Φ):W (cn (s1.1 != c2) (gd (0≤s1.1∧s1.1<(14:Int)) (bd (push_3_F (wr ((c3.at1 s1.1)-1)) s1.1 x0 s1.2) fun y2=>
   gd (0≤s1.1∧s1.1<(14:Int)) (some (.nx ((wr ((c3.at1 s1.1)-1)),y2))))) (some (.bk (s1.1,s1.2)))) Φ:=h
def push_1b_F (c1:Int) (c2:Int) (c3:Ar 14) (x0:Int) (m0:Ar 196):Option ((Ar 196)):=bd (lp (push_1b_b1 c2 c3 x0) FU (c1,m0)) fun c3=>smK c3 (fun s4=>
   some s4.2) (fun r5=>some r5)
def push_1b_S:List AV→List (List AV)→AV→List (List AV)→Prop:=fun args bs r bs'=>∃ c1 c2 c3 x0 m0 y,args=[.fn 83 [] [.ep [.ptr 1 0] 0,.ptr 0 0],.ep [eI c1] 0,.ep [eI c2] 0,.ep (cA c3) 0]∧bs=[[eI x0],cA m0]∧push_1b_F c1 c2 c3 x0 m0=some y∧r=.tup []∧bs'=[[eI x0],cA y]
theorem push_1b_okv {T:Tbl} (hT:TOk Try.prog T) (hpf:PfOk T PF) (h83:T 83=blkF push_3_S) :  FOk Try.prog 81 (blkF push_1b_S):=by
 refine FOk_blkF hT hpf Try.func81 rfl Try.ntmps81 Try.results81 (by decide) ?_
 rintro args bs r bs' ⟨c1,c2,c3,x0,m0,y,rfl,rfl,hF,rfl,rfl⟩
 refine ⟨nle rfl,rfl,(loose_tup lsN),(all2 (loose_1 _) (cA_loose _)),(all2 (loose_1 _) (cA_loose _)),?_⟩
 have h:W (push_1b_F c1 c2 c3 x0 m0) (fun z=>z=y):=W_of hF rfl
 rw [push_1b_F.eq_1] at h
 refine HT_fr dCo rfl fun K hK=>?_;conv=>whnf
 refine gKo rfl ?_;conv=>whnf
 refine hK _ _ _ ?_;clear hK K
 refine HT_block ?_
 replace h:=W_bd h
 refine HT_lpQ (body:=push_1b_b1 _ _ _) rfl h [0,2,3] (fun σ=>keepN σ [0]++keepH σ []++keepT σ []) (fun σ=>keepT σ []++keepH σ []++keepN σ []) [] (fun kl kh kr ids b s=>⟨ofL ([(5,eI s.1)]++kl),ofH (([]++kh)++([(1,.cells (cA s.2))]++kr)),b+128⟩) ?_;(conv=>whnf);refine And.intro ?_ (fun s m h=>HT_st ?_)
 · refine weak_r ?_;conv=>whnf
   exact And.intro rfl (And.intro (aLc wkI (aLc (WkR_fn VsR_nil (VsR_cons (WkR_ep (VsR_cons (WkR.ptr (fun _=>rfl)) VsR_nil)) (VsR_cons (WkR.ptr (fun _=>rfl)) VsR_nil))) (aLc (wkr (lsE (lsC (lsI _ _) lsN))) (aLc (wkr (lsE (cA_loose _))) aLn)))) (aLc ⟨some _,rfl,bRc rfl (cKc wkI cKn)⟩ (aLc ⟨some _,rfl,BkR_arr rfl rfl⟩ aLn)))
 replace h:=W_bpush_1b_b1 (W_bd h)
 refine HT_seq ?_
 refine HT_fr dCo rfl fun K hK=>?_;conv=>whnf
 refine gKo rfl ?_;conv=>whnf
 refine hK _ _ _ ?_;clear hK K
 refine HT_if fun K1 K2 hK1 hK2=>?_;conv=>whnf
 refine cLk h (fun _ h=>?_) (fun _ h=>?_)
 · refine hK1 ?_;clear hK1 hK2 K1 K2
   refine HT_skip ?_
   refine tHn ?_
   refine HT_seq ?_
   refine HT_block ?_
   refine HT_f dCo rfl fun K hK=>?_;conv=>whnf
   refine gd_lk h fun hx32 h=>?_;conv=>whnf
   refine get_ar1 rfl hx32 ?_;conv=>whnf
   refine callsK_blkF (bs:=[_,_]) (args0:=[_,_,.ep [.ptr 1 0] 0,.ptr 0 0]) h83 [_,_] h (.cons (WkA_wk (Wk.refl _) (lsI _ _)) (.cons (WkA_wk (Wk.refl _) (lsI _ _)) (.cons (WkA_ep (VsA_cons (WkA_ptr rfl) VsA_nil)) (.cons (WkA_ptr rfl) .nil)))) ⟨rfl,rfl,trivial⟩ rfl (nle rfl) (fun y e=>(⟨_,_,_,_,_,rfl,rfl,e,rfl,rfl⟩:push_3_S _ _ _ _)) (fun _ h=>?_);conv=>whnf
   refine hK _ _ _ ?_;clear hK K
   refine iBn ?_
   refine tHn ?_
   refine HT_f dCo rfl fun K hK=>?_;conv=>whnf
   refine gd_lk h fun hx33 h=>?_;conv=>whnf
   refine get_ar1 rfl hx33 ?_;conv=>whnf
   refine hK _ _ _ ?_;clear hK K
   refine tHn ?_
   replace h:=W_xnx h
   refine ⟨_,h,?_⟩
   refine weak_r ?_;conv=>whnf
   exact And.intro rfl (And.intro (aLc wkI (aLc (WkR_fn VsR_nil (VsR_cons (WkR_ep (VsR_cons (WkR.ptr (fun _=>rfl)) VsR_nil)) (VsR_cons (WkR.ptr (fun _=>rfl)) VsR_nil))) (aLc (wkr (lsE (lsC (lsI _ _) lsN))) (aLc (wkr (lsE (cA_loose _))) aLn)))) (aLc ⟨some _,rfl,bRc rfl (cKc wkI cKn)⟩ (aLc ⟨some _,rfl,BkR_arr rfl rfl⟩ aLn)))
 refine hK2 ?_;clear hK1 hK2 K1 K2
 refine HT_exit ?_
 refine Then_e ?_
 refine Then_e ?_
 refine InBlock_e ?_
 replace h:=W_xbk h
 replace h:=W_inl h
 replace h:=W_some h
 refine PostB_n dCo fun K hK=>?_;conv=>whnf
 refine hK _ ?_;clear hK K
 cases h
 exact ⟨Wk.refl _,rfl,rfl,trivial⟩
def push_1_S:List AV→List (List AV)→AV→List (List AV)→Prop:=fun a b c d=>push_1a_S a b c d∨push_1b_S a b c d
theorem push_1_ok {T:Tbl} (hT:TOk Try.prog T) (hpf:PfOk T PF) (h82:T 82=blkF push_2_S) (h83:T 83=blkF push_3_S):FOk Try.prog 81 (blkF push_1_S):=(blkF_or (push_1a_okv hT hpf h82) (push_1b_okv hT hpf h83))
end Go.Proofs.Ytkjccabdpeldhaa
