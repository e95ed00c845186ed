import Derived.Test.YtkjccabdpeldhaaGreatM4
import Derived.Test.YtkjccabdpeldhaaGreatM5
import Derived.Handy
import Derived.Test.YtkjccabdpeldhaaGreatM3
set_option linter.unusedVariables false
set_option linter.unusedSimpArgs false
set_option linter.unusedSectionVars false
namespace Go.Proofs
open Go.Shelf
def Tryz.sortN_ren:Go.Shelf.Ren:=⟨fun | 6=>87 | 15=>91 | 14=>90 | 28=>101 | 29=>102 | 20=>93 | 21=>94 | 22=>95 | 23=>96 | 24=>97 | 25=>98 | 26=>99 | 27=>100 | 46=>103 | 47=>104 | 48=>105 | 49=>106 | 50=>107 | 57=>108 | n=>n,fun | 22=>23 | 24=>3 | 25=>55 | 3=>3 | 39=>101 | 0=>0 | 53=>118 | 55=>120 | 4=>4 | 46=>132 | 45=>131 | 50=>48 | 5=>5 | 9=>9 | 66=>137 | 70=>141 | 76=>143 | 77=>144 | n=>n,fun | n=>n⟩
theorem Tryz.sortN:Go.Proofs.SlLaysF.n6 Tryz.prog Tryz.sortN_ren:={
 mixed:=by kernel_rfl
 f6:=⟨Tryz.f87.name,by decide,Tryz.func87.trans (congrArg some (by kernel_rfl))⟩
 f14:=⟨Tryz.f90.name,by decide,Tryz.func90.trans (congrArg some (by kernel_rfl))⟩
 f15:=Tryz.func91.trans (congrArg some (by kernel_rfl))
 f20:=⟨Tryz.f93.name,by decide,Tryz.func93.trans (congrArg some (by kernel_rfl))⟩
 f21:=⟨Tryz.f94.name,by decide,Tryz.func94.trans (congrArg some (by kernel_rfl))⟩
 f22:=⟨Tryz.f95.name,by decide,Tryz.func95.trans (congrArg some (by kernel_rfl))⟩
 f23:=⟨Tryz.f96.name,by decide,Tryz.func96.trans (congrArg some (by kernel_rfl))⟩
 f24:=⟨Tryz.f97.name,by decide,Tryz.func97.trans (congrArg some (by kernel_rfl))⟩
 f25:=⟨Tryz.f98.name,by decide,Tryz.func98.trans (congrArg some (by kernel_rfl))⟩
 f26:=⟨Tryz.f99.name,by decide,Tryz.func99.trans (congrArg some (by kernel_rfl))⟩
 f27:=⟨Tryz.f100.name,by decide,Tryz.func100.trans (congrArg some (by kernel_rfl))⟩
 f28:=Tryz.func101.trans (congrArg some (by kernel_rfl))
 f29:=Tryz.func102.trans (congrArg some (by kernel_rfl))
 f46:=⟨Tryz.f103.name,by decide,Tryz.func103.trans (congrArg some (by kernel_rfl))⟩
 f47:=Tryz.func104.trans (congrArg some (by kernel_rfl))
 f48:=Tryz.func105.trans (congrArg some (by kernel_rfl))
 f49:=⟨Tryz.f106.name,by decide,Tryz.func106.trans (congrArg some (by kernel_rfl))⟩
 f50:=⟨Tryz.f107.name,by decide,Tryz.func107.trans (congrArg some (by kernel_rfl))⟩
 f57:=⟨Tryz.f108.name,by decide,Tryz.func108.trans (congrArg some (by kernel_rfl))⟩
 t0:=Tryz.underlying0
 a0:=Tryz.isAgg0
 z0:=Tryz.sizeOf0
 v0:=Tryz.zeroValue0
 t3:=Tryz.underlying3
 a3:=Tryz.isAgg3
 z3:=Tryz.sizeOf3
 v3:=Tryz.zeroValue3
 t4:=Tryz.underlying4
 a4:=Tryz.isAgg4
 z4:=Tryz.sizeOf4
 v4:=Tryz.zeroValue4
 t5:=Tryz.underlying5
 a5:=Tryz.isAgg5
 z5:=Tryz.sizeOf5
 v5:=Tryz.zeroValue5
 t9:=Tryz.underlying9
 a9:=Tryz.isAgg9
 z9:=Tryz.sizeOf9
 v9:=Tryz.zeroValue9
 t22:=Tryz.underlying23
 a22:=Tryz.isAgg23
 z22:=Tryz.sizeOf23
 v22:=Tryz.zeroValue23
 a24:=Tryz.isAgg3
 z24:=Tryz.sizeOf3
 t25:=Tryz.underlying55
 a25:=Tryz.isAgg55
 z25:=Tryz.sizeOf55
 v25:=Tryz.zeroValue55
 t39:=Tryz.underlying101
 a39:=Tryz.isAgg101
 z39:=Tryz.sizeOf101
 v39:=Tryz.zeroValue101
 t45:=Tryz.underlying131
 a45:=Tryz.isAgg131
 z45:=Tryz.sizeOf131
 v45:=Tryz.zeroValue131
 t46:=Tryz.underlying132
 a46:=Tryz.isAgg132
 z46:=Tryz.sizeOf132
 v46:=Tryz.zeroValue132
 t50:=Tryz.underlying48
 a50:=Tryz.isAgg48
 z50:=Tryz.sizeOf48
 v50:=Tryz.zeroValue48
 t53:=Tryz.underlying118
 a53:=Tryz.isAgg118
 z53:=Tryz.sizeOf118
 v53:=Tryz.zeroValue118
 t55:=Tryz.underlying120
 a55:=Tryz.isAgg120
 z55:=Tryz.sizeOf120
 v55:=Tryz.zeroValue120
 t66:=Tryz.underlying137
 a66:=Tryz.isAgg137
 z66:=Tryz.sizeOf137
 v66:=Tryz.zeroValue137
 t70:=Tryz.underlying141
 a70:=Tryz.isAgg141
 z70:=Tryz.sizeOf141
 v70:=Tryz.zeroValue141
 t76:=Tryz.underlying143
 a76:=Tryz.isAgg143
 z76:=Tryz.sizeOf143
 v76:=Tryz.zeroValue143
 t77:=Tryz.underlying144
 a77:=Tryz.isAgg144
 z77:=Tryz.sizeOf144
 v77:=Tryz.zeroValue144 }
def Tryz.sortN0_ren:Go.Shelf.Ren:=⟨fun | 6=>87 | 15=>91 | 14=>90 | 28=>101 | 29=>102 | 20=>93 | 21=>94 | 22=>95 | 23=>96 | 24=>97 | 25=>98 | 26=>99 | 27=>100 | 46=>103 | 47=>104 | 48=>105 | 49=>106 | 50=>107 | 57=>108 | n=>n,fun | 22=>23 | 24=>3 | 25=>55 | 3=>3 | 39=>101 | 0=>0 | 53=>118 | 55=>120 | 4=>4 | 46=>132 | 45=>131 | 50=>48 | 5=>5 | 9=>9 | 66=>137 | 70=>141 | 76=>143 | 77=>144 | n=>n,fun | n=>n⟩
theorem Tryz.sortN0:Go.Proofs.SlLaysF0.n6 Tryz.prog Tryz.sortN0_ren:={
 mixed:=by kernel_rfl
 f6:=⟨Tryz.f87.name,by decide,Tryz.func87.trans (congrArg some (by kernel_rfl))⟩
 f14:=⟨Tryz.f90.name,by decide,Tryz.func90.trans (congrArg some (by kernel_rfl))⟩
 f15:=Tryz.func91.trans (congrArg some (by kernel_rfl))
 f20:=⟨Tryz.f93.name,by decide,Tryz.func93.trans (congrArg some (by kernel_rfl))⟩
 f21:=⟨Tryz.f94.name,by decide,Tryz.func94.trans (congrArg some (by kernel_rfl))⟩
 f22:=⟨Tryz.f95.name,by decide,Tryz.func95.trans (congrArg some (by kernel_rfl))⟩
 f23:=⟨Tryz.f96.name,by decide,Tryz.func96.trans (congrArg some (by kernel_rfl))⟩
 f24:=⟨Tryz.f97.name,by decide,Tryz.func97.trans (congrArg some (by kernel_rfl))⟩
 f25:=⟨Tryz.f98.name,by decide,Tryz.func98.trans (congrArg some (by kernel_rfl))⟩
 f26:=⟨Tryz.f99.name,by decide,Tryz.func99.trans (congrArg some (by kernel_rfl))⟩
 f27:=⟨Tryz.f100.name,by decide,Tryz.func100.trans (congrArg some (by kernel_rfl))⟩
 f28:=Tryz.func101.trans (congrArg some (by kernel_rfl))
 f29:=Tryz.func102.trans (congrArg some (by kernel_rfl))
 f46:=⟨Tryz.f103.name,by decide,Tryz.func103.trans (congrArg some (by kernel_rfl))⟩
 f47:=Tryz.func104.trans (congrArg some (by kernel_rfl))
 f48:=Tryz.func105.trans (congrArg some (by kernel_rfl))
 f49:=⟨Tryz.f106.name,by decide,Tryz.func106.trans (congrArg some (by kernel_rfl))⟩
 f50:=⟨Tryz.f107.name,by decide,Tryz.func107.trans (congrArg some (by kernel_rfl))⟩
 f57:=⟨Tryz.f108.name,by decide,Tryz.func108.trans (congrArg some (by kernel_rfl))⟩
 t0:=Tryz.underlying0
 a0:=Tryz.isAgg0
 z0:=Tryz.sizeOf0
 v0:=Tryz.zeroValue0
 t3:=Tryz.underlying3
 a3:=Tryz.isAgg3
 z3:=Tryz.sizeOf3
 v3:=Tryz.zeroValue3
 t4:=Tryz.underlying4
 a4:=Tryz.isAgg4
 z4:=Tryz.sizeOf4
 v4:=Tryz.zeroValue4
 t5:=Tryz.underlying5
 a5:=Tryz.isAgg5
 z5:=Tryz.sizeOf5
 v5:=Tryz.zeroValue5
 t9:=Tryz.underlying9
 a9:=Tryz.isAgg9
 z9:=Tryz.sizeOf9
 v9:=Tryz.zeroValue9
 t22:=Tryz.underlying23
 a22:=Tryz.isAgg23
 z22:=Tryz.sizeOf23
 v22:=Tryz.zeroValue23
 t25:=Tryz.underlying55
 a25:=Tryz.isAgg55
 z25:=Tryz.sizeOf55
 v25:=Tryz.zeroValue55
 t39:=Tryz.underlying101
 a39:=Tryz.isAgg101
 z39:=Tryz.sizeOf101
 v39:=Tryz.zeroValue101
 t45:=Tryz.underlying131
 a45:=Tryz.isAgg131
 z45:=Tryz.sizeOf131
 v45:=Tryz.zeroValue131
 t46:=Tryz.underlying132
 a46:=Tryz.isAgg132
 z46:=Tryz.sizeOf132
 v46:=Tryz.zeroValue132
 t50:=Tryz.underlying48
 a50:=Tryz.isAgg48
 z50:=Tryz.sizeOf48
 v50:=Tryz.zeroValue48
 t53:=Tryz.underlying118
 a53:=Tryz.isAgg118
 z53:=Tryz.sizeOf118
 v53:=Tryz.zeroValue118
 t55:=Tryz.underlying120
 a55:=Tryz.isAgg120
 z55:=Tryz.sizeOf120
 v55:=Tryz.zeroValue120
 t66:=Tryz.underlying137
 a66:=Tryz.isAgg137
 z66:=Tryz.sizeOf137
 v66:=Tryz.zeroValue137
 t70:=Tryz.underlying141
 a70:=Tryz.isAgg141
 z70:=Tryz.sizeOf141
 v70:=Tryz.zeroValue141
 t76:=Tryz.underlying143
 a76:=Tryz.isAgg143
 z76:=Tryz.sizeOf143
 v76:=Tryz.zeroValue143
 t77:=Tryz.underlying144
 a77:=Tryz.isAgg144
 z77:=Tryz.sizeOf144
 v77:=Tryz.zeroValue144 }
end Go.Proofs
namespace Go.Proofs.YtkjccabdpeldhaaGreat
open Go Go.Eng Go.Shelf Go.RowKit Go.Lib Go.Sort
set_option maxRecDepth 100000
def jH (n:bG) (i:Int):Int:=(n.Edges.getD i.toNat default).Capacity
abbrev inR (n:bG):Type:={i:Int // 0≤i∧i<(n.Edges.length:Int)}
def toR (n:bG) (l:List Int):List (inR n):=l.filterMap fun i=>if h:0≤i∧i<(n.Edges.length:Int) then some ⟨i,h⟩ else none
def aGA (n:bG) (a b:inR n):Int:=wr (jH n b.1-jH n a.1)
def aFj (n:bG) (l:List Int):Bool:=n.Edges.all (fun e=>decide (-2305843009213693952≤e.Capacity)&&decide (e.Capacity≤2305843009213693952))&&(l.all (fun i=>decide (0≤i)&&decide (i<(n.Edges.length:Int)))&&decide (l.length<4611686018427387904))
def sortN (n:bG) (l:List Int):List Int:=if aFj n l=true then (if h:0<n.Edges.length then (@wA (inR n) ⟨⟨0,Int.le_refl _,by omega⟩⟩ (aGA n) (toR n l)).map (·.1) else l) else l
structure aIm (n:bG) (l:List Int):Prop where
 cap:∀ e∈n.Edges,-2305843009213693952≤e.Capacity∧e.Capacity≤2305843009213693952
 rng:∀ i∈l,0≤i∧i<(n.Edges.length:Int)
 len:l.length<4611686018427387904
theorem wL {n:bG} {l:List Int}:aFj n l=true↔aIm n l:=by
 unfold aFj
 simp only [Bool.and_eq_true,List.all_eq_true,decide_eq_true_eq]
 exact ⟨fun h=>⟨h.1,h.2.1,h.2.2⟩,fun h=>⟨h.cap,h.rng,h.len⟩⟩
theorem aCb {n:bG}:∀ {l:List Int},(∀ i∈l,0≤i∧i<(n.Edges.length:Int))→(toR n l).map (·.1)=l
 | [],_=>rfl
 | i::l,h=>by
  have h0:=h i List.mem_cons_self
  unfold toR
  rw [List.filterMap_cons,dif_pos h0]
  simp only [List.map_cons]
  congr 1
  exact aCb fun j hj=>h j (List.mem_cons_of_mem _ hj)
theorem aHy {n:bG} {l:List Int} (h:aIm n l) (i:inR n) : -2305843009213693952≤jH n i.1∧jH n i.1≤2305843009213693952:=by
 have h1:i.1.toNat<n.Edges.length:=by have:=i.2;omega
 unfold jH
 rw [List.getD_eq_getElem?_getD,List.getElem?_eq_getElem h1]
 exact h.cap _ (List.getElem_mem h1)
theorem aN1 {n:bG} {l:List Int} (h:aIm n l) (a b:inR n):aGA n a b=jH n b.1-jH n a.1:=by
 have h1:=aHy h a
 have h2:=aHy h b
 unfold aGA
 rw [bT (by omega) (by omega)]
theorem aEr {n:bG} {l:List Int} (h:aIm n l) (a b:inR n):ltOf (aGA n) a b=decide (jH n b.1<jH n a.1):=by
 unfold ltOf
 rw [aN1 h]
 by_cases q:jH n b.1<jH n a.1
 ·rw [decide_eq_true q];simp;omega
 ·rw [decide_eq_false q];simp;omega
theorem aBn {n:bG} {l:List Int} (h:aIm n l):SWO (ltOf (aGA n)) where
 irrefl x:=by rw [aEr h];simp
 trans x y z h1 h2:=by rw [aEr h] at *;simp at *;omega
 ntrans x y z h1 h2:=by rw [aEr h] at *;simp at *;omega
theorem zX (n:bG) (l:List Int):(sortN n l).length=l.length:=by
 unfold sortN
 split
 ·rename_i hg
  have h:=wL.1 hg
  split
  ·rename_i hp
   rw [List.length_map,@aB0 (inR n) ⟨⟨0,Int.le_refl _,by omega⟩⟩ _ (aBn h),← List.length_map (f:=(·.1)),aCb h.rng]
  ·rfl
 ·rfl
theorem tA {n:bG} {l:List Int} (hg:aFj n l=true):(sortN n l).Perm l∧(sortN n l).Pairwise fun i j=>jH n j≤jH n i:=by
 have h:=wL.1 hg
 unfold sortN
 rw [if_pos hg]
 split
 ·rename_i hp
  letI:Inhabited (inR n):=⟨⟨0,Int.le_refl _,by omega⟩⟩
  obtain ⟨h1,h2⟩:=aBy (aGA n) (aBn h) (toR n l)
  have hl:=aB0 (aGA n) (aBn h) (toR n l)
  have hp:(wA (aGA n) (toR n l)).Perm (toR n l):=by
   have:=h1.2.2
   rw [← List.size_toArray,Array.extract_size] at this
   simp only [List.size_toArray] at this
   rw [← hl,List.extract_toArray] at this
   simpa using this
  refine ⟨by have:=hp.map (·.1);rwa [aCb h.rng] at this,?_⟩
  rw [List.pairwise_map]
  refine List.pairwise_iff_getElem.2 fun i j hi hj hij=>?_
  have h3:=h2 i j (Nat.zero_le _) hij (by omega)
  rw [aEr h] at h3
  simp only [List.getElem!_toArray,List.getElem!_eq_getElem?_getD,List.getElem?_eq_getElem hi,List.getElem?_eq_getElem hj,Option.getD_some,decide_eq_false_iff_not] at h3
  omega
 ·rename_i hp
  have:l=[]:=by
   cases l with
   | nil=>rfl
   | cons i l=>have:=h.rng i List.mem_cons_self;omega
  subst this
  exact ⟨.refl _,.nil⟩
def aMg (n:bG):AV:=.ep [eI n.N,(eL 3 bM default) n.Edges] 0
def aG9 (g:FuncId):Nat→List AV→List AV→AV→List AV→Prop:=fun n fP bs r bs'=>∃ (net:bG) (l:List Int),aFj net l=true∧fP=[.fn g [] [aMg net]]∧n=l.length∧bs=flE (ceE eI) l∧r=.tup []∧bs'=flE (ceE eI) (sortN net l)
theorem aJi {n:bG} (l:List (inR n)):flE (ceE fun x:inR n=>eI x.1) l=flE (ceE eI) (l.map (·.1)):=by
 unfold flE
 rw [List.flatMap_map]
theorem aS0 {P:Program} {ρ0:Shelf.Ren} (L0:SlLaysF0.n6 P ρ0) {f:FuncId} (hf0:ρ0.f 6=f) (ef:∀ args w,(callFunc f args).run P w=.ok (.enter f args) w):FOk P f (aMZ 1 fun n fP bs r bs'=>n=0∧(∃ x,fP=[x])∧bs=[]∧r=.tup []∧bs'=[]):=by
 refine ⟨fun av w=>ef av w,fun args H base r H' e B w β av hβ hH hB hv=>?_⟩
 obtain ⟨i,n,fP,bs,bs',rfl,hi,⟨rfl,⟨x,rfl⟩,rfl,rfl,rfl⟩,rfl⟩:=e
 obtain ⟨v0,av1,rfl,hv0,hv1⟩:=hv
 obtain ⟨v1,av2,rfl,hv1,hv2⟩:=hv1
 simp only [Vs] at hv2
 subst hv2
 have hup:upd H i (some (.cells []))=H:=by
  funext j;unfold upd;split
  ·rename_i e;subst e;rw [hi]
  ·rfl
 rw [hup]
 simp only [V] at hv0
 obtain ⟨_,_,hv0⟩:=hv0
 have key:∃ p cap,v0=.slice p 0 cap:=by
  rcases hv0 with ⟨_,a,rfl⟩ | ⟨m,_,_,rfl⟩
  ·exact ⟨_,_,rfl⟩
  ·exact ⟨_,_,rfl⟩
 obtain ⟨p,cap,rfl⟩:=key
 subst hf0
 refine (AnyF.slices_SortFunc_none (P:=P) (ρ:=ρ0) L0 p cap v1 w).mono ?_
 rintro e w' ⟨rfl,rfl⟩
 exact ⟨.tuple #[],β,rfl,⟨cN.le.refl _,fun j hj=>.inl hj,fun c o hc=>.inl hc⟩,by simp only [V];exact ⟨[],rfl,by simp [Vs]⟩,hH,bH.refl _ _⟩
def evR {n:bG} (x:inR n):Value:=.int .i64 x.1
theorem aLe {g:FuncId} {S:List AV→AV→Prop} (hg:FOk Tryz.prog g (aH S)) (eg:∀ args w,(callFunc g args).run Tryz.prog w=.ok (.enter g args) w) (net:bG) (hp:0<net.Edges.length) (hc:∃ l,aIm net l) (hS:∀ a b:inR net,S [eI a.1,eI b.1,aMg net] (eI (aGA net a b))) :
  FOk Tryz.prog 87 (aMZ 1 (@aMQ (inR net) ⟨⟨0,Int.le_refl _,by omega⟩⟩ (fun x=>eI x.1) (·=[aMg net]) (fun _=>aGA net) g)):=by
 letI:Inhabited (inR net):=⟨⟨0,Int.le_refl _,by omega⟩⟩
 obtain ⟨l,hl⟩:=hc
 exact aKr Tryz.sortN Tryz.sortN0 rfl rfl (fun x:inR net=>eI x.1) evR (fun β x=>by simp [ceE,nL,AV.cells,evR,Vs,V,eI]) (fun β x vs h=>by
  simp only [ceE,nL,AV.cells,Vs,V,eI] at h
  obtain ⟨_,_,rfl,rfl,rfl⟩:=h;rfl) (fun _=>rfl) (fun _=>aGA net) (fun _=>aBn hl) g eg
  (aF6 Tryz.func87 rfl rfl) (·=[aMg net]) (fun caps hc=>by
   subst hc
   exact aKB hg (enc:=fun x:inR net=>eI x.1) (fun β x=>by simp [evR,V,eI]) (lsC (lsE (lsC (lsI _ _) (lsC (lsL fun _=>aC _) lsN))) lsN) fun x y=>hS x y)
theorem aLg {g:FuncId} {S:List AV→AV→Prop} (hg:FOk Tryz.prog g (aH S)) (eg:∀ args w,(callFunc g args).run Tryz.prog w=.ok (.enter g args) w) (hS:∀ (net:bG) (a b:inR net),S [eI a.1,eI b.1,aMg net] (eI (aGA net a b))):FOk Tryz.prog 87 (aMZ 1 (aG9 g)):=by
 have h0:=aS0 Tryz.sortN0 rfl (aF6 Tryz.func87 rfl rfl)
 refine ⟨h0.1,fun args H base r H' e=>?_⟩
 obtain ⟨i,n,fP,bs,bs',rfl,hi,⟨net,l,hG,rfl,rfl,rfl,rfl,rfl⟩,rfl⟩:=e
 have h:=wL.1 hG
 by_cases hn:l=[]
 ·subst hn
  have e0:sortN net []=[]:=List.length_eq_zero_iff.1 (zX net [])
  exact h0.2 _ H base _ _ ⟨i,0,_,[],[],rfl,hi,⟨rfl,⟨_,rfl⟩,rfl,rfl,rfl⟩,by rw [e0];rfl⟩
 ·have hp:0<net.Edges.length:=by
   cases l with
   | nil=>exact absurd rfl hn
   | cons i l=>have:=h.rng i List.mem_cons_self;omega
  letI:Inhabited (inR net):=⟨⟨0,Int.le_refl _,by omega⟩⟩
  have hs:=aLe hg eg net hp ⟨l,h⟩ (hS net)
  have hlen:(toR net l).length=l.length:=by rw [← List.length_map (f:=(·.1)),aCb h.rng]
  refine hs.2 _ H base _ _ ⟨i,l.length,_,flE (ceE eI) l,flE (ceE eI) (sortN net l),rfl,hi,⟨toR net l,[aMg net],rfl,hlen.symm,by rw [hlen];exact h.len,rfl,?_,rfl,?_⟩,rfl⟩
  ·rw [aJi,aCb h.rng]
  ·rw [aJi]
   unfold sortN
   rw [if_pos hG,dif_pos hp]
theorem xG (net:bG) (a b:inR net):tY [eI a.1,eI b.1,aMg net] (eI (aGA net a b)):=by
 refine ⟨a.1,b.1,net,rfl,kS (a:=aGA net a b) ?_ rfl⟩
 unfold pY aGA jH
 rw [aGu (by have:=b.2;omega) (by have:=b.2;omega),aGu (by have:=a.2;omega) (by have:=a.2;omega)]
def aDW:aAI:=aMZ 1 fun n fP bs r bs'=>aG9 88 n fP bs r bs'
theorem aFZ {net:bG} {l:List Int} (h:aFj net l=true):aG9 88 l.length [.fn 88 [] [aMg net]] (flE (ceE eI) l) (.tup []) (flE (ceE eI) (sortN net l)):=⟨net,l,h,rfl,rfl,rfl,rfl,rfl⟩
theorem aKY {T:Tbl} (hT:TOk Tryz.prog T) (hpf:cI T PF):FOk Tryz.prog 87 (aDW):=aLg (yH hT hpf) (aF6 Tryz.func88 rfl rfl) xG
def oJ:List AV→AV→Prop:=fun args r=>∃ a0 a1 a2,args=[fF a0,(eL 1 eI default) a1,eI a2]∧r=.fn 86 [] [.ep [eI a0.N,(eL 3 bM default) a0.Edges] 0,.ep [eI a2] 0,.ep [(eL 1 eI default) a1] 0]
theorem aCl {T:Tbl} (hT:TOk Tryz.prog T) (hpf:cI T PF):FOk Tryz.prog 77 (aH oJ):=by
 refine bB hT hpf Tryz.func77 rfl Tryz.ntmps77 Tryz.results77 (by decide) ?_
 rintro args r ⟨a0,a1,a2,rfl,rfl⟩
 refine ⟨nle rfl,?_,?_⟩
 ·exact (lsC (fA _) (lsC (lsL fun _=>(lsI _ _)) (lsC (lsI _ _) lsN)))
 refine aB dCo rfl fun K hK=>?_;conv=>whnf
 refine hK _ _ _ ?_
 refine tC 3 ?_;(conv=>whnf);refine ⟨_,rfl,?_⟩
 refine tC 5 ?_;(conv=>whnf);refine ⟨_,rfl,?_⟩
 refine tC 4 ?_;(conv=>whnf);refine ⟨_,rfl,?_⟩
 refine aB dCo rfl fun K hK=>?_;conv=>whnf
 refine hK _ _ _ ?_
 refine aJ ?_
 refine aE dCo fun K hK=>?_;conv=>whnf
 refine hK _ ?_
 exact Wk.refl _
  def gF (a9000:Type) (c900:bG) (c902:List Int) (s1:Int×a9000) (s22:Int×vD):Option (Ct (Int×vD) a9000):=cn (decide (s22.1<(wr (c900.N-1)))) (gd (0≤s22.1) (jn (fun p23:vD=>
  some (.nx ((wr (s22.1+1)),p23))) fun k24=>cn ((zF .i64 (zD .i64 s1.1 s22.1) 1)==1) (ix c902 default s22.1 fun e25=>
  k24 (⟨s22.2.nodes_f,s22.2.failed_f,(wr (s22.2.margin_f-e25))⟩:vD)) (k24 s22.2))) (some (.bk (s22.1,s22.2)))
  def gJ (a9000:Type) (c900:bG) (c901:Int) (m13:List Int) (s11:(List Int)×Int) (s14:Int×vD):Option (Ct (Int×vD) a9000):=cn (decide (s14.1<(s11.1.length:Int))) (gd ((0:Int)≤s14.1∧s14.1<(m13.length:Int)) (let v15:=(m13.getD (s14.1).toNat default);
  jn (fun p16:vD=>some (.nx ((wr (s14.1+1)),p16))) fun k17=>
  cn (decide (s14.1<c901)) (gd (0≤v15) (k17 (⟨s14.2.nodes_f,(bor .i64 s14.2.failed_f (aAw .i64 1 v15)),s14.2.margin_f⟩:vD))) (ix c900.Edges default v15 fun e18=>
  k17 (⟨s14.2.nodes_f,s14.2.failed_f,(wr (s14.2.margin_f+e18.Capacity))⟩:vD)))) (some (.bk (s14.1,s14.2)))
  def gI (a9000:Type) (c900:bG) (s1:Int×a9000) (s2:(List Int)×Int):Option (Ct ((List Int)×Int) a9000):=cn (decide (s2.2<(c900.Edges.length:Int))) (ix c900.Edges default s2.2 fun e3=>
  jn (fun p4:Bool=>jn (fun p6:(List Int)=>some (.nx (p6,(wr (s2.2+1))))) fun k7=>cn p4 (lt ([s2.2]:List Int) fun l8=>ap s2.1 l8 fun l9=>
  k7 l9) (k7 s2.1)) fun k5=>gd (0≤e3.From) (cn ((zF .i64 (zD .i64 s1.1 e3.From) 1)==1) (gd (0≤e3.To) (k5 ((zF .i64 (zD .i64 s1.1 e3.To) 1) ==
  0))) (k5 false))) (some (.bk (s2.1,s2.2)))
  def iU (a9000:Type) (c900:bG) (c901:Int) (c902:List Int) (f9001:vD→a9000→Option a9000) (s1:Int×a9000):Option (Ct (Int×a9000) a9000):=gd (0≤(wr (c900.N-1))) (cn (decide (s1.1<(aAw .i64 1 (wr (c900.N-1))))) (bd (lp (gI a9000 c900 s1) FU ([],0)) fun c10=>
  smK c10 (fun s11=>gd (aFj c900 s11.1=true) (lt (sortN c900 s11.1) fun m13=>bd (lp (gJ a9000 c900 c901 m13 s11) FU (0,(⟨s1.1,0,0⟩:vD))) fun c19=>
  smK c19 (fun s20=>bd (lp (gF a9000 c900 c902 s1) FU (0,s20.2)) fun c26=>smK c26 (fun s27=>bd (f9001 s27.2 s1.2) fun g29=>
  some (.nx ((wr (s1.1+1)),g29))) (fun r28=>some (.rt r28))) (fun r21=>some (.rt r21)))) (fun r12=>some (.rt r12))) (some (.bk (s1.1,s1.2))))
  def lW (c900:bG) (c901:Int) (c902:List Int) (a9000:Type) (f9001:vD→a9000→Option a9000) (g9002:a9000):Option a9000:=bd (lp (iU a9000 c900 c901 c902 f9001) FU (1,g9002)) fun c30=>
  smK c30 (fun s31=>some s31.2) (fun r32=>some r32)
def oZ:List AV→(∀ σ:Type,(vD→σ→Option σ)→σ→Option σ)→Prop:=fun caps F=>∃ c900 c901 c902,caps=[.ep [eI c900.N,(eL 3 bM default) c900.Edges] 0,.ep [eI c901] 0,.ep [(eL 1 eI default) c902] 0]∧F=lW c900 c901 c902
theorem aAs {T:Tbl} (hT:TOk Tryz.prog T) (hpf:cI T PF) (h87:T 87=aDW):FOk Tryz.prog 86 (itR Tryz.prog aGB oZ):=by
 refine aMa hT hpf Tryz.func86 rfl Tryz.ntmps86 Tryz.results86 (by decide) ?_
 rintro caps F ⟨c900,c901,c902,rfl,rfl⟩
 refine ⟨(lsC (lsE (lsC (lsI _ _) (lsC (lsL fun _=>(aC _)) lsN))) (lsC (lsE (lsC (lsI _ _) lsN)) (lsC (lsE (lsC (lsL fun _=>(lsI _ _)) lsN)) lsN))),nle rfl,fun gS gG a9000 gi f9001 g9002 gfin hP hY h=>?_⟩
 rw [lW.eq_1] at h
 refine aB dCo rfl fun K hK=>?_;conv=>whnf
 refine hK _ _ _ ?_
 refine aN ?_
 replace h:=bE h
 refine dS (body:=iU _ _ _ _ _) rfl h [0,1,2,3] [] [] (fun kl kh ids b s=>⟨ofL ([(5,eI s.1)]++kl),ofH ([(0,.gh gS gG (gi s.2))]++kh),b+64⟩) ?_;(conv=>whnf);refine And.intro ?_ (fun s m h=>dY ?_)
 ·refine aO ?_;conv=>whnf
  exact And.intro rfl (And.intro (aLc wkI (aLc (oH (fun _=>rfl)) (aLc (wkr (lsE (lsC (lsI _ _) (lsC (lsL fun _=>(aC _)) lsN)))) (aLc (wkr (lsE (lsC (lsI _ _) lsN))) (aLc (wkr (lsE (lsC (lsL fun _=>(lsI _ _)) lsN))) aLn))))) (aLc ⟨some _,rfl,xF rfl⟩ aLn))
 replace h:=bE h;rw [iU.eq_1] at h
 refine aL ?_
 refine aB dCo rfl fun K hK=>?_;conv=>whnf
 refine gKo rfl ?_;conv=>whnf
 refine kQ h fun _ h=>?_;conv=>whnf
 refine hK _ _ _ ?_
 refine aT fun K1 K2 hK1 hK2=>?_;conv=>whnf
 refine cLk h (fun _ h=>?_) (fun _ h=>?_)
 ·refine hK1 ?_
  refine aK ?_
  refine tHn ?_
  refine aL ?_
  refine aN ?_
  refine aB dCo rfl fun K hK=>?_;conv=>whnf
  refine hK _ _ _ ?_
  refine aL ?_
  refine aB dCo rfl fun K hK=>?_;conv=>whnf
  refine gKo rfl ?_;conv=>whnf
  refine hK _ _ _ ?_
  refine aN ?_
  replace h:=bE h
  refine aMH (body:=gI _ _ _) rfl h [0,1,2,3,5,22,23] (fun σ=>aNq σ++aAH σ []++aFb σ []) (fun σ=>aFb σ []++aAH σ []++aPQ σ []) [] (fun kl kh kr ids b s=>⟨ofL ([(6,.so (b+0) 0 s.1.length 1),(24,eI s.2)]++kl),ofH (([]++kh)++([(b+0,.cells (flE (ceE eI) s.1))]++kr)),b+128⟩) ?_;(conv=>whnf);refine And.intro ?_ (fun s m h=>dY ?_)
  ·refine gQ ?_;conv=>whnf
   exact And.intro rfl (And.intro (aLc (WkR.nilso (fun _=>rfl)) (aLc wkI (aLc (oH (fun _=>rfl)) (aLc (wkr (lsE (lsC (lsI _ _) (lsC (lsL fun _=>(aC _)) lsN)))) (aLc (wkr (lsE (lsC (lsI _ _) lsN))) (aLc (wkr (lsE (lsC (lsL fun _=>(lsI _ _)) lsN))) (aLc wkI (aLc (wkr (lsL fun _=>(aC _))) (aLc wkI aLn))))))))) (aLc ⟨some _,rfl,xF rfl⟩ (aLc ⟨none,rfl,aMG⟩ aLn)))
  replace h:=bE h;rw [gI.eq_1] at h
  refine aB dCo rfl fun K hK=>?_;conv=>whnf
  refine hK _ _ _ ?_
  refine aL ?_
  refine aT fun K1 K2 hK1 hK2=>?_;conv=>whnf
  refine cLk h (fun _ h=>?_) (fun _ h=>?_)
  ·refine hK1 ?_
   refine aK ?_
   refine tHn ?_
   refine aL ?_
   refine aN ?_
   refine aB dCo rfl fun K hK=>?_;conv=>whnf
   refine cA h fun _ h=>?_;conv=>whnf
   refine nlA rfl ?_;conv=>whnf
   refine bKo rfl ?_;conv=>whnf
   refine And.intro rfl (And.intro (nle rfl) (And.intro rfl ?_));conv=>whnf
   refine hK _ _ _ ?_
   refine aB dCo rfl fun K hK=>?_;conv=>whnf
   replace h:=eW h
   refine nlA rfl ?_;conv=>whnf
   refine bKo rfl ?_;conv=>whnf
   refine gKo rfl ?_;conv=>whnf
   refine kQ h fun _ h=>?_;conv=>whnf
   refine cLk h (fun _ h=>?_) (fun _ h=>?_)<;>(conv=>whnf)
   ·refine nlA rfl ?_;conv=>whnf
    refine bKo rfl ?_;conv=>whnf
    refine gKo rfl ?_;conv=>whnf
    refine kQ h fun _ h=>?_;conv=>whnf
    refine hK _ _ _ ?_
    replace h:=eW h
    refine aT fun K1 K2 hK1 hK2=>?_;conv=>whnf
    refine cLk h (fun _ h=>?_) (fun _ h=>?_)
    ·refine hK1 ?_
     refine cK dCo rfl fun K hK=>?_;conv=>whnf
     refine hZ (enc:=eI) (d:=default) dCo h rfl rfl rfl ⟨nle rfl,nle rfl,rfl⟩ rfl ⟨⟨rfl,rfl,rfl⟩,trivial⟩ (fun h=>?_);conv=>whnf
     refine aCi (enc:=eI) (d:=default) dCo h rfl rfl rfl ⟨rfl,nle rfl,nle rfl,nle rfl,rfl⟩ (fun _=>rfl) (fun _=>rfl) (fun _=>nofun) rfl (rfl) (fun h=>?_);conv=>whnf
     refine hK _ _ _ ?_
     refine iBn ?_
     refine tHn ?_
     refine cK dCo rfl fun K hK=>?_;conv=>whnf
     refine hK _ _ _ ?_
     refine tHn ?_
     replace h:=bY h
     refine ⟨_,h,?_⟩
     refine gQ ?_;conv=>whnf
     exact And.intro rfl (And.intro (aLc (WkR.so (fun _=>rfl)) (aLc wkI (aLc (oH (fun _=>rfl)) (aLc (wkr (lsE (lsC (lsI _ _) (lsC (lsL fun _=>(aC _)) lsN)))) (aLc (wkr (lsE (lsC (lsI _ _) lsN))) (aLc (wkr (lsE (lsC (lsL fun _=>(lsI _ _)) lsN))) (aLc wkI (aLc (wkr (lsL fun _=>(aC _))) (aLc wkI aLn))))))))) (aLc ⟨some _,rfl,xF rfl⟩ (aLc ⟨some _,rfl,jP rfl (fun _=>(lsC (lsI _ _) lsN))⟩ aLn)))
    refine hK2 ?_
    refine aK ?_
    refine iBn ?_
    refine tHn ?_
    refine cK dCo rfl fun K hK=>?_;conv=>whnf
    refine hK _ _ _ ?_
    refine tHn ?_
    replace h:=bY h
    refine ⟨_,h,?_⟩
    refine gQ ?_;conv=>whnf
    exact And.intro rfl (And.intro (aLc (WkR.so (fun _=>rfl)) (aLc wkI (aLc (oH (fun _=>rfl)) (aLc (wkr (lsE (lsC (lsI _ _) (lsC (lsL fun _=>(aC _)) lsN)))) (aLc (wkr (lsE (lsC (lsI _ _) lsN))) (aLc (wkr (lsE (lsC (lsL fun _=>(lsI _ _)) lsN))) (aLc wkI (aLc (wkr (lsL fun _=>(aC _))) (aLc wkI aLn))))))))) (aLc ⟨some _,rfl,xF rfl⟩ (aLc ⟨some _,rfl,jP rfl (fun _=>(lsC (lsI _ _) lsN))⟩ aLn)))
   refine hK _ _ _ ?_
   replace h:=eW h
   refine aT fun K1 K2 hK1 hK2=>?_;conv=>whnf
   refine hK2 ?_
   replace h:=uF h
   refine aK ?_
   refine iBn ?_
   refine tHn ?_
   refine cK dCo rfl fun K hK=>?_;conv=>whnf
   refine hK _ _ _ ?_
   refine tHn ?_
   replace h:=bY h
   refine ⟨_,h,?_⟩
   refine gQ ?_;conv=>whnf
   exact And.intro rfl (And.intro (aLc (WkR.so (fun _=>rfl)) (aLc wkI (aLc (oH (fun _=>rfl)) (aLc (wkr (lsE (lsC (lsI _ _) (lsC (lsL fun _=>(aC _)) lsN)))) (aLc (wkr (lsE (lsC (lsI _ _) lsN))) (aLc (wkr (lsE (lsC (lsL fun _=>(lsI _ _)) lsN))) (aLc wkI (aLc (wkr (lsL fun _=>(aC _))) (aLc wkI aLn))))))))) (aLc ⟨some _,rfl,xF rfl⟩ (aLc ⟨some _,rfl,jP rfl (fun _=>(lsC (lsI _ _) lsN))⟩ aLn)))
  refine hK2 ?_
  refine bN ?_
  refine aW ?_
  refine aW ?_
  refine aV ?_
  replace h:=eA h
  replace h:=dZ h
  refine tHn ?_
  refine aB dCo rfl fun K hK=>?_;conv=>whnf
  refine vF h fun hg h=>?_
  replace h:=aKQ h
  refine aIg h87 (WkL.refl _) rfl (aFZ hg) ?_;conv=>whnf
  refine hK _ _ _ ?_
  refine aB dCo rfl fun K hK=>?_;conv=>whnf
  refine bKo rfl ?_;conv=>whnf
  refine And.intro rfl (And.intro (nle rfl) (And.intro rfl ?_));conv=>whnf
  refine hK _ _ _ ?_
  refine aL ?_
  refine aB dCo rfl fun K hK=>?_;conv=>whnf
  refine hK _ _ _ ?_
  refine aN ?_
  replace h:=bE h
  refine aMH (body:=gJ _ _ _ _ _) rfl h [0,1,2,3,5,9,53,54] (fun σ=>aNq σ++aAH σ []++aFb σ []) (fun σ=>aFb σ []++aAH σ [53]++aPQ σ []) [9] (fun kl kh kr ids b s=>⟨ofL ([(55,eI s.1)]++kl),ofH (([(aEe ids 0,.cells [eI s.2.nodes_f,eI s.2.failed_f,eI s.2.margin_f])]++kh)++([]++kr)),b+64⟩) ?_;(conv=>whnf);refine And.intro ?_ (fun s m h=>dY ?_)
  ·refine gQ ?_;conv=>whnf
   exact And.intro rfl (And.intro (aLc wkI (aLc (oH (fun _=>rfl)) (aLc (wkr (lsE (lsC (lsI _ _) (lsC (lsL fun _=>(aC _)) lsN)))) (aLc (wkr (lsE (lsC (lsI _ _) lsN))) (aLc (wkr (lsE (lsC (lsL fun _=>(lsI _ _)) lsN))) (aLc wkI (aLc (WkR.ptr (fun _=>rfl)) (aLc (WkR.so (fun _=>rfl)) (aLc wkI aLn))))))))) (aLc ⟨some _,rfl,bRc rfl (cKc wkI (cKc wkI (cKc wkI cKn)))⟩ (aLc ⟨some _,rfl,xF rfl⟩ (aLc ⟨some _,rfl,jP rfl (fun _=>(lsC (lsI _ _) lsN))⟩ aLn))))
  replace h:=bE h;rw [gJ.eq_1] at h
  refine aB dCo rfl fun K hK=>?_;conv=>whnf
  refine hK _ _ _ ?_
  refine aL ?_
  refine aT fun K1 K2 hK1 hK2=>?_;conv=>whnf
  refine cLk h (fun _ h=>?_) (fun _ h=>?_)
  ·refine hK1 ?_
   refine aK ?_
   refine tHn ?_
   refine aL ?_
   refine aN ?_
   refine aB dCo rfl fun K hK=>?_;conv=>whnf
   refine lD h (zX _ _) fun hx100 h=>?_;conv=>whnf
   refine nlA rfl ?_;conv=>whnf
   refine bKo rfl ?_;conv=>whnf
   refine wM (enc:=eI) (d:=default) (q:=0) (fun _=>rfl) (zX _ _) hx100 (nle rfl) rfl ?_;conv=>whnf
   refine hK _ _ _ ?_
   refine aB dCo rfl fun K hK=>?_;conv=>whnf
   refine gKo rfl ?_;conv=>whnf
   refine hK _ _ _ ?_
   replace h:=eW h
   refine aT fun K1 K2 hK1 hK2=>?_;conv=>whnf
   refine cLk h (fun _ h=>?_) (fun _ h=>?_)
   ·refine hK1 ?_
    refine zU dCo cJ rfl (by kernel_rfl) fun K hK=>?_;conv=>whnf
    refine nlA rfl ?_;conv=>whnf
    refine bKo rfl ?_;conv=>whnf
    refine gKo rfl ?_;conv=>whnf
    refine kQ h fun _ h=>?_;conv=>whnf
    refine bKo rfl ?_;conv=>whnf
    refine And.intro rfl (And.intro (nle rfl) (And.intro rfl ?_));conv=>whnf
    refine hK _ _ _ ?_
    refine iBn ?_
    refine tHn ?_
    refine cK dCo rfl fun K hK=>?_;conv=>whnf
    refine hK _ _ _ ?_
    refine tHn ?_
    replace h:=bY h
    refine ⟨_,h,?_⟩
    refine gQ ?_;conv=>whnf
    exact And.intro rfl (And.intro (aLc wkI (aLc (oH (fun _=>rfl)) (aLc (wkr (lsE (lsC (lsI _ _) (lsC (lsL fun _=>(aC _)) lsN)))) (aLc (wkr (lsE (lsC (lsI _ _) lsN))) (aLc (wkr (lsE (lsC (lsL fun _=>(lsI _ _)) lsN))) (aLc wkI (aLc (WkR.ptr (fun _=>rfl)) (aLc (WkR.so (fun _=>rfl)) (aLc wkI aLn))))))))) (aLc ⟨some _,rfl,bRc rfl (cKc wkI (cKc wkI (cKc wkI cKn)))⟩ (aLc ⟨some _,rfl,xF rfl⟩ (aLc ⟨some _,rfl,jP rfl (fun _=>(lsC (lsI _ _) lsN))⟩ aLn))))
   refine hK2 ?_
   refine zU dCo cJ rfl (by kernel_rfl) fun K hK=>?_;conv=>whnf
   refine nlA rfl ?_;conv=>whnf
   refine bKo rfl ?_;conv=>whnf
   refine gKo rfl ?_;conv=>whnf
   refine gKo rfl ?_;conv=>whnf
   refine cA h fun _ h=>?_;conv=>whnf
   refine gKo rfl ?_;conv=>whnf
   refine bKo rfl ?_;conv=>whnf
   refine And.intro rfl (And.intro (nle rfl) (And.intro rfl ?_));conv=>whnf
   refine hK _ _ _ ?_
   refine iBn ?_
   refine tHn ?_
   refine cK dCo rfl fun K hK=>?_;conv=>whnf
   refine hK _ _ _ ?_
   refine tHn ?_
   replace h:=bY h
   refine ⟨_,h,?_⟩
   refine gQ ?_;conv=>whnf
   exact And.intro rfl (And.intro (aLc wkI (aLc (oH (fun _=>rfl)) (aLc (wkr (lsE (lsC (lsI _ _) (lsC (lsL fun _=>(aC _)) lsN)))) (aLc (wkr (lsE (lsC (lsI _ _) lsN))) (aLc (wkr (lsE (lsC (lsL fun _=>(lsI _ _)) lsN))) (aLc wkI (aLc (WkR.ptr (fun _=>rfl)) (aLc (WkR.so (fun _=>rfl)) (aLc wkI aLn))))))))) (aLc ⟨some _,rfl,bRc rfl (cKc wkI (cKc wkI (cKc wkI cKn)))⟩ (aLc ⟨some _,rfl,xF rfl⟩ (aLc ⟨some _,rfl,jP rfl (fun _=>(lsC (lsI _ _) lsN))⟩ aLn))))
  refine hK2 ?_
  refine bN ?_
  refine aW ?_
  refine aW ?_
  refine aV ?_
  replace h:=eA h
  replace h:=dZ h
  refine tHn ?_
  refine aL ?_
  refine aB dCo rfl fun K hK=>?_;conv=>whnf
  refine gKo rfl ?_;conv=>whnf
  refine hK _ _ _ ?_
  refine aN ?_
  replace h:=bE h
  refine aFY (body:=gF _ _ _ _) rfl h [0,1,2,3,5,9,82] (fun σ=>aNq σ++aAH σ []++aFb σ []) [9] (fun kl kh ids b s=>⟨ofL ([(83,eI s.1)]++kl),ofH ([(aEe ids 0,.cells [eI s.2.nodes_f,eI s.2.failed_f,eI s.2.margin_f])]++kh),b+64⟩) ?_;(conv=>whnf);refine And.intro ?_ (fun s m h=>dY ?_)
  ·refine aO ?_;conv=>whnf
   exact And.intro rfl (And.intro (aLc wkI (aLc (oH (fun _=>rfl)) (aLc (wkr (lsE (lsC (lsI _ _) (lsC (lsL fun _=>(aC _)) lsN)))) (aLc (wkr (lsE (lsC (lsI _ _) lsN))) (aLc (wkr (lsE (lsC (lsL fun _=>(lsI _ _)) lsN))) (aLc wkI (aLc (WkR.ptr (fun _=>rfl)) (aLc wkI aLn)))))))) (aLc ⟨some _,rfl,bRc rfl (cKc wkI (cKc wkI (cKc wkI cKn)))⟩ (aLc ⟨some _,rfl,xF rfl⟩ aLn)))
  replace h:=bE h;rw [gF.eq_1] at h
  refine aB dCo rfl fun K hK=>?_;conv=>whnf
  refine hK _ _ _ ?_
  refine aL ?_
  refine aT fun K1 K2 hK1 hK2=>?_;conv=>whnf
  refine cLk h (fun _ h=>?_) (fun _ h=>?_)
  ·refine hK1 ?_
   refine aK ?_
   refine tHn ?_
   refine aL ?_
   refine aN ?_
   refine aB dCo rfl fun K hK=>?_;conv=>whnf
   refine hK _ _ _ ?_
   refine aB dCo rfl fun K hK=>?_;conv=>whnf
   refine kQ h fun _ h=>?_;conv=>whnf
   refine hK _ _ _ ?_
   replace h:=eW h
   refine aT fun K1 K2 hK1 hK2=>?_;conv=>whnf
   refine cLk h (fun _ h=>?_) (fun _ h=>?_)
   ·refine hK1 ?_
    refine zU dCo cJ rfl (by kernel_rfl) fun K hK=>?_;conv=>whnf
    refine nlA rfl ?_;conv=>whnf
    refine bKo rfl ?_;conv=>whnf
    refine gKo rfl ?_;conv=>whnf
    refine gKo rfl ?_;conv=>whnf
    refine cA h fun _ h=>?_;conv=>whnf
    refine gKo rfl ?_;conv=>whnf
    refine bKo rfl ?_;conv=>whnf
    refine And.intro rfl (And.intro (nle rfl) (And.intro rfl ?_));conv=>whnf
    refine hK _ _ _ ?_
    refine iBn ?_
    refine tHn ?_
    refine cK dCo rfl fun K hK=>?_;conv=>whnf
    refine hK _ _ _ ?_
    refine tHn ?_
    replace h:=bY h
    refine ⟨_,h,?_⟩
    refine aO ?_;conv=>whnf
    exact And.intro rfl (And.intro (aLc wkI (aLc (oH (fun _=>rfl)) (aLc (wkr (lsE (lsC (lsI _ _) (lsC (lsL fun _=>(aC _)) lsN)))) (aLc (wkr (lsE (lsC (lsI _ _) lsN))) (aLc (wkr (lsE (lsC (lsL fun _=>(lsI _ _)) lsN))) (aLc wkI (aLc (WkR.ptr (fun _=>rfl)) (aLc wkI aLn)))))))) (aLc ⟨some _,rfl,bRc rfl (cKc wkI (cKc wkI (cKc wkI cKn)))⟩ (aLc ⟨some _,rfl,xF rfl⟩ aLn)))
   refine hK2 ?_
   refine aK ?_
   refine iBn ?_
   refine tHn ?_
   refine cK dCo rfl fun K hK=>?_;conv=>whnf
   refine hK _ _ _ ?_
   refine tHn ?_
   replace h:=bY h
   refine ⟨_,h,?_⟩
   refine aO ?_;conv=>whnf
   exact And.intro rfl (And.intro (aLc wkI (aLc (oH (fun _=>rfl)) (aLc (wkr (lsE (lsC (lsI _ _) (lsC (lsL fun _=>(aC _)) lsN)))) (aLc (wkr (lsE (lsC (lsI _ _) lsN))) (aLc (wkr (lsE (lsC (lsL fun _=>(lsI _ _)) lsN))) (aLc wkI (aLc (WkR.ptr (fun _=>rfl)) (aLc wkI aLn)))))))) (aLc ⟨some _,rfl,bRc rfl (cKc wkI (cKc wkI (cKc wkI cKn)))⟩ (aLc ⟨some _,rfl,xF rfl⟩ aLn)))
  refine hK2 ?_
  refine bN ?_
  refine aW ?_
  refine aW ?_
  refine aV ?_
  replace h:=eA h
  replace h:=dZ h
  refine tHn ?_
  refine aB dCo rfl fun K hK=>?_;conv=>whnf
  refine nlA rfl ?_;conv=>whnf
  refine bKo rfl ?_;conv=>whnf
  refine nlA rfl ?_;conv=>whnf
  refine aMz hY hP h rfl (aMP _) (fun _ h=>?_);conv=>whnf
  refine hK _ _ _ ?_
  refine aT fun K1 K2 hK1 hK2=>?_;conv=>whnf
  refine hK2 ?_
  refine aK ?_
  refine iBn ?_
  refine tHn ?_
  refine cK dCo rfl fun K hK=>?_;conv=>whnf
  refine hK _ _ _ ?_
  refine tHn ?_
  replace h:=bY h
  refine ⟨_,h,?_⟩
  refine aO ?_;conv=>whnf
  exact And.intro rfl (And.intro (aLc wkI (aLc (oH (fun _=>rfl)) (aLc (wkr (lsE (lsC (lsI _ _) (lsC (lsL fun _=>(aC _)) lsN)))) (aLc (wkr (lsE (lsC (lsI _ _) lsN))) (aLc (wkr (lsE (lsC (lsL fun _=>(lsI _ _)) lsN))) aLn))))) (aLc ⟨some _,rfl,xF rfl⟩ aLn))
 refine hK2 ?_
 refine bN ?_
 refine aW ?_
 refine aW ?_
 refine aV ?_
 replace h:=eA h
 replace h:=dZ h
 replace h:=aI h
 cases h
 exact ⟨rfl,rfl⟩
def lZ (x1:vD) (s2:vD):Option vD:=jn (fun p4:Bool=>jn (fun p6:vD=>some p6) fun k7=>cn p4 (k7 x1) (k7 s2)) fun k5=>cn ((s2.nodes_f ==
  0)&&((s2.failed_f==0)&&(s2.margin_f==0))) (k5 true) (k5 (decide (x1.margin_f<s2.margin_f)))
def jG (a0:bG) (a1:List Int) (a2:Int):Option vD:=bd (lW a0 a2 a1 vD (lZ) (⟨0,0,0⟩:vD)) fun s3=>some s3
def lE:List AV→AV→Prop:=fun args r=>∃ a0 a1 a2,args=[fF a0,(eL 1 eI default) a1,eI a2]∧W (jG a0 a1 a2) fun y=>r=(aG7 y)
theorem aA2 {T:Tbl} (hT:TOk Tryz.prog T) (hpf:cI T PF) (h77:T 77=aH oJ) (h86:T 86=itR Tryz.prog aGB oZ):FOk Tryz.prog 54 (aH lE):=by
 refine bB hT hpf Tryz.func54 rfl Tryz.ntmps54 Tryz.results54 (by decide) ?_
 rintro args r ⟨a0,a1,a2,rfl,h⟩
 refine ⟨nle rfl,?_,?_⟩
 ·exact (lsC (fA _) (lsC (lsL fun _=>(lsI _ _)) (lsC (lsI _ _) lsN)))
 rw [jG.eq_1] at h
 refine aB dCo rfl fun K hK=>?_;conv=>whnf
 refine hK _ _ _ ?_
 refine aB dCo rfl fun K hK=>?_;conv=>whnf
 refine hK _ _ _ ?_
 refine aL ?_
 refine aB dCo rfl fun K hK=>?_;conv=>whnf
 refine nlA rfl ?_;conv=>whnf
 refine bKo rfl ?_;conv=>whnf
 refine nlA rfl ?_;conv=>whnf
 refine aS h77 (S:=oJ) ⟨a0,a1,_,rfl,rfl⟩ (lQ lsN (lsC (lsE (lsC (lsI _ _) (lsC (lsL fun _=>(aC _)) lsN))) (lsC (lsE (lsC (lsI _ _) lsN)) (lsC (lsE (lsC (lsL fun _=>(lsI _ _)) lsN)) lsN)))) (WkL.refl _) ?_;conv=>whnf
 refine hK _ _ _ ?_
 refine aN ?_
 refine aDt rfl rfl [6,7,12] [(6,32),(7,33)] ?_;conv=>whnf
 refine And.intro ?_ ?_
 ·refine aEn ?_;conv=>whnf
  exact And.intro rfl (And.intro (aLc (WkR.ptr (fun _=>rfl)) (aLc (WkR.ptr (fun _=>rfl)) (aLc (xQ kY (qA (wkr (lsE (lsC (lsI _ _) (lsC (lsL fun _=>(aC _)) lsN)))) (qA (wkr (lsE (lsC (lsI _ _) lsN))) (qA (wkr (lsE (lsC (lsL fun _=>(lsI _ _)) lsN))) kY)))) aLn))) (aLc ⟨some _,rfl,bRc rfl (cKc wkI (cKc wkI (cKc wkI cKn)))⟩ (aLc ⟨some _,rfl,bRc rfl (cKc wkI (cKc wkI (cKc wkI cKn)))⟩ aLn)))
 obtain ⟨gfin,hfin,h⟩:=dL (bE h)
 refine aKL rfl rfl (fun x=>[aG7 x]) aSZ (fun _=>rfl) (by decide) h86 rfl (F:=lW _ _ _) hfin ⟨_,_,_,rfl,rfl⟩ (nle rfl) (aLc (aDY (by decide)) (aLc (aDY (by decide)) (aLc (aMx vN (oY (aFI (oY (rW (lsI _ _)) (oY (rW (lsL fun _=>(aC _))) vN))) (oY (aFI (oY (rW (lsI _ _)) vN)) (oY (aFI (oY (rW (lsL fun _=>(lsI _ _))) vN)) vN)))) aLn))) (fun s=>[(32,.cells [eI 0,eI 0,eI 0]),(33,.cells [eI s.nodes_f,eI s.failed_f,eI s.margin_f])]) (fun s=>(aLc rfl (aLc rfl aLn))) (fun x s gfin h=>?_) ?_
 ·clear hfin
  rw [lZ.eq_1] at h
  refine cK dCo rfl fun K hK=>?_;conv=>whnf
  refine bKo rfl ?_;conv=>whnf
  refine And.intro rfl (And.intro (nle rfl) (And.intro rfl ?_));conv=>whnf
  refine hK _ _ _ ?_
  refine tHn ?_
  refine aN ?_
  refine aB dCo rfl fun K hK=>?_;conv=>whnf
  replace h:=eW h
  refine nlA rfl ?_;conv=>whnf
  refine bKo rfl ?_;conv=>whnf
  refine nlA rfl ?_;conv=>whnf
  refine aP3 (aRu _ _ _ _ _ _) ?_;conv=>whnf
  refine cLk h (fun _ h=>?_) (fun _ h=>?_)<;>(conv=>whnf)
  ·refine hK _ _ _ ?_
   replace h:=eW h
   refine aT fun K1 K2 hK1 hK2=>?_;conv=>whnf
   refine hK1 ?_
   replace h:=kR h
   refine cK dCo rfl fun K hK=>?_;conv=>whnf
   refine nlA rfl ?_;conv=>whnf
   refine bKo rfl ?_;conv=>whnf
   refine nlA rfl ?_;conv=>whnf
   refine bKo rfl ?_;conv=>whnf
   refine And.intro rfl (And.intro (nle rfl) (And.intro rfl ?_));conv=>whnf
   refine hK _ _ _ ?_
   refine iBn ?_
   replace h:=aI h
   cases h
   refine ⟨rfl,?_⟩
   refine aO (l:=[]) ?_;conv=>whnf
   exact And.intro rfl (And.intro aLn (aLc ⟨some _,rfl,bRc rfl (cKc wkI (cKc wkI (cKc wkI cKn)))⟩ (aLc ⟨some _,rfl,bRc rfl (cKc wkI (cKc wkI (cKc wkI cKn)))⟩ aLn)))
  refine nlA rfl ?_;conv=>whnf
  refine bKo rfl ?_;conv=>whnf
  refine gKo rfl ?_;conv=>whnf
  refine nlA rfl ?_;conv=>whnf
  refine bKo rfl ?_;conv=>whnf
  refine gKo rfl ?_;conv=>whnf
  refine hK _ _ _ ?_
  replace h:=eW h
  refine aT fun K1 K2 hK1 hK2=>?_;conv=>whnf
  refine cLk h (fun _ h=>?_) (fun _ h=>?_)
  ·refine hK1 ?_
   refine cK dCo rfl fun K hK=>?_;conv=>whnf
   refine nlA rfl ?_;conv=>whnf
   refine bKo rfl ?_;conv=>whnf
   refine nlA rfl ?_;conv=>whnf
   refine bKo rfl ?_;conv=>whnf
   refine And.intro rfl (And.intro (nle rfl) (And.intro rfl ?_));conv=>whnf
   refine hK _ _ _ ?_
   refine iBn ?_
   replace h:=aI h
   cases h
   refine ⟨rfl,?_⟩
   refine aO (l:=[]) ?_;conv=>whnf
   exact And.intro rfl (And.intro aLn (aLc ⟨some _,rfl,bRc rfl (cKc wkI (cKc wkI (cKc wkI cKn)))⟩ (aLc ⟨some _,rfl,bRc rfl (cKc wkI (cKc wkI (cKc wkI cKn)))⟩ aLn)))
  refine hK2 ?_
  refine aK ?_
  refine iBn ?_
  replace h:=aI h
  cases h
  refine ⟨rfl,?_⟩
  refine aO (l:=[]) ?_;conv=>whnf
  exact And.intro rfl (And.intro aLn (aLc ⟨some _,rfl,bRc rfl (cKc wkI (cKc wkI (cKc wkI cKn)))⟩ (aLc ⟨some _,rfl,bRc rfl (cKc wkI (cKc wkI (cKc wkI cKn)))⟩ aLn)))
 clear hfin
 refine iBn ?_
 refine tHn ?_
 refine aB dCo rfl fun K hK=>?_;conv=>whnf
 refine nlA rfl ?_;conv=>whnf
 refine bKo rfl ?_;conv=>whnf
 refine nlA rfl ?_;conv=>whnf
 refine bKo rfl ?_;conv=>whnf
 refine And.intro rfl (And.intro (nle rfl) (And.intro rfl ?_));conv=>whnf
 refine hK _ _ _ ?_
 refine aJ ?_
 replace h:=aI h
 refine aE dCo fun K hK=>?_;conv=>whnf
 refine nlA rfl ?_;conv=>whnf
 refine bKo rfl ?_;conv=>whnf
 refine nlA rfl ?_;conv=>whnf
 refine hK _ ?_
 cases h
 exact Wk.refl _
theorem tV {T:Tbl} (hT:T 54=aH lE) {args:List AV} {hp:bF} {id:Nat} {k:AV→Prop} {a0:bG} {a1:List Int} {a2:Int} {Φ:vD→Prop} (h:W (jG a0 a1 a2) Φ) (hw:WkL args [fF a0,(eL 1 eI default) a1,eI a2]) (hk:∀ y,Φ y→k (aG7 y)):bZ T 54 args hp id k:=by
 obtain ⟨y,e,hy⟩:=dL h
 exact aS hT ⟨a0,a1,a2,rfl,kS e rfl⟩ (by exact (aMO _)) hw (hk y hy)
def cW (a0:aD) (a1:Int):Option (Int×Int):=bd (dV a0 a1) fun y1=>cn (y1.2.2 !=
  0) (some (0,330)) (bd (jG y1.1 y1.2.1 a0.Faults) fun y2=>some (y2.margin_f,0))
def jD:List AV→AV→Prop:=fun args r=>∃ a0 a1,args=[bD a0,eI a1]∧W (cW a0 a1) fun y=>r=(.tup [eI y.1,eI y.2])
theorem aAZ {T:Tbl} (hT:TOk Tryz.prog T) (hpf:cI T PF) (h17:T 17=aH kK) (h54:T 54=aH lE):FOk Tryz.prog 19 (aH jD):=by
 refine bB hT hpf Tryz.func19 rfl Tryz.ntmps19 Tryz.results19 (by decide) ?_
 rintro args r ⟨a0,a1,rfl,h⟩
 refine ⟨nle rfl,?_,?_⟩
 ·exact (lsC (aR _) (lsC (lsI _ _) lsN))
 rw [cW.eq_1] at h
 refine aB dCo rfl fun K hK=>?_;conv=>whnf
 refine hK _ _ _ ?_
 refine aB dCo rfl fun K hK=>?_;conv=>whnf
 refine nlA rfl ?_;conv=>whnf
 refine bKo rfl ?_;conv=>whnf
 refine nlA rfl ?_;conv=>whnf
 replace h:=bE h
 refine qW h17 h (WkL.refl _) (fun _ h=>?_);conv=>whnf
 refine bKo rfl ?_;conv=>whnf
 refine And.intro rfl (And.intro (nle rfl) (And.intro rfl ?_));conv=>whnf
 refine hK _ _ _ ?_
 refine aL ?_
 refine aB dCo rfl fun K hK=>?_;conv=>whnf
 refine hK _ _ _ ?_
 refine aT fun K1 K2 hK1 hK2=>?_;conv=>whnf
 refine cLk h (fun _ h=>?_) (fun _ h=>?_)
 ·refine hK1 ?_
  refine aB dCo rfl fun K hK=>?_;conv=>whnf
  refine hK _ _ _ ?_
  refine aJ ?_
  refine aM ?_
  replace h:=aI h
  refine aE dCo fun K hK=>?_;conv=>whnf
  refine hK _ ?_
  cases h
  exact Wk.refl _
 refine hK2 ?_
 refine aK ?_
 refine tHn ?_
 refine aB dCo rfl fun K hK=>?_;conv=>whnf
 refine nlA rfl ?_;conv=>whnf
 refine bKo rfl ?_;conv=>whnf
 refine nlA rfl ?_;conv=>whnf
 refine nlA rfl ?_;conv=>whnf
 refine bKo rfl ?_;conv=>whnf
 refine gKo rfl ?_;conv=>whnf
 replace h:=bE h
 refine tV h54 h (WkL.refl _) (fun _ h=>?_);conv=>whnf
 refine gKo rfl ?_;conv=>whnf
 refine hK _ _ _ ?_
 refine aJ ?_
 replace h:=aI h
 refine aE dCo fun K hK=>?_;conv=>whnf
 refine hK _ ?_
 cases h
 exact Wk.refl _
theorem mK {T:Tbl} (hT:T 19=aH jD) {args:List AV} {hp:bF} {id:Nat} {k:AV→Prop} {a0:aD} {a1:Int} {Φ:Int×Int→Prop} (h:W (cW a0 a1) Φ) (hw:WkL args [bD a0,eI a1]) (hk:∀ y,Φ y→k (.tup [eI y.1,eI y.2])):bZ T 19 args hp id k:=by
 obtain ⟨y,e,hy⟩:=dL h
 exact aS hT ⟨a0,a1,rfl,kS e rfl⟩ (by exact lH (lsC (lsI _ _) (lsC (lsI _ _) lsN))) hw (hk y hy)
def cS (a0:aD) (a1:Int):Option Bool:=bd (cW a0 a1) fun y1=>jn (fun p2:Bool=>some p2) fun k3=>cn (y1.2 ==
  0) (k3 (decide (y1.1≥0))) (k3 false)
def iR:List AV→AV→Prop:=fun args r=>∃ a0 a1,args=[bD a0,eI a1]∧W (cS a0 a1) fun y=>r=(eB y)
theorem aCj {T:Tbl} (hT:TOk Tryz.prog T) (hpf:cI T PF) (h19:T 19=aH jD):FOk Tryz.prog 23 (aH iR):=by
 refine bB hT hpf Tryz.func23 rfl Tryz.ntmps23 Tryz.results23 (by decide) ?_
 rintro args r ⟨a0,a1,rfl,h⟩
 refine ⟨nle rfl,?_,?_⟩
 ·exact (lsC (aR _) (lsC (lsI _ _) lsN))
 rw [cS.eq_1] at h
 refine aB dCo rfl fun K hK=>?_;conv=>whnf
 refine hK _ _ _ ?_
 refine aB dCo rfl fun K hK=>?_;conv=>whnf
 refine nlA rfl ?_;conv=>whnf
 refine bKo rfl ?_;conv=>whnf
 refine nlA rfl ?_;conv=>whnf
 replace h:=bE h
 refine mK h19 h (WkL.refl _) (fun _ h=>?_);conv=>whnf
 refine hK _ _ _ ?_
 refine aB dCo rfl fun K hK=>?_;conv=>whnf
 replace h:=eW h
 refine cLk h (fun _ h=>?_) (fun _ h=>?_)<;>(conv=>whnf)
 ·refine hK _ _ _ ?_
  refine aJ ?_
  replace h:=aI h
  refine aE dCo fun K hK=>?_;conv=>whnf
  refine hK _ ?_
  cases h
  exact Wk.refl _
 refine hK _ _ _ ?_
 refine aJ ?_
 replace h:=aI h
 refine aE dCo fun K hK=>?_;conv=>whnf
 refine hK _ ?_
 cases h
 exact Wk.refl _
theorem oA {T:Tbl} (hT:T 23=aH iR) {args:List AV} {hp:bF} {id:Nat} {k:AV→Prop} {a0:aD} {a1:Int} {Φ:Bool→Prop} (h:W (cS a0 a1) Φ) (hw:WkL args [bD a0,eI a1]) (hk:∀ y,Φ y→k (eB y)):bZ T 23 args hp id k:=by
 obtain ⟨y,e,hy⟩:=dL h
 exact aS hT ⟨a0,a1,rfl,kS e rfl⟩ (by exact (lsB _)) hw (hk y hy)
  def bK (a0:aD) (a2:bS) (p5:Int) (s13:Int×Int):Option (Ct (Int×Int) Bool):=cn (decide (s13.2<(a0.Calls.length:Int))) (ix a0.Calls default s13.2 fun e14=>
  jn (fun p15:Bool=>jn (fun p18:Int=>some (.nx (p18,(wr (s13.2+1))))) fun k19=>cn p15 (let v20:=(wr (s13.1+e14.Amount));k19 v20) (k19 s13.1)) fun k16=>
  gd (0≤s13.2) (cn ((zF .i64 (zD .i64 p5 s13.2) 1)==1) (bd (fK e14.Edges a2.Edge) fun y17=>k16 y17) (k16 false))) (some (.bk (s13.1,s13.2)))
def bC (a0:aD) (a1:Int) (a2:bS):Option Bool:=jn (fun p1:Bool=>cn p1 (some false) (jn (fun p5:Int=>jn (fun p8:Bool=>
  cn p8 (some false) (cn (a2.Edge != (-1)) (jn (fun p10:Bool=>cn p10 (some false) (bd (lp (bK a0 a2 p5) FU (0,0)) fun c21=>smK c21 (fun s22=>
  ix a0.Net.Edges default a2.Edge fun e24=>let v25:=(decide (s22.1>e24.Capacity));some v25) (fun r23=>some r23))) fun k11=>
  bd (cL a2.Edge 0 (wr ((a0.Net.Edges.length:Int)-1))) fun y12=>cn (!y12) (k11 true) (k11 (!((a2.Call==a2.Call)&&((a2.Edge==a2.Edge)&&((a2.Failed ==
  0)&&(a2.Set==0))))))) (bd (eP a0 p5) fun y26=>cn (decide (y26.2.2≥0)) (some false) (bd (dB y26.1 a2.Failed) fun y27=>jn (fun p28:Bool=>
  some p28) fun k29=>cn (y27.2==0) (bd (cF (IntKind.u64.wrap (a2.Failed))) fun y30=>
  cn (decide (y30≤a0.Faults)) (bd (cV y27.1 y26.2.1 (⟨false,[],a2.Set⟩:lG)) fun y31=>k29 y31) (k29 false)) (k29 false))))) fun k9=>cn (!((p5==a1) ==
  (decide (a2.Call<0)))) (k9 true) (cn (decide (a2.Call<0)) (k9 (a1 != 0)) (k9 false))) fun k6=>
  cn (decide (a2.Call≥0)) (gd (0≤a2.Call) (let v7:=(bor .i64 a1 (aAw .i64 1 a2.Call));k6 v7)) (k6 a1))) fun k2=>bd (eM a0 a1) fun y3=>
  cn (!y3) (k2 true) (bd (cL a2.Call (-1) (wr ((a0.Calls.length:Int)-1))) fun y4=>k2 (!y4))
def eK:List AV→AV→Prop:=fun args r=>∃ a0 a1 a2,args=[bD a0,eI a1,fE a2]∧W (bC a0 a1 a2) fun y=>r=(eB y)
theorem vY {T:Tbl} (hT:TOk Tryz.prog T) (hpf:cI T PF) (h34:T 34=aH fS) (h52:T 52=aH lI) (h53:T 53=aH kL) (h56:T 56=aH gZ) (h57:T 57=aH oU) (h58:T 58=aH gX) (h59:T 59=aH mA):FOk Tryz.prog 25 (aH eK):=by
 refine bB hT hpf Tryz.func25 rfl Tryz.ntmps25 Tryz.results25 (by decide) ?_
 rintro args r ⟨a0,a1,a2,rfl,h⟩
 refine ⟨nle rfl,?_,?_⟩
 ·exact (lsC (aR _) (lsC (lsI _ _) (lsC (aQ _) lsN)))
 rw [bC.eq_1] at h
 refine aB dCo rfl fun K hK=>?_;conv=>whnf
 refine hK _ _ _ ?_
 refine aL ?_
 refine aB dCo rfl fun K hK=>?_;conv=>whnf
 replace h:=eW h
 refine nlA rfl ?_;conv=>whnf
 refine bKo rfl ?_;conv=>whnf
 refine nlA rfl ?_;conv=>whnf
 replace h:=bE h
 refine tZ h52 h (WkL.refl _) (fun _ h=>?_);conv=>whnf
 refine cLk h (fun _ h=>?_) (fun _ h=>?_)<;>(conv=>whnf)
 ·refine hK _ _ _ ?_
  refine aT fun K1 K2 hK1 hK2=>?_;conv=>whnf
  refine hK1 ?_
  replace h:=kR h
  refine aB dCo rfl fun K hK=>?_;conv=>whnf
  refine hK _ _ _ ?_
  refine aJ ?_
  refine aM ?_
  replace h:=aI h
  refine aE dCo fun K hK=>?_;conv=>whnf
  refine hK _ ?_
  cases h
  exact Wk.refl _
 refine nlA rfl ?_;conv=>whnf
 refine bKo rfl ?_;conv=>whnf
 refine gKo rfl ?_;conv=>whnf
 refine nlA rfl ?_;conv=>whnf
 refine bKo rfl ?_;conv=>whnf
 refine gKo rfl ?_;conv=>whnf
 replace h:=bE h
 refine cU h34 h (WkL.refl _) (fun _ h=>?_);conv=>whnf
 refine hK _ _ _ ?_
 refine aT fun K1 K2 hK1 hK2=>?_;conv=>whnf
 refine cLk h (fun _ h=>?_) (fun _ h=>?_)
 ·refine hK1 ?_
  refine aB dCo rfl fun K hK=>?_;conv=>whnf
  refine hK _ _ _ ?_
  refine aJ ?_
  refine aM ?_
  replace h:=aI h
  refine aE dCo fun K hK=>?_;conv=>whnf
  refine hK _ ?_
  cases h
  exact Wk.refl _
 refine hK2 ?_
 refine aK ?_
 refine tHn ?_
 refine aB dCo rfl fun K hK=>?_;conv=>whnf
 refine hK _ _ _ ?_
 refine aL ?_
 refine aB dCo rfl fun K hK=>?_;conv=>whnf
 refine nlA rfl ?_;conv=>whnf
 refine bKo rfl ?_;conv=>whnf
 refine gKo rfl ?_;conv=>whnf
 refine hK _ _ _ ?_
 replace h:=eW h
 refine aT fun K1 K2 hK1 hK2=>?_;conv=>whnf
 refine cLk h (fun _ h=>?_) (fun _ h=>?_)
 ·refine hK1 ?_
  refine cK dCo rfl fun K hK=>?_;conv=>whnf
  refine nlA rfl ?_;conv=>whnf
  refine bKo rfl ?_;conv=>whnf
  refine gKo rfl ?_;conv=>whnf
  refine kQ h fun _ h=>?_;conv=>whnf
  refine hK _ _ _ ?_
  refine tHn ?_
  refine aL ?_
  refine aB dCo rfl fun K hK=>?_;conv=>whnf
  replace h:=eW h
  refine nlA rfl ?_;conv=>whnf
  refine bKo rfl ?_;conv=>whnf
  refine gKo rfl ?_;conv=>whnf
  refine sT (qJ dCo rfl _ _) ?_;conv=>whnf
  refine cLk h (fun _ h=>?_) (fun _ h=>?_)<;>(conv=>whnf)
  ·refine hK _ _ _ ?_
   refine aT fun K1 K2 hK1 hK2=>?_;conv=>whnf
   refine hK1 ?_
   replace h:=kR h
   refine aB dCo rfl fun K hK=>?_;conv=>whnf
   refine hK _ _ _ ?_
   refine aJ ?_
   refine aM ?_
   replace h:=aI h
   refine aE dCo fun K hK=>?_;conv=>whnf
   refine hK _ ?_
   cases h
   exact Wk.refl _
  refine nlA rfl ?_;conv=>whnf
  refine bKo rfl ?_;conv=>whnf
  refine gKo rfl ?_;conv=>whnf
  refine cLk h (fun _ h=>?_) (fun _ h=>?_)<;>(conv=>whnf)
  ·refine hK _ _ _ ?_
   refine aT fun K1 K2 hK1 hK2=>?_;conv=>whnf
   refine cLk h (fun _ h=>?_) (fun _ h=>?_)
   ·refine hK1 ?_
    refine aB dCo rfl fun K hK=>?_;conv=>whnf
    refine hK _ _ _ ?_
    refine aJ ?_
    refine aM ?_
    replace h:=aI h
    refine aE dCo fun K hK=>?_;conv=>whnf
    refine hK _ ?_
    cases h
    exact Wk.refl _
   refine hK2 ?_
   refine aK ?_
   refine tHn ?_
   refine aL ?_
   refine aB dCo rfl fun K hK=>?_;conv=>whnf
   refine nlA rfl ?_;conv=>whnf
   refine bKo rfl ?_;conv=>whnf
   refine gKo rfl ?_;conv=>whnf
   refine hK _ _ _ ?_
   refine aT fun K1 K2 hK1 hK2=>?_;conv=>whnf
   refine cLk h (fun _ h=>?_) (fun _ h=>?_)
   ·refine hK1 ?_
    refine aL ?_
    refine aB dCo rfl fun K hK=>?_;conv=>whnf
    replace h:=eW h
    refine nlA rfl ?_;conv=>whnf
    refine bKo rfl ?_;conv=>whnf
    refine gKo rfl ?_;conv=>whnf
    refine nlA rfl ?_;conv=>whnf
    refine bKo rfl ?_;conv=>whnf
    refine gKo rfl ?_;conv=>whnf
    replace h:=bE h
    refine cU h34 h (WkL.refl _) (fun _ h=>?_);conv=>whnf
    refine cLk h (fun _ h=>?_) (fun _ h=>?_)<;>(conv=>whnf)
    ·refine hK _ _ _ ?_
     refine aT fun K1 K2 hK1 hK2=>?_;conv=>whnf
     refine hK1 ?_
     replace h:=kR h
     refine aB dCo rfl fun K hK=>?_;conv=>whnf
     refine hK _ _ _ ?_
     refine aJ ?_
     refine aM ?_
     refine aM ?_
     replace h:=aI h
     refine aE dCo fun K hK=>?_;conv=>whnf
     refine hK _ ?_
     cases h
     exact Wk.refl _
    refine nlA rfl ?_;conv=>whnf
    refine bKo rfl ?_;conv=>whnf
    refine nlA rfl ?_;conv=>whnf
    refine nlA rfl ?_;conv=>whnf
    refine bKo rfl ?_;conv=>whnf
    refine gKo rfl ?_;conv=>whnf
    refine nlA rfl ?_;conv=>whnf
    refine bKo rfl ?_;conv=>whnf
    refine gKo rfl ?_;conv=>whnf
    refine sT (aAj _ _ _ _ _ _ _ _) ?_;conv=>whnf
    refine hK _ _ _ ?_
    refine aT fun K1 K2 hK1 hK2=>?_;conv=>whnf
    refine cLk h (fun _ h=>?_) (fun _ h=>?_)
    ·refine hK1 ?_
     refine aB dCo rfl fun K hK=>?_;conv=>whnf
     refine hK _ _ _ ?_
     refine aJ ?_
     refine aM ?_
     refine aM ?_
     replace h:=aI h
     refine aE dCo fun K hK=>?_;conv=>whnf
     refine hK _ ?_
     cases h
     exact Wk.refl _
    refine hK2 ?_
    refine aK ?_
    refine tHn ?_
    refine aB dCo rfl fun K hK=>?_;conv=>whnf
    refine hK _ _ _ ?_
    refine aL ?_
    refine aB dCo rfl fun K hK=>?_;conv=>whnf
    refine nlA rfl ?_;conv=>whnf
    refine bKo rfl ?_;conv=>whnf
    refine gKo rfl ?_;conv=>whnf
    refine hK _ _ _ ?_
    refine aN ?_
    replace h:=bE h
    refine dS (body:=bK _ _ _) rfl h [3,5,7,77,78] [3,5] [] (fun kl kh ids b s=>⟨ofL ([(8,eI s.1),(79,eI s.2)]++kl),ofH ([]++kh),b+64⟩) ?_;(conv=>whnf);refine And.intro ?_ (fun s m h=>dY ?_)
    ·refine aO ?_;conv=>whnf
     exact And.intro rfl (And.intro (aLc wkI (aLc wkI (aLc (WkR.ptr (fun _=>rfl)) (aLc (WkR.ptr (fun _=>rfl)) (aLc wkI (aLc (wkr (lsL fun _=>(aA _))) (aLc wkI aLn))))))) (aLc ⟨some _,rfl,bRc rfl (cKc wkI (cKc (wkr (lsL fun _=>(aC _))) (cKc (wkr (lsL fun _=>(lsI _ _))) (cKc (wkr (lsL fun _=>(lsI _ _))) (cKc wkI (cKc (wkr (lsL fun _=>(aA _))) cKn))))))⟩ (aLc ⟨some _,rfl,bRc rfl (cKc wkI (cKc wkI (cKc wkI (cKc wkI cKn))))⟩ aLn)))
    replace h:=bE h;rw [bK.eq_1] at h
    refine aB dCo rfl fun K hK=>?_;conv=>whnf
    refine hK _ _ _ ?_
    refine aL ?_
    refine aT fun K1 K2 hK1 hK2=>?_;conv=>whnf
    refine cLk h (fun _ h=>?_) (fun _ h=>?_)
    ·refine hK1 ?_
     refine aK ?_
     refine tHn ?_
     refine aL ?_
     refine aN ?_
     refine aB dCo rfl fun K hK=>?_;conv=>whnf
     refine cA h fun _ h=>?_;conv=>whnf
     refine nlA rfl ?_;conv=>whnf
     refine bKo rfl ?_;conv=>whnf
     refine And.intro rfl (And.intro (nle rfl) (And.intro rfl ?_));conv=>whnf
     refine hK _ _ _ ?_
     refine aB dCo rfl fun K hK=>?_;conv=>whnf
     replace h:=eW h
     refine kQ h fun _ h=>?_;conv=>whnf
     refine cLk h (fun _ h=>?_) (fun _ h=>?_)<;>(conv=>whnf)
     ·refine nlA rfl ?_;conv=>whnf
      refine bKo rfl ?_;conv=>whnf
      refine gKo rfl ?_;conv=>whnf
      refine nlA rfl ?_;conv=>whnf
      refine bKo rfl ?_;conv=>whnf
      refine gKo rfl ?_;conv=>whnf
      replace h:=bE h
      refine iE h56 h (WkL.refl _) (fun _ h=>?_);conv=>whnf
      refine hK _ _ _ ?_
      replace h:=eW h
      refine aT fun K1 K2 hK1 hK2=>?_;conv=>whnf
      refine cLk h (fun _ h=>?_) (fun _ h=>?_)
      ·refine hK1 ?_
       refine cK dCo rfl fun K hK=>?_;conv=>whnf
       refine nlA rfl ?_;conv=>whnf
       refine bKo rfl ?_;conv=>whnf
       refine gKo rfl ?_;conv=>whnf
       refine hK _ _ _ ?_
       refine iBn ?_
       refine tHn ?_
       refine cK dCo rfl fun K hK=>?_;conv=>whnf
       refine hK _ _ _ ?_
       refine tHn ?_
       replace h:=bY h
       refine ⟨_,h,?_⟩
       refine aO ?_;conv=>whnf
       exact And.intro rfl (And.intro (aLc wkI (aLc wkI (aLc (WkR.ptr (fun _=>rfl)) (aLc (WkR.ptr (fun _=>rfl)) (aLc wkI (aLc (wkr (lsL fun _=>(aA _))) (aLc wkI aLn))))))) (aLc ⟨some _,rfl,bRc rfl (cKc wkI (cKc (wkr (lsL fun _=>(aC _))) (cKc (wkr (lsL fun _=>(lsI _ _))) (cKc (wkr (lsL fun _=>(lsI _ _))) (cKc wkI (cKc (wkr (lsL fun _=>(aA _))) cKn))))))⟩ (aLc ⟨some _,rfl,bRc rfl (cKc wkI (cKc wkI (cKc wkI (cKc wkI cKn))))⟩ aLn)))
      refine hK2 ?_
      refine aK ?_
      refine iBn ?_
      refine tHn ?_
      refine cK dCo rfl fun K hK=>?_;conv=>whnf
      refine hK _ _ _ ?_
      refine tHn ?_
      replace h:=bY h
      refine ⟨_,h,?_⟩
      refine aO ?_;conv=>whnf
      exact And.intro rfl (And.intro (aLc wkI (aLc wkI (aLc (WkR.ptr (fun _=>rfl)) (aLc (WkR.ptr (fun _=>rfl)) (aLc wkI (aLc (wkr (lsL fun _=>(aA _))) (aLc wkI aLn))))))) (aLc ⟨some _,rfl,bRc rfl (cKc wkI (cKc (wkr (lsL fun _=>(aC _))) (cKc (wkr (lsL fun _=>(lsI _ _))) (cKc (wkr (lsL fun _=>(lsI _ _))) (cKc wkI (cKc (wkr (lsL fun _=>(aA _))) cKn))))))⟩ (aLc ⟨some _,rfl,bRc rfl (cKc wkI (cKc wkI (cKc wkI (cKc wkI cKn))))⟩ aLn)))
     refine hK _ _ _ ?_
     replace h:=eW h
     refine aT fun K1 K2 hK1 hK2=>?_;conv=>whnf
     refine hK2 ?_
     replace h:=uF h
     refine aK ?_
     refine iBn ?_
     refine tHn ?_
     refine cK dCo rfl fun K hK=>?_;conv=>whnf
     refine hK _ _ _ ?_
     refine tHn ?_
     replace h:=bY h
     refine ⟨_,h,?_⟩
     refine aO ?_;conv=>whnf
     exact And.intro rfl (And.intro (aLc wkI (aLc wkI (aLc (WkR.ptr (fun _=>rfl)) (aLc (WkR.ptr (fun _=>rfl)) (aLc wkI (aLc (wkr (lsL fun _=>(aA _))) (aLc wkI aLn))))))) (aLc ⟨some _,rfl,bRc rfl (cKc wkI (cKc (wkr (lsL fun _=>(aC _))) (cKc (wkr (lsL fun _=>(lsI _ _))) (cKc (wkr (lsL fun _=>(lsI _ _))) (cKc wkI (cKc (wkr (lsL fun _=>(aA _))) cKn))))))⟩ (aLc ⟨some _,rfl,bRc rfl (cKc wkI (cKc wkI (cKc wkI (cKc wkI cKn))))⟩ aLn)))
    refine hK2 ?_
    refine bN ?_
    refine aW ?_
    refine aW ?_
    refine aV ?_
    replace h:=eA h
    replace h:=dZ h
    refine tHn ?_
    refine aB dCo rfl fun K hK=>?_;conv=>whnf
    refine nlA rfl ?_;conv=>whnf
    refine bKo rfl ?_;conv=>whnf
    refine gKo rfl ?_;conv=>whnf
    refine nlA rfl ?_;conv=>whnf
    refine bKo rfl ?_;conv=>whnf
    refine gKo rfl ?_;conv=>whnf
    refine cA h fun _ h=>?_;conv=>whnf
    refine gKo rfl ?_;conv=>whnf
    refine hK _ _ _ ?_
    refine aJ ?_
    refine aM ?_
    replace h:=aI h
    refine aE dCo fun K hK=>?_;conv=>whnf
    refine hK _ ?_
    cases h
    exact Wk.refl _
   refine hK2 ?_
   refine aK ?_
   refine tHn ?_
   refine aB dCo rfl fun K hK=>?_;conv=>whnf
   refine nlA rfl ?_;conv=>whnf
   refine bKo rfl ?_;conv=>whnf
   refine nlA rfl ?_;conv=>whnf
   replace h:=bE h
   refine iW h53 h (WkL.refl _) (fun _ h=>?_);conv=>whnf
   refine bKo rfl ?_;conv=>whnf
   refine And.intro rfl (And.intro (nle rfl) (And.intro rfl ?_));conv=>whnf
   refine hK _ _ _ ?_
   refine aL ?_
   refine aB dCo rfl fun K hK=>?_;conv=>whnf
   refine hK _ _ _ ?_
   refine aT fun K1 K2 hK1 hK2=>?_;conv=>whnf
   refine cLk h (fun _ h=>?_) (fun _ h=>?_)
   ·refine hK1 ?_
    refine aB dCo rfl fun K hK=>?_;conv=>whnf
    refine hK _ _ _ ?_
    refine aJ ?_
    refine aM ?_
    replace h:=aI h
    refine aE dCo fun K hK=>?_;conv=>whnf
    refine hK _ ?_
    cases h
    exact Wk.refl _
   refine hK2 ?_
   refine aK ?_
   refine tHn ?_
   refine aB dCo rfl fun K hK=>?_;conv=>whnf
   refine nlA rfl ?_;conv=>whnf
   refine bKo rfl ?_;conv=>whnf
   refine nlA rfl ?_;conv=>whnf
   refine nlA rfl ?_;conv=>whnf
   refine bKo rfl ?_;conv=>whnf
   refine gKo rfl ?_;conv=>whnf
   replace h:=bE h
   refine oD h57 h (WkL.refl _) (fun _ h=>?_);conv=>whnf
   refine bKo rfl ?_;conv=>whnf
   refine And.intro rfl (And.intro (nle rfl) (And.intro rfl ?_));conv=>whnf
   refine hK _ _ _ ?_
   refine iZ dCo cJ rfl (by kernel_rfl) fun K hK=>?_;conv=>whnf
   replace h:=eW h
   refine cLk h (fun _ h=>?_) (fun _ h=>?_)<;>(conv=>whnf)
   ·refine nlA rfl ?_;conv=>whnf
    refine bKo rfl ?_;conv=>whnf
    refine gKo rfl ?_;conv=>whnf
    replace h:=bE h
    refine iA h58 h (WkL.refl _) (fun _ h=>?_);conv=>whnf
    refine nlA rfl ?_;conv=>whnf
    refine bKo rfl ?_;conv=>whnf
    refine gKo rfl ?_;conv=>whnf
    refine cLk h (fun _ h=>?_) (fun _ h=>?_)<;>(conv=>whnf)
    ·refine nlA rfl ?_;conv=>whnf
     refine bKo rfl ?_;conv=>whnf
     refine nlA rfl ?_;conv=>whnf
     refine nlA rfl ?_;conv=>whnf
     refine bKo rfl ?_;conv=>whnf
     refine gKo rfl ?_;conv=>whnf
     replace h:=bE h
     refine lU h59 h (aF (Wk.refl _) (aF (Wk.refl _) (aF (fL (aF (Wk.refl _) (aF jI (aF (Wk.refl _) bO)))) bO))) (fun _ h=>?_);conv=>whnf
     refine hK _ _ _ ?_
     refine aJ ?_
     replace h:=aI h
     refine aE dCo fun K hK=>?_;conv=>whnf
     refine hK _ ?_
     cases h
     exact Wk.refl _
    refine hK _ _ _ ?_
    refine aJ ?_
    replace h:=aI h
    refine aE dCo fun K hK=>?_;conv=>whnf
    refine hK _ ?_
    cases h
    exact Wk.refl _
   refine hK _ _ _ ?_
   refine aJ ?_
   replace h:=aI h
   refine aE dCo fun K hK=>?_;conv=>whnf
   refine hK _ ?_
   cases h
   exact Wk.refl _
  refine hK _ _ _ ?_
  refine aT fun K1 K2 hK1 hK2=>?_;conv=>whnf
  refine hK2 ?_
  replace h:=uF h
  refine aK ?_
  refine tHn ?_
  refine aL ?_
  refine aB dCo rfl fun K hK=>?_;conv=>whnf
  refine nlA rfl ?_;conv=>whnf
  refine bKo rfl ?_;conv=>whnf
  refine gKo rfl ?_;conv=>whnf
  refine hK _ _ _ ?_
  refine aT fun K1 K2 hK1 hK2=>?_;conv=>whnf
  refine cLk h (fun _ h=>?_) (fun _ h=>?_)
  ·refine hK1 ?_
   refine aL ?_
   refine aB dCo rfl fun K hK=>?_;conv=>whnf
   replace h:=eW h
   refine nlA rfl ?_;conv=>whnf
   refine bKo rfl ?_;conv=>whnf
   refine gKo rfl ?_;conv=>whnf
   refine nlA rfl ?_;conv=>whnf
   refine bKo rfl ?_;conv=>whnf
   refine gKo rfl ?_;conv=>whnf
   replace h:=bE h
   refine cU h34 h (WkL.refl _) (fun _ h=>?_);conv=>whnf
   refine cLk h (fun _ h=>?_) (fun _ h=>?_)<;>(conv=>whnf)
   ·refine hK _ _ _ ?_
    refine aT fun K1 K2 hK1 hK2=>?_;conv=>whnf
    refine hK1 ?_
    replace h:=kR h
    refine aB dCo rfl fun K hK=>?_;conv=>whnf
    refine hK _ _ _ ?_
    refine aJ ?_
    refine aM ?_
    refine aM ?_
    replace h:=aI h
    refine aE dCo fun K hK=>?_;conv=>whnf
    refine hK _ ?_
    cases h
    exact Wk.refl _
   refine nlA rfl ?_;conv=>whnf
   refine bKo rfl ?_;conv=>whnf
   refine nlA rfl ?_;conv=>whnf
   refine nlA rfl ?_;conv=>whnf
   refine bKo rfl ?_;conv=>whnf
   refine gKo rfl ?_;conv=>whnf
   refine nlA rfl ?_;conv=>whnf
   refine bKo rfl ?_;conv=>whnf
   refine gKo rfl ?_;conv=>whnf
   refine sT (aAj _ _ _ _ _ _ _ _) ?_;conv=>whnf
   refine hK _ _ _ ?_
   refine aT fun K1 K2 hK1 hK2=>?_;conv=>whnf
   refine cLk h (fun _ h=>?_) (fun _ h=>?_)
   ·refine hK1 ?_
    refine aB dCo rfl fun K hK=>?_;conv=>whnf
    refine hK _ _ _ ?_
    refine aJ ?_
    refine aM ?_
    refine aM ?_
    replace h:=aI h
    refine aE dCo fun K hK=>?_;conv=>whnf
    refine hK _ ?_
    cases h
    exact Wk.refl _
   refine hK2 ?_
   refine aK ?_
   refine tHn ?_
   refine aB dCo rfl fun K hK=>?_;conv=>whnf
   refine hK _ _ _ ?_
   refine aL ?_
   refine aB dCo rfl fun K hK=>?_;conv=>whnf
   refine nlA rfl ?_;conv=>whnf
   refine bKo rfl ?_;conv=>whnf
   refine gKo rfl ?_;conv=>whnf
   refine hK _ _ _ ?_
   refine aN ?_
   replace h:=bE h
   refine dS (body:=bK _ _ _) rfl h [3,5,7,77,78] [3,5] [] (fun kl kh ids b s=>⟨ofL ([(8,eI s.1),(79,eI s.2)]++kl),ofH ([]++kh),b+64⟩) ?_;(conv=>whnf);refine And.intro ?_ (fun s m h=>dY ?_)
   ·refine aO ?_;conv=>whnf
    exact And.intro rfl (And.intro (aLc wkI (aLc wkI (aLc (WkR.ptr (fun _=>rfl)) (aLc (WkR.ptr (fun _=>rfl)) (aLc wkI (aLc (wkr (lsL fun _=>(aA _))) (aLc wkI aLn))))))) (aLc ⟨some _,rfl,bRc rfl (cKc wkI (cKc (wkr (lsL fun _=>(aC _))) (cKc (wkr (lsL fun _=>(lsI _ _))) (cKc (wkr (lsL fun _=>(lsI _ _))) (cKc wkI (cKc (wkr (lsL fun _=>(aA _))) cKn))))))⟩ (aLc ⟨some _,rfl,bRc rfl (cKc wkI (cKc wkI (cKc wkI (cKc wkI cKn))))⟩ aLn)))
   replace h:=bE h;rw [bK.eq_1] at h
   refine aB dCo rfl fun K hK=>?_;conv=>whnf
   refine hK _ _ _ ?_
   refine aL ?_
   refine aT fun K1 K2 hK1 hK2=>?_;conv=>whnf
   refine cLk h (fun _ h=>?_) (fun _ h=>?_)
   ·refine hK1 ?_
    refine aK ?_
    refine tHn ?_
    refine aL ?_
    refine aN ?_
    refine aB dCo rfl fun K hK=>?_;conv=>whnf
    refine cA h fun _ h=>?_;conv=>whnf
    refine nlA rfl ?_;conv=>whnf
    refine bKo rfl ?_;conv=>whnf
    refine And.intro rfl (And.intro (nle rfl) (And.intro rfl ?_));conv=>whnf
    refine hK _ _ _ ?_
    refine aB dCo rfl fun K hK=>?_;conv=>whnf
    replace h:=eW h
    refine kQ h fun _ h=>?_;conv=>whnf
    refine cLk h (fun _ h=>?_) (fun _ h=>?_)<;>(conv=>whnf)
    ·refine nlA rfl ?_;conv=>whnf
     refine bKo rfl ?_;conv=>whnf
     refine gKo rfl ?_;conv=>whnf
     refine nlA rfl ?_;conv=>whnf
     refine bKo rfl ?_;conv=>whnf
     refine gKo rfl ?_;conv=>whnf
     replace h:=bE h
     refine iE h56 h (WkL.refl _) (fun _ h=>?_);conv=>whnf
     refine hK _ _ _ ?_
     replace h:=eW h
     refine aT fun K1 K2 hK1 hK2=>?_;conv=>whnf
     refine cLk h (fun _ h=>?_) (fun _ h=>?_)
     ·refine hK1 ?_
      refine cK dCo rfl fun K hK=>?_;conv=>whnf
      refine nlA rfl ?_;conv=>whnf
      refine bKo rfl ?_;conv=>whnf
      refine gKo rfl ?_;conv=>whnf
      refine hK _ _ _ ?_
      refine iBn ?_
      refine tHn ?_
      refine cK dCo rfl fun K hK=>?_;conv=>whnf
      refine hK _ _ _ ?_
      refine tHn ?_
      replace h:=bY h
      refine ⟨_,h,?_⟩
      refine aO ?_;conv=>whnf
      exact And.intro rfl (And.intro (aLc wkI (aLc wkI (aLc (WkR.ptr (fun _=>rfl)) (aLc (WkR.ptr (fun _=>rfl)) (aLc wkI (aLc (wkr (lsL fun _=>(aA _))) (aLc wkI aLn))))))) (aLc ⟨some _,rfl,bRc rfl (cKc wkI (cKc (wkr (lsL fun _=>(aC _))) (cKc (wkr (lsL fun _=>(lsI _ _))) (cKc (wkr (lsL fun _=>(lsI _ _))) (cKc wkI (cKc (wkr (lsL fun _=>(aA _))) cKn))))))⟩ (aLc ⟨some _,rfl,bRc rfl (cKc wkI (cKc wkI (cKc wkI (cKc wkI cKn))))⟩ aLn)))
     refine hK2 ?_
     refine aK ?_
     refine iBn ?_
     refine tHn ?_
     refine cK dCo rfl fun K hK=>?_;conv=>whnf
     refine hK _ _ _ ?_
     refine tHn ?_
     replace h:=bY h
     refine ⟨_,h,?_⟩
     refine aO ?_;conv=>whnf
     exact And.intro rfl (And.intro (aLc wkI (aLc wkI (aLc (WkR.ptr (fun _=>rfl)) (aLc (WkR.ptr (fun _=>rfl)) (aLc wkI (aLc (wkr (lsL fun _=>(aA _))) (aLc wkI aLn))))))) (aLc ⟨some _,rfl,bRc rfl (cKc wkI (cKc (wkr (lsL fun _=>(aC _))) (cKc (wkr (lsL fun _=>(lsI _ _))) (cKc (wkr (lsL fun _=>(lsI _ _))) (cKc wkI (cKc (wkr (lsL fun _=>(aA _))) cKn))))))⟩ (aLc ⟨some _,rfl,bRc rfl (cKc wkI (cKc wkI (cKc wkI (cKc wkI cKn))))⟩ aLn)))
    refine hK _ _ _ ?_
    replace h:=eW h
    refine aT fun K1 K2 hK1 hK2=>?_;conv=>whnf
    refine hK2 ?_
    replace h:=uF h
    refine aK ?_
    refine iBn ?_
    refine tHn ?_
    refine cK dCo rfl fun K hK=>?_;conv=>whnf
    refine hK _ _ _ ?_
    refine tHn ?_
    replace h:=bY h
    refine ⟨_,h,?_⟩
    refine aO ?_;conv=>whnf
    exact And.intro rfl (And.intro (aLc wkI (aLc wkI (aLc (WkR.ptr (fun _=>rfl)) (aLc (WkR.ptr (fun _=>rfl)) (aLc wkI (aLc (wkr (lsL fun _=>(aA _))) (aLc wkI aLn))))))) (aLc ⟨some _,rfl,bRc rfl (cKc wkI (cKc (wkr (lsL fun _=>(aC _))) (cKc (wkr (lsL fun _=>(lsI _ _))) (cKc (wkr (lsL fun _=>(lsI _ _))) (cKc wkI (cKc (wkr (lsL fun _=>(aA _))) cKn))))))⟩ (aLc ⟨some _,rfl,bRc rfl (cKc wkI (cKc wkI (cKc wkI (cKc wkI cKn))))⟩ aLn)))
   refine hK2 ?_
   refine bN ?_
   refine aW ?_
   refine aW ?_
   refine aV ?_
   replace h:=eA h
   replace h:=dZ h
   refine tHn ?_
   refine aB dCo rfl fun K hK=>?_;conv=>whnf
   refine nlA rfl ?_;conv=>whnf
   refine bKo rfl ?_;conv=>whnf
   refine gKo rfl ?_;conv=>whnf
   refine nlA rfl ?_;conv=>whnf
   refine bKo rfl ?_;conv=>whnf
   refine gKo rfl ?_;conv=>whnf
   refine cA h fun _ h=>?_;conv=>whnf
   refine gKo rfl ?_;conv=>whnf
   refine hK _ _ _ ?_
   refine aJ ?_
   refine aM ?_
   replace h:=aI h
   refine aE dCo fun K hK=>?_;conv=>whnf
   refine hK _ ?_
   cases h
   exact Wk.refl _
  refine hK2 ?_
  refine aK ?_
  refine tHn ?_
  refine aB dCo rfl fun K hK=>?_;conv=>whnf
  refine nlA rfl ?_;conv=>whnf
  refine bKo rfl ?_;conv=>whnf
  refine nlA rfl ?_;conv=>whnf
  replace h:=bE h
  refine iW h53 h (WkL.refl _) (fun _ h=>?_);conv=>whnf
  refine bKo rfl ?_;conv=>whnf
  refine And.intro rfl (And.intro (nle rfl) (And.intro rfl ?_));conv=>whnf
  refine hK _ _ _ ?_
  refine aL ?_
  refine aB dCo rfl fun K hK=>?_;conv=>whnf
  refine hK _ _ _ ?_
  refine aT fun K1 K2 hK1 hK2=>?_;conv=>whnf
  refine cLk h (fun _ h=>?_) (fun _ h=>?_)
  ·refine hK1 ?_
   refine aB dCo rfl fun K hK=>?_;conv=>whnf
   refine hK _ _ _ ?_
   refine aJ ?_
   refine aM ?_
   replace h:=aI h
   refine aE dCo fun K hK=>?_;conv=>whnf
   refine hK _ ?_
   cases h
   exact Wk.refl _
  refine hK2 ?_
  refine aK ?_
  refine tHn ?_
  refine aB dCo rfl fun K hK=>?_;conv=>whnf
  refine nlA rfl ?_;conv=>whnf
  refine bKo rfl ?_;conv=>whnf
  refine nlA rfl ?_;conv=>whnf
  refine nlA rfl ?_;conv=>whnf
  refine bKo rfl ?_;conv=>whnf
  refine gKo rfl ?_;conv=>whnf
  replace h:=bE h
  refine oD h57 h (WkL.refl _) (fun _ h=>?_);conv=>whnf
  refine bKo rfl ?_;conv=>whnf
  refine And.intro rfl (And.intro (nle rfl) (And.intro rfl ?_));conv=>whnf
  refine hK _ _ _ ?_
  refine iZ dCo cJ rfl (by kernel_rfl) fun K hK=>?_;conv=>whnf
  replace h:=eW h
  refine cLk h (fun _ h=>?_) (fun _ h=>?_)<;>(conv=>whnf)
  ·refine nlA rfl ?_;conv=>whnf
   refine bKo rfl ?_;conv=>whnf
   refine gKo rfl ?_;conv=>whnf
   replace h:=bE h
   refine iA h58 h (WkL.refl _) (fun _ h=>?_);conv=>whnf
   refine nlA rfl ?_;conv=>whnf
   refine bKo rfl ?_;conv=>whnf
   refine gKo rfl ?_;conv=>whnf
   refine cLk h (fun _ h=>?_) (fun _ h=>?_)<;>(conv=>whnf)
   ·refine nlA rfl ?_;conv=>whnf
    refine bKo rfl ?_;conv=>whnf
    refine nlA rfl ?_;conv=>whnf
    refine nlA rfl ?_;conv=>whnf
    refine bKo rfl ?_;conv=>whnf
    refine gKo rfl ?_;conv=>whnf
    replace h:=bE h
    refine lU h59 h (aF (Wk.refl _) (aF (Wk.refl _) (aF (fL (aF (Wk.refl _) (aF jI (aF (Wk.refl _) bO)))) bO))) (fun _ h=>?_);conv=>whnf
    refine hK _ _ _ ?_
    refine aJ ?_
    replace h:=aI h
    refine aE dCo fun K hK=>?_;conv=>whnf
    refine hK _ ?_
    cases h
    exact Wk.refl _
   refine hK _ _ _ ?_
   refine aJ ?_
   replace h:=aI h
   refine aE dCo fun K hK=>?_;conv=>whnf
   refine hK _ ?_
   cases h
   exact Wk.refl _
  refine hK _ _ _ ?_
  refine aJ ?_
  replace h:=aI h
  refine aE dCo fun K hK=>?_;conv=>whnf
  refine hK _ ?_
  cases h
  exact Wk.refl _
 refine hK2 ?_
 refine aK ?_
 refine tHn ?_
 refine aL ?_
 refine aB dCo rfl fun K hK=>?_;conv=>whnf
 replace h:=eW h
 refine nlA rfl ?_;conv=>whnf
 refine bKo rfl ?_;conv=>whnf
 refine gKo rfl ?_;conv=>whnf
 refine sT (qJ dCo rfl _ _) ?_;conv=>whnf
 refine cLk h (fun _ h=>?_) (fun _ h=>?_)<;>(conv=>whnf)
 ·refine hK _ _ _ ?_
  refine aT fun K1 K2 hK1 hK2=>?_;conv=>whnf
  refine hK1 ?_
  replace h:=kR h
  refine aB dCo rfl fun K hK=>?_;conv=>whnf
  refine hK _ _ _ ?_
  refine aJ ?_
  refine aM ?_
  replace h:=aI h
  refine aE dCo fun K hK=>?_;conv=>whnf
  refine hK _ ?_
  cases h
  exact Wk.refl _
 refine nlA rfl ?_;conv=>whnf
 refine bKo rfl ?_;conv=>whnf
 refine gKo rfl ?_;conv=>whnf
 refine cLk h (fun _ h=>?_) (fun _ h=>?_)<;>(conv=>whnf)
 ·refine hK _ _ _ ?_
  refine aT fun K1 K2 hK1 hK2=>?_;conv=>whnf
  refine cLk h (fun _ h=>?_) (fun _ h=>?_)
  ·refine hK1 ?_
   refine aB dCo rfl fun K hK=>?_;conv=>whnf
   refine hK _ _ _ ?_
   refine aJ ?_
   refine aM ?_
   replace h:=aI h
   refine aE dCo fun K hK=>?_;conv=>whnf
   refine hK _ ?_
   cases h
   exact Wk.refl _
  refine hK2 ?_
  refine aK ?_
  refine tHn ?_
  refine aL ?_
  refine aB dCo rfl fun K hK=>?_;conv=>whnf
  refine nlA rfl ?_;conv=>whnf
  refine bKo rfl ?_;conv=>whnf
  refine gKo rfl ?_;conv=>whnf
  refine hK _ _ _ ?_
  refine aT fun K1 K2 hK1 hK2=>?_;conv=>whnf
  refine cLk h (fun _ h=>?_) (fun _ h=>?_)
  ·refine hK1 ?_
   refine aL ?_
   refine aB dCo rfl fun K hK=>?_;conv=>whnf
   replace h:=eW h
   refine nlA rfl ?_;conv=>whnf
   refine bKo rfl ?_;conv=>whnf
   refine gKo rfl ?_;conv=>whnf
   refine nlA rfl ?_;conv=>whnf
   refine bKo rfl ?_;conv=>whnf
   refine gKo rfl ?_;conv=>whnf
   replace h:=bE h
   refine cU h34 h (WkL.refl _) (fun _ h=>?_);conv=>whnf
   refine cLk h (fun _ h=>?_) (fun _ h=>?_)<;>(conv=>whnf)
   ·refine hK _ _ _ ?_
    refine aT fun K1 K2 hK1 hK2=>?_;conv=>whnf
    refine hK1 ?_
    replace h:=kR h
    refine aB dCo rfl fun K hK=>?_;conv=>whnf
    refine hK _ _ _ ?_
    refine aJ ?_
    refine aM ?_
    refine aM ?_
    replace h:=aI h
    refine aE dCo fun K hK=>?_;conv=>whnf
    refine hK _ ?_
    cases h
    exact Wk.refl _
   refine nlA rfl ?_;conv=>whnf
   refine bKo rfl ?_;conv=>whnf
   refine nlA rfl ?_;conv=>whnf
   refine nlA rfl ?_;conv=>whnf
   refine bKo rfl ?_;conv=>whnf
   refine gKo rfl ?_;conv=>whnf
   refine nlA rfl ?_;conv=>whnf
   refine bKo rfl ?_;conv=>whnf
   refine gKo rfl ?_;conv=>whnf
   refine sT (aAj _ _ _ _ _ _ _ _) ?_;conv=>whnf
   refine hK _ _ _ ?_
   refine aT fun K1 K2 hK1 hK2=>?_;conv=>whnf
   refine cLk h (fun _ h=>?_) (fun _ h=>?_)
   ·refine hK1 ?_
    refine aB dCo rfl fun K hK=>?_;conv=>whnf
    refine hK _ _ _ ?_
    refine aJ ?_
    refine aM ?_
    refine aM ?_
    replace h:=aI h
    refine aE dCo fun K hK=>?_;conv=>whnf
    refine hK _ ?_
    cases h
    exact Wk.refl _
   refine hK2 ?_
   refine aK ?_
   refine tHn ?_
   refine aB dCo rfl fun K hK=>?_;conv=>whnf
   refine hK _ _ _ ?_
   refine aL ?_
   refine aB dCo rfl fun K hK=>?_;conv=>whnf
   refine nlA rfl ?_;conv=>whnf
   refine bKo rfl ?_;conv=>whnf
   refine gKo rfl ?_;conv=>whnf
   refine hK _ _ _ ?_
   refine aN ?_
   replace h:=bE h
   refine dS (body:=bK _ _ _) rfl h [3,5,7,77,78] [3,5] [] (fun kl kh ids b s=>⟨ofL ([(8,eI s.1),(79,eI s.2)]++kl),ofH ([]++kh),b+64⟩) ?_;(conv=>whnf);refine And.intro ?_ (fun s m h=>dY ?_)
   ·refine aO ?_;conv=>whnf
    exact And.intro rfl (And.intro (aLc wkI (aLc wkI (aLc (WkR.ptr (fun _=>rfl)) (aLc (WkR.ptr (fun _=>rfl)) (aLc wkI (aLc (wkr (lsL fun _=>(aA _))) (aLc wkI aLn))))))) (aLc ⟨some _,rfl,bRc rfl (cKc wkI (cKc (wkr (lsL fun _=>(aC _))) (cKc (wkr (lsL fun _=>(lsI _ _))) (cKc (wkr (lsL fun _=>(lsI _ _))) (cKc wkI (cKc (wkr (lsL fun _=>(aA _))) cKn))))))⟩ (aLc ⟨some _,rfl,bRc rfl (cKc wkI (cKc wkI (cKc wkI (cKc wkI cKn))))⟩ aLn)))
   replace h:=bE h;rw [bK.eq_1] at h
   refine aB dCo rfl fun K hK=>?_;conv=>whnf
   refine hK _ _ _ ?_
   refine aL ?_
   refine aT fun K1 K2 hK1 hK2=>?_;conv=>whnf
   refine cLk h (fun _ h=>?_) (fun _ h=>?_)
   ·refine hK1 ?_
    refine aK ?_
    refine tHn ?_
    refine aL ?_
    refine aN ?_
    refine aB dCo rfl fun K hK=>?_;conv=>whnf
    refine cA h fun _ h=>?_;conv=>whnf
    refine nlA rfl ?_;conv=>whnf
    refine bKo rfl ?_;conv=>whnf
    refine And.intro rfl (And.intro (nle rfl) (And.intro rfl ?_));conv=>whnf
    refine hK _ _ _ ?_
    refine aB dCo rfl fun K hK=>?_;conv=>whnf
    replace h:=eW h
    refine kQ h fun _ h=>?_;conv=>whnf
    refine cLk h (fun _ h=>?_) (fun _ h=>?_)<;>(conv=>whnf)
    ·refine nlA rfl ?_;conv=>whnf
     refine bKo rfl ?_;conv=>whnf
     refine gKo rfl ?_;conv=>whnf
     refine nlA rfl ?_;conv=>whnf
     refine bKo rfl ?_;conv=>whnf
     refine gKo rfl ?_;conv=>whnf
     replace h:=bE h
     refine iE h56 h (WkL.refl _) (fun _ h=>?_);conv=>whnf
     refine hK _ _ _ ?_
     replace h:=eW h
     refine aT fun K1 K2 hK1 hK2=>?_;conv=>whnf
     refine cLk h (fun _ h=>?_) (fun _ h=>?_)
     ·refine hK1 ?_
      refine cK dCo rfl fun K hK=>?_;conv=>whnf
      refine nlA rfl ?_;conv=>whnf
      refine bKo rfl ?_;conv=>whnf
      refine gKo rfl ?_;conv=>whnf
      refine hK _ _ _ ?_
      refine iBn ?_
      refine tHn ?_
      refine cK dCo rfl fun K hK=>?_;conv=>whnf
      refine hK _ _ _ ?_
      refine tHn ?_
      replace h:=bY h
      refine ⟨_,h,?_⟩
      refine aO ?_;conv=>whnf
      exact And.intro rfl (And.intro (aLc wkI (aLc wkI (aLc (WkR.ptr (fun _=>rfl)) (aLc (WkR.ptr (fun _=>rfl)) (aLc wkI (aLc (wkr (lsL fun _=>(aA _))) (aLc wkI aLn))))))) (aLc ⟨some _,rfl,bRc rfl (cKc wkI (cKc (wkr (lsL fun _=>(aC _))) (cKc (wkr (lsL fun _=>(lsI _ _))) (cKc (wkr (lsL fun _=>(lsI _ _))) (cKc wkI (cKc (wkr (lsL fun _=>(aA _))) cKn))))))⟩ (aLc ⟨some _,rfl,bRc rfl (cKc wkI (cKc wkI (cKc wkI (cKc wkI cKn))))⟩ aLn)))
     refine hK2 ?_
     refine aK ?_
     refine iBn ?_
     refine tHn ?_
     refine cK dCo rfl fun K hK=>?_;conv=>whnf
     refine hK _ _ _ ?_
     refine tHn ?_
     replace h:=bY h
     refine ⟨_,h,?_⟩
     refine aO ?_;conv=>whnf
     exact And.intro rfl (And.intro (aLc wkI (aLc wkI (aLc (WkR.ptr (fun _=>rfl)) (aLc (WkR.ptr (fun _=>rfl)) (aLc wkI (aLc (wkr (lsL fun _=>(aA _))) (aLc wkI aLn))))))) (aLc ⟨some _,rfl,bRc rfl (cKc wkI (cKc (wkr (lsL fun _=>(aC _))) (cKc (wkr (lsL fun _=>(lsI _ _))) (cKc (wkr (lsL fun _=>(lsI _ _))) (cKc wkI (cKc (wkr (lsL fun _=>(aA _))) cKn))))))⟩ (aLc ⟨some _,rfl,bRc rfl (cKc wkI (cKc wkI (cKc wkI (cKc wkI cKn))))⟩ aLn)))
    refine hK _ _ _ ?_
    replace h:=eW h
    refine aT fun K1 K2 hK1 hK2=>?_;conv=>whnf
    refine hK2 ?_
    replace h:=uF h
    refine aK ?_
    refine iBn ?_
    refine tHn ?_
    refine cK dCo rfl fun K hK=>?_;conv=>whnf
    refine hK _ _ _ ?_
    refine tHn ?_
    replace h:=bY h
    refine ⟨_,h,?_⟩
    refine aO ?_;conv=>whnf
    exact And.intro rfl (And.intro (aLc wkI (aLc wkI (aLc (WkR.ptr (fun _=>rfl)) (aLc (WkR.ptr (fun _=>rfl)) (aLc wkI (aLc (wkr (lsL fun _=>(aA _))) (aLc wkI aLn))))))) (aLc ⟨some _,rfl,bRc rfl (cKc wkI (cKc (wkr (lsL fun _=>(aC _))) (cKc (wkr (lsL fun _=>(lsI _ _))) (cKc (wkr (lsL fun _=>(lsI _ _))) (cKc wkI (cKc (wkr (lsL fun _=>(aA _))) cKn))))))⟩ (aLc ⟨some _,rfl,bRc rfl (cKc wkI (cKc wkI (cKc wkI (cKc wkI cKn))))⟩ aLn)))
   refine hK2 ?_
   refine bN ?_
   refine aW ?_
   refine aW ?_
   refine aV ?_
   replace h:=eA h
   replace h:=dZ h
   refine tHn ?_
   refine aB dCo rfl fun K hK=>?_;conv=>whnf
   refine nlA rfl ?_;conv=>whnf
   refine bKo rfl ?_;conv=>whnf
   refine gKo rfl ?_;conv=>whnf
   refine nlA rfl ?_;conv=>whnf
   refine bKo rfl ?_;conv=>whnf
   refine gKo rfl ?_;conv=>whnf
   refine cA h fun _ h=>?_;conv=>whnf
   refine gKo rfl ?_;conv=>whnf
   refine hK _ _ _ ?_
   refine aJ ?_
   refine aM ?_
   replace h:=aI h
   refine aE dCo fun K hK=>?_;conv=>whnf
   refine hK _ ?_
   cases h
   exact Wk.refl _
  refine hK2 ?_
  refine aK ?_
  refine tHn ?_
  refine aB dCo rfl fun K hK=>?_;conv=>whnf
  refine nlA rfl ?_;conv=>whnf
  refine bKo rfl ?_;conv=>whnf
  refine nlA rfl ?_;conv=>whnf
  replace h:=bE h
  refine iW h53 h (WkL.refl _) (fun _ h=>?_);conv=>whnf
  refine bKo rfl ?_;conv=>whnf
  refine And.intro rfl (And.intro (nle rfl) (And.intro rfl ?_));conv=>whnf
  refine hK _ _ _ ?_
  refine aL ?_
  refine aB dCo rfl fun K hK=>?_;conv=>whnf
  refine hK _ _ _ ?_
  refine aT fun K1 K2 hK1 hK2=>?_;conv=>whnf
  refine cLk h (fun _ h=>?_) (fun _ h=>?_)
  ·refine hK1 ?_
   refine aB dCo rfl fun K hK=>?_;conv=>whnf
   refine hK _ _ _ ?_
   refine aJ ?_
   refine aM ?_
   replace h:=aI h
   refine aE dCo fun K hK=>?_;conv=>whnf
   refine hK _ ?_
   cases h
   exact Wk.refl _
  refine hK2 ?_
  refine aK ?_
  refine tHn ?_
  refine aB dCo rfl fun K hK=>?_;conv=>whnf
  refine nlA rfl ?_;conv=>whnf
  refine bKo rfl ?_;conv=>whnf
  refine nlA rfl ?_;conv=>whnf
  refine nlA rfl ?_;conv=>whnf
  refine bKo rfl ?_;conv=>whnf
  refine gKo rfl ?_;conv=>whnf
  replace h:=bE h
  refine oD h57 h (WkL.refl _) (fun _ h=>?_);conv=>whnf
  refine bKo rfl ?_;conv=>whnf
  refine And.intro rfl (And.intro (nle rfl) (And.intro rfl ?_));conv=>whnf
  refine hK _ _ _ ?_
  refine iZ dCo cJ rfl (by kernel_rfl) fun K hK=>?_;conv=>whnf
  replace h:=eW h
  refine cLk h (fun _ h=>?_) (fun _ h=>?_)<;>(conv=>whnf)
  ·refine nlA rfl ?_;conv=>whnf
   refine bKo rfl ?_;conv=>whnf
   refine gKo rfl ?_;conv=>whnf
   replace h:=bE h
   refine iA h58 h (WkL.refl _) (fun _ h=>?_);conv=>whnf
   refine nlA rfl ?_;conv=>whnf
   refine bKo rfl ?_;conv=>whnf
   refine gKo rfl ?_;conv=>whnf
   refine cLk h (fun _ h=>?_) (fun _ h=>?_)<;>(conv=>whnf)
   ·refine nlA rfl ?_;conv=>whnf
    refine bKo rfl ?_;conv=>whnf
    refine nlA rfl ?_;conv=>whnf
    refine nlA rfl ?_;conv=>whnf
    refine bKo rfl ?_;conv=>whnf
    refine gKo rfl ?_;conv=>whnf
    replace h:=bE h
    refine lU h59 h (aF (Wk.refl _) (aF (Wk.refl _) (aF (fL (aF (Wk.refl _) (aF jI (aF (Wk.refl _) bO)))) bO))) (fun _ h=>?_);conv=>whnf
    refine hK _ _ _ ?_
    refine aJ ?_
    replace h:=aI h
    refine aE dCo fun K hK=>?_;conv=>whnf
    refine hK _ ?_
    cases h
    exact Wk.refl _
   refine hK _ _ _ ?_
   refine aJ ?_
   replace h:=aI h
   refine aE dCo fun K hK=>?_;conv=>whnf
   refine hK _ ?_
   cases h
   exact Wk.refl _
  refine hK _ _ _ ?_
  refine aJ ?_
  replace h:=aI h
  refine aE dCo fun K hK=>?_;conv=>whnf
  refine hK _ ?_
  cases h
  exact Wk.refl _
 refine hK _ _ _ ?_
 refine aT fun K1 K2 hK1 hK2=>?_;conv=>whnf
 refine hK2 ?_
 replace h:=uF h
 refine aK ?_
 refine tHn ?_
 refine aL ?_
 refine aB dCo rfl fun K hK=>?_;conv=>whnf
 refine nlA rfl ?_;conv=>whnf
 refine bKo rfl ?_;conv=>whnf
 refine gKo rfl ?_;conv=>whnf
 refine hK _ _ _ ?_
 refine aT fun K1 K2 hK1 hK2=>?_;conv=>whnf
 refine cLk h (fun _ h=>?_) (fun _ h=>?_)
 ·refine hK1 ?_
  refine aL ?_
  refine aB dCo rfl fun K hK=>?_;conv=>whnf
  replace h:=eW h
  refine nlA rfl ?_;conv=>whnf
  refine bKo rfl ?_;conv=>whnf
  refine gKo rfl ?_;conv=>whnf
  refine nlA rfl ?_;conv=>whnf
  refine bKo rfl ?_;conv=>whnf
  refine gKo rfl ?_;conv=>whnf
  replace h:=bE h
  refine cU h34 h (WkL.refl _) (fun _ h=>?_);conv=>whnf
  refine cLk h (fun _ h=>?_) (fun _ h=>?_)<;>(conv=>whnf)
  ·refine hK _ _ _ ?_
   refine aT fun K1 K2 hK1 hK2=>?_;conv=>whnf
   refine hK1 ?_
   replace h:=kR h
   refine aB dCo rfl fun K hK=>?_;conv=>whnf
   refine hK _ _ _ ?_
   refine aJ ?_
   refine aM ?_
   refine aM ?_
   replace h:=aI h
   refine aE dCo fun K hK=>?_;conv=>whnf
   refine hK _ ?_
   cases h
   exact Wk.refl _
  refine nlA rfl ?_;conv=>whnf
  refine bKo rfl ?_;conv=>whnf
  refine nlA rfl ?_;conv=>whnf
  refine nlA rfl ?_;conv=>whnf
  refine bKo rfl ?_;conv=>whnf
  refine gKo rfl ?_;conv=>whnf
  refine nlA rfl ?_;conv=>whnf
  refine bKo rfl ?_;conv=>whnf
  refine gKo rfl ?_;conv=>whnf
  refine sT (aAj _ _ _ _ _ _ _ _) ?_;conv=>whnf
  refine hK _ _ _ ?_
  refine aT fun K1 K2 hK1 hK2=>?_;conv=>whnf
  refine cLk h (fun _ h=>?_) (fun _ h=>?_)
  ·refine hK1 ?_
   refine aB dCo rfl fun K hK=>?_;conv=>whnf
   refine hK _ _ _ ?_
   refine aJ ?_
   refine aM ?_
   refine aM ?_
   replace h:=aI h
   refine aE dCo fun K hK=>?_;conv=>whnf
   refine hK _ ?_
   cases h
   exact Wk.refl _
  refine hK2 ?_
  refine aK ?_
  refine tHn ?_
  refine aB dCo rfl fun K hK=>?_;conv=>whnf
  refine hK _ _ _ ?_
  refine aL ?_
  refine aB dCo rfl fun K hK=>?_;conv=>whnf
  refine nlA rfl ?_;conv=>whnf
  refine bKo rfl ?_;conv=>whnf
  refine gKo rfl ?_;conv=>whnf
  refine hK _ _ _ ?_
  refine aN ?_
  replace h:=bE h
  refine dS (body:=bK _ _ _) rfl h [3,5,7,77,78] [3,5] [] (fun kl kh ids b s=>⟨ofL ([(8,eI s.1),(79,eI s.2)]++kl),ofH ([]++kh),b+64⟩) ?_;(conv=>whnf);refine And.intro ?_ (fun s m h=>dY ?_)
  ·refine aO ?_;conv=>whnf
   exact And.intro rfl (And.intro (aLc wkI (aLc wkI (aLc (WkR.ptr (fun _=>rfl)) (aLc (WkR.ptr (fun _=>rfl)) (aLc wkI (aLc (wkr (lsL fun _=>(aA _))) (aLc wkI aLn))))))) (aLc ⟨some _,rfl,bRc rfl (cKc wkI (cKc (wkr (lsL fun _=>(aC _))) (cKc (wkr (lsL fun _=>(lsI _ _))) (cKc (wkr (lsL fun _=>(lsI _ _))) (cKc wkI (cKc (wkr (lsL fun _=>(aA _))) cKn))))))⟩ (aLc ⟨some _,rfl,bRc rfl (cKc wkI (cKc wkI (cKc wkI (cKc wkI cKn))))⟩ aLn)))
  replace h:=bE h;rw [bK.eq_1] at h
  refine aB dCo rfl fun K hK=>?_;conv=>whnf
  refine hK _ _ _ ?_
  refine aL ?_
  refine aT fun K1 K2 hK1 hK2=>?_;conv=>whnf
  refine cLk h (fun _ h=>?_) (fun _ h=>?_)
  ·refine hK1 ?_
   refine aK ?_
   refine tHn ?_
   refine aL ?_
   refine aN ?_
   refine aB dCo rfl fun K hK=>?_;conv=>whnf
   refine cA h fun _ h=>?_;conv=>whnf
   refine nlA rfl ?_;conv=>whnf
   refine bKo rfl ?_;conv=>whnf
   refine And.intro rfl (And.intro (nle rfl) (And.intro rfl ?_));conv=>whnf
   refine hK _ _ _ ?_
   refine aB dCo rfl fun K hK=>?_;conv=>whnf
   replace h:=eW h
   refine kQ h fun _ h=>?_;conv=>whnf
   refine cLk h (fun _ h=>?_) (fun _ h=>?_)<;>(conv=>whnf)
   ·refine nlA rfl ?_;conv=>whnf
    refine bKo rfl ?_;conv=>whnf
    refine gKo rfl ?_;conv=>whnf
    refine nlA rfl ?_;conv=>whnf
    refine bKo rfl ?_;conv=>whnf
    refine gKo rfl ?_;conv=>whnf
    replace h:=bE h
    refine iE h56 h (WkL.refl _) (fun _ h=>?_);conv=>whnf
    refine hK _ _ _ ?_
    replace h:=eW h
    refine aT fun K1 K2 hK1 hK2=>?_;conv=>whnf
    refine cLk h (fun _ h=>?_) (fun _ h=>?_)
    ·refine hK1 ?_
     refine cK dCo rfl fun K hK=>?_;conv=>whnf
     refine nlA rfl ?_;conv=>whnf
     refine bKo rfl ?_;conv=>whnf
     refine gKo rfl ?_;conv=>whnf
     refine hK _ _ _ ?_
     refine iBn ?_
     refine tHn ?_
     refine cK dCo rfl fun K hK=>?_;conv=>whnf
     refine hK _ _ _ ?_
     refine tHn ?_
     replace h:=bY h
     refine ⟨_,h,?_⟩
     refine aO ?_;conv=>whnf
     exact And.intro rfl (And.intro (aLc wkI (aLc wkI (aLc (WkR.ptr (fun _=>rfl)) (aLc (WkR.ptr (fun _=>rfl)) (aLc wkI (aLc (wkr (lsL fun _=>(aA _))) (aLc wkI aLn))))))) (aLc ⟨some _,rfl,bRc rfl (cKc wkI (cKc (wkr (lsL fun _=>(aC _))) (cKc (wkr (lsL fun _=>(lsI _ _))) (cKc (wkr (lsL fun _=>(lsI _ _))) (cKc wkI (cKc (wkr (lsL fun _=>(aA _))) cKn))))))⟩ (aLc ⟨some _,rfl,bRc rfl (cKc wkI (cKc wkI (cKc wkI (cKc wkI cKn))))⟩ aLn)))
    refine hK2 ?_
    refine aK ?_
    refine iBn ?_
    refine tHn ?_
    refine cK dCo rfl fun K hK=>?_;conv=>whnf
    refine hK _ _ _ ?_
    refine tHn ?_
    replace h:=bY h
    refine ⟨_,h,?_⟩
    refine aO ?_;conv=>whnf
    exact And.intro rfl (And.intro (aLc wkI (aLc wkI (aLc (WkR.ptr (fun _=>rfl)) (aLc (WkR.ptr (fun _=>rfl)) (aLc wkI (aLc (wkr (lsL fun _=>(aA _))) (aLc wkI aLn))))))) (aLc ⟨some _,rfl,bRc rfl (cKc wkI (cKc (wkr (lsL fun _=>(aC _))) (cKc (wkr (lsL fun _=>(lsI _ _))) (cKc (wkr (lsL fun _=>(lsI _ _))) (cKc wkI (cKc (wkr (lsL fun _=>(aA _))) cKn))))))⟩ (aLc ⟨some _,rfl,bRc rfl (cKc wkI (cKc wkI (cKc wkI (cKc wkI cKn))))⟩ aLn)))
   refine hK _ _ _ ?_
   replace h:=eW h
   refine aT fun K1 K2 hK1 hK2=>?_;conv=>whnf
   refine hK2 ?_
   replace h:=uF h
   refine aK ?_
   refine iBn ?_
   refine tHn ?_
   refine cK dCo rfl fun K hK=>?_;conv=>whnf
   refine hK _ _ _ ?_
   refine tHn ?_
   replace h:=bY h
   refine ⟨_,h,?_⟩
   refine aO ?_;conv=>whnf
   exact And.intro rfl (And.intro (aLc wkI (aLc wkI (aLc (WkR.ptr (fun _=>rfl)) (aLc (WkR.ptr (fun _=>rfl)) (aLc wkI (aLc (wkr (lsL fun _=>(aA _))) (aLc wkI aLn))))))) (aLc ⟨some _,rfl,bRc rfl (cKc wkI (cKc (wkr (lsL fun _=>(aC _))) (cKc (wkr (lsL fun _=>(lsI _ _))) (cKc (wkr (lsL fun _=>(lsI _ _))) (cKc wkI (cKc (wkr (lsL fun _=>(aA _))) cKn))))))⟩ (aLc ⟨some _,rfl,bRc rfl (cKc wkI (cKc wkI (cKc wkI (cKc wkI cKn))))⟩ aLn)))
  refine hK2 ?_
  refine bN ?_
  refine aW ?_
  refine aW ?_
  refine aV ?_
  replace h:=eA h
  replace h:=dZ h
  refine tHn ?_
  refine aB dCo rfl fun K hK=>?_;conv=>whnf
  refine nlA rfl ?_;conv=>whnf
  refine bKo rfl ?_;conv=>whnf
  refine gKo rfl ?_;conv=>whnf
  refine nlA rfl ?_;conv=>whnf
  refine bKo rfl ?_;conv=>whnf
  refine gKo rfl ?_;conv=>whnf
  refine cA h fun _ h=>?_;conv=>whnf
  refine gKo rfl ?_;conv=>whnf
  refine hK _ _ _ ?_
  refine aJ ?_
  refine aM ?_
  replace h:=aI h
  refine aE dCo fun K hK=>?_;conv=>whnf
  refine hK _ ?_
  cases h
  exact Wk.refl _
 refine hK2 ?_
 refine aK ?_
 refine tHn ?_
 refine aB dCo rfl fun K hK=>?_;conv=>whnf
 refine nlA rfl ?_;conv=>whnf
 refine bKo rfl ?_;conv=>whnf
 refine nlA rfl ?_;conv=>whnf
 replace h:=bE h
 refine iW h53 h (WkL.refl _) (fun _ h=>?_);conv=>whnf
 refine bKo rfl ?_;conv=>whnf
 refine And.intro rfl (And.intro (nle rfl) (And.intro rfl ?_));conv=>whnf
 refine hK _ _ _ ?_
 refine aL ?_
 refine aB dCo rfl fun K hK=>?_;conv=>whnf
 refine hK _ _ _ ?_
 refine aT fun K1 K2 hK1 hK2=>?_;conv=>whnf
 refine cLk h (fun _ h=>?_) (fun _ h=>?_)
 ·refine hK1 ?_
  refine aB dCo rfl fun K hK=>?_;conv=>whnf
  refine hK _ _ _ ?_
  refine aJ ?_
  refine aM ?_
  replace h:=aI h
  refine aE dCo fun K hK=>?_;conv=>whnf
  refine hK _ ?_
  cases h
  exact Wk.refl _
 refine hK2 ?_
 refine aK ?_
 refine tHn ?_
 refine aB dCo rfl fun K hK=>?_;conv=>whnf
 refine nlA rfl ?_;conv=>whnf
 refine bKo rfl ?_;conv=>whnf
 refine nlA rfl ?_;conv=>whnf
 refine nlA rfl ?_;conv=>whnf
 refine bKo rfl ?_;conv=>whnf
 refine gKo rfl ?_;conv=>whnf
 replace h:=bE h
 refine oD h57 h (WkL.refl _) (fun _ h=>?_);conv=>whnf
 refine bKo rfl ?_;conv=>whnf
 refine And.intro rfl (And.intro (nle rfl) (And.intro rfl ?_));conv=>whnf
 refine hK _ _ _ ?_
 refine iZ dCo cJ rfl (by kernel_rfl) fun K hK=>?_;conv=>whnf
 replace h:=eW h
 refine cLk h (fun _ h=>?_) (fun _ h=>?_)<;>(conv=>whnf)
 ·refine nlA rfl ?_;conv=>whnf
  refine bKo rfl ?_;conv=>whnf
  refine gKo rfl ?_;conv=>whnf
  replace h:=bE h
  refine iA h58 h (WkL.refl _) (fun _ h=>?_);conv=>whnf
  refine nlA rfl ?_;conv=>whnf
  refine bKo rfl ?_;conv=>whnf
  refine gKo rfl ?_;conv=>whnf
  refine cLk h (fun _ h=>?_) (fun _ h=>?_)<;>(conv=>whnf)
  ·refine nlA rfl ?_;conv=>whnf
   refine bKo rfl ?_;conv=>whnf
   refine nlA rfl ?_;conv=>whnf
   refine nlA rfl ?_;conv=>whnf
   refine bKo rfl ?_;conv=>whnf
   refine gKo rfl ?_;conv=>whnf
   replace h:=bE h
   refine lU h59 h (aF (Wk.refl _) (aF (Wk.refl _) (aF (fL (aF (Wk.refl _) (aF jI (aF (Wk.refl _) bO)))) bO))) (fun _ h=>?_);conv=>whnf
   refine hK _ _ _ ?_
   refine aJ ?_
   replace h:=aI h
   refine aE dCo fun K hK=>?_;conv=>whnf
   refine hK _ ?_
   cases h
   exact Wk.refl _
  refine hK _ _ _ ?_
  refine aJ ?_
  replace h:=aI h
  refine aE dCo fun K hK=>?_;conv=>whnf
  refine hK _ ?_
  cases h
  exact Wk.refl _
 refine hK _ _ _ ?_
 refine aJ ?_
 replace h:=aI h
 refine aE dCo fun K hK=>?_;conv=>whnf
 refine hK _ ?_
 cases h
 exact Wk.refl _
theorem eF {T:Tbl} (hT:T 25=aH eK) {args:List AV} {hp:bF} {id:Nat} {k:AV→Prop} {a0:aD} {a1:Int} {a2:bS} {Φ:Bool→Prop} (h:W (bC a0 a1 a2) Φ) (hw:WkL args [bD a0,eI a1,fE a2]) (hk:∀ y,Φ y→k (eB y)):bZ T 25 args hp id k:=by
 obtain ⟨y,e,hy⟩:=dL h
 exact aS hT ⟨a0,a1,a2,rfl,kS e rfl⟩ (by exact (lsB _)) hw (hk y hy)
def eQ (a0:aD) (a1:Int) (a2:Int):Option (bS×Bool):=bd (eP a0 a2) fun y1=>
  cn (decide (y1.2.2≥0)) (some ((⟨a1,y1.2.2,0,0⟩:bS),true)) (bd (jG y1.1 y1.2.1 a0.Faults) fun y2=>let v3:=(decide (y2.margin_f<0));
  some ((⟨a1,(-1),y2.failed_f,y2.nodes_f⟩:bS),v3))
def jX:List AV→AV→Prop:=fun args r=>∃ a0 a1 a2,args=[bD a0,eI a1,eI a2]∧W (eQ a0 a1 a2) fun y=>r=(.tup [fE y.1,eB y.2])
theorem aAx {T:Tbl} (hT:TOk Tryz.prog T) (hpf:cI T PF) (h53:T 53=aH kL) (h54:T 54=aH lE):FOk Tryz.prog 44 (aH jX):=by
 refine bB hT hpf Tryz.func44 rfl Tryz.ntmps44 Tryz.results44 (by decide) ?_
 rintro args r ⟨a0,a1,a2,rfl,h⟩
 refine ⟨nle rfl,?_,?_⟩
 ·exact (lsC (aR _) (lsC (lsI _ _) (lsC (lsI _ _) lsN)))
 rw [eQ.eq_1] at h
 refine aB dCo rfl fun K hK=>?_;conv=>whnf
 refine hK _ _ _ ?_
 refine aB dCo rfl fun K hK=>?_;conv=>whnf
 refine nlA rfl ?_;conv=>whnf
 refine bKo rfl ?_;conv=>whnf
 refine nlA rfl ?_;conv=>whnf
 replace h:=bE h
 refine iW h53 h (WkL.refl _) (fun _ h=>?_);conv=>whnf
 refine bKo rfl ?_;conv=>whnf
 refine And.intro rfl (And.intro (nle rfl) (And.intro rfl ?_));conv=>whnf
 refine hK _ _ _ ?_
 refine aL ?_
 refine aB dCo rfl fun K hK=>?_;conv=>whnf
 refine hK _ _ _ ?_
 refine aT fun K1 K2 hK1 hK2=>?_;conv=>whnf
 refine cLk h (fun _ h=>?_) (fun _ h=>?_)
 ·refine hK1 ?_
  refine aB dCo rfl fun K hK=>?_;conv=>whnf
  refine bKo rfl ?_;conv=>whnf
  refine And.intro rfl (And.intro (nle rfl) (And.intro rfl ?_));conv=>whnf
  refine hK _ _ _ ?_
  refine aJ ?_
  refine aM ?_
  replace h:=aI h
  refine aE dCo fun K hK=>?_;conv=>whnf
  refine nlA rfl ?_;conv=>whnf
  refine bKo rfl ?_;conv=>whnf
  refine nlA rfl ?_;conv=>whnf
  refine hK _ ?_
  cases h
  exact Wk.refl _
 refine hK2 ?_
 refine aK ?_
 refine tHn ?_
 refine aB dCo rfl fun K hK=>?_;conv=>whnf
 refine nlA rfl ?_;conv=>whnf
 refine bKo rfl ?_;conv=>whnf
 refine nlA rfl ?_;conv=>whnf
 refine nlA rfl ?_;conv=>whnf
 refine bKo rfl ?_;conv=>whnf
 refine gKo rfl ?_;conv=>whnf
 replace h:=bE h
 refine tV h54 h (WkL.refl _) (fun _ h=>?_);conv=>whnf
 refine bKo rfl ?_;conv=>whnf
 refine And.intro rfl (And.intro (nle rfl) (And.intro rfl ?_));conv=>whnf
 refine hK _ _ _ ?_
 refine aH8 (.step 0 (.step 1 (.step 2 (.step 3 (.step 4 (.step 5 (.step 6 (.two 7 9 (.step 9 (.step 8 (.step 10 (.nil)))) (.step 7 (.step 8 (.step 10 (.nil)))))))))))) dCo cJ rfl (by kernel_rfl) fun K hK=>?_;conv=>whnf
 refine nlA rfl ?_;conv=>whnf
 refine bKo rfl ?_;conv=>whnf
 refine gKo rfl ?_;conv=>whnf
 refine nlA rfl ?_;conv=>whnf
 refine bKo rfl ?_;conv=>whnf
 refine gKo rfl ?_;conv=>whnf
 refine And.intro ?_ ?_<;>(conv=>whnf)
 ·refine nlA rfl ?_;conv=>whnf
  refine bKo rfl ?_;conv=>whnf
  refine gKo rfl ?_;conv=>whnf
  refine bKo rfl ?_;conv=>whnf
  refine And.intro rfl (And.intro (nle rfl) (And.intro rfl ?_));conv=>whnf
  refine hK _ _ _ ?_
  refine aJ ?_
  replace h:=aI h
  refine aE dCo fun K hK=>?_;conv=>whnf
  refine nlA rfl ?_;conv=>whnf
  refine bKo rfl ?_;conv=>whnf
  refine nlA rfl ?_;conv=>whnf
  refine hK _ ?_
  cases h
  exact Wk.refl _
 refine bKo rfl ?_;conv=>whnf
 refine And.intro rfl (And.intro (nle rfl) (And.intro rfl ?_));conv=>whnf
 refine nlA rfl ?_;conv=>whnf
 refine bKo rfl ?_;conv=>whnf
 refine gKo rfl ?_;conv=>whnf
 refine hK _ _ _ ?_
 refine aJ ?_
 replace h:=aI h
 refine aE dCo fun K hK=>?_;conv=>whnf
 refine nlA rfl ?_;conv=>whnf
 refine bKo rfl ?_;conv=>whnf
 refine nlA rfl ?_;conv=>whnf
 refine hK _ ?_
 cases h
 exact Wk.refl _
theorem tI {T:Tbl} (hT:T 44=aH jX) {args:List AV} {hp:bF} {id:Nat} {k:AV→Prop} {a0:aD} {a1:Int} {a2:Int} {Φ:bS×Bool→Prop} (h:W (eQ a0 a1 a2) Φ) (hw:WkL args [bD a0,eI a1,eI a2]) (hk:∀ y,Φ y→k (.tup [fE y.1,eB y.2])):bZ T 44 args hp id k:=by
 obtain ⟨y,e,hy⟩:=dL h
 exact aS hT ⟨a0,a1,a2,rfl,kS e rfl⟩ (by exact lH (lsC (aQ _) (lsC (lsB _) lsN))) hw (hk y hy)
def fT (a0:aD):Option (bS×Bool):=bd (dF a0) fun y1=>
  cn (!y1) (some ((⟨0,0,0,0⟩:bS),false)) (bd (eQ a0 (-1) 0) fun y2=>cn (!y2.2) (some ((⟨0,0,0,0⟩:bS),false)) (some (y2.1,true)))
def mE:List AV→AV→Prop:=fun args r=>∃ a0,args=[bD a0]∧W (fT a0) fun y=>r=(.tup [fE y.1,eB y.2])
theorem aB6 {T:Tbl} (hT:TOk Tryz.prog T) (hpf:cI T PF) (h8:T 8=aH gY) (h44:T 44=aH jX):FOk Tryz.prog 13 (aH mE):=by
 refine bB hT hpf Tryz.func13 rfl Tryz.ntmps13 Tryz.results13 (by decide) ?_
 rintro args r ⟨a0,rfl,h⟩
 refine ⟨nle rfl,?_,?_⟩
 ·exact (lsC (aR _) lsN)
 rw [fT.eq_1] at h
 refine aB dCo rfl fun K hK=>?_;conv=>whnf
 refine hK _ _ _ ?_
 refine aL ?_
 refine aB dCo rfl fun K hK=>?_;conv=>whnf
 refine nlA rfl ?_;conv=>whnf
 refine bKo rfl ?_;conv=>whnf
 refine nlA rfl ?_;conv=>whnf
 replace h:=bE h
 refine jY h8 h (WkL.refl _) (fun _ h=>?_);conv=>whnf
 refine hK _ _ _ ?_
 refine aT fun K1 K2 hK1 hK2=>?_;conv=>whnf
 refine cLk h (fun _ h=>?_) (fun _ h=>?_)
 ·refine hK1 ?_
  refine aB dCo rfl fun K hK=>?_;conv=>whnf
  refine bKo rfl ?_;conv=>whnf
  refine And.intro rfl (And.intro (nle rfl) (And.intro rfl ?_));conv=>whnf
  refine hK _ _ _ ?_
  refine aJ ?_
  refine aM ?_
  replace h:=aI h
  refine aE dCo fun K hK=>?_;conv=>whnf
  refine nlA rfl ?_;conv=>whnf
  refine bKo rfl ?_;conv=>whnf
  refine nlA rfl ?_;conv=>whnf
  refine hK _ ?_
  cases h
  exact Wk.refl _
 refine hK2 ?_
 refine aK ?_
 refine tHn ?_
 refine aB dCo rfl fun K hK=>?_;conv=>whnf
 refine nlA rfl ?_;conv=>whnf
 refine bKo rfl ?_;conv=>whnf
 refine nlA rfl ?_;conv=>whnf
 replace h:=bE h
 refine tI h44 h (WkL.refl _) (fun _ h=>?_);conv=>whnf
 refine bKo rfl ?_;conv=>whnf
 refine And.intro rfl (And.intro (nle rfl) (And.intro rfl ?_));conv=>whnf
 refine hK _ _ _ ?_
 refine aL ?_
 refine aB dCo rfl fun K hK=>?_;conv=>whnf
 refine hK _ _ _ ?_
 refine aT fun K1 K2 hK1 hK2=>?_;conv=>whnf
 refine cLk h (fun _ h=>?_) (fun _ h=>?_)
 ·refine hK1 ?_
  refine aB dCo rfl fun K hK=>?_;conv=>whnf
  refine bKo rfl ?_;conv=>whnf
  refine And.intro rfl (And.intro (nle rfl) (And.intro rfl ?_));conv=>whnf
  refine hK _ _ _ ?_
  refine aJ ?_
  refine aM ?_
  replace h:=aI h
  refine aE dCo fun K hK=>?_;conv=>whnf
  refine nlA rfl ?_;conv=>whnf
  refine bKo rfl ?_;conv=>whnf
  refine nlA rfl ?_;conv=>whnf
  refine hK _ ?_
  cases h
  exact Wk.refl _
 refine hK2 ?_
 refine aK ?_
 refine tHn ?_
 refine aB dCo rfl fun K hK=>?_;conv=>whnf
 refine nlA rfl ?_;conv=>whnf
 refine bKo rfl ?_;conv=>whnf
 refine nlA rfl ?_;conv=>whnf
 refine bKo rfl ?_;conv=>whnf
 refine And.intro rfl (And.intro (nle rfl) (And.intro rfl ?_));conv=>whnf
 refine hK _ _ _ ?_
 refine aJ ?_
 replace h:=aI h
 refine aE dCo fun K hK=>?_;conv=>whnf
 refine nlA rfl ?_;conv=>whnf
 refine bKo rfl ?_;conv=>whnf
 refine nlA rfl ?_;conv=>whnf
 refine hK _ ?_
 cases h
 exact Wk.refl _
theorem qU {T:Tbl} (hT:T 13=aH mE) {args:List AV} {hp:bF} {id:Nat} {k:AV→Prop} {a0:aD} {Φ:bS×Bool→Prop} (h:W (fT a0) Φ) (hw:WkL args [bD a0]) (hk:∀ y,Φ y→k (.tup [fE y.1,eB y.2])):bZ T 13 args hp id k:=by
 obtain ⟨y,e,hy⟩:=dL h
 exact aS hT ⟨a0,rfl,kS e rfl⟩ (by exact lH (lsC (aQ _) (lsC (lsB _) lsN))) hw (hk y hy)
  def jT (a0:aD) (s2:Int×bQ):Option (Ct (Int×bQ) (bQ×Int)):=cn (decide (s2.1<(a0.Calls.length:Int))) (gd (0≤s2.1) (bd (eQ a0 s2.1 (bor .i64 s2.2.Admitted (aAw .i64 1 s2.1))) fun y3=>
  jn (fun p4:bQ=>some (.nx ((wr (s2.1+1)),p4))) fun k5=>cn y3.2 (lt ([y3.1]:List bS) fun l6=>ap s2.2.Denied l6 fun l7=>
  k5 (⟨s2.2.Admitted,l7⟩:bQ)) (gd (0≤s2.1) (k5 (⟨(bor .i64 s2.2.Admitted (aAw .i64 1 s2.1)),s2.2.Denied⟩:bQ))))) (some (.bk (s2.1,s2.2)))
def dP (a0:aD):Option (bQ×Int):=bd (cS a0 0) fun y1=>
  cn (!y1) (some ((⟨0,[]⟩:bQ),330)) (bd (lp (jT a0) FU (0,(⟨0,[]⟩:bQ))) fun c8=>smK c8 (fun s9=>some (s9.2,0)) (fun r10=>some r10))
def kX:List AV→AV→Prop:=fun args r=>∃ a0,args=[bD a0]∧W (dP a0) fun y=>r=(.tup [nI y.1,eI y.2])
theorem aAQ {T:Tbl} (hT:TOk Tryz.prog T) (hpf:cI T PF) (h23:T 23=aH iR) (h44:T 44=aH jX):FOk Tryz.prog 10 (aH kX):=by
 refine bB hT hpf Tryz.func10 rfl Tryz.ntmps10 Tryz.results10 (by decide) ?_
 rintro args r ⟨a0,rfl,h⟩
 refine ⟨nle rfl,?_,?_⟩
 ·exact (lsC (aR _) lsN)
 rw [dP.eq_1] at h
 refine aB dCo rfl fun K hK=>?_;conv=>whnf
 refine hK _ _ _ ?_
 refine aL ?_
 refine aB dCo rfl fun K hK=>?_;conv=>whnf
 refine nlA rfl ?_;conv=>whnf
 refine bKo rfl ?_;conv=>whnf
 refine nlA rfl ?_;conv=>whnf
 replace h:=bE h
 refine oA h23 h (WkL.refl _) (fun _ h=>?_);conv=>whnf
 refine hK _ _ _ ?_
 refine aT fun K1 K2 hK1 hK2=>?_;conv=>whnf
 refine cLk h (fun _ h=>?_) (fun _ h=>?_)
 ·refine hK1 ?_
  refine aB dCo rfl fun K hK=>?_;conv=>whnf
  refine bKo rfl ?_;conv=>whnf
  refine And.intro rfl (And.intro (nle rfl) (And.intro rfl ?_));conv=>whnf
  refine hK _ _ _ ?_
  refine aJ ?_
  refine aM ?_
  replace h:=aI h
  refine aE dCo fun K hK=>?_;conv=>whnf
  refine nlA rfl ?_;conv=>whnf
  refine bKo rfl ?_;conv=>whnf
  refine nlA rfl ?_;conv=>whnf
  refine hK _ ?_
  cases h
  exact pV (aF (fL (aF (Wk.refl _) (aF jI bO))) (aF (Wk.refl _) bO))
 refine hK2 ?_
 refine aK ?_
 refine tHn ?_
 refine aB dCo rfl fun K hK=>?_;conv=>whnf
 refine hK _ _ _ ?_
 refine aL ?_
 refine aB dCo rfl fun K hK=>?_;conv=>whnf
 refine nlA rfl ?_;conv=>whnf
 refine bKo rfl ?_;conv=>whnf
 refine gKo rfl ?_;conv=>whnf
 refine hK _ _ _ ?_
 refine aN ?_
 replace h:=bE h
 refine dS (body:=jT _) rfl h [1,2,4,14] [1,2] [4] (fun kl kh ids b s=>⟨ofL ([(15,eI s.1)]++kl),ofH ([(aEe ids 0,.cells [eI s.2.Admitted,.lst (.tok (b+0)) 4 s.2.Denied.length (fun j=>fE (s.2.Denied.getD j default))]),(b+0,.cells [])]++kh),b+128⟩) ?_;(conv=>whnf);refine And.intro ?_ (fun s m h=>dY ?_)
 ·refine aO ?_;conv=>whnf
  exact And.intro rfl (And.intro (aLc wkI (aLc (WkR.ptr (fun _=>rfl)) (aLc (WkR.ptr (fun _=>rfl)) (aLc (WkR.ptr (fun _=>rfl)) (aLc wkI aLn))))) (aLc ⟨some _,rfl,bRc rfl (cKc wkI (cKc (WkR.nil (fun _=>rfl)) cKn))⟩ (aLc ⟨none,rfl,yM⟩ (aLc ⟨some _,rfl,bRc rfl (cKc wkI (cKc (wkr (lsL fun _=>(aC _))) (cKc (wkr (lsL fun _=>(lsI _ _))) (cKc (wkr (lsL fun _=>(lsI _ _))) (cKc wkI (cKc (wkr (lsL fun _=>(aA _))) cKn))))))⟩ (aLc ⟨some _,rfl,bRc rfl (cKc wkI (cKc (wkr aG) cKn))⟩ aLn)))))
 replace h:=bE h;rw [jT.eq_1] at h
 refine aB dCo rfl fun K hK=>?_;conv=>whnf
 refine hK _ _ _ ?_
 refine aL ?_
 refine aT fun K1 K2 hK1 hK2=>?_;conv=>whnf
 refine cLk h (fun _ h=>?_) (fun _ h=>?_)
 ·refine hK1 ?_
  refine aK ?_
  refine tHn ?_
  refine aL ?_
  refine aN ?_
  refine aB dCo rfl fun K hK=>?_;conv=>whnf
  refine hK _ _ _ ?_
  refine iZ dCo cJ rfl (by kernel_rfl) fun K hK=>?_;conv=>whnf
  refine nlA rfl ?_;conv=>whnf
  refine bKo rfl ?_;conv=>whnf
  refine nlA rfl ?_;conv=>whnf
  refine nlA rfl ?_;conv=>whnf
  refine bKo rfl ?_;conv=>whnf
  refine gKo rfl ?_;conv=>whnf
  refine kQ h fun _ h=>?_;conv=>whnf
  replace h:=bE h
  refine tI h44 h (WkL.refl _) (fun _ h=>?_);conv=>whnf
  refine bKo rfl ?_;conv=>whnf
  refine And.intro rfl (And.intro (nle rfl) (And.intro rfl ?_));conv=>whnf
  refine hK _ _ _ ?_
  refine aB dCo rfl fun K hK=>?_;conv=>whnf
  refine hK _ _ _ ?_
  replace h:=eW h
  refine aT fun K1 K2 hK1 hK2=>?_;conv=>whnf
  refine cLk h (fun _ h=>?_) (fun _ h=>?_)
  ·refine hK1 ?_
   refine cK dCo rfl fun K hK=>?_;conv=>whnf
   refine nlA rfl ?_;conv=>whnf
   refine bKo rfl ?_;conv=>whnf
   refine gKo rfl ?_;conv=>whnf
   refine nlA rfl ?_;conv=>whnf
   refine bKo rfl ?_;conv=>whnf
   refine nlA rfl ?_;conv=>whnf
   refine hZ (enc:=fE) (d:=default) dCo h rfl rfl rfl ⟨nle rfl,nle rfl,rfl⟩ rfl ⟨⟨rfl,nle rfl⟩,trivial⟩ (fun h=>?_);conv=>whnf
   refine sV (enc:=fE) (d:=default) dCo h (.inl rfl) rfl rfl rfl ⟨rfl,nle rfl,nle rfl,nle rfl,rfl⟩ (fun _=>rfl) (.inr (.inr ⟨_,_,rfl,rfl,rfl⟩)) (fun h=>?_);conv=>whnf
   refine bKo rfl ?_;conv=>whnf
   refine And.intro rfl (And.intro (nle rfl) (And.intro rfl ?_));conv=>whnf
   refine hK _ _ _ ?_
   refine iBn ?_
   refine tHn ?_
   refine cK dCo rfl fun K hK=>?_;conv=>whnf
   refine hK _ _ _ ?_
   refine tHn ?_
   replace h:=bY h
   refine ⟨_,h,?_⟩
   refine aO ?_;conv=>whnf
   exact And.intro rfl (And.intro (aLc wkI (aLc (WkR.ptr (fun _=>rfl)) (aLc (WkR.ptr (fun _=>rfl)) (aLc (WkR.ptr (fun _=>rfl)) (aLc wkI aLn))))) (aLc ⟨some _,rfl,bRc rfl (cKc wkI (cKc (WkR.tok (fun _=>rfl) rfl (fun _ _=>Wk.refl _) (fun _=>(aQ _))) cKn))⟩ (aLc ⟨some _,rfl,bRc rfl cKn⟩ (aLc ⟨some _,rfl,bRc rfl (cKc wkI (cKc (wkr (lsL fun _=>(aC _))) (cKc (wkr (lsL fun _=>(lsI _ _))) (cKc (wkr (lsL fun _=>(lsI _ _))) (cKc wkI (cKc (wkr (lsL fun _=>(aA _))) cKn))))))⟩ (aLc ⟨some _,rfl,bRc rfl (cKc wkI (cKc (wkr aG) cKn))⟩ aLn)))))
  refine hK2 ?_
  refine zU dCo cJ rfl (by kernel_rfl) fun K hK=>?_;conv=>whnf
  refine nlA rfl ?_;conv=>whnf
  refine bKo rfl ?_;conv=>whnf
  refine gKo rfl ?_;conv=>whnf
  refine kQ h fun _ h=>?_;conv=>whnf
  refine bKo rfl ?_;conv=>whnf
  refine And.intro rfl (And.intro (nle rfl) (And.intro rfl ?_));conv=>whnf
  refine hK _ _ _ ?_
  refine iBn ?_
  refine tHn ?_
  refine cK dCo rfl fun K hK=>?_;conv=>whnf
  refine hK _ _ _ ?_
  refine tHn ?_
  replace h:=bY h
  refine ⟨_,h,?_⟩
  refine aO ?_;conv=>whnf
  exact And.intro rfl (And.intro (aLc wkI (aLc (WkR.ptr (fun _=>rfl)) (aLc (WkR.ptr (fun _=>rfl)) (aLc (WkR.ptr (fun _=>rfl)) (aLc wkI aLn))))) (aLc ⟨some _,rfl,bRc rfl (cKc wkI (cKc (WkR.tok (fun _=>rfl) rfl (fun _ _=>Wk.refl _) (fun _=>(aQ _))) cKn))⟩ (aLc ⟨some _,rfl,bRc rfl cKn⟩ (aLc ⟨some _,rfl,bRc rfl (cKc wkI (cKc (wkr (lsL fun _=>(aC _))) (cKc (wkr (lsL fun _=>(lsI _ _))) (cKc (wkr (lsL fun _=>(lsI _ _))) (cKc wkI (cKc (wkr (lsL fun _=>(aA _))) cKn))))))⟩ (aLc ⟨some _,rfl,bRc rfl (cKc wkI (cKc (wkr aG) cKn))⟩ aLn)))))
 refine hK2 ?_
 refine bN ?_
 refine aW ?_
 refine aW ?_
 refine aV ?_
 replace h:=eA h
 replace h:=dZ h
 refine tHn ?_
 refine aB dCo rfl fun K hK=>?_;conv=>whnf
 refine nlA rfl ?_;conv=>whnf
 refine bKo rfl ?_;conv=>whnf
 refine nlA rfl ?_;conv=>whnf
 refine bKo rfl ?_;conv=>whnf
 refine And.intro rfl (And.intro (nle rfl) (And.intro rfl ?_));conv=>whnf
 refine hK _ _ _ ?_
 refine aJ ?_
 replace h:=aI h
 refine aE dCo fun K hK=>?_;conv=>whnf
 refine nlA rfl ?_;conv=>whnf
 refine bKo rfl ?_;conv=>whnf
 refine nlA rfl ?_;conv=>whnf
 refine hK _ ?_
 cases h
 exact pV (aF (fL (aF (Wk.refl _) (aF eD bO))) (aF (Wk.refl _) bO))
theorem mM {T:Tbl} (hT:T 10=aH kX) {args:List AV} {hp:bF} {id:Nat} {k:AV→Prop} {a0:aD} {Φ:bQ×Int→Prop} (h:W (dP a0) Φ) (hw:WkL args [bD a0]) (hk:∀ y,Φ y→k (.tup [nI y.1,eI y.2])):bZ T 10 args hp id k:=by
 obtain ⟨y,e,hy⟩:=dL h
 exact aS hT ⟨a0,rfl,kS e rfl⟩ (by exact lH (lsC (qB _) (lsC (lsI _ _) lsN))) hw (hk y hy)
  def gB (a0:aD) (a1:bQ) (s2:(List bS)×Int):Option (Ct ((List bS)×Int) Bool):=cn (decide (s2.2<(a0.Calls.length:Int))) (jn (fun p3:(List bS)=>
  some (.nx (p3,(wr (s2.2+1))))) fun k4=>gd (0≤s2.2) (let v5:=((zF .i64 (zD .i64 a1.Admitted s2.2) 1)==1);cn v5 (k4 s2.1) (let v6:=((s2.1.length:Int)==0);
  jn (fun p7:Bool=>cn p7 (some (.rt false)) (slc s2.1 1 (s2.1.length:Int) fun l14=>k4 l14)) fun k8=>cn v6 (k8 v6) (ix s2.1 default 0 fun e9=>jn (fun p10:Bool=>
  k8 p10) fun k11=>cn (e9.Call != s2.2) (k11 (e9.Call != s2.2)) (gd (0≤s2.2) (ix s2.1 default 0 fun e12=>
  bd (bC a0 (zF .i64 a1.Admitted (wr ((aAw .i64 1 s2.2)-1))) e12) fun y13=>k11 (!y13))))))) (some (.bk (s2.1,s2.2)))
def eN (a0:aD) (a1:bQ):Option Bool:=bd (cS a0 a1.Admitted) fun y1=>
  cn (!y1) (some false) (bd (lp (gB a0 a1) FU (a1.Denied,0)) fun c15=>smK c15 (fun s16=>let v18:=((s16.1.length:Int)==0);some v18) (fun r17=>some r17))
def lA:List AV→AV→Prop:=fun args r=>∃ a0 a1,args=[bD a0,nI a1]∧W (eN a0 a1) fun y=>r=(eB y)
theorem aAT {T:Tbl} (hT:TOk Tryz.prog T) (hpf:cI T PF) (h23:T 23=aH iR) (h25:T 25=aH eK):FOk Tryz.prog 26 (aH lA):=by
 refine bB hT hpf Tryz.func26 rfl Tryz.ntmps26 Tryz.results26 (by decide) ?_
 rintro args r ⟨a0,a1,rfl,h⟩
 refine ⟨nle rfl,?_,?_⟩
 ·exact (lsC (aR _) (lsC (qB _) lsN))
 rw [eN.eq_1] at h
 refine aB dCo rfl fun K hK=>?_;conv=>whnf
 refine hK _ _ _ ?_
 refine aLU ?_
 refine aL ?_
 refine aB dCo rfl fun K hK=>?_;conv=>whnf
 refine nlA rfl ?_;conv=>whnf
 refine bKo rfl ?_;conv=>whnf
 refine nlA rfl ?_;conv=>whnf
 refine nlA rfl ?_;conv=>whnf
 refine bKo rfl ?_;conv=>whnf
 refine gKo rfl ?_;conv=>whnf
 replace h:=bE h
 refine oA h23 h (WkL.refl _) (fun _ h=>?_);conv=>whnf
 refine hK _ _ _ ?_
 refine aT fun K1 K2 hK1 hK2=>?_;conv=>whnf
 refine cLk h (fun _ h=>?_) (fun _ h=>?_)
 ·refine hK1 ?_
  refine aB dCo rfl fun K hK=>?_;conv=>whnf
  refine hK _ _ _ ?_
  refine aJ ?_
  refine aM ?_
  refine yP ?_
  replace h:=aI h
  refine aE dCo fun K hK=>?_;conv=>whnf
  refine hK _ ?_
  cases h
  exact Wk.refl _
 refine hK2 ?_
 refine aK ?_
 refine tHn ?_
 refine aB dCo rfl fun K hK=>?_;conv=>whnf
 refine nlA rfl ?_;conv=>whnf
 refine bKo rfl ?_;conv=>whnf
 refine gKo rfl ?_;conv=>whnf
 refine hK _ _ _ ?_
 refine aL ?_
 refine aLB ?_
 refine tHn ?_
 refine aL ?_
 refine aB dCo rfl fun K hK=>?_;conv=>whnf
 refine nlA rfl ?_;conv=>whnf
 refine bKo rfl ?_;conv=>whnf
 refine gKo rfl ?_;conv=>whnf
 refine hK _ _ _ ?_
 refine aN ?_
 replace h:=bE h
 refine dS (body:=gB _ _) rfl h [2,3,16] [2,3] [] (fun kl kh ids b s=>⟨ofL ([(5,(eL 4 fE default) s.1),(17,eI s.2)]++kl),ofH ([]++kh),b+64⟩) ?_;(conv=>whnf);refine And.intro ?_ (fun s m h=>dY ?_)
 ·refine aO ?_;conv=>whnf
  exact And.intro rfl (And.intro (aLc (wkr (lsL fun _=>(aQ _))) (aLc wkI (aLc (WkR.ptr (fun _=>rfl)) (aLc (WkR.ptr (fun _=>rfl)) (aLc wkI aLn))))) (aLc ⟨some _,rfl,bRc rfl (cKc wkI (cKc (wkr (lsL fun _=>(aC _))) (cKc (wkr (lsL fun _=>(lsI _ _))) (cKc (wkr (lsL fun _=>(lsI _ _))) (cKc wkI (cKc (wkr (lsL fun _=>(aA _))) cKn))))))⟩ (aLc ⟨some _,rfl,bRc rfl (cKc wkI (cKc (wkr (lsL fun _=>(aQ _))) cKn))⟩ aLn)))
 replace h:=bE h;rw [gB.eq_1] at h
 refine aB dCo rfl fun K hK=>?_;conv=>whnf
 refine hK _ _ _ ?_
 refine aL ?_
 refine aT fun K1 K2 hK1 hK2=>?_;conv=>whnf
 refine cLk h (fun _ h=>?_) (fun _ h=>?_)
 ·refine hK1 ?_
  refine aK ?_
  refine tHn ?_
  refine aL ?_
  replace h:=eW h
  refine aN ?_
  refine aB dCo rfl fun K hK=>?_;conv=>whnf
  refine hK _ _ _ ?_
  refine aL ?_
  refine aN ?_
  refine aB dCo rfl fun K hK=>?_;conv=>whnf
  refine nlA rfl ?_;conv=>whnf
  refine bKo rfl ?_;conv=>whnf
  refine gKo rfl ?_;conv=>whnf
  refine kQ h fun _ h=>?_;conv=>whnf
  refine hK _ _ _ ?_
  refine aT fun K1 K2 hK1 hK2=>?_;conv=>whnf
  refine cLk h (fun _ h=>?_) (fun _ h=>?_)
  ·refine hK1 ?_
   refine bN ?_
   refine aJD (by decide) ?_
   refine aW ?_
   refine aV ?_
   refine tHn ?_
   refine cK dCo rfl fun K hK=>?_;conv=>whnf
   refine hK _ _ _ ?_
   refine tHn ?_
   replace h:=bY h
   refine ⟨_,h,?_⟩
   refine aO ?_;conv=>whnf
   exact And.intro rfl (And.intro (aLc (wkr (lsL fun _=>(aQ _))) (aLc wkI (aLc (WkR.ptr (fun _=>rfl)) (aLc (WkR.ptr (fun _=>rfl)) (aLc wkI aLn))))) (aLc ⟨some _,rfl,bRc rfl (cKc wkI (cKc (wkr (lsL fun _=>(aC _))) (cKc (wkr (lsL fun _=>(lsI _ _))) (cKc (wkr (lsL fun _=>(lsI _ _))) (cKc wkI (cKc (wkr (lsL fun _=>(aA _))) cKn))))))⟩ (aLc ⟨some _,rfl,bRc rfl (cKc wkI (cKc (wkr (lsL fun _=>(aQ _))) cKn))⟩ aLn)))
  refine hK2 ?_
  refine aL ?_
  refine aB dCo rfl fun K hK=>?_;conv=>whnf
  refine hK _ _ _ ?_
  replace h:=eW h
  refine aT fun K1 K2 hK1 hK2=>?_;conv=>whnf
  refine cLk h (fun _ h=>?_) (fun _ h=>?_)
  ·refine hK1 ?_
   refine aK ?_
   refine tHn ?_
   refine aT fun K1 K2 hK1 hK2=>?_;conv=>whnf
   refine cLk h (fun _ h=>?_) (fun _ h=>?_)
   ·refine hK1 ?_
    refine aB dCo rfl fun K hK=>?_;conv=>whnf
    refine hK _ _ _ ?_
    refine aJ ?_
    refine aP ?_
    refine aM ?_
    refine aP ?_
    refine aM ?_
    refine aM ?_
    refine aP ?_
    refine aM ?_
    refine yP ?_
    replace h:=iG h
    replace h:=iF h
    replace h:=aI h
    refine aE dCo fun K hK=>?_;conv=>whnf
    refine hK _ ?_
    cases h
    exact Wk.refl _
   refine hK2 ?_
   refine aK ?_
   refine iBn ?_
   refine tHn ?_
   refine cK dCo rfl fun K hK=>?_;conv=>whnf
   refine xT h (.inr ⟨_,rfl⟩) (.inl ⟨rfl,rfl⟩) (fun h=>?_);conv=>whnf
   refine hK _ _ _ ?_
   refine iBn ?_
   refine tHn ?_
   refine cK dCo rfl fun K hK=>?_;conv=>whnf
   refine hK _ _ _ ?_
   refine tHn ?_
   replace h:=bY h
   refine ⟨_,h,?_⟩
   refine aO ?_;conv=>whnf
   exact And.intro rfl (And.intro (aLc (wkr (lsL fun _=>(aQ _))) (aLc wkI (aLc (WkR.ptr (fun _=>rfl)) (aLc (WkR.ptr (fun _=>rfl)) (aLc wkI aLn))))) (aLc ⟨some _,rfl,bRc rfl (cKc wkI (cKc (wkr (lsL fun _=>(aC _))) (cKc (wkr (lsL fun _=>(lsI _ _))) (cKc (wkr (lsL fun _=>(lsI _ _))) (cKc wkI (cKc (wkr (lsL fun _=>(aA _))) cKn))))))⟩ (aLc ⟨some _,rfl,bRc rfl (cKc wkI (cKc (wkr (lsL fun _=>(aQ _))) cKn))⟩ aLn)))
  refine hK2 ?_
  refine aB dCo rfl fun K hK=>?_;conv=>whnf
  refine cA h fun _ h=>?_;conv=>whnf
  refine gKo rfl ?_;conv=>whnf
  refine hK _ _ _ ?_
  replace h:=eW h
  refine aT fun K1 K2 hK1 hK2=>?_;conv=>whnf
  refine cLk h (fun _ h=>?_) (fun _ h=>?_)
  ·refine hK1 ?_
   refine aK ?_
   refine tHn ?_
   refine aT fun K1 K2 hK1 hK2=>?_;conv=>whnf
   refine cLk h (fun _ h=>?_) (fun _ h=>?_)
   ·refine hK1 ?_
    refine aB dCo rfl fun K hK=>?_;conv=>whnf
    refine hK _ _ _ ?_
    refine aJ ?_
    refine aP ?_
    refine aM ?_
    refine aP ?_
    refine aM ?_
    refine aM ?_
    refine aP ?_
    refine aM ?_
    refine yP ?_
    replace h:=iG h
    replace h:=iF h
    replace h:=aI h
    refine aE dCo fun K hK=>?_;conv=>whnf
    refine hK _ ?_
    cases h
    exact Wk.refl _
   refine hK2 ?_
   refine aK ?_
   refine iBn ?_
   refine tHn ?_
   refine cK dCo rfl fun K hK=>?_;conv=>whnf
   refine xT h (.inr ⟨_,rfl⟩) (.inl ⟨rfl,rfl⟩) (fun h=>?_);conv=>whnf
   refine hK _ _ _ ?_
   refine iBn ?_
   refine tHn ?_
   refine cK dCo rfl fun K hK=>?_;conv=>whnf
   refine hK _ _ _ ?_
   refine tHn ?_
   replace h:=bY h
   refine ⟨_,h,?_⟩
   refine aO ?_;conv=>whnf
   exact And.intro rfl (And.intro (aLc (wkr (lsL fun _=>(aQ _))) (aLc wkI (aLc (WkR.ptr (fun _=>rfl)) (aLc (WkR.ptr (fun _=>rfl)) (aLc wkI aLn))))) (aLc ⟨some _,rfl,bRc rfl (cKc wkI (cKc (wkr (lsL fun _=>(aC _))) (cKc (wkr (lsL fun _=>(lsI _ _))) (cKc (wkr (lsL fun _=>(lsI _ _))) (cKc wkI (cKc (wkr (lsL fun _=>(aA _))) cKn))))))⟩ (aLc ⟨some _,rfl,bRc rfl (cKc wkI (cKc (wkr (lsL fun _=>(aQ _))) cKn))⟩ aLn)))
  refine hK2 ?_
  refine zU dCo cJ rfl (by kernel_rfl) fun K hK=>?_;conv=>whnf
  refine nlA rfl ?_;conv=>whnf
  refine bKo rfl ?_;conv=>whnf
  refine nlA rfl ?_;conv=>whnf
  refine nlA rfl ?_;conv=>whnf
  refine bKo rfl ?_;conv=>whnf
  refine gKo rfl ?_;conv=>whnf
  refine kQ h fun _ h=>?_;conv=>whnf
  refine cA h fun _ h=>?_;conv=>whnf
  refine nlA rfl ?_;conv=>whnf
  replace h:=bE h
  refine eF h25 h (WkL.refl _) (fun _ h=>?_);conv=>whnf
  refine hK _ _ _ ?_
  refine tHn ?_
  refine aT fun K1 K2 hK1 hK2=>?_;conv=>whnf
  refine cLk h (fun _ h=>?_) (fun _ h=>?_)
  ·refine hK1 ?_
   refine aB dCo rfl fun K hK=>?_;conv=>whnf
   refine hK _ _ _ ?_
   refine aJ ?_
   refine aP ?_
   refine aM ?_
   refine aP ?_
   refine aM ?_
   refine aM ?_
   refine aP ?_
   refine aM ?_
   refine yP ?_
   replace h:=iG h
   replace h:=iF h
   replace h:=aI h
   refine aE dCo fun K hK=>?_;conv=>whnf
   refine hK _ ?_
   cases h
   exact Wk.refl _
  refine hK2 ?_
  refine aK ?_
  refine iBn ?_
  refine tHn ?_
  refine cK dCo rfl fun K hK=>?_;conv=>whnf
  refine xT h (.inr ⟨_,rfl⟩) (.inl ⟨rfl,rfl⟩) (fun h=>?_);conv=>whnf
  refine hK _ _ _ ?_
  refine iBn ?_
  refine tHn ?_
  refine cK dCo rfl fun K hK=>?_;conv=>whnf
  refine hK _ _ _ ?_
  refine tHn ?_
  replace h:=bY h
  refine ⟨_,h,?_⟩
  refine aO ?_;conv=>whnf
  exact And.intro rfl (And.intro (aLc (wkr (lsL fun _=>(aQ _))) (aLc wkI (aLc (WkR.ptr (fun _=>rfl)) (aLc (WkR.ptr (fun _=>rfl)) (aLc wkI aLn))))) (aLc ⟨some _,rfl,bRc rfl (cKc wkI (cKc (wkr (lsL fun _=>(aC _))) (cKc (wkr (lsL fun _=>(lsI _ _))) (cKc (wkr (lsL fun _=>(lsI _ _))) (cKc wkI (cKc (wkr (lsL fun _=>(aA _))) cKn))))))⟩ (aLc ⟨some _,rfl,bRc rfl (cKc wkI (cKc (wkr (lsL fun _=>(aQ _))) cKn))⟩ aLn)))
 refine hK2 ?_
 refine bN ?_
 refine aW ?_
 refine aW ?_
 refine aV ?_
 replace h:=eA h
 replace h:=dZ h
 refine tHn ?_
 refine aB dCo rfl fun K hK=>?_;conv=>whnf
 refine hK _ _ _ ?_
 refine aJ ?_
 refine yP ?_
 replace h:=aI h
 refine aE dCo fun K hK=>?_;conv=>whnf
 refine hK _ ?_
 cases h
 exact Wk.refl _
theorem mN {T:Tbl} (hT:T 26=aH lA) {args:List AV} {hp:bF} {id:Nat} {k:AV→Prop} {a0:aD} {a1:bQ} {Φ:Bool→Prop} (h:W (eN a0 a1) Φ) (hw:WkL args [bD a0,nI a1]) (hk:∀ y,Φ y→k (eB y)):bZ T 26 args hp id k:=by
 obtain ⟨y,e,hy⟩:=dL h
 exact aS hT ⟨a0,a1,rfl,kS e rfl⟩ (by exact (lsB _)) hw (hk y hy)
def mU:Option aD:=lt ([(⟨0,1,5⟩:dE),(⟨0,2,4⟩:dE),(⟨1,2,6⟩:dE),(⟨2,1,6⟩:dE)]:List dE) fun l1=>
  lt ([3,0,0]:List Int) fun l2=>lt ([0,10,10]:List Int) fun l3=>lt ([0]:List Int) fun l4=>lt ([1]:List Int) fun l5=>lt ([0]:List Int) fun l6=>
  lt ([(⟨l4,1⟩:bI),(⟨l5,1⟩:bI),(⟨l6,2⟩:bI)]:List bI) fun l7=>some (⟨(⟨3,l1⟩:bG),l2,l3,1,l7⟩:aD)
def nO (y:aD) (b:Nat):AV:=.agg [eI y.Net.N,(eL 3 bM default) y.Net.Edges,(eL 1 eI default) y.Urgent,(eL 1 eI default) y.Centres,eI y.Faults,.so b 0 y.Calls.length 2]
def iV (y:aD):List AB:=[.cells (flE (ceE bA) y.Calls)]
def kV:List AV→aD→Prop:=fun args y =>  args=[]∧mU  = some y
theorem aA6 {T:Tbl} (hT:TOk Tryz.prog T) (hpf:cI T PF):FOk Tryz.prog 27 (aKT nO iV kV):=by
 refine aJn hT hpf Tryz.func27 rfl Tryz.ntmps27 Tryz.results27 (by decide) (fun y=>⟨by simp [iV],by simp [iV,aGv]⟩) ?_
 rintro args y ⟨rfl,hF⟩
 refine ⟨nle rfl,lsN,fun base=>?_⟩
 have h:W (mU ) (fun z=>z=y):=kS hF rfl
 rw [mU.eq_1] at h
 refine aB dCo rfl fun K hK=>?_;conv=>whnf
 refine hK _ _ _ ?_
 refine aB dCo rfl fun K hK=>?_;conv=>whnf
 refine hZ (enc:=bM) (d:=default) dCo h rfl rfl rfl ⟨nle rfl,nle rfl,rfl⟩ rfl ⟨⟨rfl,nle rfl⟩,⟨⟨rfl,nle rfl⟩,⟨⟨rfl,nle rfl⟩,⟨⟨rfl,nle rfl⟩,trivial⟩⟩⟩⟩ (fun h=>?_);conv=>whnf
 refine hZ (enc:=eI) (d:=default) dCo h rfl rfl rfl ⟨nle rfl,nle rfl,rfl⟩ rfl ⟨⟨rfl,rfl,rfl⟩,⟨⟨rfl,rfl,rfl⟩,⟨⟨rfl,rfl,rfl⟩,trivial⟩⟩⟩ (fun h=>?_);conv=>whnf
 refine hZ (enc:=eI) (d:=default) dCo h rfl rfl rfl ⟨nle rfl,nle rfl,rfl⟩ rfl ⟨⟨rfl,rfl,rfl⟩,⟨⟨rfl,rfl,rfl⟩,⟨⟨rfl,rfl,rfl⟩,trivial⟩⟩⟩ (fun h=>?_);conv=>whnf
 refine bKo rfl ?_;conv=>whnf
 refine And.intro rfl (And.intro (nle rfl) (And.intro rfl ?_));conv=>whnf
 refine hK _ _ _ ?_
 refine aB dCo rfl fun K hK=>?_;conv=>whnf
 refine hZ (enc:=eI) (d:=default) dCo h rfl rfl rfl ⟨nle rfl,nle rfl,rfl⟩ rfl ⟨⟨rfl,rfl,rfl⟩,trivial⟩ (fun h=>?_);conv=>whnf
 refine hZ (enc:=eI) (d:=default) dCo h rfl rfl rfl ⟨nle rfl,nle rfl,rfl⟩ rfl ⟨⟨rfl,rfl,rfl⟩,trivial⟩ (fun h=>?_);conv=>whnf
 refine hZ (enc:=eI) (d:=default) dCo h rfl rfl rfl ⟨nle rfl,nle rfl,rfl⟩ rfl ⟨⟨rfl,rfl,rfl⟩,trivial⟩ (fun h=>?_);conv=>whnf
 refine aQp (enc:=bA) dCo h rfl rfl rfl ⟨nle rfl,nle rfl,rfl⟩ rfl (aF eD (aF (Wk.refl _) (aF eD (aF (Wk.refl _) (aF eD (aF (Wk.refl _) bO)))))) (fun h=>?_);conv=>whnf
 refine bKo rfl ?_;conv=>whnf
 refine And.intro rfl (And.intro (nle rfl) (And.intro rfl ?_));conv=>whnf
 refine hK _ _ _ ?_
 refine aB dCo rfl fun K hK=>?_;conv=>whnf
 refine nlA rfl ?_;conv=>whnf
 refine bKo rfl ?_;conv=>whnf
 refine nlA rfl ?_;conv=>whnf
 refine bKo rfl ?_;conv=>whnf
 refine And.intro rfl (And.intro (nle rfl) (And.intro rfl ?_));conv=>whnf
 refine hK _ _ _ ?_
 refine aJ ?_
 replace h:=aI h
 refine aKs dCo fun K hK=>?_;conv=>whnf
 refine nlA rfl ?_;conv=>whnf
 refine bKo rfl ?_;conv=>whnf
 refine nlA rfl ?_;conv=>whnf
 refine hK _ ?_
 cases h
 refine ⟨rfl,rfl,rfl,(aIS (oX (rU (Wk.refl _) (lsI _ _)) (oX (rU eD (lsL fun _=>(aC _))) (oX (rU eD (lsL fun _=>(lsI _ _))) (oX (rU eD (lsL fun _=>(lsI _ _))) (oX (rU (Wk.refl _) (lsI _ _)) (oX (aCn (aI5 (k:=0) rfl) rfl) aGz))))))),fun k n x h1 h2=>?_⟩
 exact match k,n,x,h1,h2 with | 0,n,x,h1,h2=>by cases h1;cases h2;exact ⟨_,rfl,aDb (fun _=>(lsC (lsL fun _=>(lsI _ _)) (lsC (lsI _ _) lsN))) _⟩ | k+1,n,x,h1,h2=>by cases h1
def vE (l2:List Int) (l3:List Int) (y1:aD) (s4:Int):Option (Ct Int Bool):=cn (decide (s4<(l2.length:Int))) (ix l2 default s4 fun e5=>
  bd (cW (⟨(⟨y1.Net.N,y1.Net.Edges⟩:bG),y1.Urgent,y1.Centres,y1.Faults,y1.Calls⟩:aD) e5) fun y6=>jn (fun p7:Bool=>
  cn p7 (some (.rt false)) (some (.nx (wr (s4+1))))) fun k8=>cn (y6.2 != 0) (k8 true) (ix l3 default s4 fun e9=>cn (y6.1 != e9) (k8 true) (ix l2 default s4 fun e10=>
  bd (cS (⟨(⟨y1.Net.N,y1.Net.Edges⟩:bG),y1.Urgent,y1.Centres,y1.Faults,y1.Calls⟩:aD) e10) fun y11=>k8 (!(y11 ==
  (decide (y6.1≥0))))))) (some (.bk s4))
def rR:Option Bool:=bd (mU) fun y1=>lt ([0,1,3,7]:List Int) fun l2=>lt ([1,1,0,(-1)]:List Int) fun l3=>
  bd (lp (vE l2 l3 y1) FU 0) fun c12=>smK c12 (fun s13=>
  bd (dV (⟨(⟨y1.Net.N,y1.Net.Edges⟩:bG),y1.Urgent,y1.Centres,y1.Faults,y1.Calls⟩:aD) 3) fun y15=>
  bd (dP (⟨(⟨y1.Net.N,y1.Net.Edges⟩:bG),y1.Urgent,y1.Centres,y1.Faults,y1.Calls⟩:aD)) fun y16=>jn (fun p17:Bool=>
  cn p17 (some false) (jn (fun p23:Bool=>bd (fT (⟨(⟨y1.Net.N,y1.Net.Edges⟩:bG),y1.Urgent,y1.Centres,y1.Faults,y1.Calls⟩:aD)) fun y31=>
  bd (mU) fun y32=>lt ([2]:List Int) fun l33=>gd ((0:Int)≤2∧2<(y32.Calls.length:Int)) (st y32.Calls (2) (⟨l33,7⟩:bI) fun l34=>
  bd (dP (⟨(⟨y32.Net.N,y32.Net.Edges⟩:bG),y32.Urgent,y32.Centres,y32.Faults,l34⟩:aD)) fun y35=>
  bd (cW (⟨(⟨y1.Net.N,y1.Net.Edges⟩:bG),y1.Urgent,y1.Centres,2,y1.Calls⟩:aD) 0) fun y36=>
  bd (fT (⟨(⟨y1.Net.N,y1.Net.Edges⟩:bG),y1.Urgent,y1.Centres,2,y1.Calls⟩:aD)) fun y37=>
  bd (dP (⟨(⟨y1.Net.N,y1.Net.Edges⟩:bG),y1.Urgent,y1.Centres,2,y1.Calls⟩:aD)) fun y38=>jn (fun p39:Bool=>some p39) fun k40=>
  cn p23 (cn (!y31.2) (cn (y35.2==0) (cn ((y35.1.Denied.length:Int)==1) (ix y35.1.Denied default 0 fun e41=>cn ((e41.Call==2)&&((e41.Edge==2)&&((e41.Failed ==
  0)&&(e41.Set==0)))) (cn (y36.2==0) (cn (y36.1==(-3)) (cn y37.2 (cn (y37.1.Call ==
  (-1)) (bd (bC (⟨(⟨y1.Net.N,y1.Net.Edges⟩:bG),y1.Urgent,y1.Centres,2,y1.Calls⟩:aD) 0 y37.1) fun y42=>cn y42 (cn (y38.2 ==
  330) (bd (dF (⟨(⟨y1.Net.N,y1.Net.Edges⟩:bG),y1.Urgent,y1.Centres,2,y1.Calls⟩:aD)) fun y43=>
  cn y43 (bd (dF (⟨(⟨0,[]⟩:bG),[],[],0,[]⟩:aD)) fun y44=>
  k40 (!y44)) (k40 false)) (k40 false)) (k40 false)) (k40 false)) (k40 false)) (k40 false)) (k40 false)) (k40 false)) (k40 false)) (k40 false)) (k40 false)) (k40 false))) fun k24=>
  bd (bC (⟨(⟨y1.Net.N,y1.Net.Edges⟩:bG),y1.Urgent,y1.Centres,y1.Faults,y1.Calls⟩:aD) 3 (⟨2,(-1),2,1⟩:bS)) fun y25=>
  cn y25 (bd (bC (⟨(⟨y1.Net.N,y1.Net.Edges⟩:bG),y1.Urgent,y1.Centres,y1.Faults,y1.Calls⟩:aD) 3 (⟨2,(-1),2,3⟩:bS)) fun y26=>
  cn (!y26) (bd (eN (⟨(⟨y1.Net.N,y1.Net.Edges⟩:bG),y1.Urgent,y1.Centres,y1.Faults,y1.Calls⟩:aD) y16.1) fun y27=>
  cn y27 (lt ([(⟨2,(-1),2,1⟩:bS)]:List bS) fun l28=>
  bd (eN (⟨(⟨y1.Net.N,y1.Net.Edges⟩:bG),y1.Urgent,y1.Centres,y1.Faults,y1.Calls⟩:aD) (⟨3,l28⟩:bQ)) fun y29=>
  cn y29 (bd (eN (⟨(⟨y1.Net.N,y1.Net.Edges⟩:bG),y1.Urgent,y1.Centres,y1.Faults,y1.Calls⟩:aD) (⟨1,[]⟩:bQ)) fun y30=>
  k24 (!y30)) (k24 false)) (k24 false)) (k24 false)) (k24 false))) fun k18=>cn (y15.2.2 != 0) (k18 true) (cn (y16.2 != 0) (k18 true) (cn (y15.1.N !=
  4) (k18 true) (cn ((y15.1.Edges.length:Int) != 7) (k18 true) (ix y15.1.Edges default 0 fun e19=>cn (e19.Capacity != 4) (k18 true) (lt ([3,0,0,(-3)]:List Int) fun l20=>
  bd (nC y15.2.1 l20) fun y21=>cn (!y21) (k18 true) (cn (y16.1.Admitted != 3) (k18 true) (cn ((y16.1.Denied.length:Int) !=
  1) (k18 true) (ix y16.1.Denied default 0 fun e22=>k18 (e22.Call != 2)))))))))) (fun r14=>some r14)
def rV:List AV→AV→Prop:=fun args r =>  args=[]∧W (rR ) fun y=>r=(eB y)
theorem aDj {T:Tbl} (hT:TOk Tryz.prog T) (hpf:cI T PF) (h8:T 8=aH gY) (h10:T 10=aH kX) (h13:T 13=aH mE) (h17:T 17=aH kK) (h19:T 19=aH jD) (h22:T 22=aH pM) (h23:T 23=aH iR) (h25:T 25=aH eK) (h26:T 26=aH lA) (h27:T 27=aKT nO iV kV):FOk Tryz.prog 4 (aH rV):=by
 refine bB hT hpf Tryz.func4 rfl Tryz.ntmps4 Tryz.results4 (by decide) ?_
 rintro args r ⟨rfl,h⟩
 refine ⟨nle rfl,?_,?_⟩
 ·exact lsN
 rw [rR.eq_1] at h
 refine aB dCo rfl fun K hK=>?_;conv=>whnf
 refine hK _ _ _ ?_
 refine aB dCo rfl fun K hK=>?_;conv=>whnf
 refine aAi h27 h (fun y e=>(⟨rfl,e⟩:kV _ _)) (WkL.refl _) (fun _ h=>?_);conv=>whnf
 refine bKo rfl ?_;conv=>whnf
 refine And.intro rfl (And.intro (nle rfl) (And.intro rfl ?_));conv=>whnf
 refine hK _ _ _ ?_
 refine aB dCo rfl fun K hK=>?_;conv=>whnf
 refine hZ (enc:=eI) (d:=default) dCo h rfl rfl rfl ⟨nle rfl,nle rfl,rfl⟩ rfl ⟨⟨rfl,rfl,rfl⟩,⟨⟨rfl,rfl,rfl⟩,⟨⟨rfl,rfl,rfl⟩,⟨⟨rfl,rfl,rfl⟩,trivial⟩⟩⟩⟩ (fun h=>?_);conv=>whnf
 refine hK _ _ _ ?_
 refine aB dCo rfl fun K hK=>?_;conv=>whnf
 refine hZ (enc:=eI) (d:=default) dCo h rfl rfl rfl ⟨nle rfl,nle rfl,rfl⟩ rfl ⟨⟨rfl,rfl,rfl⟩,⟨⟨rfl,rfl,rfl⟩,⟨⟨rfl,rfl,rfl⟩,⟨⟨rfl,rfl,rfl⟩,trivial⟩⟩⟩⟩ (fun h=>?_);conv=>whnf
 refine hK _ _ _ ?_
 refine aL ?_
 refine aB dCo rfl fun K hK=>?_;conv=>whnf
 refine hK _ _ _ ?_
 refine aN ?_
 refine cG 1 5 (enc:=bA) (e:=69) default (eV dCo rfl rfl (fun _=>rfl) (fun _=>rfl)) ?_;(conv=>whnf);refine ⟨_,_,_,(Nat.ne_of_beq_eq_false rfl),rfl,rfl,rfl,rfl,?_⟩;conv=>whnf
 replace h:=bE h
 refine dS (body:=vE _ _ _) rfl h [1,2,3] [1] [] (fun kl kh ids b s=>⟨ofL ([(4,eI s)]++kl),ofH ([]++kh),b+64⟩) ?_;(conv=>whnf);refine And.intro ?_ (fun s m h=>dY ?_)
 ·refine aO ?_;conv=>whnf
  exact And.intro rfl (And.intro (aLc wkI (aLc (WkR.ptr (fun _=>rfl)) (aLc (wkr (aX fun _=>(lsI _ _))) (aLc (wkr (aX fun _=>(lsI _ _))) aLn)))) (aLc ⟨some _,rfl,bRc rfl (cKc wkI (cKc (wkr (lsL fun _=>(aC _))) (cKc (wkr (lsL fun _=>(lsI _ _))) (cKc (wkr (lsL fun _=>(lsI _ _))) (cKc wkI (cKc (wkr (lsL fun _=>(aA _))) cKn))))))⟩ aLn))
 replace h:=bE h;rw [vE.eq_1] at h
 refine aL ?_
 refine aB dCo rfl fun K hK=>?_;conv=>whnf
 refine hK _ _ _ ?_
 refine aT fun K1 K2 hK1 hK2=>?_;conv=>whnf
 refine cLk h (fun _ h=>?_) (fun _ h=>?_)
 ·refine hK1 ?_
  refine aK ?_
  refine tHn ?_
  refine aL ?_
  refine aN ?_
  refine iZ dCo cJ rfl (by kernel_rfl) fun K hK=>?_;conv=>whnf
  refine nlA rfl ?_;conv=>whnf
  refine bKo rfl ?_;conv=>whnf
  refine nlA rfl ?_;conv=>whnf
  refine cA h fun _ h=>?_;conv=>whnf
  refine gKo rfl ?_;conv=>whnf
  replace h:=bE h
  refine mK h19 h (WkL.refl _) (fun _ h=>?_);conv=>whnf
  refine hK _ _ _ ?_
  refine iZ dCo cJ rfl (by kernel_rfl) fun K hK=>?_;conv=>whnf
  replace h:=eW h
  refine cLk h (fun _ h=>?_) (fun _ h=>?_)<;>(conv=>whnf)
  ·refine hK _ _ _ ?_
   refine aT fun K1 K2 hK1 hK2=>?_;conv=>whnf
   refine hK1 ?_
   replace h:=kR h
   refine aB dCo rfl fun K hK=>?_;conv=>whnf
   refine hK _ _ _ ?_
   refine aJ ?_
   refine aP ?_
   refine aM ?_
   refine aM ?_
   refine aP ?_
   refine aM ?_
   replace h:=iG h
   replace h:=iF h
   replace h:=aI h
   refine aE dCo fun K hK=>?_;conv=>whnf
   refine hK _ ?_
   cases h
   exact Wk.refl _
  refine cA h fun _ h=>?_;conv=>whnf
  refine gKo rfl ?_;conv=>whnf
  refine cLk h (fun _ h=>?_) (fun _ h=>?_)<;>(conv=>whnf)
  ·refine hK _ _ _ ?_
   refine aT fun K1 K2 hK1 hK2=>?_;conv=>whnf
   refine hK1 ?_
   replace h:=kR h
   refine aB dCo rfl fun K hK=>?_;conv=>whnf
   refine hK _ _ _ ?_
   refine aJ ?_
   refine aP ?_
   refine aM ?_
   refine aM ?_
   refine aP ?_
   refine aM ?_
   replace h:=iG h
   replace h:=iF h
   replace h:=aI h
   refine aE dCo fun K hK=>?_;conv=>whnf
   refine hK _ ?_
   cases h
   exact Wk.refl _
  refine nlA rfl ?_;conv=>whnf
  refine bKo rfl ?_;conv=>whnf
  refine nlA rfl ?_;conv=>whnf
  refine cA h fun _ h=>?_;conv=>whnf
  refine gKo rfl ?_;conv=>whnf
  replace h:=bE h
  refine oA h23 h (WkL.refl _) (fun _ h=>?_);conv=>whnf
  refine sT (qJ dCo rfl _ _) ?_;conv=>whnf
  refine hK _ _ _ ?_
  refine aT fun K1 K2 hK1 hK2=>?_;conv=>whnf
  refine cLk h (fun _ h=>?_) (fun _ h=>?_)
  ·refine hK1 ?_
   refine aB dCo rfl fun K hK=>?_;conv=>whnf
   refine hK _ _ _ ?_
   refine aJ ?_
   refine aP ?_
   refine aM ?_
   refine aM ?_
   refine aP ?_
   refine aM ?_
   replace h:=iG h
   replace h:=iF h
   replace h:=aI h
   refine aE dCo fun K hK=>?_;conv=>whnf
   refine hK _ ?_
   cases h
   exact Wk.refl _
  refine hK2 ?_
  refine aK ?_
  refine iBn ?_
  refine tHn ?_
  refine cK dCo rfl fun K hK=>?_;conv=>whnf
  refine hK _ _ _ ?_
  refine tHn ?_
  replace h:=bY h
  refine ⟨_,h,?_⟩
  refine aO ?_;conv=>whnf
  exact And.intro rfl (And.intro (aLc wkI (aLc (WkR.ptr (fun _=>rfl)) (aLc (wkr (aX fun _=>(lsI _ _))) (aLc (wkr (aX fun _=>(lsI _ _))) aLn)))) (aLc ⟨some _,rfl,bRc rfl (cKc wkI (cKc (wkr (lsL fun _=>(aC _))) (cKc (wkr (lsL fun _=>(lsI _ _))) (cKc (wkr (lsL fun _=>(lsI _ _))) (cKc wkI (cKc (wkr (lsL fun _=>(aA _))) cKn))))))⟩ aLn))
 refine hK2 ?_
 refine bN ?_
 refine aW ?_
 refine aW ?_
 refine aV ?_
 replace h:=eA h
 replace h:=dZ h
 refine tHn ?_
 refine aDt rfl rfl [1] [(1,32)] ?_;conv=>whnf
 refine And.intro ?_ ?_
 ·refine aEn ?_;conv=>whnf
  exact And.intro rfl (And.intro (aLc (WkR.ptr (fun _=>rfl)) aLn) (aLc ⟨some _,rfl,bRc rfl (cKc wkI (cKc (wkr (lsL fun _=>(aC _))) (cKc (wkr (lsL fun _=>(lsI _ _))) (cKc (wkr (lsL fun _=>(lsI _ _))) (cKc wkI (cKc (wkr (lsL fun _=>(aA _))) cKn))))))⟩ aLn))
 refine aB dCo rfl fun K hK=>?_;conv=>whnf
 refine nlA rfl ?_;conv=>whnf
 refine bKo rfl ?_;conv=>whnf
 refine nlA rfl ?_;conv=>whnf
 replace h:=bE h
 refine qW h17 h (WkL.refl _) (fun _ h=>?_);conv=>whnf
 refine bKo rfl ?_;conv=>whnf
 refine And.intro rfl (And.intro (nle rfl) (And.intro rfl ?_));conv=>whnf
 refine hK _ _ _ ?_
 refine aB dCo rfl fun K hK=>?_;conv=>whnf
 refine nlA rfl ?_;conv=>whnf
 refine bKo rfl ?_;conv=>whnf
 refine nlA rfl ?_;conv=>whnf
 replace h:=bE h
 refine mM h10 h (WkL.refl _) (fun _ h=>?_);conv=>whnf
 refine bKo rfl ?_;conv=>whnf
 refine And.intro rfl (And.intro (nle rfl) (And.intro rfl ?_));conv=>whnf
 refine hK _ _ _ ?_
 refine aB dCo rfl fun K hK=>?_;conv=>whnf
 refine bKo rfl ?_;conv=>whnf
 refine And.intro rfl (And.intro (nle rfl) (And.intro rfl ?_));conv=>whnf
 refine hK _ _ _ ?_
 refine aB dCo rfl fun K hK=>?_;conv=>whnf
 refine nlA rfl ?_;conv=>whnf
 refine bKo rfl ?_;conv=>whnf
 refine nlA rfl ?_;conv=>whnf
 refine bKo rfl ?_;conv=>whnf
 refine And.intro rfl (And.intro (nle rfl) (And.intro rfl ?_));conv=>whnf
 refine hK _ _ _ ?_
 refine aB dCo rfl fun K hK=>?_;conv=>whnf
 refine bKo rfl ?_;conv=>whnf
 refine And.intro rfl (And.intro (nle rfl) (And.intro rfl ?_));conv=>whnf
 refine hK _ _ _ ?_
 refine aL ?_
 refine aB9 rfl h [1,10,12,13] [1,10,12,13] [] (fun kl kh ids b s=>⟨ofL ([(128,eB s)]++kl),ofH ([]++kh),b+64⟩) ?_;(conv=>whnf);refine And.intro (fun s h=>dY ?_) (fun k h=>?_)
 ·refine aT fun K1 K2 hK1 hK2=>?_;conv=>whnf
  refine cLk h (fun _ h=>?_) (fun _ h=>?_)
  ·refine hK1 ?_
   refine aB dCo rfl fun K hK=>?_;conv=>whnf
   refine hK _ _ _ ?_
   refine aJ ?_
   refine aM ?_
   replace h:=aI h
   refine aE dCo fun K hK=>?_;conv=>whnf
   refine hK _ ?_
   cases h
   exact Wk.refl _
  refine hK2 ?_
  refine aK ?_
  refine tHn ?_
  refine aDt rfl rfl [1,10,12,13] [(1,32),(10,33),(12,34),(13,35)] ?_;conv=>whnf
  refine And.intro ?_ ?_
  ·refine aEn ?_;conv=>whnf
   exact And.intro rfl (And.intro (aLc (WkR.ptr (fun _=>rfl)) (aLc (WkR.ptr (fun _=>rfl)) (aLc (WkR.ptr (fun _=>rfl)) (aLc (WkR.ptr (fun _=>rfl)) aLn)))) (aLc ⟨some _,rfl,bRc rfl (cKc wkI (cKc (wkr (lsL fun _=>(aC _))) (cKc (wkr (lsL fun _=>(lsI _ _))) (cKc (wkr (lsL fun _=>(lsI _ _))) (cKc wkI (cKc (wkr (lsL fun _=>(aA _))) cKn))))))⟩ (aLc ⟨some _,rfl,bRc rfl (cKc wkI (cKc (wkr (lsL fun _=>(aQ _))) cKn))⟩ (aLc ⟨some _,rfl,bRc rfl (cKc wkI (cKc wkI (cKc wkI (cKc wkI cKn))))⟩ (aLc ⟨some _,rfl,bRc rfl (cKc wkI (cKc wkI (cKc wkI (cKc wkI cKn))))⟩ aLn)))))
  refine aB9 rfl h [1] [1] [] (fun kl kh ids b s=>⟨ofL ([(14,eB s)]++kl),ofH ([]++kh),b+64⟩) ?_;(conv=>whnf);refine And.intro (fun s h=>dY ?_) (fun k h=>?_)
  ·refine aB dCo rfl fun K hK=>?_;conv=>whnf
   refine nlA rfl ?_;conv=>whnf
   refine bKo rfl ?_;conv=>whnf
   refine nlA rfl ?_;conv=>whnf
   replace h:=bE h
   refine qU h13 h (WkL.refl _) (fun _ h=>?_);conv=>whnf
   refine bKo rfl ?_;conv=>whnf
   refine And.intro rfl (And.intro (nle rfl) (And.intro rfl ?_));conv=>whnf
   refine hK _ _ _ ?_
   refine aB dCo rfl fun K hK=>?_;conv=>whnf
   refine aAi h27 h (fun y e=>(⟨rfl,e⟩:kV _ _)) (WkL.refl _) (fun _ h=>?_);conv=>whnf
   refine bKo rfl ?_;conv=>whnf
   refine And.intro rfl (And.intro (nle rfl) (And.intro rfl ?_));conv=>whnf
   refine hK _ _ _ ?_
   refine aB dCo rfl fun K hK=>?_;conv=>whnf
   refine nlA rfl ?_;conv=>whnf
   refine bKo rfl ?_;conv=>whnf
   refine gKo rfl ?_;conv=>whnf
   refine hZ (enc:=eI) (d:=default) dCo h rfl rfl rfl ⟨nle rfl,nle rfl,rfl⟩ rfl ⟨⟨rfl,rfl,rfl⟩,trivial⟩ (fun h=>?_);conv=>whnf
   refine lD h (rfl) fun hx2 h=>?_;conv=>whnf
   refine bKo rfl ?_;conv=>whnf
   refine aMq (enc:=bA) (d:=default) (q:=0) h (fun _=>rfl) (rfl) hx2 rfl (nle rfl) rfl (fun h=>?_);conv=>whnf
   refine hK _ _ _ ?_
   refine aHA 17 5 (enc:=bA) (e:=69) default (eV dCo rfl rfl (fun _=>rfl) (fun _=>rfl)) ?_;(conv=>whnf);refine ⟨_,_,_,_,(Nat.ne_of_beq_eq_false rfl),rfl,rfl,(oQ rfl).symm,rfl,aFE (enc:=bA) (d:=default) (sz:=2) (q:=0) (x:=(⟨[2],7⟩:bI)) (xs':=[eL 1 eI default [2],eI 7]) (fun _=>rfl) rfl hx2 (nle rfl) rfl rfl (aF eD (WkL.refl _)) rfl,?_⟩;conv=>whnf
   refine aB dCo rfl fun K hK=>?_;conv=>whnf
   refine nlA rfl ?_;conv=>whnf
   refine bKo rfl ?_;conv=>whnf
   refine nlA rfl ?_;conv=>whnf
   replace h:=bE h
   refine mM h10 h (WkL.refl _) (fun _ h=>?_);conv=>whnf
   refine bKo rfl ?_;conv=>whnf
   refine And.intro rfl (And.intro (nle rfl) (And.intro rfl ?_));conv=>whnf
   refine hK _ _ _ ?_
   refine aB dCo rfl fun K hK=>?_;conv=>whnf
   refine bKo rfl ?_;conv=>whnf
   refine And.intro rfl (And.intro (nle rfl) (And.intro rfl ?_));conv=>whnf
   refine hK _ _ _ ?_
   refine aB dCo rfl fun K hK=>?_;conv=>whnf
   refine nlA rfl ?_;conv=>whnf
   refine bKo rfl ?_;conv=>whnf
   refine nlA rfl ?_;conv=>whnf
   replace h:=bE h
   refine mK h19 h (WkL.refl _) (fun _ h=>?_);conv=>whnf
   refine hK _ _ _ ?_
   refine aB dCo rfl fun K hK=>?_;conv=>whnf
   refine nlA rfl ?_;conv=>whnf
   refine bKo rfl ?_;conv=>whnf
   refine nlA rfl ?_;conv=>whnf
   replace h:=bE h
   refine qU h13 h (WkL.refl _) (fun _ h=>?_);conv=>whnf
   refine bKo rfl ?_;conv=>whnf
   refine And.intro rfl (And.intro (nle rfl) (And.intro rfl ?_));conv=>whnf
   refine hK _ _ _ ?_
   refine aB dCo rfl fun K hK=>?_;conv=>whnf
   refine nlA rfl ?_;conv=>whnf
   refine bKo rfl ?_;conv=>whnf
   refine nlA rfl ?_;conv=>whnf
   replace h:=bE h
   refine mM h10 h (WkL.refl _) (fun _ h=>?_);conv=>whnf
   refine bKo rfl ?_;conv=>whnf
   refine And.intro rfl (And.intro (nle rfl) (And.intro rfl ?_));conv=>whnf
   refine hK _ _ _ ?_
   refine aB dCo rfl fun K hK=>?_;conv=>whnf
   replace h:=eW h
   refine cLk h (fun _ h=>?_) (fun _ h=>?_)<;>(conv=>whnf)
   ·refine cLk h (fun _ h=>?_) (fun _ h=>?_)<;>(conv=>whnf)
    ·refine cLk h (fun _ h=>?_) (fun _ h=>?_)<;>(conv=>whnf)
     ·refine nlA rfl ?_;conv=>whnf
      refine bKo rfl ?_;conv=>whnf
      refine gKo rfl ?_;conv=>whnf
      refine cLk h (fun _ h=>?_) (fun _ h=>?_)<;>(conv=>whnf)
      ·refine nlA rfl ?_;conv=>whnf
       refine bKo rfl ?_;conv=>whnf
       refine gKo rfl ?_;conv=>whnf
       refine cA h fun _ h=>?_;conv=>whnf
       refine nlA rfl ?_;conv=>whnf
       refine aP3 (aAj _ _ _ _ _ _ _ _) ?_;conv=>whnf
       refine cLk h (fun _ h=>?_) (fun _ h=>?_)<;>(conv=>whnf)
       ·refine cLk h (fun _ h=>?_) (fun _ h=>?_)<;>(conv=>whnf)
        ·refine cLk h (fun _ h=>?_) (fun _ h=>?_)<;>(conv=>whnf)
         ·refine cLk h (fun _ h=>?_) (fun _ h=>?_)<;>(conv=>whnf)
          ·refine nlA rfl ?_;conv=>whnf
           refine bKo rfl ?_;conv=>whnf
           refine gKo rfl ?_;conv=>whnf
           refine cLk h (fun _ h=>?_) (fun _ h=>?_)<;>(conv=>whnf)
           ·refine nlA rfl ?_;conv=>whnf
            refine bKo rfl ?_;conv=>whnf
            refine nlA rfl ?_;conv=>whnf
            refine nlA rfl ?_;conv=>whnf
            refine bKo rfl ?_;conv=>whnf
            refine nlA rfl ?_;conv=>whnf
            replace h:=bE h
            refine eF h25 h (WkL.refl _) (fun _ h=>?_);conv=>whnf
            refine cLk h (fun _ h=>?_) (fun _ h=>?_)<;>(conv=>whnf)
            ·refine cLk h (fun _ h=>?_) (fun _ h=>?_)<;>(conv=>whnf)
             ·refine nlA rfl ?_;conv=>whnf
              refine bKo rfl ?_;conv=>whnf
              refine nlA rfl ?_;conv=>whnf
              replace h:=bE h
              refine jY h8 h (WkL.refl _) (fun _ h=>?_);conv=>whnf
              refine cLk h (fun _ h=>?_) (fun _ h=>?_)<;>(conv=>whnf)
              ·replace h:=bE h
               refine jY h8 h (aF (fL (aF (Wk.refl _) (aF jI (aF jI (aF jI (aF (Wk.refl _) (aF jI bO))))))) bO) (fun _ h=>?_);conv=>whnf
               refine hK _ _ _ ?_
               refine aJ ?_
               replace h:=aI h
               refine aE dCo fun K hK=>?_;conv=>whnf
               refine hK _ ?_
               cases h
               exact Wk.refl _
              refine hK _ _ _ ?_
              refine aJ ?_
              replace h:=aI h
              refine aE dCo fun K hK=>?_;conv=>whnf
              refine hK _ ?_
              cases h
              exact Wk.refl _
             refine hK _ _ _ ?_
             refine aJ ?_
             replace h:=aI h
             refine aE dCo fun K hK=>?_;conv=>whnf
             refine hK _ ?_
             cases h
             exact Wk.refl _
            refine hK _ _ _ ?_
            refine aJ ?_
            replace h:=aI h
            refine aE dCo fun K hK=>?_;conv=>whnf
            refine hK _ ?_
            cases h
            exact Wk.refl _
           refine hK _ _ _ ?_
           refine aJ ?_
           replace h:=aI h
           refine aE dCo fun K hK=>?_;conv=>whnf
           refine hK _ ?_
           cases h
           exact Wk.refl _
          refine hK _ _ _ ?_
          refine aJ ?_
          replace h:=aI h
          refine aE dCo fun K hK=>?_;conv=>whnf
          refine hK _ ?_
          cases h
          exact Wk.refl _
         refine hK _ _ _ ?_
         refine aJ ?_
         replace h:=aI h
         refine aE dCo fun K hK=>?_;conv=>whnf
         refine hK _ ?_
         cases h
         exact Wk.refl _
        refine hK _ _ _ ?_
        refine aJ ?_
        replace h:=aI h
        refine aE dCo fun K hK=>?_;conv=>whnf
        refine hK _ ?_
        cases h
        exact Wk.refl _
       refine hK _ _ _ ?_
       refine aJ ?_
       replace h:=aI h
       refine aE dCo fun K hK=>?_;conv=>whnf
       refine hK _ ?_
       cases h
       exact Wk.refl _
      refine hK _ _ _ ?_
      refine aJ ?_
      replace h:=aI h
      refine aE dCo fun K hK=>?_;conv=>whnf
      refine hK _ ?_
      cases h
      exact Wk.refl _
     refine hK _ _ _ ?_
     refine aJ ?_
     replace h:=aI h
     refine aE dCo fun K hK=>?_;conv=>whnf
     refine hK _ ?_
     cases h
     exact Wk.refl _
    refine hK _ _ _ ?_
    refine aJ ?_
    replace h:=aI h
    refine aE dCo fun K hK=>?_;conv=>whnf
    refine hK _ ?_
    cases h
    exact Wk.refl _
   refine hK _ _ _ ?_
   refine aJ ?_
   replace h:=aI h
   refine aE dCo fun K hK=>?_;conv=>whnf
   refine hK _ ?_
   cases h
   exact Wk.refl _
  refine cK dCo rfl fun K hK=>?_;conv=>whnf
  refine nlA rfl ?_;conv=>whnf
  refine bKo rfl ?_;conv=>whnf
  refine nlA rfl ?_;conv=>whnf
  refine nlA rfl ?_;conv=>whnf
  refine bKo rfl ?_;conv=>whnf
  refine nlA rfl ?_;conv=>whnf
  replace h:=bE h
  refine eF h25 h (WkL.refl _) (fun _ h=>?_);conv=>whnf
  refine cLk h (fun _ h=>?_) (fun _ h=>?_)<;>(conv=>whnf)
  ·refine nlA rfl ?_;conv=>whnf
   refine bKo rfl ?_;conv=>whnf
   refine nlA rfl ?_;conv=>whnf
   refine nlA rfl ?_;conv=>whnf
   refine bKo rfl ?_;conv=>whnf
   refine nlA rfl ?_;conv=>whnf
   replace h:=bE h
   refine eF h25 h (WkL.refl _) (fun _ h=>?_);conv=>whnf
   refine cLk h (fun _ h=>?_) (fun _ h=>?_)<;>(conv=>whnf)
   ·refine nlA rfl ?_;conv=>whnf
    refine bKo rfl ?_;conv=>whnf
    refine nlA rfl ?_;conv=>whnf
    refine nlA rfl ?_;conv=>whnf
    refine bKo rfl ?_;conv=>whnf
    refine nlA rfl ?_;conv=>whnf
    replace h:=bE h
    refine mN h26 h (WkL.refl _) (fun _ h=>?_);conv=>whnf
    refine cLk h (fun _ h=>?_) (fun _ h=>?_)<;>(conv=>whnf)
    ·refine nlA rfl ?_;conv=>whnf
     refine bKo rfl ?_;conv=>whnf
     refine nlA rfl ?_;conv=>whnf
     refine nlA rfl ?_;conv=>whnf
     refine bKo rfl ?_;conv=>whnf
     refine nlA rfl ?_;conv=>whnf
     refine hZ (enc:=fE) (d:=default) dCo h rfl rfl rfl ⟨nle rfl,nle rfl,rfl⟩ rfl ⟨⟨rfl,nle rfl⟩,trivial⟩ (fun h=>?_);conv=>whnf
     replace h:=bE h
     refine mN h26 h (aF (Wk.refl _) (aF (fL (aF (Wk.refl _) (aF eD bO))) bO)) (fun _ h=>?_);conv=>whnf
     refine cLk h (fun _ h=>?_) (fun _ h=>?_)<;>(conv=>whnf)
     ·refine nlA rfl ?_;conv=>whnf
      refine bKo rfl ?_;conv=>whnf
      refine nlA rfl ?_;conv=>whnf
      replace h:=bE h
      refine mN h26 h (aF (Wk.refl _) (aF (fL (aF (Wk.refl _) (aF jI bO))) bO)) (fun _ h=>?_);conv=>whnf
      refine hK _ _ _ ?_
      refine tHn ?_
      refine ⟨_,h,?_⟩
      refine aO ?_;conv=>whnf
      exact And.intro rfl (And.intro (aLc (wkr (lsB _)) (aLc (WkR.ptr (fun _=>rfl)) aLn)) (aLc ⟨some _,rfl,bRc rfl (cKc wkI (cKc (wkr (lsL fun _=>(aC _))) (cKc (wkr (lsL fun _=>(lsI _ _))) (cKc (wkr (lsL fun _=>(lsI _ _))) (cKc wkI (cKc (wkr (lsL fun _=>(aA _))) cKn))))))⟩ aLn))
     refine hK _ _ _ ?_
     refine tHn ?_
     refine ⟨_,h,?_⟩
     refine aO ?_;conv=>whnf
     exact And.intro rfl (And.intro (aLc (wkr (lsB _)) (aLc (WkR.ptr (fun _=>rfl)) aLn)) (aLc ⟨some _,rfl,bRc rfl (cKc wkI (cKc (wkr (lsL fun _=>(aC _))) (cKc (wkr (lsL fun _=>(lsI _ _))) (cKc (wkr (lsL fun _=>(lsI _ _))) (cKc wkI (cKc (wkr (lsL fun _=>(aA _))) cKn))))))⟩ aLn))
    refine hK _ _ _ ?_
    refine tHn ?_
    refine ⟨_,h,?_⟩
    refine aO ?_;conv=>whnf
    exact And.intro rfl (And.intro (aLc (wkr (lsB _)) (aLc (WkR.ptr (fun _=>rfl)) aLn)) (aLc ⟨some _,rfl,bRc rfl (cKc wkI (cKc (wkr (lsL fun _=>(aC _))) (cKc (wkr (lsL fun _=>(lsI _ _))) (cKc (wkr (lsL fun _=>(lsI _ _))) (cKc wkI (cKc (wkr (lsL fun _=>(aA _))) cKn))))))⟩ aLn))
   refine hK _ _ _ ?_
   refine tHn ?_
   refine ⟨_,h,?_⟩
   refine aO ?_;conv=>whnf
   exact And.intro rfl (And.intro (aLc (wkr (lsB _)) (aLc (WkR.ptr (fun _=>rfl)) aLn)) (aLc ⟨some _,rfl,bRc rfl (cKc wkI (cKc (wkr (lsL fun _=>(aC _))) (cKc (wkr (lsL fun _=>(lsI _ _))) (cKc (wkr (lsL fun _=>(lsI _ _))) (cKc wkI (cKc (wkr (lsL fun _=>(aA _))) cKn))))))⟩ aLn))
  refine hK _ _ _ ?_
  refine tHn ?_
  refine ⟨_,h,?_⟩
  refine aO ?_;conv=>whnf
  exact And.intro rfl (And.intro (aLc (wkr (lsB _)) (aLc (WkR.ptr (fun _=>rfl)) aLn)) (aLc ⟨some _,rfl,bRc rfl (cKc wkI (cKc (wkr (lsL fun _=>(aC _))) (cKc (wkr (lsL fun _=>(lsI _ _))) (cKc (wkr (lsL fun _=>(lsI _ _))) (cKc wkI (cKc (wkr (lsL fun _=>(aA _))) cKn))))))⟩ aLn))
 refine cK dCo rfl fun K hK=>?_;conv=>whnf
 refine cLk h (fun _ h=>?_) (fun _ h=>?_)<;>(conv=>whnf)
 ·refine hK _ _ _ ?_
  refine tHn ?_
  refine ⟨_,h,?_⟩
  refine aO ?_;conv=>whnf
  exact And.intro rfl (And.intro (aLc (wkr (lsB _)) (aLc (WkR.ptr (fun _=>rfl)) (aLc (WkR.ptr (fun _=>rfl)) (aLc (WkR.ptr (fun _=>rfl)) (aLc (WkR.ptr (fun _=>rfl)) aLn))))) (aLc ⟨some _,rfl,bRc rfl (cKc wkI (cKc (wkr (lsL fun _=>(aC _))) (cKc (wkr (lsL fun _=>(lsI _ _))) (cKc (wkr (lsL fun _=>(lsI _ _))) (cKc wkI (cKc (wkr (lsL fun _=>(aA _))) cKn))))))⟩ (aLc ⟨some _,rfl,bRc rfl (cKc wkI (cKc (wkr (lsL fun _=>(aQ _))) cKn))⟩ (aLc ⟨some _,rfl,bRc rfl (cKc wkI (cKc wkI (cKc wkI (cKc wkI cKn))))⟩ (aLc ⟨some _,rfl,bRc rfl (cKc wkI (cKc wkI (cKc wkI (cKc wkI cKn))))⟩ aLn)))))
 refine cLk h (fun _ h=>?_) (fun _ h=>?_)<;>(conv=>whnf)
 ·refine hK _ _ _ ?_
  refine tHn ?_
  refine ⟨_,h,?_⟩
  refine aO ?_;conv=>whnf
  exact And.intro rfl (And.intro (aLc (wkr (lsB _)) (aLc (WkR.ptr (fun _=>rfl)) (aLc (WkR.ptr (fun _=>rfl)) (aLc (WkR.ptr (fun _=>rfl)) (aLc (WkR.ptr (fun _=>rfl)) aLn))))) (aLc ⟨some _,rfl,bRc rfl (cKc wkI (cKc (wkr (lsL fun _=>(aC _))) (cKc (wkr (lsL fun _=>(lsI _ _))) (cKc (wkr (lsL fun _=>(lsI _ _))) (cKc wkI (cKc (wkr (lsL fun _=>(aA _))) cKn))))))⟩ (aLc ⟨some _,rfl,bRc rfl (cKc wkI (cKc (wkr (lsL fun _=>(aQ _))) cKn))⟩ (aLc ⟨some _,rfl,bRc rfl (cKc wkI (cKc wkI (cKc wkI (cKc wkI cKn))))⟩ (aLc ⟨some _,rfl,bRc rfl (cKc wkI (cKc wkI (cKc wkI (cKc wkI cKn))))⟩ aLn)))))
 refine nlA rfl ?_;conv=>whnf
 refine bKo rfl ?_;conv=>whnf
 refine gKo rfl ?_;conv=>whnf
 refine cLk h (fun _ h=>?_) (fun _ h=>?_)<;>(conv=>whnf)
 ·refine hK _ _ _ ?_
  refine tHn ?_
  refine ⟨_,h,?_⟩
  refine aO ?_;conv=>whnf
  exact And.intro rfl (And.intro (aLc (wkr (lsB _)) (aLc (WkR.ptr (fun _=>rfl)) (aLc (WkR.ptr (fun _=>rfl)) (aLc (WkR.ptr (fun _=>rfl)) (aLc (WkR.ptr (fun _=>rfl)) aLn))))) (aLc ⟨some _,rfl,bRc rfl (cKc wkI (cKc (wkr (lsL fun _=>(aC _))) (cKc (wkr (lsL fun _=>(lsI _ _))) (cKc (wkr (lsL fun _=>(lsI _ _))) (cKc wkI (cKc (wkr (lsL fun _=>(aA _))) cKn))))))⟩ (aLc ⟨some _,rfl,bRc rfl (cKc wkI (cKc (wkr (lsL fun _=>(aQ _))) cKn))⟩ (aLc ⟨some _,rfl,bRc rfl (cKc wkI (cKc wkI (cKc wkI (cKc wkI cKn))))⟩ (aLc ⟨some _,rfl,bRc rfl (cKc wkI (cKc wkI (cKc wkI (cKc wkI cKn))))⟩ aLn)))))
 refine nlA rfl ?_;conv=>whnf
 refine bKo rfl ?_;conv=>whnf
 refine gKo rfl ?_;conv=>whnf
 refine cLk h (fun _ h=>?_) (fun _ h=>?_)<;>(conv=>whnf)
 ·refine hK _ _ _ ?_
  refine tHn ?_
  refine ⟨_,h,?_⟩
  refine aO ?_;conv=>whnf
  exact And.intro rfl (And.intro (aLc (wkr (lsB _)) (aLc (WkR.ptr (fun _=>rfl)) (aLc (WkR.ptr (fun _=>rfl)) (aLc (WkR.ptr (fun _=>rfl)) (aLc (WkR.ptr (fun _=>rfl)) aLn))))) (aLc ⟨some _,rfl,bRc rfl (cKc wkI (cKc (wkr (lsL fun _=>(aC _))) (cKc (wkr (lsL fun _=>(lsI _ _))) (cKc (wkr (lsL fun _=>(lsI _ _))) (cKc wkI (cKc (wkr (lsL fun _=>(aA _))) cKn))))))⟩ (aLc ⟨some _,rfl,bRc rfl (cKc wkI (cKc (wkr (lsL fun _=>(aQ _))) cKn))⟩ (aLc ⟨some _,rfl,bRc rfl (cKc wkI (cKc wkI (cKc wkI (cKc wkI cKn))))⟩ (aLc ⟨some _,rfl,bRc rfl (cKc wkI (cKc wkI (cKc wkI (cKc wkI cKn))))⟩ aLn)))))
 refine nlA rfl ?_;conv=>whnf
 refine bKo rfl ?_;conv=>whnf
 refine gKo rfl ?_;conv=>whnf
 refine cA h fun _ h=>?_;conv=>whnf
 refine gKo rfl ?_;conv=>whnf
 refine cLk h (fun _ h=>?_) (fun _ h=>?_)<;>(conv=>whnf)
 ·refine hK _ _ _ ?_
  refine tHn ?_
  refine ⟨_,h,?_⟩
  refine aO ?_;conv=>whnf
  exact And.intro rfl (And.intro (aLc (wkr (lsB _)) (aLc (WkR.ptr (fun _=>rfl)) (aLc (WkR.ptr (fun _=>rfl)) (aLc (WkR.ptr (fun _=>rfl)) (aLc (WkR.ptr (fun _=>rfl)) aLn))))) (aLc ⟨some _,rfl,bRc rfl (cKc wkI (cKc (wkr (lsL fun _=>(aC _))) (cKc (wkr (lsL fun _=>(lsI _ _))) (cKc (wkr (lsL fun _=>(lsI _ _))) (cKc wkI (cKc (wkr (lsL fun _=>(aA _))) cKn))))))⟩ (aLc ⟨some _,rfl,bRc rfl (cKc wkI (cKc (wkr (lsL fun _=>(aQ _))) cKn))⟩ (aLc ⟨some _,rfl,bRc rfl (cKc wkI (cKc wkI (cKc wkI (cKc wkI cKn))))⟩ (aLc ⟨some _,rfl,bRc rfl (cKc wkI (cKc wkI (cKc wkI (cKc wkI cKn))))⟩ aLn)))))
 refine hZ (enc:=eI) (d:=default) dCo h rfl rfl rfl ⟨nle rfl,nle rfl,rfl⟩ rfl ⟨⟨rfl,rfl,rfl⟩,⟨⟨rfl,rfl,rfl⟩,⟨⟨rfl,rfl,rfl⟩,⟨⟨rfl,rfl,rfl⟩,trivial⟩⟩⟩⟩ (fun h=>?_);conv=>whnf
 replace h:=bE h
 refine wE h22 h (aF (Wk.refl _) (aF eD bO)) (fun _ h=>?_);conv=>whnf
 refine cLk h (fun _ h=>?_) (fun _ h=>?_)<;>(conv=>whnf)
 ·refine hK _ _ _ ?_
  refine tHn ?_
  refine ⟨_,h,?_⟩
  refine aO ?_;conv=>whnf
  exact And.intro rfl (And.intro (aLc (wkr (lsB _)) (aLc (WkR.ptr (fun _=>rfl)) (aLc (WkR.ptr (fun _=>rfl)) (aLc (WkR.ptr (fun _=>rfl)) (aLc (WkR.ptr (fun _=>rfl)) aLn))))) (aLc ⟨some _,rfl,bRc rfl (cKc wkI (cKc (wkr (lsL fun _=>(aC _))) (cKc (wkr (lsL fun _=>(lsI _ _))) (cKc (wkr (lsL fun _=>(lsI _ _))) (cKc wkI (cKc (wkr (lsL fun _=>(aA _))) cKn))))))⟩ (aLc ⟨some _,rfl,bRc rfl (cKc wkI (cKc (wkr (lsL fun _=>(aQ _))) cKn))⟩ (aLc ⟨some _,rfl,bRc rfl (cKc wkI (cKc wkI (cKc wkI (cKc wkI cKn))))⟩ (aLc ⟨some _,rfl,bRc rfl (cKc wkI (cKc wkI (cKc wkI (cKc wkI cKn))))⟩ aLn)))))
 refine nlA rfl ?_;conv=>whnf
 refine bKo rfl ?_;conv=>whnf
 refine gKo rfl ?_;conv=>whnf
 refine cLk h (fun _ h=>?_) (fun _ h=>?_)<;>(conv=>whnf)
 ·refine hK _ _ _ ?_
  refine tHn ?_
  refine ⟨_,h,?_⟩
  refine aO ?_;conv=>whnf
  exact And.intro rfl (And.intro (aLc (wkr (lsB _)) (aLc (WkR.ptr (fun _=>rfl)) (aLc (WkR.ptr (fun _=>rfl)) (aLc (WkR.ptr (fun _=>rfl)) (aLc (WkR.ptr (fun _=>rfl)) aLn))))) (aLc ⟨some _,rfl,bRc rfl (cKc wkI (cKc (wkr (lsL fun _=>(aC _))) (cKc (wkr (lsL fun _=>(lsI _ _))) (cKc (wkr (lsL fun _=>(lsI _ _))) (cKc wkI (cKc (wkr (lsL fun _=>(aA _))) cKn))))))⟩ (aLc ⟨some _,rfl,bRc rfl (cKc wkI (cKc (wkr (lsL fun _=>(aQ _))) cKn))⟩ (aLc ⟨some _,rfl,bRc rfl (cKc wkI (cKc wkI (cKc wkI (cKc wkI cKn))))⟩ (aLc ⟨some _,rfl,bRc rfl (cKc wkI (cKc wkI (cKc wkI (cKc wkI cKn))))⟩ aLn)))))
 refine nlA rfl ?_;conv=>whnf
 refine bKo rfl ?_;conv=>whnf
 refine gKo rfl ?_;conv=>whnf
 refine cLk h (fun _ h=>?_) (fun _ h=>?_)<;>(conv=>whnf)
 ·refine hK _ _ _ ?_
  refine tHn ?_
  refine ⟨_,h,?_⟩
  refine aO ?_;conv=>whnf
  exact And.intro rfl (And.intro (aLc (wkr (lsB _)) (aLc (WkR.ptr (fun _=>rfl)) (aLc (WkR.ptr (fun _=>rfl)) (aLc (WkR.ptr (fun _=>rfl)) (aLc (WkR.ptr (fun _=>rfl)) aLn))))) (aLc ⟨some _,rfl,bRc rfl (cKc wkI (cKc (wkr (lsL fun _=>(aC _))) (cKc (wkr (lsL fun _=>(lsI _ _))) (cKc (wkr (lsL fun _=>(lsI _ _))) (cKc wkI (cKc (wkr (lsL fun _=>(aA _))) cKn))))))⟩ (aLc ⟨some _,rfl,bRc rfl (cKc wkI (cKc (wkr (lsL fun _=>(aQ _))) cKn))⟩ (aLc ⟨some _,rfl,bRc rfl (cKc wkI (cKc wkI (cKc wkI (cKc wkI cKn))))⟩ (aLc ⟨some _,rfl,bRc rfl (cKc wkI (cKc wkI (cKc wkI (cKc wkI cKn))))⟩ aLn)))))
 refine nlA rfl ?_;conv=>whnf
 refine bKo rfl ?_;conv=>whnf
 refine gKo rfl ?_;conv=>whnf
 refine cA h fun _ h=>?_;conv=>whnf
 refine gKo rfl ?_;conv=>whnf
 refine hK _ _ _ ?_
 refine tHn ?_
 refine ⟨_,h,?_⟩
 refine aO ?_;conv=>whnf
 exact And.intro rfl (And.intro (aLc (wkr (lsB _)) (aLc (WkR.ptr (fun _=>rfl)) (aLc (WkR.ptr (fun _=>rfl)) (aLc (WkR.ptr (fun _=>rfl)) (aLc (WkR.ptr (fun _=>rfl)) aLn))))) (aLc ⟨some _,rfl,bRc rfl (cKc wkI (cKc (wkr (lsL fun _=>(aC _))) (cKc (wkr (lsL fun _=>(lsI _ _))) (cKc (wkr (lsL fun _=>(lsI _ _))) (cKc wkI (cKc (wkr (lsL fun _=>(aA _))) cKn))))))⟩ (aLc ⟨some _,rfl,bRc rfl (cKc wkI (cKc (wkr (lsL fun _=>(aQ _))) cKn))⟩ (aLc ⟨some _,rfl,bRc rfl (cKc wkI (cKc wkI (cKc wkI (cKc wkI cKn))))⟩ (aLc ⟨some _,rfl,bRc rfl (cKc wkI (cKc wkI (cKc wkI (cKc wkI cKn))))⟩ aLn)))))
theorem aBY {T:Tbl} (hT:T 4=aH rV) {args:List AV} {hp:bF} {id:Nat} {k:AV→Prop} {Φ:Bool→Prop} (h:W (rR ) Φ) (hw:WkL args []) (hk:∀ y,Φ y→k (eB y)):bZ T 4 args hp id k:=by
 obtain ⟨y,e,hy⟩:=dL h
 exact aS hT ⟨rfl,kS e rfl⟩ (by exact (lsB _)) hw (hk y hy)
end Go.Proofs.YtkjccabdpeldhaaGreat
