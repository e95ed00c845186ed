import Derived.Test.YtlmboonbfhkfnaaDoorRows
import Derived.Test.YtlmboonbfhkfnaaDoorM2
import Derived.ProofKit
import Derived.LaidMore
import Derived.OpenShut
import Derived.Stop.Joined
import Derived.Test.YtlmboonbfhkfnaaDoorProg
import Derived.Test.YtlmboonbfhkfnaaDoorM3
import Derived.KernelRfl
import Derived.Laws.StructEq
import Derived.ChangeKeysEq
set_option linter.unusedVariables false
set_option linter.unusedSimpArgs false
set_option linter.unusedSectionVars false
namespace Go.Proofs.YtlmboonbfhkfnaaDoor
open Go Go.Eng Go.ChangeShapes Go.WideShapes Go.ChangeAt Go.WideMaps Go.WideElems Go.RowKit
set_option maxRecDepth 100000
abbrev aIM:List (String×DataW Unit):=[("math/bits.deBruijn32tab", Rows.laid_math_bits_deBruijn32tab),("math/bits.deBruijn64tab", Rows.laid_math_bits_deBruijn64tab)]
theorem aLF (os:Os) (args:Array Value):laidMetH Tryd.prog aIM ((World.doorLaid Tryd.prog 400 os).forCall (fun _ _=>0) ⟨#[],args,[]⟩).memory:=
 laidMetH_of_parts3 (fuel:=8) (laidMet_of_run' 8 (by kernel_rfl) (by kernel_rfl)) (by kernel_rfl) (by kernel_rfl)
theorem g32:Tryd.prog.globalNamed "math/bits.deBruijn32tab" = some 0:=by kernel_rfl
theorem g64:Tryd.prog.globalNamed "math/bits.deBruijn64tab" = some 1:=by kernel_rfl
theorem t32:(Tryd.prog.globals[0]?).map (·.type)=some 99:=by kernel_rfl
theorem t64:(Tryd.prog.globals[1]?).map (·.type)=some 100:=by kernel_rfl
theorem c5:Tryd.prog.cellsOf 5=1:=by kernel_rfl
theorem aMw {H:Type} {enc:TypeId×Value→H} {W:World} {base:Nat} {spare:Nat→Bool} {held:Bool} {fuel:Nat} {t n:Nat} {cs:Array Value} {p:List MemPlace} {L:List Nat} (ht:Tryd.prog.underlying t=some (.array n 5)) (hn:L.length=n)
  (h:DataW.trod enc Tryd.prog W base spare held fuel t cs.toList=some (.agg (L.map fun n:Nat=>.lit (.int .u8 (n:Int))),p)) {i:Nat} {v:Value} (hv:(L.map fun n:Nat=>Value.int .u8 (n:Int))[i]?=some v):cs[i]?=some v:=by
 obtain ⟨xs,m,rfl,hx,_,hl,hel⟩:=DataW.trod_array ht h
 rw [List.getElem?_map] at hv
 obtain ⟨x,hx1,rfl⟩:=Option.map_eq_some_iff.1 hv
 have hi:i<L.length:=(List.getElem?_eq_some_iff.1 hx1).1
 have h1:=hel i (by omega)
 obtain ⟨y,hy⟩:∃ y,xs[i]?=some y:=⟨xs[i]'(by omega),List.getElem?_eq_getElem (by omega)⟩
 rw [hy] at h1
 obtain ⟨k,e1,e2,_⟩:=DataW.trod_int Tryd.underlying5 h1
 simp only [Prod.mk.injEq,DataW.agg.injEq] at hx
 have e3:(xs.map (·.1))[i]?=some (.lit (.int .u8 k)):=by rw [List.getElem?_map,hy,e2];rfl
 rw [← hx.1,List.getElem?_map,hx1] at e3
 have e4:(x:Int)=k:=by simpa using e3
 rw [c5,Nat.mul_one] at e1
 have e5:(cs.toList.drop i)[0]?=some (.int .u8 k):=by
  have:((cs.toList.drop i).take 1)[0]?=some (.int .u8 k):=by rw [e1];rfl
  rwa [List.getElem?_take_of_lt (by omega)] at this
 rw [List.getElem?_drop,Nat.add_zero] at e5
 rw [← Array.getElem?_toList,e5,e4]
theorem aIn {W:World} (h:laidMetH Tryd.prog aIM W):GB (aKQ W).fz:=by
 rw [MakeChecks.laidMetH_plain _ _ _ (by kernel_rfl)] at h
 obtain ⟨ps,⟨g0,t0,cs0,f0,p0,q0,hg0,ht0,hv0,hd0,⟨g1,t1,cs1,f1,p1,q1,hg1,ht1,hv1,hd1,_,_⟩,_⟩,_,_⟩:=h
 obtain rfl:=Option.some.inj (g32.symm.trans hg0)
 obtain rfl:=Option.some.inj (g64.symm.trans hg1)
 obtain rfl:=Option.some.inj (t32.symm.trans ht0)
 obtain rfl:=Option.some.inj (t64.symm.trans ht1)
 intro g i v hv
 show W.cell? ⟨g,0+i,none⟩=some v
 rw [Nat.zero_add]
 match g with
 | 0=>
  rw [World.var?_cell hg0 hv0 i]
  exact aMw Tryd.underlying99 rfl hd0 hv
 | 1=>
  rw [World.var?_cell hg1 hv1 i]
  exact aMw Tryd.underlying100 rfl hd1 hv
 | _+2=>simp [aOp,aNS] at hv
def tdL:List (Nat×TD):=[
 (3,⟨.int .i64,1,[.int .i64 0],8⟩),
 (4,⟨.bool,1,[.bool false],1⟩),
 (5,⟨.int .u8,1,[.int .u8 0],1⟩),
 (22,⟨.slice 46,1,[.nils],24⟩),
 (25,⟨.struct [(3,0),(22,1)],2,[.int .i64 0,.nils],32⟩),
 (26,⟨.slice 3,1,[.nils],24⟩),
 (30,⟨.int .i64,1,[.int .i64 0],8⟩),
 (46,⟨.array 2 3,2,[.int .i64 0,.int .i64 0],16⟩),
 (50,⟨.slice 26,1,[.nils],24⟩),
 (53,⟨.array 8 3,8,[.int .i64 0,.int .i64 0,.int .i64 0,.int .i64 0,.int .i64 0,.int .i64 0,.int .i64 0,.int .i64 0],64⟩),
 (60,⟨.array 8 4,8,[.bool false,.bool false,.bool false,.bool false,.bool false,.bool false,.bool false,.bool false],8⟩),
 (61,⟨.array 8 60,64,[.bool false,.bool false,.bool false,.bool false,.bool false,.bool false,.bool false,.bool false,.bool false,.bool false,.bool false,.bool false,.bool false,.bool false,.bool false,.bool false,.bool false,.bool false,.bool false,.bool false,.bool false,.bool false,.bool false,.bool false,.bool false,.bool false,.bool false,.bool false,.bool false,.bool false,.bool false,.bool false,.bool false,.bool false,.bool false,.bool false,.bool false,.bool false,.bool false,.bool false,.bool false,.bool false,.bool false,.bool false,.bool false,.bool false,.bool false,.bool false,.bool false,.bool false,.bool false,.bool false,.bool false,.bool false,.bool false,.bool false,.bool false,.bool false,.bool false,.bool false,.bool false,.bool false,.bool false,.bool false],64⟩),
 (62,⟨.array 8 60,64,[.bool false,.bool false,.bool false,.bool false,.bool false,.bool false,.bool false,.bool false,.bool false,.bool false,.bool false,.bool false,.bool false,.bool false,.bool false,.bool false,.bool false,.bool false,.bool false,.bool false,.bool false,.bool false,.bool false,.bool false,.bool false,.bool false,.bool false,.bool false,.bool false,.bool false,.bool false,.bool false,.bool false,.bool false,.bool false,.bool false,.bool false,.bool false,.bool false,.bool false,.bool false,.bool false,.bool false,.bool false,.bool false,.bool false,.bool false,.bool false,.bool false,.bool false,.bool false,.bool false,.bool false,.bool false,.bool false,.bool false,.bool false,.bool false,.bool false,.bool false,.bool false,.bool false,.bool false,.bool false],64⟩),
 (65,⟨.array 8 3,8,[.int .i64 0,.int .i64 0,.int .i64 0,.int .i64 0,.int .i64 0,.int .i64 0,.int .i64 0,.int .i64 0],64⟩),
 (73,⟨.map .i64 3 (.int .i64 0),1,[.nilm],8⟩),
 (75,⟨.map .i64 26 (.nils),1,[.nilm],8⟩),
 (76,⟨.other,1,[.nilf],8⟩),
 (80,⟨.other,1,[.nilf],8⟩),
 (82,⟨.other,1,[.nilf],8⟩),
 (92,⟨.int .u64,1,[.int .u64 0],8⟩),
 (96,⟨.int .u32,1,[.int .u32 0],4⟩),
 (98,⟨.int .u64,1,[.int .u64 0],8⟩),
 (99,⟨.array 32 5,32,[.int .u8 0,.int .u8 0,.int .u8 0,.int .u8 0,.int .u8 0,.int .u8 0,.int .u8 0,.int .u8 0,.int .u8 0,.int .u8 0,.int .u8 0,.int .u8 0,.int .u8 0,.int .u8 0,.int .u8 0,.int .u8 0,.int .u8 0,.int .u8 0,.int .u8 0,.int .u8 0,.int .u8 0,.int .u8 0,.int .u8 0,.int .u8 0,.int .u8 0,.int .u8 0,.int .u8 0,.int .u8 0,.int .u8 0,.int .u8 0,.int .u8 0,.int .u8 0],32⟩),
 (100,⟨.array 64 5,64,[.int .u8 0,.int .u8 0,.int .u8 0,.int .u8 0,.int .u8 0,.int .u8 0,.int .u8 0,.int .u8 0,.int .u8 0,.int .u8 0,.int .u8 0,.int .u8 0,.int .u8 0,.int .u8 0,.int .u8 0,.int .u8 0,.int .u8 0,.int .u8 0,.int .u8 0,.int .u8 0,.int .u8 0,.int .u8 0,.int .u8 0,.int .u8 0,.int .u8 0,.int .u8 0,.int .u8 0,.int .u8 0,.int .u8 0,.int .u8 0,.int .u8 0,.int .u8 0,.int .u8 0,.int .u8 0,.int .u8 0,.int .u8 0,.int .u8 0,.int .u8 0,.int .u8 0,.int .u8 0,.int .u8 0,.int .u8 0,.int .u8 0,.int .u8 0,.int .u8 0,.int .u8 0,.int .u8 0,.int .u8 0,.int .u8 0,.int .u8 0,.int .u8 0,.int .u8 0,.int .u8 0,.int .u8 0,.int .u8 0,.int .u8 0,.int .u8 0,.int .u8 0,.int .u8 0,.int .u8 0,.int .u8 0,.int .u8 0,.int .u8 0,.int .u8 0],64⟩)]
def DC:DT:=aMB tdL
theorem td3:yQ Tryd.prog 3 ⟨.int .i64,1,[.int .i64 0],8⟩:=⟨by kernel_rfl,by kernel_rfl,by kernel_rfl,Tryd.underlying3⟩
theorem td4:yQ Tryd.prog 4 ⟨.bool,1,[.bool false],1⟩:=⟨by kernel_rfl,by kernel_rfl,by kernel_rfl,Tryd.underlying4⟩
theorem td5:yQ Tryd.prog 5 ⟨.int .u8,1,[.int .u8 0],1⟩:=⟨by kernel_rfl,by kernel_rfl,by kernel_rfl,Tryd.underlying5⟩
theorem aS3:yQ Tryd.prog 22 ⟨.slice 46,1,[.nils],24⟩:=⟨by kernel_rfl,by kernel_rfl,by kernel_rfl,Tryd.underlying22⟩
theorem aTa:yQ Tryd.prog 25 ⟨.struct [(3,0),(22,1)],2,[.int .i64 0,.nils],32⟩:=⟨by kernel_rfl,by kernel_rfl,by kernel_rfl,⟨_,Tryd.underlying25,rfl⟩⟩
theorem aS4:yQ Tryd.prog 26 ⟨.slice 3,1,[.nils],24⟩:=⟨by kernel_rfl,by kernel_rfl,by kernel_rfl,Tryd.underlying26⟩
theorem aTc:yQ Tryd.prog 30 ⟨.int .i64,1,[.int .i64 0],8⟩:=⟨by kernel_rfl,by kernel_rfl,by kernel_rfl,Tryd.underlying30⟩
theorem aS6:yQ Tryd.prog 46 ⟨.array 2 3,2,[.int .i64 0,.int .i64 0],16⟩:=⟨by kernel_rfl,by kernel_rfl,by kernel_rfl,Tryd.underlying46⟩
theorem aTg:yQ Tryd.prog 50 ⟨.slice 26,1,[.nils],24⟩:=⟨by kernel_rfl,by kernel_rfl,by kernel_rfl,Tryd.underlying50⟩
theorem aTq:yQ Tryd.prog 53 ⟨.array 8 3,8,[.int .i64 0,.int .i64 0,.int .i64 0,.int .i64 0,.int .i64 0,.int .i64 0,.int .i64 0,.int .i64 0],64⟩:=⟨by kernel_rfl,by kernel_rfl,by kernel_rfl,Tryd.underlying53⟩
theorem aTb:yQ Tryd.prog 60 ⟨.array 8 4,8,[.bool false,.bool false,.bool false,.bool false,.bool false,.bool false,.bool false,.bool false],8⟩:=⟨by kernel_rfl,by kernel_rfl,by kernel_rfl,Tryd.underlying60⟩
theorem aTr:yQ Tryd.prog 61 ⟨.array 8 60,64,[.bool false,.bool false,.bool false,.bool false,.bool false,.bool false,.bool false,.bool false,.bool false,.bool false,.bool false,.bool false,.bool false,.bool false,.bool false,.bool false,.bool false,.bool false,.bool false,.bool false,.bool false,.bool false,.bool false,.bool false,.bool false,.bool false,.bool false,.bool false,.bool false,.bool false,.bool false,.bool false,.bool false,.bool false,.bool false,.bool false,.bool false,.bool false,.bool false,.bool false,.bool false,.bool false,.bool false,.bool false,.bool false,.bool false,.bool false,.bool false,.bool false,.bool false,.bool false,.bool false,.bool false,.bool false,.bool false,.bool false,.bool false,.bool false,.bool false,.bool false,.bool false,.bool false,.bool false,.bool false],64⟩:=⟨by kernel_rfl,by kernel_rfl,by kernel_rfl,Tryd.underlying61⟩
theorem aS8:yQ Tryd.prog 62 ⟨.array 8 60,64,[.bool false,.bool false,.bool false,.bool false,.bool false,.bool false,.bool false,.bool false,.bool false,.bool false,.bool false,.bool false,.bool false,.bool false,.bool false,.bool false,.bool false,.bool false,.bool false,.bool false,.bool false,.bool false,.bool false,.bool false,.bool false,.bool false,.bool false,.bool false,.bool false,.bool false,.bool false,.bool false,.bool false,.bool false,.bool false,.bool false,.bool false,.bool false,.bool false,.bool false,.bool false,.bool false,.bool false,.bool false,.bool false,.bool false,.bool false,.bool false,.bool false,.bool false,.bool false,.bool false,.bool false,.bool false,.bool false,.bool false,.bool false,.bool false,.bool false,.bool false,.bool false,.bool false,.bool false,.bool false],64⟩:=⟨by kernel_rfl,by kernel_rfl,by kernel_rfl,Tryd.underlying62⟩
theorem aS5:yQ Tryd.prog 65 ⟨.array 8 3,8,[.int .i64 0,.int .i64 0,.int .i64 0,.int .i64 0,.int .i64 0,.int .i64 0,.int .i64 0,.int .i64 0],64⟩:=⟨by kernel_rfl,by kernel_rfl,by kernel_rfl,Tryd.underlying65⟩
theorem aTm:yQ Tryd.prog 73 ⟨.map .i64 3 (.int .i64 0),1,[.nilm],8⟩:=⟨by kernel_rfl,by kernel_rfl,by kernel_rfl,⟨by kernel_rfl,by kernel_rfl⟩⟩
theorem aTp:yQ Tryd.prog 75 ⟨.map .i64 26 (.nils),1,[.nilm],8⟩:=⟨by kernel_rfl,by kernel_rfl,by kernel_rfl,⟨by kernel_rfl,by kernel_rfl⟩⟩
theorem aS2:yQ Tryd.prog 76 ⟨.other,1,[.nilf],8⟩:=⟨by kernel_rfl,by kernel_rfl,by kernel_rfl,(by show aGb _ _=some false;kernel_rfl)⟩
theorem aTt:yQ Tryd.prog 80 ⟨.other,1,[.nilf],8⟩:=⟨by kernel_rfl,by kernel_rfl,by kernel_rfl,(by show aGb _ _=some false;kernel_rfl)⟩
theorem aTh:yQ Tryd.prog 82 ⟨.other,1,[.nilf],8⟩:=⟨by kernel_rfl,by kernel_rfl,by kernel_rfl,(by show aGb _ _=some false;kernel_rfl)⟩
theorem aTn:yQ Tryd.prog 92 ⟨.int .u64,1,[.int .u64 0],8⟩:=⟨by kernel_rfl,by kernel_rfl,by kernel_rfl,Tryd.underlying92⟩
theorem aS7:yQ Tryd.prog 96 ⟨.int .u32,1,[.int .u32 0],4⟩:=⟨by kernel_rfl,by kernel_rfl,by kernel_rfl,Tryd.underlying96⟩
theorem aS9:yQ Tryd.prog 98 ⟨.int .u64,1,[.int .u64 0],8⟩:=⟨by kernel_rfl,by kernel_rfl,by kernel_rfl,Tryd.underlying98⟩
theorem aTs:yQ Tryd.prog 99 ⟨.array 32 5,32,[.int .u8 0,.int .u8 0,.int .u8 0,.int .u8 0,.int .u8 0,.int .u8 0,.int .u8 0,.int .u8 0,.int .u8 0,.int .u8 0,.int .u8 0,.int .u8 0,.int .u8 0,.int .u8 0,.int .u8 0,.int .u8 0,.int .u8 0,.int .u8 0,.int .u8 0,.int .u8 0,.int .u8 0,.int .u8 0,.int .u8 0,.int .u8 0,.int .u8 0,.int .u8 0,.int .u8 0,.int .u8 0,.int .u8 0,.int .u8 0,.int .u8 0,.int .u8 0],32⟩:=⟨by kernel_rfl,by kernel_rfl,by kernel_rfl,Tryd.underlying99⟩
theorem aQF:yQ Tryd.prog 100 ⟨.array 64 5,64,[.int .u8 0,.int .u8 0,.int .u8 0,.int .u8 0,.int .u8 0,.int .u8 0,.int .u8 0,.int .u8 0,.int .u8 0,.int .u8 0,.int .u8 0,.int .u8 0,.int .u8 0,.int .u8 0,.int .u8 0,.int .u8 0,.int .u8 0,.int .u8 0,.int .u8 0,.int .u8 0,.int .u8 0,.int .u8 0,.int .u8 0,.int .u8 0,.int .u8 0,.int .u8 0,.int .u8 0,.int .u8 0,.int .u8 0,.int .u8 0,.int .u8 0,.int .u8 0,.int .u8 0,.int .u8 0,.int .u8 0,.int .u8 0,.int .u8 0,.int .u8 0,.int .u8 0,.int .u8 0,.int .u8 0,.int .u8 0,.int .u8 0,.int .u8 0,.int .u8 0,.int .u8 0,.int .u8 0,.int .u8 0,.int .u8 0,.int .u8 0,.int .u8 0,.int .u8 0,.int .u8 0,.int .u8 0,.int .u8 0,.int .u8 0,.int .u8 0,.int .u8 0,.int .u8 0,.int .u8 0,.int .u8 0,.int .u8 0,.int .u8 0,.int .u8 0],64⟩:=⟨by kernel_rfl,by kernel_rfl,by kernel_rfl,Tryd.underlying100⟩
theorem dCo:DOk Tryd.prog DC:=(bX td3 (bX td4 (bX td5 (bX aS3 (bX aTa (bX aS4 (bX aTc (bX aS6 (bX aTg (bX aTq (bX aTb (bX aTr (bX aS8 (bX aS5 (bX aTm (bX aTp (bX aS2 (bX aTt (bX aTh (bX aTn (bX aS7 (bX aS9 (bX aTs (bX aQF (aJK _)))))))))))))))))))))))))
theorem cG:Tryd.prog.follows .mixedOrders=true:=by kernel_rfl
def kT (x:Int×Int):AV:=.agg [eI x.1,eI x.2]
theorem aI (x:Int×Int):(kT x).loose:=(vZ (lsC (lsI _ _) (lsC (lsI _ _) lsN)))
def aOz (x:Int×Int×Int):AV:=.agg [eI x.1,eI x.2.1,eI x.2.2]
theorem aO5 (x:Int×Int×Int):(aOz x).loose:=(vZ (lsC (lsI _ _) (lsC (lsI _ _) (lsC (lsI _ _) lsN))))
structure aE where
 N:Int
 Pairs:List (Int×Int)
instance:Inhabited aE:=⟨⟨default,default⟩⟩
def bF (x:aE):AV:=.agg [eI x.N,(eL 2 kT default) x.Pairs]
theorem bT (x:aE):(bF x).loose:=(vZ (lsC (lsI _ _) (lsC (lsL fun _=>(aI _)) lsN)))
theorem aLU (x:Int):∀ b vs,Vs b [eI x] vs→vs=[Value.int .i64 x]:=fun b vs h=>by simpa [Vs,V,eI] using h
theorem aMQ (b:cN) (x:Int):Vs b [eI x] [Value.int .i64 x]:=⟨_,_,rfl,by simp [V,eI],rfl⟩
def PF:FuncId→Bool:=fun f=>[3,14,15,16,38,39,40,41,42,43,44,45,46,47,48,49,50,51,52,53,71,72,73,74,75,76,77,78,4,5,6,7,8,9,10,11,12,13,18,19,20,21,22,23,24,25,26,27,28,29,30,31,32,33,34,35,36,37,54,56,57,58,61,62,63,64,68,69,70,79,82,83,85,86,87,100060].contains f
theorem aSe (x0:Int) (x1:Int) (y0:Int) (y1:Int):EqV Tryd.prog 46 (.agg [eI x0,eI x1]) (.agg [eI y0,eI y1]) ((x0==y0)&&(x1==y1)):=by
 intro β w u v ox oy hu hv
 simp only [V,Vs,eI,eB] at hu hv
 obtain ⟨_,rfl,_,_,rfl,rfl,_,_,rfl,rfl,rfl⟩:=hu
 obtain ⟨_,rfl,_,_,rfl,rfl,_,_,rfl,rfl,rfl⟩:=hv
 have u3:=Tryd.underlying3
 have a3:=Tryd.isAgg3
 have z3:=Tryd.sizeOf3
 have hm:Tryd.prog.eqGuardType Tryd.prog.depth 46=false:=by kernel_rfl
 have hi:∃ i,Tryd.prog.info? 3=some i:=⟨_,rfl⟩
 obtain ⟨i,hi⟩:=hi
 have hc:Tryd.prog.cellsOf 3=1:=by kernel_rfl
 have key:(Op.equalIn 10000 46 (.agg #[.int .i64 x0,.int .i64 x1]) (.agg #[.int .i64 y0,.int .i64 y1])).run Tryd.prog w=.ok ((x0==y0)&&(x1==y1)) w:=by
  rw [show (10000:Nat)=9999+1 from rfl,run_equalIn_array w 9999 _ _ Tryd.underlying46 hi,hc,show List.range 2=[0,1] from rfl]
  simp only [Op.eqItems]
  go_simp
  by_cases h0:x0=y0<;>by_cases h1:x1=y1<;>simp [h0,h1]
 constructor
 ·simp only [Sem.run_bind,run_eqGuard_agg w _ 46 _ _ _ _ hm,Result.andThen_ok,run_eql_struct,key]
 ·simp only [Sem.run_bind,run_eqGuard_agg w _ 46 _ _ _ _ hm,Result.andThen_ok,run_neq_struct,key]
def mP (a0:Int) (a1:Int):Option Int:=jn (fun p1:Int=>gd (a1≠0) (some (Int.tmod p1 a1))) fun k2=>cn (decide (a0<0)) (k2 (wr (0-(wr (a0+1))))) (k2 a0)
def rA:List AV→AV→Prop:=fun args r=>∃ a0 a1,args=[eI a0,eI a1]∧W (mP a0 a1) fun y=>r=(eI y)
theorem aD8 {T:Tbl} (hT:TOk Tryd.prog T) (hpf:cP T PF):FOk Tryd.prog 13 (aH rA):=by
 refine bM hT hpf Tryd.func13 rfl Tryd.ntmps13 Tryd.results13 (by decide) ?_
 rintro args r ⟨a0,a1,rfl,h⟩
 refine ⟨nle rfl,?_,?_⟩
 ·exact (lsC (lsI _ _) (lsC (lsI _ _) lsN))
 rw [mP.eq_1] at h
 refine aC dCo rfl fun K hK=>?_;conv=>whnf
 refine hK _ _ _ ?_
 refine aF ?_
 refine aC dCo rfl fun K hK=>?_;conv=>whnf
 refine hK _ _ _ ?_
 replace h:=lG h
 refine aW fun K1 K2 hK1 hK2=>?_;conv=>whnf
 refine cLk h (fun _ h=>?_) (fun _ h=>?_)
 ·refine hK1 ?_
  refine bY dCo rfl fun K hK=>?_;conv=>whnf
  refine hK _ _ _ ?_
  refine tHn ?_
  refine aC dCo rfl fun K hK=>?_;conv=>whnf
  refine bW h fun _ h=>?_;conv=>whnf
  refine hK _ _ _ ?_
  refine aP ?_
  replace h:=aO h
  refine aK dCo fun K hK=>?_;conv=>whnf
  refine hK _ ?_
  cases h
  exact Wk.refl _
 refine hK2 ?_
 refine aG ?_
 refine tHn ?_
 refine aC dCo rfl fun K hK=>?_;conv=>whnf
 refine bW h fun _ h=>?_;conv=>whnf
 refine hK _ _ _ ?_
 refine aP ?_
 replace h:=aO h
 refine aK dCo fun K hK=>?_;conv=>whnf
 refine hK _ ?_
 cases h
 exact Wk.refl _
theorem vG {T:Tbl} (hT:T 13=aH rA) {args:List AV} {hp:bH} {id:Nat} {k:AV→Prop} {a0:Int} {a1:Int} {Φ:Int→Prop} (h:W (mP a0 a1) Φ) (hw:WkL args [eI a0,eI a1]) (hk:∀ y,Φ y→k (eI y)):cH T 13 args hp id k:=by
 obtain ⟨y,e,hy⟩:=dY h
 exact aV hT ⟨a0,a1,rfl,lR e rfl⟩ (by exact (lsI _ _)) hw (hk y hy)
def eZ (a0:Int) (a1:Int):Option Int:=jn (fun p1:Int=>gd (a1≠0) (some (Int.tmod p1 a1))) fun k2=>cn (decide (a0<0)) (k2 (wr (0-(wr (a0+1))))) (k2 a0)
def kY:List AV→AV→Prop:=fun args r=>∃ a0 a1,args=[eI a0,eI a1]∧W (eZ a0 a1) fun y=>r=(eI y)
theorem aEA {T:Tbl} (hT:TOk Tryd.prog T) (hpf:cP T PF):FOk Tryd.prog 37 (aH kY):=by
 refine bM hT hpf Tryd.func37 rfl Tryd.ntmps37 Tryd.results37 (by decide) ?_
 rintro args r ⟨a0,a1,rfl,h⟩
 refine ⟨nle rfl,?_,?_⟩
 ·exact (lsC (lsI _ _) (lsC (lsI _ _) lsN))
 rw [eZ.eq_1] at h
 refine aC dCo rfl fun K hK=>?_;conv=>whnf
 refine hK _ _ _ ?_
 refine aF ?_
 refine aC dCo rfl fun K hK=>?_;conv=>whnf
 refine hK _ _ _ ?_
 replace h:=lG h
 refine aW fun K1 K2 hK1 hK2=>?_;conv=>whnf
 refine cLk h (fun _ h=>?_) (fun _ h=>?_)
 ·refine hK1 ?_
  refine bY dCo rfl fun K hK=>?_;conv=>whnf
  refine hK _ _ _ ?_
  refine tHn ?_
  refine aC dCo rfl fun K hK=>?_;conv=>whnf
  refine bW h fun _ h=>?_;conv=>whnf
  refine hK _ _ _ ?_
  refine aP ?_
  replace h:=aO h
  refine aK dCo fun K hK=>?_;conv=>whnf
  refine hK _ ?_
  cases h
  exact Wk.refl _
 refine hK2 ?_
 refine aG ?_
 refine tHn ?_
 refine aC dCo rfl fun K hK=>?_;conv=>whnf
 refine bW h fun _ h=>?_;conv=>whnf
 refine hK _ _ _ ?_
 refine aP ?_
 replace h:=aO h
 refine aK dCo fun K hK=>?_;conv=>whnf
 refine hK _ ?_
 cases h
 exact Wk.refl _
theorem dE {T:Tbl} (hT:T 37=aH kY) {args:List AV} {hp:bH} {id:Nat} {k:AV→Prop} {a0:Int} {a1:Int} {Φ:Int→Prop} (h:W (eZ a0 a1) Φ) (hw:WkL args [eI a0,eI a1]) (hk:∀ y,Φ y→k (eI y)):cH T 37 args hp id k:=by
 obtain ⟨y,e,hy⟩:=dY h
 exact aV hT ⟨a0,a1,rfl,lR e rfl⟩ (by exact (lsI _ _)) hw (hk y hy)
def nE (a0:List Int) (a1:List Int) (s1:Int):Option (Ct Int Bool):=cn (decide (s1<(a0.length:Int))) (ix a0 default s1 fun e2=>ix a1 default s1 fun e3=>
  cn (e2 != e3) (some (.rt false)) (some (.nx (wr (s1+1))))) (some (.bk s1))
def dA (a0:List Int) (a1:List Int):Option Bool:=cn ((a0.length:Int) != (a1.length:Int)) (some false) (bd (lp (nE a0 a1) FU 0) fun c4=>
  smK c4 (fun s5=>some true) (fun r6=>some r6))
def oM:List AV→AV→Prop:=fun args r=>∃ a0 a1,args=[(eL 1 eI default) a0,(eL 1 eI default) a1]∧W (dA a0 a1) fun y=>r=(eB y)
theorem aEk {T:Tbl} (hT:TOk Tryd.prog T) (hpf:cP T PF):FOk Tryd.prog 36 (aH oM):=by
 refine bM hT hpf Tryd.func36 rfl Tryd.ntmps36 Tryd.results36 (by decide) ?_
 rintro args r ⟨a0,a1,rfl,h⟩
 refine ⟨nle rfl,?_,?_⟩
 ·exact (lsC (lsL fun _=>(lsI _ _)) (lsC (lsL fun _=>(lsI _ _)) lsN))
 rw [dA.eq_1] at h
 refine aC dCo rfl fun K hK=>?_;conv=>whnf
 refine hK _ _ _ ?_
 refine aF ?_
 refine aC dCo rfl fun K hK=>?_;conv=>whnf
 refine hK _ _ _ ?_
 refine aW fun K1 K2 hK1 hK2=>?_;conv=>whnf
 refine cLk h (fun _ h=>?_) (fun _ h=>?_)
 ·refine hK1 ?_
  refine aC dCo rfl fun K hK=>?_;conv=>whnf
  refine hK _ _ _ ?_
  refine aP ?_
  refine aQ ?_
  replace h:=aO h
  refine aK dCo fun K hK=>?_;conv=>whnf
  refine hK _ ?_
  cases h
  exact Wk.refl _
 refine hK2 ?_
 refine aG ?_
 refine tHn ?_
 refine aF ?_
 refine aC dCo rfl fun K hK=>?_;conv=>whnf
 refine hK _ _ _ ?_
 refine aJ ?_
 replace h:=bL h
 refine qU (body:=nE _ _) rfl h [0,1] [] [] (fun kl kh ids b s=>⟨ofL ([(5,eI s)]++kl),ofH ([]++kh),b+64⟩) ?_;(conv=>whnf);refine And.intro ?_ (fun s m h=>cR ?_)
 ·refine bN ?_;conv=>whnf
  exact And.intro rfl (And.intro (aLc wkI (aLc (wkr (lsL fun _=>(lsI _ _))) (aLc (wkr (lsL fun _=>(lsI _ _))) aLn))) aLn)
 replace h:=bL h;rw [nE.eq_1] at h
 refine aF ?_
 refine aC dCo rfl fun K hK=>?_;conv=>whnf
 refine hK _ _ _ ?_
 refine aW fun K1 K2 hK1 hK2=>?_;conv=>whnf
 refine cLk h (fun _ h=>?_) (fun _ h=>?_)
 ·refine hK1 ?_
  refine aG ?_
  refine tHn ?_
  refine aF ?_
  refine aJ ?_
  refine qA dCo cG rfl (by kernel_rfl) fun K hK=>?_;conv=>whnf
  refine dD h fun _ h=>?_;conv=>whnf
  refine gKo rfl ?_;conv=>whnf
  refine dD h fun _ h=>?_;conv=>whnf
  refine gKo rfl ?_;conv=>whnf
  refine hK _ _ _ ?_
  refine aW fun K1 K2 hK1 hK2=>?_;conv=>whnf
  refine cLk h (fun _ h=>?_) (fun _ h=>?_)
  ·refine hK1 ?_
   refine aC dCo rfl fun K hK=>?_;conv=>whnf
   refine hK _ _ _ ?_
   refine aP ?_
   refine aU ?_
   refine aQ ?_
   refine aQ ?_
   refine aU ?_
   refine aQ ?_
   replace h:=jO h
   replace h:=jN h
   replace h:=aO h
   refine aK dCo fun K hK=>?_;conv=>whnf
   refine hK _ ?_
   cases h
   exact Wk.refl _
  refine hK2 ?_
  refine aG ?_
  refine iBn ?_
  refine tHn ?_
  refine bY dCo rfl fun K hK=>?_;conv=>whnf
  refine hK _ _ _ ?_
  refine tHn ?_
  replace h:=bK h
  refine ⟨_,h,?_⟩
  refine bN ?_;conv=>whnf
  exact And.intro rfl (And.intro (aLc wkI (aLc (wkr (lsL fun _=>(lsI _ _))) (aLc (wkr (lsL fun _=>(lsI _ _))) aLn))) aLn)
 refine hK2 ?_
 refine bI ?_
 refine aT ?_
 refine aT ?_
 refine aS ?_
 replace h:=cV h
 replace h:=cU h
 refine tHn ?_
 refine aC dCo rfl fun K hK=>?_;conv=>whnf
 refine hK _ _ _ ?_
 refine aP ?_
 replace h:=aO h
 refine aK dCo fun K hK=>?_;conv=>whnf
 refine hK _ ?_
 cases h
 exact Wk.refl _
theorem dF {T:Tbl} (hT:T 36=aH oM) {args:List AV} {hp:bH} {id:Nat} {k:AV→Prop} {a0:List Int} {a1:List Int} {Φ:Bool→Prop} (h:W (dA a0 a1) Φ) (hw:WkL args [(eL 1 eI default) a0,(eL 1 eI default) a1]) (hk:∀ y,Φ y→k (eB y)):cH T 36 args hp id k:=by
 obtain ⟨y,e,hy⟩:=dY h
 exact aV hT ⟨a0,a1,rfl,lR e rfl⟩ (by exact (lsB _)) hw (hk y hy)
def nH (a0:aE) (a1:aE) (s3:Int):Option (Ct Int Bool):=cn (decide (s3<(a0.Pairs.length:Int))) (ix a0.Pairs default s3 fun e4=>
  ix a1.Pairs default s3 fun e5=>cn (!((e4.1==e5.1)&&(e4.2==e5.2))) (some (.rt false)) (some (.nx (wr (s3+1))))) (some (.bk s3))
def iX (a0:aE) (a1:aE):Option Bool:=jn (fun p1:Bool=>cn p1 (some false) (bd (lp (nH a0 a1) FU 0) fun c6=>smK c6 (fun s7=>
  some true) (fun r8=>some r8))) fun k2=>cn (a0.N != a1.N) (k2 true) (k2 ((a0.Pairs.length:Int) != (a1.Pairs.length:Int)))
def oR:List AV→AV→Prop:=fun args r=>∃ a0 a1,args=[bF a0,bF a1]∧W (iX a0 a1) fun y=>r=(eB y)
theorem aDg {T:Tbl} (hT:TOk Tryd.prog T) (hpf:cP T PF):FOk Tryd.prog 26 (aH oR):=by
 refine bM hT hpf Tryd.func26 rfl Tryd.ntmps26 Tryd.results26 (by decide) ?_
 rintro args r ⟨a0,a1,rfl,h⟩
 refine ⟨nle rfl,?_,?_⟩
 ·exact (lsC (bT _) (lsC (bT _) lsN))
 rw [iX.eq_1] at h
 refine aC dCo rfl fun K hK=>?_;conv=>whnf
 refine hK _ _ _ ?_
 refine aF ?_
 refine aC dCo rfl fun K hK=>?_;conv=>whnf
 replace h:=lG h
 refine nlA rfl ?_;conv=>whnf
 refine bKo rfl ?_;conv=>whnf
 refine gKo rfl ?_;conv=>whnf
 refine nlA rfl ?_;conv=>whnf
 refine bKo rfl ?_;conv=>whnf
 refine gKo rfl ?_;conv=>whnf
 refine cLk h (fun _ h=>?_) (fun _ h=>?_)<;>(conv=>whnf)
 ·refine hK _ _ _ ?_
  refine aW fun K1 K2 hK1 hK2=>?_;conv=>whnf
  refine hK1 ?_
  replace h:=rM h
  refine aC dCo rfl fun K hK=>?_;conv=>whnf
  refine hK _ _ _ ?_
  refine aP ?_
  refine aQ ?_
  replace h:=aO h
  refine aK dCo fun K hK=>?_;conv=>whnf
  refine hK _ ?_
  cases h
  exact Wk.refl _
 refine nlA rfl ?_;conv=>whnf
 refine bKo rfl ?_;conv=>whnf
 refine gKo rfl ?_;conv=>whnf
 refine nlA rfl ?_;conv=>whnf
 refine bKo rfl ?_;conv=>whnf
 refine gKo rfl ?_;conv=>whnf
 refine hK _ _ _ ?_
 refine aW fun K1 K2 hK1 hK2=>?_;conv=>whnf
 refine cLk h (fun _ h=>?_) (fun _ h=>?_)
 ·refine hK1 ?_
  refine aC dCo rfl fun K hK=>?_;conv=>whnf
  refine hK _ _ _ ?_
  refine aP ?_
  refine aQ ?_
  replace h:=aO h
  refine aK dCo fun K hK=>?_;conv=>whnf
  refine hK _ ?_
  cases h
  exact Wk.refl _
 refine hK2 ?_
 refine aG ?_
 refine tHn ?_
 refine aF ?_
 refine aC dCo rfl fun K hK=>?_;conv=>whnf
 refine hK _ _ _ ?_
 refine aJ ?_
 replace h:=bL h
 refine qU (body:=nH _ _) rfl h [2,3] [2,3] [] (fun kl kh ids b s=>⟨ofL ([(5,eI s)]++kl),ofH ([]++kh),b+64⟩) ?_;(conv=>whnf);refine And.intro ?_ (fun s m h=>cR ?_)
 ·refine bN ?_;conv=>whnf
  exact And.intro rfl (And.intro (aLc wkI (aLc (WkR.ptr (fun _=>rfl)) (aLc (WkR.ptr (fun _=>rfl)) aLn))) (aLc ⟨some _,rfl,bRc rfl (cKc wkI (cKc (wkr (lsL fun _=>(aI _))) cKn))⟩ (aLc ⟨some _,rfl,bRc rfl (cKc wkI (cKc (wkr (lsL fun _=>(aI _))) cKn))⟩ aLn)))
 replace h:=bL h;rw [nH.eq_1] at h
 refine aF ?_
 refine aC dCo rfl fun K hK=>?_;conv=>whnf
 refine nlA rfl ?_;conv=>whnf
 refine bKo rfl ?_;conv=>whnf
 refine gKo rfl ?_;conv=>whnf
 refine hK _ _ _ ?_
 refine aW fun K1 K2 hK1 hK2=>?_;conv=>whnf
 refine cLk h (fun _ h=>?_) (fun _ h=>?_)
 ·refine hK1 ?_
  refine aG ?_
  refine tHn ?_
  refine aF ?_
  refine aJ ?_
  refine qA dCo cG rfl (by kernel_rfl) fun K hK=>?_;conv=>whnf
  refine nlA rfl ?_;conv=>whnf
  refine bKo rfl ?_;conv=>whnf
  refine gKo rfl ?_;conv=>whnf
  refine dD h fun _ h=>?_;conv=>whnf
  refine nlA rfl ?_;conv=>whnf
  refine nlA rfl ?_;conv=>whnf
  refine bKo rfl ?_;conv=>whnf
  refine gKo rfl ?_;conv=>whnf
  refine dD h fun _ h=>?_;conv=>whnf
  refine nlA rfl ?_;conv=>whnf
  refine aIp (aSe _ _ _ _) ?_;conv=>whnf
  refine hK _ _ _ ?_
  refine aW fun K1 K2 hK1 hK2=>?_;conv=>whnf
  refine cLk h (fun _ h=>?_) (fun _ h=>?_)
  ·refine hK1 ?_
   refine aC dCo rfl fun K hK=>?_;conv=>whnf
   refine hK _ _ _ ?_
   refine aP ?_
   refine aU ?_
   refine aQ ?_
   refine aQ ?_
   refine aU ?_
   refine aQ ?_
   replace h:=jO h
   replace h:=jN h
   replace h:=aO h
   refine aK dCo fun K hK=>?_;conv=>whnf
   refine hK _ ?_
   cases h
   exact Wk.refl _
  refine hK2 ?_
  refine aG ?_
  refine iBn ?_
  refine tHn ?_
  refine bY dCo rfl fun K hK=>?_;conv=>whnf
  refine hK _ _ _ ?_
  refine tHn ?_
  replace h:=bK h
  refine ⟨_,h,?_⟩
  refine bN ?_;conv=>whnf
  exact And.intro rfl (And.intro (aLc wkI (aLc (WkR.ptr (fun _=>rfl)) (aLc (WkR.ptr (fun _=>rfl)) aLn))) (aLc ⟨some _,rfl,bRc rfl (cKc wkI (cKc (wkr (lsL fun _=>(aI _))) cKn))⟩ (aLc ⟨some _,rfl,bRc rfl (cKc wkI (cKc (wkr (lsL fun _=>(aI _))) cKn))⟩ aLn)))
 refine hK2 ?_
 refine bI ?_
 refine aT ?_
 refine aT ?_
 refine aS ?_
 replace h:=cV h
 replace h:=cU h
 refine tHn ?_
 refine aC dCo rfl fun K hK=>?_;conv=>whnf
 refine hK _ _ _ ?_
 refine aP ?_
 replace h:=aO h
 refine aK dCo fun K hK=>?_;conv=>whnf
 refine hK _ ?_
 cases h
 exact Wk.refl _
theorem pR {T:Tbl} (hT:T 26=aH oR) {args:List AV} {hp:bH} {id:Nat} {k:AV→Prop} {a0:aE} {a1:aE} {Φ:Bool→Prop} (h:W (iX a0 a1) Φ) (hw:WkL args [bF a0,bF a1]) (hk:∀ y,Φ y→k (eB y)):cH T 26 args hp id k:=by
 obtain ⟨y,e,hy⟩:=dY h
 exact aV hT ⟨a0,a1,rfl,lR e rfl⟩ (by exact (lsB _)) hw (hk y hy)
def kD (a0:Int):Option Bool:=some (a0 != a0)
def mS:List AV→AV→Prop:=fun args r=>∃ a0,args=[eI a0]∧W (kD a0) fun y=>r=(eB y)
theorem aAD {T:Tbl} (hT:TOk Tryd.prog T) (hpf:cP T PF):FOk Tryd.prog 83 (aH mS):=by
 refine bM hT hpf Tryd.func83 rfl Tryd.ntmps83 Tryd.results83 (by decide) ?_
 rintro args r ⟨a0,rfl,h⟩
 refine ⟨nle rfl,?_,?_⟩
 ·exact (lsC (lsI _ _) lsN)
 rw [kD.eq_1] at h
 refine aC dCo rfl fun K hK=>?_;conv=>whnf
 refine hK _ _ _ ?_
 refine aC dCo rfl fun K hK=>?_;conv=>whnf
 refine hK _ _ _ ?_
 refine aP ?_
 replace h:=aO h
 refine aK dCo fun K hK=>?_;conv=>whnf
 refine hK _ ?_
 cases h
 exact Wk.refl _
theorem tC {T:Tbl} (hT:T 83=aH mS) {args:List AV} {hp:bH} {id:Nat} {k:AV→Prop} {a0:Int} {Φ:Bool→Prop} (h:W (kD a0) Φ) (hw:WkL args [eI a0]) (hk:∀ y,Φ y→k (eB y)):cH T 83 args hp id k:=by
 obtain ⟨y,e,hy⟩:=dY h
 exact aV hT ⟨a0,rfl,lR e rfl⟩ (by exact (lsB _)) hw (hk y hy)
def iQ (a0:Int×Int) (c900:aE):Option Bool:=jn (fun p1:Bool=>some p1) fun k2=>
  cn (decide ((aH9 a0.1 a0.2)<0)) (k2 true) (cn (decide ((aH4 a0.1 a0.2)≥c900.N)) (k2 true) (k2 (a0.1==a0.2)))
def iU:List AV→AV→Prop:=fun args r=>∃ a0 c900,args=[kT a0,.ep [eI c900.N,(eL 2 kT default) c900.Pairs] 0]∧W (iQ a0 c900) fun y=>r=(eB y)
theorem zY {T:Tbl} (hT:TOk Tryd.prog T) (hpf:cP T PF):FOk Tryd.prog 69 (aH iU):=by
 refine bM hT hpf Tryd.func69 rfl Tryd.ntmps69 Tryd.results69 (by decide) ?_
 rintro args r ⟨a0,c900,rfl,h⟩
 refine ⟨nle rfl,?_,?_⟩
 ·exact (lsC (aI _) (lsC (lsE (lsC (lsI _ _) (lsC (lsL fun _=>(aI _)) lsN))) lsN))
 rw [iQ.eq_1] at h
 refine aC dCo rfl fun K hK=>?_;conv=>whnf
 refine hK _ _ _ ?_
 refine aC dCo rfl fun K hK=>?_;conv=>whnf
 replace h:=lG h
 refine And.intro (by decide) ?_;conv=>whnf
 refine nlA rfl ?_;conv=>whnf
 refine bKo rfl ?_;conv=>whnf
 refine gKo rfl ?_;conv=>whnf
 refine And.intro (by decide) ?_;conv=>whnf
 refine nlA rfl ?_;conv=>whnf
 refine bKo rfl ?_;conv=>whnf
 refine gKo rfl ?_;conv=>whnf
 refine cLk h (fun _ h=>?_) (fun _ h=>?_)<;>(conv=>whnf)
 ·refine hK _ _ _ ?_
  refine aP ?_
  replace h:=aO h
  refine aK dCo fun K hK=>?_;conv=>whnf
  refine hK _ ?_
  cases h
  exact Wk.refl _
 refine And.intro (by decide) ?_;conv=>whnf
 refine nlA rfl ?_;conv=>whnf
 refine bKo rfl ?_;conv=>whnf
 refine gKo rfl ?_;conv=>whnf
 refine And.intro (by decide) ?_;conv=>whnf
 refine nlA rfl ?_;conv=>whnf
 refine bKo rfl ?_;conv=>whnf
 refine gKo rfl ?_;conv=>whnf
 refine gKo rfl ?_;conv=>whnf
 refine cLk h (fun _ h=>?_) (fun _ h=>?_)<;>(conv=>whnf)
 ·refine hK _ _ _ ?_
  refine aP ?_
  replace h:=aO h
  refine aK dCo fun K hK=>?_;conv=>whnf
  refine hK _ ?_
  cases h
  exact Wk.refl _
 refine And.intro (by decide) ?_;conv=>whnf
 refine nlA rfl ?_;conv=>whnf
 refine bKo rfl ?_;conv=>whnf
 refine gKo rfl ?_;conv=>whnf
 refine And.intro (by decide) ?_;conv=>whnf
 refine nlA rfl ?_;conv=>whnf
 refine bKo rfl ?_;conv=>whnf
 refine gKo rfl ?_;conv=>whnf
 refine hK _ _ _ ?_
 refine aP ?_
 replace h:=aO h
 refine aK dCo fun K hK=>?_;conv=>whnf
 refine hK _ ?_
 cases h
 exact Wk.refl _
theorem wU {T:Tbl} (hT:T 69=aH iU) {args:List AV} {hp:bH} {id:Nat} {k:AV→bH→Prop} {a0:Int×Int} {c900:aE} {Φ:Bool→Prop} (h:W (iQ a0 c900) Φ) (hw:WkL args [kT a0,.ep [eI c900.N,(eL 2 kT default) c900.Pairs] 0]) (hk:∀ y,Φ y→k (eB y) hp):vM T 69 args hp id k:=by
 obtain ⟨y,e,hy⟩:=dY h
 exact aG1 hT ⟨a0,c900,rfl,lR e rfl⟩ (by exact (lsB _)) hw (hk y hy)
def eX (a0:List Int) (s1:Int):Option (Ct Int Int):=cn (decide (s1<(a0.length:Int))) (ix a0 default s1 fun e2=>cn (e2 !=
  0) (some (.rt e2)) (some (.nx (wr (s1+1))))) (some (.bk s1))
def oP (a0:List Int):Option Int:=bd (lp (eX a0) FU 0) fun c3=>smK c3 (fun s4=>some 0) (fun r5=>some r5)
def qX:List AV→AV→Prop:=fun args r=>∃ a0,args=[(eL 1 eI default) a0]∧W (oP a0) fun y=>r=(eI y)
theorem aDT {T:Tbl} (hT:TOk Tryd.prog T) (hpf:cP T PF):FOk Tryd.prog 62 (aH qX):=by
 refine bM hT hpf Tryd.func62 rfl Tryd.ntmps62 Tryd.results62 (by decide) ?_
 rintro args r ⟨a0,rfl,h⟩
 refine ⟨nle rfl,?_,?_⟩
 ·exact (lsC (lsL fun _=>(lsI _ _)) lsN)
 rw [oP.eq_1] at h
 refine aC dCo rfl fun K hK=>?_;conv=>whnf
 refine hK _ _ _ ?_
 refine aC dCo rfl fun K hK=>?_;conv=>whnf
 refine hK _ _ _ ?_
 refine aF ?_
 refine aC dCo rfl fun K hK=>?_;conv=>whnf
 refine hK _ _ _ ?_
 refine aJ ?_
 replace h:=bL h
 refine qU (body:=eX _) rfl h [3,6,7] [] [] (fun kl kh ids b s=>⟨ofL ([(8,eI s)]++kl),ofH ([]++kh),b+64⟩) ?_;(conv=>whnf);refine And.intro ?_ (fun s m h=>cR ?_)
 ·refine bN ?_;conv=>whnf
  exact And.intro rfl (And.intro (aLc wkI (aLc wkI (aLc (wkr (lsL fun _=>(lsI _ _))) (aLc wkI aLn)))) aLn)
 replace h:=bL h;rw [eX.eq_1] at h
 refine aC dCo rfl fun K hK=>?_;conv=>whnf
 refine hK _ _ _ ?_
 refine aF ?_
 refine aW fun K1 K2 hK1 hK2=>?_;conv=>whnf
 refine cLk h (fun _ h=>?_) (fun _ h=>?_)
 ·refine hK1 ?_
  refine aG ?_
  refine tHn ?_
  refine aF ?_
  refine aJ ?_
  refine aC dCo rfl fun K hK=>?_;conv=>whnf
  refine dD h fun _ h=>?_;conv=>whnf
  refine gKo rfl ?_;conv=>whnf
  refine hK _ _ _ ?_
  refine aC dCo rfl fun K hK=>?_;conv=>whnf
  refine hK _ _ _ ?_
  refine aW fun K1 K2 hK1 hK2=>?_;conv=>whnf
  refine cLk h (fun _ h=>?_) (fun _ h=>?_)
  ·refine hK1 ?_
   refine aC dCo rfl fun K hK=>?_;conv=>whnf
   refine hK _ _ _ ?_
   refine aP ?_
   refine aU ?_
   refine aQ ?_
   refine aQ ?_
   refine aU ?_
   refine aQ ?_
   replace h:=jO h
   replace h:=jN h
   replace h:=aO h
   refine aK dCo fun K hK=>?_;conv=>whnf
   refine hK _ ?_
   cases h
   exact Wk.refl _
  refine hK2 ?_
  refine aG ?_
  refine iBn ?_
  refine tHn ?_
  refine bY dCo rfl fun K hK=>?_;conv=>whnf
  refine hK _ _ _ ?_
  refine tHn ?_
  replace h:=bK h
  refine ⟨_,h,?_⟩
  refine bN ?_;conv=>whnf
  exact And.intro rfl (And.intro (aLc wkI (aLc wkI (aLc (wkr (lsL fun _=>(lsI _ _))) (aLc wkI aLn)))) aLn)
 refine hK2 ?_
 refine bI ?_
 refine aT ?_
 refine aT ?_
 refine aS ?_
 replace h:=cV h
 replace h:=cU h
 refine tHn ?_
 refine aC dCo rfl fun K hK=>?_;conv=>whnf
 refine hK _ _ _ ?_
 refine aP ?_
 replace h:=aO h
 refine aK dCo fun K hK=>?_;conv=>whnf
 refine hK _ ?_
 cases h
 exact Wk.refl _
theorem aBH {T:Tbl} (hT:T 62=aH qX) {args:List AV} {hp:bH} {id:Nat} {k:AV→Prop} {a0:List Int} {Φ:Int→Prop} (h:W (oP a0) Φ) (hw:WkL args [(eL 1 eI default) a0]) (hk:∀ y,Φ y→k (eI y)):cH T 62 args hp id k:=by
 obtain ⟨y,e,hy⟩:=dY h
 exact aV hT ⟨a0,rfl,lR e rfl⟩ (by exact (lsI _ _)) hw (hk y hy)
  def mQ (a0:aE) (s16:Int×(Ar 8)) (s18:Int×(Ar 8)):Option (Ct (Int×(Ar 8)) ((Ar 8)×Bool)):=cn (decide (s18.1<a0.N)) (gd (0≤s18.1∧s18.1<(8:Int)) (gd (0≤s18.1) (cn ((aAo .i64 (wW .i64 (s16.2.at1 s18.1) s18.1) 1) ==
  1) (some (.rt (s16.2,false))) (some (.nx ((wr (s18.1+1)),s18.2)))))) (some (.bk (s18.1,s18.2)))
  def kL (a0:aE) (s7:Int×(Ar 8)) (s8:Int×(Ar 8)):Option (Ct (Int×(Ar 8)) ((Ar 8)×Bool)):=cn (decide (s8.1<a0.N)) (gd (0≤s8.1∧s8.1<(8:Int)) (gd (0≤s7.1) (jn (fun p9:(Ar 8)=>
  some (.nx ((wr (s8.1+1)),p9))) fun k10=>cn ((aAo .i64 (wW .i64 (s8.2.at1 s8.1) s7.1) 1) ==
  1) (gd (0≤s8.1∧s8.1<(8:Int)) (gd (0≤s7.1∧s7.1<(8:Int)) (gd (0≤s8.1∧s8.1<(8:Int)) (let m11:=s8.2.st1 s8.1 (bor .i64 (s8.2.at1 s8.1) (s8.2.at1 s7.1));
  k10 m11)))) (k10 s8.2)))) (some (.bk (s8.1,s8.2)))
  def kP (a0:aE) (s7:Int×(Ar 8)):Option (Ct (Int×(Ar 8)) ((Ar 8)×Bool)):=cn (decide (s7.1<a0.N)) (bd (lp (kL a0 s7) FU (0,s7.2)) fun c12=>
  smK c12 (fun s13=>some (.nx ((wr (s7.1+1)),s13.2))) (fun r14=>some (.rt r14))) (some (.bk (s7.1,s7.2)))
  def kB (a0:aE) (s1:Int×(Ar 8)):Option (Ct (Int×(Ar 8)) ((Ar 8)×Bool)):=cn (decide (s1.1<(a0.Pairs.length:Int))) (ix a0.Pairs default s1.1 fun e2=>
  gd (0≤e2.2∧e2.2<(8:Int)) (gd (0≤e2.1) (gd (0≤e2.2∧e2.2<(8:Int)) (let m3:=s1.2.st1 e2.2 (bor .i64 (s1.2.at1 e2.2) (aDv .i64 1 e2.1));
  some (.nx ((wr (s1.1+1)),m3)))))) (some (.bk (s1.1,s1.2)))
def mD (a0:aE):Option ((Ar 8)×Bool):=bd (lp (kB a0) FU (0,(Ar.zero 8))) fun c4=>smK c4 (fun s5=>
  bd (lp (kP a0) FU (0,s5.2)) fun c15=>smK c15 (fun s16=>bd (lp (mQ a0 s16) FU (0,(Ar.zero 8))) fun c19=>smK c19 (fun s20=>
  some (s16.2,true)) (fun r21=>some r21)) (fun r17=>some r17)) (fun r6=>some r6)
def oF:List AV→AV→Prop:=fun args r=>∃ a0,args=[bF a0]∧W (mD a0) fun y=>r=(.tup [eAr y.1,eB y.2])
theorem aBI {T:Tbl} (hT:TOk Tryd.prog T) (hpf:cP T PF):FOk Tryd.prog 79 (aH oF):=by
 refine bM hT hpf Tryd.func79 rfl Tryd.ntmps79 Tryd.results79 (by decide) ?_
 rintro args r ⟨a0,rfl,h⟩
 refine ⟨nle rfl,?_,?_⟩
 ·exact (lsC (bT _) lsN)
 rw [mD.eq_1] at h
 refine aC dCo rfl fun K hK=>?_;conv=>whnf
 refine hK _ _ _ ?_
 refine aC dCo rfl fun K hK=>?_;conv=>whnf
 refine hK _ _ _ ?_
 refine aF ?_
 refine aC dCo rfl fun K hK=>?_;conv=>whnf
 refine nlA rfl ?_;conv=>whnf
 refine bKo rfl ?_;conv=>whnf
 refine gKo rfl ?_;conv=>whnf
 refine hK _ _ _ ?_
 refine aJ ?_
 replace h:=bL h
 refine cY (body:=kB _) rfl h [1,2,4,11,12] [1] [2] [4] (fun kl kh kr ids b s=>⟨ofL ([(13,eI s.1)]++kl),ofH (([]++kh)++([(xW ids 0,.cells (cA s.2))]++kr)),b+128⟩) ?_;(conv=>whnf);refine And.intro ?_ (fun s m h=>cR ?_)
 ·refine aR ?_;conv=>whnf
  exact And.intro rfl (And.intro (aLc wkI (aLc (WkR.ptr (fun _=>rfl)) (aLc (WkR.ptr (fun _=>rfl)) (aLc (WkR.ptr (fun _=>rfl)) (aLc (wkr (lsL fun _=>(aI _))) (aLc wkI aLn)))))) (aLc ⟨some _,rfl,bRc rfl (cKc wkI (cKc (wkr (lsL fun _=>(aI _))) cKn))⟩ (aLc ⟨some _,rfl,bO (x:=(Ar.zero 8)) rfl rfl⟩ (aLc ⟨some _,rfl,bO (x:=(Ar.zero 8)) rfl rfl⟩ aLn))))
 replace h:=bL h;rw [kB.eq_1] at h
 refine aC dCo rfl fun K hK=>?_;conv=>whnf
 refine hK _ _ _ ?_
 refine aF ?_
 refine aW fun K1 K2 hK1 hK2=>?_;conv=>whnf
 refine cLk h (fun _ h=>?_) (fun _ h=>?_)
 ·refine hK1 ?_
  refine aG ?_
  refine tHn ?_
  refine aF ?_
  refine aJ ?_
  refine aC dCo rfl fun K hK=>?_;conv=>whnf
  refine dD h fun _ h=>?_;conv=>whnf
  refine nlA rfl ?_;conv=>whnf
  refine bKo rfl ?_;conv=>whnf
  refine And.intro rfl (And.intro (nle rfl) (And.intro rfl ?_));conv=>whnf
  refine hK _ _ _ ?_
  refine nQ dCo cG rfl (by kernel_rfl) fun K hK=>?_;conv=>whnf
  refine And.intro (by decide) ?_;conv=>whnf
  refine nlA rfl ?_;conv=>whnf
  refine bKo rfl ?_;conv=>whnf
  refine gKo rfl ?_;conv=>whnf
  refine bW h fun hx215 h=>?_;conv=>whnf
  refine nlA rfl ?_;conv=>whnf
  refine bKo rfl ?_;conv=>whnf
  refine iM rfl hx215 ?_;conv=>whnf
  refine And.intro (by decide) ?_;conv=>whnf
  refine nlA rfl ?_;conv=>whnf
  refine bKo rfl ?_;conv=>whnf
  refine gKo rfl ?_;conv=>whnf
  refine bW h fun _ h=>?_;conv=>whnf
  refine bW h fun hx216 h=>?_;conv=>whnf
  refine bKo rfl ?_;conv=>whnf
  refine aCL rfl hx216 rfl rfl ?_;conv=>whnf
  refine hK _ _ _ ?_
  refine iBn ?_
  refine tHn ?_
  refine bY dCo rfl fun K hK=>?_;conv=>whnf
  refine hK _ _ _ ?_
  refine tHn ?_
  replace h:=bK h
  refine ⟨_,h,?_⟩
  refine aR ?_;conv=>whnf
  exact And.intro rfl (And.intro (aLc wkI (aLc (WkR.ptr (fun _=>rfl)) (aLc (WkR.ptr (fun _=>rfl)) (aLc (WkR.ptr (fun _=>rfl)) (aLc (wkr (lsL fun _=>(aI _))) (aLc wkI aLn)))))) (aLc ⟨some _,rfl,bRc rfl (cKc wkI (cKc (wkr (lsL fun _=>(aI _))) cKn))⟩ (aLc ⟨some _,rfl,bO rfl rfl⟩ (aLc ⟨some _,rfl,bO (x:=(Ar.zero 8)) rfl rfl⟩ aLn))))
 refine hK2 ?_
 refine bI ?_
 refine aT ?_
 refine aT ?_
 refine aS ?_
 replace h:=cV h
 replace h:=cU h
 refine tHn ?_
 refine aF ?_
 refine aC dCo rfl fun K hK=>?_;conv=>whnf
 refine nlA rfl ?_;conv=>whnf
 refine bKo rfl ?_;conv=>whnf
 refine gKo rfl ?_;conv=>whnf
 refine hK _ _ _ ?_
 refine aJ ?_
 replace h:=bL h
 refine cY (body:=kP _) rfl h [1,2,4,28] [1] [2] [4] (fun kl kh kr ids b s=>⟨ofL ([(29,eI s.1)]++kl),ofH (([]++kh)++([(xW ids 0,.cells (cA s.2))]++kr)),b+128⟩) ?_;(conv=>whnf);refine And.intro ?_ (fun s m h=>cR ?_)
 ·refine aR ?_;conv=>whnf
  exact And.intro rfl (And.intro (aLc wkI (aLc (WkR.ptr (fun _=>rfl)) (aLc (WkR.ptr (fun _=>rfl)) (aLc (WkR.ptr (fun _=>rfl)) (aLc wkI aLn))))) (aLc ⟨some _,rfl,bRc rfl (cKc wkI (cKc (wkr (lsL fun _=>(aI _))) cKn))⟩ (aLc ⟨some _,rfl,bO rfl rfl⟩ (aLc ⟨some _,rfl,bO (x:=(Ar.zero 8)) rfl rfl⟩ aLn))))
 replace h:=bL h;rw [kP.eq_1] at h
 refine aC dCo rfl fun K hK=>?_;conv=>whnf
 refine hK _ _ _ ?_
 refine aF ?_
 refine aW fun K1 K2 hK1 hK2=>?_;conv=>whnf
 refine cLk h (fun _ h=>?_) (fun _ h=>?_)
 ·refine hK1 ?_
  refine aG ?_
  refine tHn ?_
  refine aF ?_
  refine aJ ?_
  refine aC dCo rfl fun K hK=>?_;conv=>whnf
  refine hK _ _ _ ?_
  refine aC dCo rfl fun K hK=>?_;conv=>whnf
  refine nlA rfl ?_;conv=>whnf
  refine bKo rfl ?_;conv=>whnf
  refine gKo rfl ?_;conv=>whnf
  refine hK _ _ _ ?_
  refine aJ ?_
  replace h:=bL h
  refine cY (body:=kL _ _) rfl h [1,2,4,7,28,29,33] [1] [2] [4] (fun kl kh kr ids b s=>⟨ofL ([(34,eI s.1)]++kl),ofH (([]++kh)++([(xW ids 0,.cells (cA s.2))]++kr)),b+128⟩) ?_;(conv=>whnf);refine And.intro ?_ (fun s m h=>cR ?_)
  ·refine aR ?_;conv=>whnf
   exact And.intro rfl (And.intro (aLc wkI (aLc (WkR.ptr (fun _=>rfl)) (aLc (WkR.ptr (fun _=>rfl)) (aLc (WkR.ptr (fun _=>rfl)) (aLc wkI (aLc wkI (aLc wkI (aLc wkI aLn)))))))) (aLc ⟨some _,rfl,bRc rfl (cKc wkI (cKc (wkr (lsL fun _=>(aI _))) cKn))⟩ (aLc ⟨some _,rfl,bO rfl rfl⟩ (aLc ⟨some _,rfl,bO (x:=(Ar.zero 8)) rfl rfl⟩ aLn))))
  replace h:=bL h;rw [kL.eq_1] at h
  refine aC dCo rfl fun K hK=>?_;conv=>whnf
  refine hK _ _ _ ?_
  refine aF ?_
  refine aW fun K1 K2 hK1 hK2=>?_;conv=>whnf
  refine cLk h (fun _ h=>?_) (fun _ h=>?_)
  ·refine hK1 ?_
   refine aG ?_
   refine tHn ?_
   refine aF ?_
   refine aJ ?_
   refine aC dCo rfl fun K hK=>?_;conv=>whnf
   refine hK _ _ _ ?_
   refine aC dCo rfl fun K hK=>?_;conv=>whnf
   refine bW h fun hx469 h=>?_;conv=>whnf
   refine nlA rfl ?_;conv=>whnf
   refine bKo rfl ?_;conv=>whnf
   refine iM rfl hx469 ?_;conv=>whnf
   refine bW h fun _ h=>?_;conv=>whnf
   refine hK _ _ _ ?_
   replace h:=lG h
   refine aW fun K1 K2 hK1 hK2=>?_;conv=>whnf
   refine cLk h (fun _ h=>?_) (fun _ h=>?_)
   ·refine hK1 ?_
    refine nQ dCo cG rfl (by kernel_rfl) fun K hK=>?_;conv=>whnf
    refine bW h fun hx473 h=>?_;conv=>whnf
    refine nlA rfl ?_;conv=>whnf
    refine bKo rfl ?_;conv=>whnf
    refine iM rfl hx473 ?_;conv=>whnf
    refine bW h fun hx474 h=>?_;conv=>whnf
    refine nlA rfl ?_;conv=>whnf
    refine bKo rfl ?_;conv=>whnf
    refine iM rfl hx474 ?_;conv=>whnf
    refine bW h fun hx475 h=>?_;conv=>whnf
    refine bKo rfl ?_;conv=>whnf
    refine aCL rfl hx475 rfl rfl ?_;conv=>whnf
    refine hK _ _ _ ?_
    refine iBn ?_
    refine tHn ?_
    refine bY dCo rfl fun K hK=>?_;conv=>whnf
    refine hK _ _ _ ?_
    refine tHn ?_
    replace h:=bK h
    refine ⟨_,h,?_⟩
    refine aR ?_;conv=>whnf
    exact And.intro rfl (And.intro (aLc wkI (aLc (WkR.ptr (fun _=>rfl)) (aLc (WkR.ptr (fun _=>rfl)) (aLc (WkR.ptr (fun _=>rfl)) (aLc wkI (aLc wkI (aLc wkI (aLc wkI aLn)))))))) (aLc ⟨some _,rfl,bRc rfl (cKc wkI (cKc (wkr (lsL fun _=>(aI _))) cKn))⟩ (aLc ⟨some _,rfl,bO rfl rfl⟩ (aLc ⟨some _,rfl,bO (x:=(Ar.zero 8)) rfl rfl⟩ aLn))))
   refine hK2 ?_
   refine aG ?_
   refine iBn ?_
   refine tHn ?_
   refine bY dCo rfl fun K hK=>?_;conv=>whnf
   refine hK _ _ _ ?_
   refine tHn ?_
   replace h:=bK h
   refine ⟨_,h,?_⟩
   refine aR ?_;conv=>whnf
   exact And.intro rfl (And.intro (aLc wkI (aLc (WkR.ptr (fun _=>rfl)) (aLc (WkR.ptr (fun _=>rfl)) (aLc (WkR.ptr (fun _=>rfl)) (aLc wkI (aLc wkI (aLc wkI (aLc wkI aLn)))))))) (aLc ⟨some _,rfl,bRc rfl (cKc wkI (cKc (wkr (lsL fun _=>(aI _))) cKn))⟩ (aLc ⟨some _,rfl,bO rfl rfl⟩ (aLc ⟨some _,rfl,bO (x:=(Ar.zero 8)) rfl rfl⟩ aLn))))
  refine hK2 ?_
  refine bI ?_
  refine aT ?_
  refine aT ?_
  refine aS ?_
  replace h:=cV h
  replace h:=cU h
  refine iBn ?_
  refine tHn ?_
  refine bY dCo rfl fun K hK=>?_;conv=>whnf
  refine hK _ _ _ ?_
  refine tHn ?_
  replace h:=bK h
  refine ⟨_,h,?_⟩
  refine aR ?_;conv=>whnf
  exact And.intro rfl (And.intro (aLc wkI (aLc (WkR.ptr (fun _=>rfl)) (aLc (WkR.ptr (fun _=>rfl)) (aLc (WkR.ptr (fun _=>rfl)) (aLc wkI aLn))))) (aLc ⟨some _,rfl,bRc rfl (cKc wkI (cKc (wkr (lsL fun _=>(aI _))) cKn))⟩ (aLc ⟨some _,rfl,bO rfl rfl⟩ (aLc ⟨some _,rfl,bO (x:=(Ar.zero 8)) rfl rfl⟩ aLn))))
 refine hK2 ?_
 refine bI ?_
 refine aT ?_
 refine aT ?_
 refine aS ?_
 replace h:=cV h
 replace h:=cU h
 refine tHn ?_
 refine aF ?_
 refine aC dCo rfl fun K hK=>?_;conv=>whnf
 refine nlA rfl ?_;conv=>whnf
 refine bKo rfl ?_;conv=>whnf
 refine gKo rfl ?_;conv=>whnf
 refine hK _ _ _ ?_
 refine aJ ?_
 replace h:=bL h
 refine cY (body:=mQ _ _) rfl h [2,4,55] [] [4] [2] (fun kl kh kr ids b s=>⟨ofL ([(56,eI s.1)]++kl),ofH (([]++kh)++([(xW ids 0,.cells (cA s.2))]++kr)),b+128⟩) ?_;(conv=>whnf);refine And.intro ?_ (fun s m h=>cR ?_)
 ·refine aR ?_;conv=>whnf
  exact And.intro rfl (And.intro (aLc wkI (aLc (WkR.ptr (fun _=>rfl)) (aLc (WkR.ptr (fun _=>rfl)) (aLc wkI aLn)))) (aLc ⟨some _,rfl,bO (x:=(Ar.zero 8)) rfl rfl⟩ (aLc ⟨some _,rfl,bO rfl rfl⟩ aLn)))
 replace h:=bL h;rw [mQ.eq_1] at h
 refine aC dCo rfl fun K hK=>?_;conv=>whnf
 refine hK _ _ _ ?_
 refine aF ?_
 refine aW fun K1 K2 hK1 hK2=>?_;conv=>whnf
 refine cLk h (fun _ h=>?_) (fun _ h=>?_)
 ·refine hK1 ?_
  refine aG ?_
  refine tHn ?_
  refine aF ?_
  refine aJ ?_
  refine aC dCo rfl fun K hK=>?_;conv=>whnf
  refine hK _ _ _ ?_
  refine aC dCo rfl fun K hK=>?_;conv=>whnf
  refine bW h fun hx483 h=>?_;conv=>whnf
  refine nlA rfl ?_;conv=>whnf
  refine bKo rfl ?_;conv=>whnf
  refine iM rfl hx483 ?_;conv=>whnf
  refine bW h fun _ h=>?_;conv=>whnf
  refine hK _ _ _ ?_
  refine aW fun K1 K2 hK1 hK2=>?_;conv=>whnf
  refine cLk h (fun _ h=>?_) (fun _ h=>?_)
  ·refine hK1 ?_
   refine aC dCo rfl fun K hK=>?_;conv=>whnf
   refine nlA rfl ?_;conv=>whnf
   refine bKo rfl ?_;conv=>whnf
   refine yH rfl ?_;conv=>whnf
   refine bKo rfl ?_;conv=>whnf
   refine vY (aA3 _) rfl rfl ?_;conv=>whnf
   refine hK _ _ _ ?_
   refine aP ?_
   refine aU ?_
   refine aQ ?_
   refine aQ ?_
   refine aU ?_
   refine aQ ?_
   replace h:=jO h
   replace h:=jN h
   replace h:=aO h
   refine aK dCo fun K hK=>?_;conv=>whnf
   refine nlA rfl ?_;conv=>whnf
   refine bKo rfl ?_;conv=>whnf
   refine yH rfl ?_;conv=>whnf
   refine hK _ ?_
   cases h
   exact Wk.refl _
  refine hK2 ?_
  refine aG ?_
  refine iBn ?_
  refine tHn ?_
  refine bY dCo rfl fun K hK=>?_;conv=>whnf
  refine hK _ _ _ ?_
  refine tHn ?_
  replace h:=bK h
  refine ⟨_,h,?_⟩
  refine aR ?_;conv=>whnf
  exact And.intro rfl (And.intro (aLc wkI (aLc (WkR.ptr (fun _=>rfl)) (aLc (WkR.ptr (fun _=>rfl)) (aLc wkI aLn)))) (aLc ⟨some _,rfl,bO rfl rfl⟩ (aLc ⟨some _,rfl,bO rfl rfl⟩ aLn)))
 refine hK2 ?_
 refine bI ?_
 refine aT ?_
 refine aT ?_
 refine aS ?_
 replace h:=cV h
 replace h:=cU h
 refine tHn ?_
 refine aC dCo rfl fun K hK=>?_;conv=>whnf
 refine nlA rfl ?_;conv=>whnf
 refine bKo rfl ?_;conv=>whnf
 refine yH rfl ?_;conv=>whnf
 refine bKo rfl ?_;conv=>whnf
 refine vY (aA3 _) rfl rfl ?_;conv=>whnf
 refine hK _ _ _ ?_
 refine aP ?_
 replace h:=aO h
 refine aK dCo fun K hK=>?_;conv=>whnf
 refine nlA rfl ?_;conv=>whnf
 refine bKo rfl ?_;conv=>whnf
 refine yH rfl ?_;conv=>whnf
 refine hK _ ?_
 cases h
 exact Wk.refl _
theorem aAf {T:Tbl} (hT:T 79=aH oF) {args:List AV} {hp:bH} {id:Nat} {k:AV→Prop} {a0:aE} {Φ:(Ar 8)×Bool→Prop} (h:W (mD a0) Φ) (hw:WkL args [bF a0]) (hk:∀ y,Φ y→k (.tup [eAr y.1,eB y.2])):cH T 79 args hp id k:=by
 obtain ⟨y,e,hy⟩:=dY h
 exact aV hT ⟨a0,rfl,lR e rfl⟩ (by exact eJ (lsC (wE _) (lsC (lsB _) lsN))) hw (hk y hy)
def fR (a0:Int) (a1:Int):Option Int:=bd (kD a0) fun y1=>bd (kD a1) fun y2=>
  cn y1 (cn y2 (some 0) (some (-1))) (cn y2 (some 1) (cn (decide (a0<a1)) (some (-1)) (cn (decide (a0>a1)) (some 1) (some 0))))
def iI:List AV→AV→Prop:=fun args r=>∃ a0 a1,args=[eI a0,eI a1]∧W (fR a0 a1) fun y=>r=(eI y)
theorem zD {T:Tbl} (hT:TOk Tryd.prog T) (hpf:cP T PF) (h83:T 83=aH mS):FOk Tryd.prog 63 (aH iI):=by
 refine bM hT hpf Tryd.func63 rfl Tryd.ntmps63 Tryd.results63 (by decide) ?_
 rintro args r ⟨a0,a1,rfl,h⟩
 refine ⟨nle rfl,?_,?_⟩
 ·exact (lsC (lsI _ _) (lsC (lsI _ _) lsN))
 rw [fR.eq_1] at h
 refine aC dCo rfl fun K hK=>?_;conv=>whnf
 refine hK _ _ _ ?_
 refine aC dCo rfl fun K hK=>?_;conv=>whnf
 replace h:=bL h
 refine tC h83 h (WkL.refl _) (fun _ h=>?_);conv=>whnf
 refine hK _ _ _ ?_
 refine aC dCo rfl fun K hK=>?_;conv=>whnf
 replace h:=bL h
 refine tC h83 h (WkL.refl _) (fun _ h=>?_);conv=>whnf
 refine hK _ _ _ ?_
 refine aF ?_
 refine aC dCo rfl fun K hK=>?_;conv=>whnf
 refine hK _ _ _ ?_
 refine aW fun K1 K2 hK1 hK2=>?_;conv=>whnf
 refine cLk h (fun _ h=>?_) (fun _ h=>?_)
 ·refine hK1 ?_
  refine aF ?_
  refine aC dCo rfl fun K hK=>?_;conv=>whnf
  refine hK _ _ _ ?_
  refine aW fun K1 K2 hK1 hK2=>?_;conv=>whnf
  refine cLk h (fun _ h=>?_) (fun _ h=>?_)
  ·refine hK1 ?_
   refine aC dCo rfl fun K hK=>?_;conv=>whnf
   refine hK _ _ _ ?_
   refine aP ?_
   refine aQ ?_
   refine aQ ?_
   replace h:=aO h
   refine aK dCo fun K hK=>?_;conv=>whnf
   refine hK _ ?_
   cases h
   exact Wk.refl _
  refine hK2 ?_
  refine aG ?_
  refine tHn ?_
  refine aC dCo rfl fun K hK=>?_;conv=>whnf
  refine hK _ _ _ ?_
  refine aP ?_
  refine aQ ?_
  replace h:=aO h
  refine aK dCo fun K hK=>?_;conv=>whnf
  refine hK _ ?_
  cases h
  exact Wk.refl _
 refine hK2 ?_
 refine aG ?_
 refine tHn ?_
 refine aF ?_
 refine aC dCo rfl fun K hK=>?_;conv=>whnf
 refine hK _ _ _ ?_
 refine aW fun K1 K2 hK1 hK2=>?_;conv=>whnf
 refine cLk h (fun _ h=>?_) (fun _ h=>?_)
 ·refine hK1 ?_
  refine aC dCo rfl fun K hK=>?_;conv=>whnf
  refine hK _ _ _ ?_
  refine aP ?_
  refine aQ ?_
  replace h:=aO h
  refine aK dCo fun K hK=>?_;conv=>whnf
  refine hK _ ?_
  cases h
  exact Wk.refl _
 refine hK2 ?_
 refine aG ?_
 refine tHn ?_
 refine aF ?_
 refine aC dCo rfl fun K hK=>?_;conv=>whnf
 refine hK _ _ _ ?_
 refine aW fun K1 K2 hK1 hK2=>?_;conv=>whnf
 refine cLk h (fun _ h=>?_) (fun _ h=>?_)
 ·refine hK1 ?_
  refine aC dCo rfl fun K hK=>?_;conv=>whnf
  refine hK _ _ _ ?_
  refine aP ?_
  refine aQ ?_
  replace h:=aO h
  refine aK dCo fun K hK=>?_;conv=>whnf
  refine hK _ ?_
  cases h
  exact Wk.refl _
 refine hK2 ?_
 refine aG ?_
 refine tHn ?_
 refine aF ?_
 refine aC dCo rfl fun K hK=>?_;conv=>whnf
 refine hK _ _ _ ?_
 refine aW fun K1 K2 hK1 hK2=>?_;conv=>whnf
 refine cLk h (fun _ h=>?_) (fun _ h=>?_)
 ·refine hK1 ?_
  refine aC dCo rfl fun K hK=>?_;conv=>whnf
  refine hK _ _ _ ?_
  refine aP ?_
  refine aQ ?_
  replace h:=aO h
  refine aK dCo fun K hK=>?_;conv=>whnf
  refine hK _ ?_
  cases h
  exact Wk.refl _
 refine hK2 ?_
 refine aG ?_
 refine tHn ?_
 refine aC dCo rfl fun K hK=>?_;conv=>whnf
 refine hK _ _ _ ?_
 refine aP ?_
 replace h:=aO h
 refine aK dCo fun K hK=>?_;conv=>whnf
 refine hK _ ?_
 cases h
 exact Wk.refl _
theorem rR {T:Tbl} (hT:T 63=aH iI) {args:List AV} {hp:bH} {id:Nat} {k:AV→Prop} {a0:Int} {a1:Int} {Φ:Int→Prop} (h:W (fR a0 a1) Φ) (hw:WkL args [eI a0,eI a1]) (hk:∀ y,Φ y→k (eI y)):cH T 63 args hp id k:=by
 obtain ⟨y,e,hy⟩:=dY h
 exact aV hT ⟨a0,a1,rfl,lR e rfl⟩ (by exact (lsI _ _)) hw (hk y hy)
def dU (a0:List Int) (a1:List Int) (s1:Int):Option (Ct Int Int):=cn (decide (s1<(a0.length:Int))) (ix a0 default s1 fun e2=>
  cn (decide (s1≥(a1.length:Int))) (some (.rt 1)) (ix a1 default s1 fun e3=>bd (fR e2 e3) fun y4=>cn (y4 !=
  0) (some (.rt y4)) (some (.nx (wr (s1+1)))))) (some (.bk s1))
def cW (a0:List Int) (a1:List Int):Option Int:=bd (lp (dU a0 a1) FU 0) fun c5=>smK c5 (fun s6=>
  cn (decide ((a0.length:Int)<(a1.length:Int))) (some (-1)) (some 0)) (fun r7=>some r7)
def gT:List AV→AV→Prop:=fun args r=>∃ a0 a1,args=[(eL 1 eI default) a0,(eL 1 eI default) a1]∧W (cW a0 a1) fun y=>r=(eI y)
theorem vS {T:Tbl} (hT:TOk Tryd.prog T) (hpf:cP T PF) (h63:T 63=aH iI):FOk Tryd.prog 64 (aH gT):=by
 refine bM hT hpf Tryd.func64 rfl Tryd.ntmps64 Tryd.results64 (by decide) ?_
 rintro args r ⟨a0,a1,rfl,h⟩
 refine ⟨nle rfl,?_,?_⟩
 ·exact (lsC (lsL fun _=>(lsI _ _)) (lsC (lsL fun _=>(lsI _ _)) lsN))
 rw [cW.eq_1] at h
 refine aC dCo rfl fun K hK=>?_;conv=>whnf
 refine hK _ _ _ ?_
 refine aF ?_
 refine aC dCo rfl fun K hK=>?_;conv=>whnf
 refine hK _ _ _ ?_
 refine aJ ?_
 replace h:=bL h
 refine qU (body:=dU _ _) rfl h [0,1,9,10] [] [] (fun kl kh ids b s=>⟨ofL ([(11,eI s)]++kl),ofH ([]++kh),b+64⟩) ?_;(conv=>whnf);refine And.intro ?_ (fun s m h=>cR ?_)
 ·refine bN ?_;conv=>whnf
  exact And.intro rfl (And.intro (aLc wkI (aLc (wkr (lsL fun _=>(lsI _ _))) (aLc (wkr (lsL fun _=>(lsI _ _))) (aLc (wkr (lsL fun _=>(lsI _ _))) (aLc wkI aLn))))) aLn)
 replace h:=bL h;rw [dU.eq_1] at h
 refine aC dCo rfl fun K hK=>?_;conv=>whnf
 refine hK _ _ _ ?_
 refine aF ?_
 refine aW fun K1 K2 hK1 hK2=>?_;conv=>whnf
 refine cLk h (fun _ h=>?_) (fun _ h=>?_)
 ·refine hK1 ?_
  refine aG ?_
  refine tHn ?_
  refine aF ?_
  refine aJ ?_
  refine aC dCo rfl fun K hK=>?_;conv=>whnf
  refine dD h fun _ h=>?_;conv=>whnf
  refine gKo rfl ?_;conv=>whnf
  refine hK _ _ _ ?_
  refine aF ?_
  refine aC dCo rfl fun K hK=>?_;conv=>whnf
  refine hK _ _ _ ?_
  refine aW fun K1 K2 hK1 hK2=>?_;conv=>whnf
  refine cLk h (fun _ h=>?_) (fun _ h=>?_)
  ·refine hK1 ?_
   refine aC dCo rfl fun K hK=>?_;conv=>whnf
   refine hK _ _ _ ?_
   refine aP ?_
   refine aQ ?_
   refine aU ?_
   refine aQ ?_
   refine aQ ?_
   refine aU ?_
   refine aQ ?_
   replace h:=jO h
   replace h:=jN h
   replace h:=aO h
   refine aK dCo fun K hK=>?_;conv=>whnf
   refine hK _ ?_
   cases h
   exact Wk.refl _
  refine hK2 ?_
  refine aG ?_
  refine tHn ?_
  refine aC dCo rfl fun K hK=>?_;conv=>whnf
  refine dD h fun _ h=>?_;conv=>whnf
  refine gKo rfl ?_;conv=>whnf
  refine hK _ _ _ ?_
  refine aC dCo rfl fun K hK=>?_;conv=>whnf
  replace h:=bL h
  refine rR h63 h (WkL.refl _) (fun _ h=>?_);conv=>whnf
  refine hK _ _ _ ?_
  refine aC dCo rfl fun K hK=>?_;conv=>whnf
  refine hK _ _ _ ?_
  refine aW fun K1 K2 hK1 hK2=>?_;conv=>whnf
  refine cLk h (fun _ h=>?_) (fun _ h=>?_)
  ·refine hK1 ?_
   refine aC dCo rfl fun K hK=>?_;conv=>whnf
   refine hK _ _ _ ?_
   refine aP ?_
   refine aU ?_
   refine aQ ?_
   refine aQ ?_
   refine aU ?_
   refine aQ ?_
   replace h:=jO h
   replace h:=jN h
   replace h:=aO h
   refine aK dCo fun K hK=>?_;conv=>whnf
   refine hK _ ?_
   cases h
   exact Wk.refl _
  refine hK2 ?_
  refine aG ?_
  refine iBn ?_
  refine tHn ?_
  refine bY dCo rfl fun K hK=>?_;conv=>whnf
  refine hK _ _ _ ?_
  refine tHn ?_
  replace h:=bK h
  refine ⟨_,h,?_⟩
  refine bN ?_;conv=>whnf
  exact And.intro rfl (And.intro (aLc wkI (aLc (wkr (lsL fun _=>(lsI _ _))) (aLc (wkr (lsL fun _=>(lsI _ _))) (aLc (wkr (lsL fun _=>(lsI _ _))) (aLc wkI aLn))))) aLn)
 refine hK2 ?_
 refine bI ?_
 refine aT ?_
 refine aT ?_
 refine aS ?_
 replace h:=cV h
 replace h:=cU h
 refine tHn ?_
 refine aF ?_
 refine aC dCo rfl fun K hK=>?_;conv=>whnf
 refine hK _ _ _ ?_
 refine aW fun K1 K2 hK1 hK2=>?_;conv=>whnf
 refine cLk h (fun _ h=>?_) (fun _ h=>?_)
 ·refine hK1 ?_
  refine aC dCo rfl fun K hK=>?_;conv=>whnf
  refine hK _ _ _ ?_
  refine aP ?_
  refine aQ ?_
  replace h:=aO h
  refine aK dCo fun K hK=>?_;conv=>whnf
  refine hK _ ?_
  cases h
  exact Wk.refl _
 refine hK2 ?_
 refine aG ?_
 refine tHn ?_
 refine aC dCo rfl fun K hK=>?_;conv=>whnf
 refine hK _ _ _ ?_
 refine aP ?_
 replace h:=aO h
 refine aK dCo fun K hK=>?_;conv=>whnf
 refine hK _ ?_
 cases h
 exact Wk.refl _
theorem uO {T:Tbl} (hT:T 64=aH gT) {args:List AV} {hp:bH} {id:Nat} {k:AV→Prop} {a0:List Int} {a1:List Int} {Φ:Int→Prop} (h:W (cW a0 a1) Φ) (hw:WkL args [(eL 1 eI default) a0,(eL 1 eI default) a1]) (hk:∀ y,Φ y→k (eI y)):cH T 64 args hp id k:=by
 obtain ⟨y,e,hy⟩:=dY h
 exact aV hT ⟨a0,a1,rfl,lR e rfl⟩ (by exact (lsI _ _)) hw (hk y hy)
def dR (a0:List (Int×Int)) (c910:aE) (s1:Int):Option (Ct Int Int):=cn (decide (s1<(a0.length:Int))) (ix a0 default s1 fun e2=>
  bd (iQ e2 c910) fun y3=>cn y3 (some (.rt s1)) (some (.nx (wr (s1+1))))) (some (.bk s1))
def dB (a0:List (Int×Int)) (c910:aE):Option Int:=bd (lp (dR a0 c910) FU 0) fun c4=>smK c4 (fun s5=>
  some (-1)) (fun r6=>some r6)
def nO:List AV→AV→Prop:=fun args r=>∃ a0 c910,args=[(eL 2 kT default) a0,.fn 69 [] [.ep [eI c910.N,(eL 2 kT default) c910.Pairs] 0]]∧W (dB a0 c910) fun y=>r=(eI y)
theorem sN {T:Tbl} (hT:TOk Tryd.prog T) (hpf:cP T PF) (h69:T 69=aH iU):FOk Tryd.prog 85 (aH nO):=by
 refine bM hT hpf Tryd.func85 rfl Tryd.ntmps85 Tryd.results85 (by decide) ?_
 rintro args r ⟨a0,c910,rfl,h⟩
 refine ⟨nle rfl,?_,?_⟩
 ·exact (lsC (lsL fun _=>(aI _)) (lsC (wM lsN (lsC (lsE (lsC (lsI _ _) (lsC (lsL fun _=>(aI _)) lsN))) lsN)) lsN))
 rw [dB.eq_1] at h
 refine aC dCo rfl fun K hK=>?_;conv=>whnf
 refine hK _ _ _ ?_
 refine aF ?_
 refine aC dCo rfl fun K hK=>?_;conv=>whnf
 refine hK _ _ _ ?_
 refine aJ ?_
 replace h:=bL h
 refine qU (body:=dR _ _) rfl h [0,1,7] [] [] (fun kl kh ids b s=>⟨ofL ([(8,eI s)]++kl),ofH ([]++kh),b+64⟩) ?_;(conv=>whnf);refine And.intro ?_ (fun s m h=>cR ?_)
 ·refine bN ?_;conv=>whnf
  exact And.intro rfl (And.intro (aLc wkI (aLc (wkr (lsL fun _=>(aI _))) (aLc (jX bV (aM (wkr (lsE (lsC (lsI _ _) (lsC (lsL fun _=>(aI _)) lsN)))) bV)) (aLc wkI aLn)))) aLn)
 replace h:=bL h;rw [dR.eq_1] at h
 refine aC dCo rfl fun K hK=>?_;conv=>whnf
 refine hK _ _ _ ?_
 refine aF ?_
 refine aW fun K1 K2 hK1 hK2=>?_;conv=>whnf
 refine cLk h (fun _ h=>?_) (fun _ h=>?_)
 ·refine hK1 ?_
  refine aG ?_
  refine tHn ?_
  refine aF ?_
  refine aJ ?_
  refine aC dCo rfl fun K hK=>?_;conv=>whnf
  refine hK _ _ _ ?_
  refine aC dCo rfl fun K hK=>?_;conv=>whnf
  refine dD h fun _ h=>?_;conv=>whnf
  refine nlA rfl ?_;conv=>whnf
  replace h:=bL h
  refine wU h69 h (WkL.refl _) (fun _ h=>?_);conv=>whnf
  refine hK _ _ _ ?_
  refine aW fun K1 K2 hK1 hK2=>?_;conv=>whnf
  refine cLk h (fun _ h=>?_) (fun _ h=>?_)
  ·refine hK1 ?_
   refine aC dCo rfl fun K hK=>?_;conv=>whnf
   refine hK _ _ _ ?_
   refine aP ?_
   refine aU ?_
   refine aQ ?_
   refine aQ ?_
   refine aU ?_
   refine aQ ?_
   replace h:=jO h
   replace h:=jN h
   replace h:=aO h
   refine aK dCo fun K hK=>?_;conv=>whnf
   refine hK _ ?_
   cases h
   exact Wk.refl _
  refine hK2 ?_
  refine aG ?_
  refine iBn ?_
  refine tHn ?_
  refine bY dCo rfl fun K hK=>?_;conv=>whnf
  refine hK _ _ _ ?_
  refine tHn ?_
  replace h:=bK h
  refine ⟨_,h,?_⟩
  refine bN ?_;conv=>whnf
  exact And.intro rfl (And.intro (aLc wkI (aLc (wkr (lsL fun _=>(aI _))) (aLc (jX bV (aM (wkr (lsE (lsC (lsI _ _) (lsC (lsL fun _=>(aI _)) lsN)))) bV)) (aLc wkI aLn)))) aLn)
 refine hK2 ?_
 refine bI ?_
 refine aT ?_
 refine aT ?_
 refine aS ?_
 replace h:=cV h
 replace h:=cU h
 refine tHn ?_
 refine aC dCo rfl fun K hK=>?_;conv=>whnf
 refine hK _ _ _ ?_
 refine aP ?_
 replace h:=aO h
 refine aK dCo fun K hK=>?_;conv=>whnf
 refine hK _ ?_
 cases h
 exact Wk.refl _
def eA:List AV→AV→Prop:=fun args r=>nO args r
theorem rH {T:Tbl} (hT:T 85=aH eA) {args:List AV} {hp:bH} {id:Nat} {k:AV→Prop} {a0:List (Int×Int)} {c910:aE} {Φ:Int→Prop} (h:W (dB a0 c910) Φ) (hw:WkL args [(eL 2 kT default) a0,.fn 69 [] [.ep [eI c910.N,(eL 2 kT default) c910.Pairs] 0]]) (hk:∀ y,Φ y→k (eI y)):cH T 85 args hp id k:=by
 obtain ⟨y,e,hy⟩:=dY h
 exact aV hT ⟨a0,c910,rfl,lR e rfl⟩ (by exact (lsI _ _)) hw (hk y hy)
theorem tR {T:Tbl} (hT:TOk Tryd.prog T) (hpf:cP T PF) (h69:T 69=aH iU):FOk Tryd.prog 85 (aH eA):=(sN hT hpf h69)
def dG (a0:List (Int×Int)) (c910:aE):Option Bool:=bd (dB a0 c910) fun y1=>some (decide (y1≥0))
def lJ:List AV→AV→Prop:=fun args r=>∃ a0 c910,args=[(eL 2 kT default) a0,.fn 69 [] [.ep [eI c910.N,(eL 2 kT default) c910.Pairs] 0]]∧W (dG a0 c910) fun y=>r=(eB y)
theorem qR {T:Tbl} (hT:TOk Tryd.prog T) (hpf:cP T PF) (h85:T 85=aH eA):FOk Tryd.prog 68 (aH lJ):=by
 refine bM hT hpf Tryd.func68 rfl Tryd.ntmps68 Tryd.results68 (by decide) ?_
 rintro args r ⟨a0,c910,rfl,h⟩
 refine ⟨nle rfl,?_,?_⟩
 ·exact (lsC (lsL fun _=>(aI _)) (lsC (wM lsN (lsC (lsE (lsC (lsI _ _) (lsC (lsL fun _=>(aI _)) lsN))) lsN)) lsN))
 rw [dG.eq_1] at h
 refine aC dCo rfl fun K hK=>?_;conv=>whnf
 refine hK _ _ _ ?_
 refine aC dCo rfl fun K hK=>?_;conv=>whnf
 replace h:=bL h
 refine rH h85 h (WkL.refl _) (fun _ h=>?_);conv=>whnf
 refine hK _ _ _ ?_
 refine aP ?_
 replace h:=aO h
 refine aK dCo fun K hK=>?_;conv=>whnf
 refine hK _ ?_
 cases h
 exact Wk.refl _
def eG:List AV→AV→Prop:=fun args r=>lJ args r
theorem qC {T:Tbl} (hT:T 68=aH eG) {args:List AV} {hp:bH} {id:Nat} {k:AV→Prop} {a0:List (Int×Int)} {c910:aE} {Φ:Bool→Prop} (h:W (dG a0 c910) Φ) (hw:WkL args [(eL 2 kT default) a0,.fn 69 [] [.ep [eI c910.N,(eL 2 kT default) c910.Pairs] 0]]) (hk:∀ y,Φ y→k (eB y)):cH T 68 args hp id k:=by
 obtain ⟨y,e,hy⟩:=dY h
 exact aV hT ⟨a0,c910,rfl,lR e rfl⟩ (by exact (lsB _)) hw (hk y hy)
theorem sL {T:Tbl} (hT:TOk Tryd.prog T) (hpf:cP T PF) (h85:T 85=aH eA):FOk Tryd.prog 68 (aH eG):=(qR hT hpf h85)
  def kS (a0:Int) (a1:Ar 8) (s1:Int×aE) (s2:Int×aE):Option (Ct (Int×aE) aE):=cn (decide (s2.1<a0)) (gd (0≤s2.1∧s2.1<(8:Int)) (gd (0≤s1.1) (jn (fun p3:aE=>
  some (.nx ((wr (s2.1+1)),p3))) fun k4=>cn ((aAo .i64 (wW .i64 (a1.at1 s2.1) s1.1) 1)==1) (lt ([(s1.1,s2.1)]:List (Int×Int)) fun l5=>ap s2.2.Pairs l5 fun l6=>
  k4 (⟨s2.2.N,l6⟩:aE)) (k4 s2.2)))) (some (.bk (s2.1,s2.2)))
  def kJ (a0:Int) (a1:Ar 8) (s1:Int×aE):Option (Ct (Int×aE) aE):=cn (decide (s1.1<a0)) (bd (lp (kS a0 a1 s1) FU (0,s1.2)) fun c7=>
  smK c7 (fun s8=>some (.nx ((wr (s1.1+1)),s8.2))) (fun r9=>some (.rt r9))) (some (.bk (s1.1,s1.2)))
def jE (a0:Int) (a1:Ar 8):Option aE:=bd (lp (kJ a0 a1) FU (0,(⟨a0,[]⟩:aE))) fun c10=>smK c10 (fun s11=>some s11.2) (fun r12=>
  some r12)
def lZ:List AV→AV→Prop:=fun args r=>∃ a0 a1,args=[eI a0,eAr a1]∧W (jE a0 a1) fun y=>r=(bF y)
theorem aA6 {T:Tbl} (hT:TOk Tryd.prog T) (hpf:cP T PF):FOk Tryd.prog 58 (aH lZ):=by
 refine bM hT hpf Tryd.func58 rfl Tryd.ntmps58 Tryd.results58 (by decide) ?_
 rintro args r ⟨a0,a1,rfl,h⟩
 refine ⟨nle rfl,?_,?_⟩
 ·exact (lsC (lsI _ _) (lsC (wE _) lsN))
 rw [jE.eq_1] at h
 refine aC dCo rfl fun K hK=>?_;conv=>whnf
 refine aL ?_;conv=>whnf
 refine hK _ _ _ ?_
 refine aC dCo rfl fun K hK=>?_;conv=>whnf
 refine bKo rfl ?_;conv=>whnf
 refine And.intro rfl (And.intro (nle rfl) (And.intro rfl ?_));conv=>whnf
 refine hK _ _ _ ?_
 refine aF ?_
 refine aC dCo rfl fun K hK=>?_;conv=>whnf
 refine hK _ _ _ ?_
 refine aJ ?_
 replace h:=bL h
 refine cY (body:=kJ _ _) rfl h [0,3,4,5,10] [4] [3] [5] (fun kl kh kr ids b s=>⟨ofL ([(11,eI s.1)]++kl),ofH (([(xW ids 0,.cells [eI s.2.N,.lst (.tok (b+0)) 2 s.2.Pairs.length (fun j=>kT (s.2.Pairs.getD j default))]),(b+0,.cells [])]++kh)++([]++kr)),b+128⟩) ?_;(conv=>whnf);refine And.intro ?_ (fun s m h=>cR ?_)
 ·refine aR ?_;conv=>whnf
  exact And.intro rfl (And.intro (aLc wkI (aLc wkI (aLc (WkR.ptr (fun _=>rfl)) (aLc (WkR.ptr (fun _=>rfl)) (aLc (WkR.ptr (fun _=>rfl)) (aLc wkI aLn)))))) (aLc ⟨some _,rfl,bRc rfl (cKc wkI (cKc (WkR.nil (fun _=>rfl)) cKn))⟩ (aLc ⟨none,rfl,oH⟩ (aLc ⟨some _,rfl,bRc rfl (cKc wkI (cKc (wkr bC) cKn))⟩ (aLc ⟨some _,rfl,bO rfl rfl⟩ aLn)))))
 replace h:=bL h;rw [kJ.eq_1] at h
 refine aC dCo rfl fun K hK=>?_;conv=>whnf
 refine hK _ _ _ ?_
 refine aF ?_
 refine aW fun K1 K2 hK1 hK2=>?_;conv=>whnf
 refine cLk h (fun _ h=>?_) (fun _ h=>?_)
 ·refine hK1 ?_
  refine aG ?_
  refine tHn ?_
  refine aF ?_
  refine aJ ?_
  refine aC dCo rfl fun K hK=>?_;conv=>whnf
  refine hK _ _ _ ?_
  refine aC dCo rfl fun K hK=>?_;conv=>whnf
  refine hK _ _ _ ?_
  refine aJ ?_
  replace h:=bL h
  refine cY (body:=kS _ _ _) rfl h [0,3,4,5,6,10,11,14] [4] [3] [5] (fun kl kh kr ids b s=>⟨ofL ([(15,eI s.1)]++kl),ofH (([(xW ids 0,.cells [eI s.2.N,.lst (.tok (b+0)) 2 s.2.Pairs.length (fun j=>kT (s.2.Pairs.getD j default))]),(b+0,.cells [])]++kh)++([]++kr)),b+128⟩) ?_;(conv=>whnf);refine And.intro ?_ (fun s m h=>cR ?_)
  ·refine aR ?_;conv=>whnf
   exact And.intro rfl (And.intro (aLc wkI (aLc wkI (aLc (WkR.ptr (fun _=>rfl)) (aLc (WkR.ptr (fun _=>rfl)) (aLc (WkR.ptr (fun _=>rfl)) (aLc wkI (aLc wkI (aLc wkI (aLc wkI aLn))))))))) (aLc ⟨some _,rfl,bRc rfl (cKc wkI (cKc (WkR.tok (fun _=>rfl) rfl (fun _ _=>Wk.refl _) (fun _=>(aI _))) cKn))⟩ (aLc ⟨some _,rfl,bRc rfl cKn⟩ (aLc ⟨some _,rfl,bRc rfl (cKc wkI (cKc (wkr bC) cKn))⟩ (aLc ⟨some _,rfl,bO rfl rfl⟩ aLn)))))
  replace h:=bL h;rw [kS.eq_1] at h
  refine aC dCo rfl fun K hK=>?_;conv=>whnf
  refine hK _ _ _ ?_
  refine aF ?_
  refine aW fun K1 K2 hK1 hK2=>?_;conv=>whnf
  refine cLk h (fun _ h=>?_) (fun _ h=>?_)
  ·refine hK1 ?_
   refine aG ?_
   refine tHn ?_
   refine aF ?_
   refine aJ ?_
   refine aC dCo rfl fun K hK=>?_;conv=>whnf
   refine hK _ _ _ ?_
   refine aC dCo rfl fun K hK=>?_;conv=>whnf
   refine bW h fun hx195 h=>?_;conv=>whnf
   refine nlA rfl ?_;conv=>whnf
   refine bKo rfl ?_;conv=>whnf
   refine iM rfl hx195 ?_;conv=>whnf
   refine bW h fun _ h=>?_;conv=>whnf
   refine hK _ _ _ ?_
   replace h:=lG h
   refine aW fun K1 K2 hK1 hK2=>?_;conv=>whnf
   refine cLk h (fun _ h=>?_) (fun _ h=>?_)
   ·refine hK1 ?_
    refine bY dCo rfl fun K hK=>?_;conv=>whnf
    refine nlA rfl ?_;conv=>whnf
    refine bKo rfl ?_;conv=>whnf
    refine gKo rfl ?_;conv=>whnf
    refine dL (enc:=kT) (d:=default) dCo h rfl rfl rfl ⟨nle rfl,nle rfl,rfl⟩ rfl ⟨⟨rfl,nle rfl⟩,trivial⟩ (fun h=>?_);conv=>whnf
    refine gX (enc:=kT) (d:=default) dCo h (.inl rfl) rfl rfl rfl ⟨rfl,nle rfl,nle rfl,nle rfl,rfl⟩ (fun _=>rfl) (.inr (.inr ⟨_,_,rfl,rfl,rfl⟩)) (fun h=>?_);conv=>whnf
    refine bKo rfl ?_;conv=>whnf
    refine And.intro rfl (And.intro (nle rfl) (And.intro rfl ?_));conv=>whnf
    refine hK _ _ _ ?_
    refine iBn ?_
    refine tHn ?_
    refine bY dCo rfl fun K hK=>?_;conv=>whnf
    refine hK _ _ _ ?_
    refine tHn ?_
    replace h:=bK h
    refine ⟨_,h,?_⟩
    refine aR ?_;conv=>whnf
    exact And.intro rfl (And.intro (aLc wkI (aLc wkI (aLc (WkR.ptr (fun _=>rfl)) (aLc (WkR.ptr (fun _=>rfl)) (aLc (WkR.ptr (fun _=>rfl)) (aLc wkI (aLc wkI (aLc wkI (aLc wkI aLn))))))))) (aLc ⟨some _,rfl,bRc rfl (cKc wkI (cKc (WkR.tok (fun _=>rfl) rfl (fun _ _=>Wk.refl _) (fun _=>(aI _))) cKn))⟩ (aLc ⟨some _,rfl,bRc rfl cKn⟩ (aLc ⟨some _,rfl,bRc rfl (cKc wkI (cKc (wkr bC) cKn))⟩ (aLc ⟨some _,rfl,bO rfl rfl⟩ aLn)))))
   refine hK2 ?_
   refine aG ?_
   refine iBn ?_
   refine tHn ?_
   refine bY dCo rfl fun K hK=>?_;conv=>whnf
   refine hK _ _ _ ?_
   refine tHn ?_
   replace h:=bK h
   refine ⟨_,h,?_⟩
   refine aR ?_;conv=>whnf
   exact And.intro rfl (And.intro (aLc wkI (aLc wkI (aLc (WkR.ptr (fun _=>rfl)) (aLc (WkR.ptr (fun _=>rfl)) (aLc (WkR.ptr (fun _=>rfl)) (aLc wkI (aLc wkI (aLc wkI (aLc wkI aLn))))))))) (aLc ⟨some _,rfl,bRc rfl (cKc wkI (cKc (WkR.tok (fun _=>rfl) rfl (fun _ _=>Wk.refl _) (fun _=>(aI _))) cKn))⟩ (aLc ⟨some _,rfl,bRc rfl cKn⟩ (aLc ⟨some _,rfl,bRc rfl (cKc wkI (cKc (wkr bC) cKn))⟩ (aLc ⟨some _,rfl,bO rfl rfl⟩ aLn)))))
  refine hK2 ?_
  refine bI ?_
  refine aT ?_
  refine aT ?_
  refine aS ?_
  replace h:=cV h
  replace h:=cU h
  refine iBn ?_
  refine tHn ?_
  refine bY dCo rfl fun K hK=>?_;conv=>whnf
  refine hK _ _ _ ?_
  refine tHn ?_
  replace h:=bK h
  refine ⟨_,h,?_⟩
  refine aR ?_;conv=>whnf
  exact And.intro rfl (And.intro (aLc wkI (aLc wkI (aLc (WkR.ptr (fun _=>rfl)) (aLc (WkR.ptr (fun _=>rfl)) (aLc (WkR.ptr (fun _=>rfl)) (aLc wkI aLn)))))) (aLc ⟨some _,rfl,bRc rfl (cKc wkI (cKc (WkR.tok (fun _=>rfl) rfl (fun _ _=>Wk.refl _) (fun _=>(aI _))) cKn))⟩ (aLc ⟨some _,rfl,bRc rfl cKn⟩ (aLc ⟨some _,rfl,bRc rfl (cKc wkI (cKc (wkr bC) cKn))⟩ (aLc ⟨some _,rfl,bO rfl rfl⟩ aLn)))))
 refine hK2 ?_
 refine bI ?_
 refine aT ?_
 refine aT ?_
 refine aS ?_
 replace h:=cV h
 replace h:=cU h
 refine tHn ?_
 refine aC dCo rfl fun K hK=>?_;conv=>whnf
 refine nlA rfl ?_;conv=>whnf
 refine bKo rfl ?_;conv=>whnf
 refine nlA rfl ?_;conv=>whnf
 refine bKo rfl ?_;conv=>whnf
 refine And.intro rfl (And.intro (nle rfl) (And.intro rfl ?_));conv=>whnf
 refine hK _ _ _ ?_
 refine aP ?_
 replace h:=aO h
 refine aK dCo fun K hK=>?_;conv=>whnf
 refine nlA rfl ?_;conv=>whnf
 refine bKo rfl ?_;conv=>whnf
 refine nlA rfl ?_;conv=>whnf
 refine hK _ ?_
 cases h
 exact (iA (aD (Wk.refl _) (aD cD bE)))
theorem uG {T:Tbl} (hT:T 58=aH lZ) {args:List AV} {hp:bH} {id:Nat} {k:AV→Prop} {a0:Int} {a1:Ar 8} {Φ:aE→Prop} (h:W (jE a0 a1) Φ) (hw:WkL args [eI a0,eAr a1]) (hk:∀ y,Φ y→k (bF y)):cH T 58 args hp id k:=by
 obtain ⟨y,e,hy⟩:=dY h
 exact aV hT ⟨a0,a1,rfl,lR e rfl⟩ (by exact (bT _)) hw (hk y hy)
def fE (a0:aE):Option Bool:=jn (fun p1:Bool=>cn p1 (some false) (bd (dG a0.Pairs a0) fun y3=>some (!y3))) fun k2=>
  cn (decide (a0.N<0)) (k2 true) (cn (decide (a0.N>8)) (k2 true) (k2 (decide ((a0.Pairs.length:Int)>28))))
def iD:List AV→AV→Prop:=fun args r=>∃ a0,args=[bF a0]∧W (fE a0) fun y=>r=(eB y)
theorem aBP {T:Tbl} (hT:TOk Tryd.prog T) (hpf:cP T PF) (h68:T 68=aH eG):FOk Tryd.prog 33 (aH iD):=by
 refine bM hT hpf Tryd.func33 rfl Tryd.ntmps33 Tryd.results33 (by decide) ?_
 rintro args r ⟨a0,rfl,h⟩
 refine ⟨nle rfl,?_,?_⟩
 ·exact (lsC (bT _) lsN)
 rw [fE.eq_1] at h
 refine aC dCo rfl fun K hK=>?_;conv=>whnf
 refine hK _ _ _ ?_
 refine aF ?_
 refine aC dCo rfl fun K hK=>?_;conv=>whnf
 replace h:=lG h
 refine nlA rfl ?_;conv=>whnf
 refine bKo rfl ?_;conv=>whnf
 refine gKo rfl ?_;conv=>whnf
 refine cLk h (fun _ h=>?_) (fun _ h=>?_)<;>(conv=>whnf)
 ·refine hK _ _ _ ?_
  refine aW fun K1 K2 hK1 hK2=>?_;conv=>whnf
  refine hK1 ?_
  replace h:=rM h
  refine aC dCo rfl fun K hK=>?_;conv=>whnf
  refine hK _ _ _ ?_
  refine aP ?_
  refine aQ ?_
  replace h:=aO h
  refine aK dCo fun K hK=>?_;conv=>whnf
  refine hK _ ?_
  cases h
  exact Wk.refl _
 refine nlA rfl ?_;conv=>whnf
 refine bKo rfl ?_;conv=>whnf
 refine gKo rfl ?_;conv=>whnf
 refine cLk h (fun _ h=>?_) (fun _ h=>?_)<;>(conv=>whnf)
 ·refine hK _ _ _ ?_
  refine aW fun K1 K2 hK1 hK2=>?_;conv=>whnf
  refine hK1 ?_
  replace h:=rM h
  refine aC dCo rfl fun K hK=>?_;conv=>whnf
  refine hK _ _ _ ?_
  refine aP ?_
  refine aQ ?_
  replace h:=aO h
  refine aK dCo fun K hK=>?_;conv=>whnf
  refine hK _ ?_
  cases h
  exact Wk.refl _
 refine nlA rfl ?_;conv=>whnf
 refine bKo rfl ?_;conv=>whnf
 refine gKo rfl ?_;conv=>whnf
 refine hK _ _ _ ?_
 refine aW fun K1 K2 hK1 hK2=>?_;conv=>whnf
 refine cLk h (fun _ h=>?_) (fun _ h=>?_)
 ·refine hK1 ?_
  refine aC dCo rfl fun K hK=>?_;conv=>whnf
  refine hK _ _ _ ?_
  refine aP ?_
  refine aQ ?_
  replace h:=aO h
  refine aK dCo fun K hK=>?_;conv=>whnf
  refine hK _ ?_
  cases h
  exact Wk.refl _
 refine hK2 ?_
 refine aG ?_
 refine tHn ?_
 refine sH 1 ?_;(conv=>whnf);refine ⟨_,rfl,?_⟩
 refine aC dCo rfl fun K hK=>?_;conv=>whnf
 refine gKo rfl ?_;conv=>whnf
 replace h:=bL h
 refine qC h68 h (WkL.refl _) (fun _ h=>?_);conv=>whnf
 refine hK _ _ _ ?_
 refine aP ?_
 replace h:=aO h
 refine aK dCo fun K hK=>?_;conv=>whnf
 refine hK _ ?_
 cases h
 exact Wk.refl _
theorem kG {T:Tbl} (hT:T 33=aH iD) {args:List AV} {hp:bH} {id:Nat} {k:AV→Prop} {a0:aE} {Φ:Bool→Prop} (h:W (fE a0) Φ) (hw:WkL args [bF a0]) (hk:∀ y,Φ y→k (eB y)):cH T 33 args hp id k:=by
 obtain ⟨y,e,hy⟩:=dY h
 exact aV hT ⟨a0,rfl,lR e rfl⟩ (by exact (lsB _)) hw (hk y hy)
def bS (a0:aE):Option ((Ar 8)×Bool):=bd (fE a0) fun y1=>cn (!y1) (some ((Ar.zero 8),false)) (bd (mD a0) fun y2=>some (y2.1,y2.2))
def dJ:List AV→AV→Prop:=fun args r=>∃ a0,args=[bF a0]∧W (bS a0) fun y=>r=(.tup [eAr y.1,eB y.2])
theorem aDn {T:Tbl} (hT:TOk Tryd.prog T) (hpf:cP T PF) (h33:T 33=aH iD) (h79:T 79=aH oF):FOk Tryd.prog 54 (aH dJ):=by
 refine bM hT hpf Tryd.func54 rfl Tryd.ntmps54 Tryd.results54 (by decide) ?_
 rintro args r ⟨a0,rfl,h⟩
 refine ⟨nle rfl,?_,?_⟩
 ·exact (lsC (bT _) lsN)
 rw [bS.eq_1] at h
 refine aC dCo rfl fun K hK=>?_;conv=>whnf
 refine hK _ _ _ ?_
 refine aF ?_
 refine aC dCo rfl fun K hK=>?_;conv=>whnf
 refine nlA rfl ?_;conv=>whnf
 refine bKo rfl ?_;conv=>whnf
 refine nlA rfl ?_;conv=>whnf
 replace h:=bL h
 refine kG h33 h (WkL.refl _) (fun _ h=>?_);conv=>whnf
 refine hK _ _ _ ?_
 refine aW fun K1 K2 hK1 hK2=>?_;conv=>whnf
 refine cLk h (fun _ h=>?_) (fun _ h=>?_)
 ·refine hK1 ?_
  refine aC dCo rfl fun K hK=>?_;conv=>whnf
  refine bKo rfl ?_;conv=>whnf
  refine vY (x:=(Ar.zero 8)) rfl rfl rfl ?_;conv=>whnf
  refine hK _ _ _ ?_
  refine aP ?_
  refine aQ ?_
  replace h:=aO h
  refine aK dCo fun K hK=>?_;conv=>whnf
  refine nlA rfl ?_;conv=>whnf
  refine bKo rfl ?_;conv=>whnf
  refine yH (x:=(Ar.zero 8)) rfl ?_;conv=>whnf
  refine hK _ ?_
  cases h
  exact Wk.refl _
 refine hK2 ?_
 refine aG ?_
 refine tHn ?_
 refine aC dCo rfl fun K hK=>?_;conv=>whnf
 refine nlA rfl ?_;conv=>whnf
 refine bKo rfl ?_;conv=>whnf
 refine nlA rfl ?_;conv=>whnf
 replace h:=bL h
 refine aAf h79 h (WkL.refl _) (fun _ h=>?_);conv=>whnf
 refine aL ?_;conv=>whnf
 refine aL ?_;conv=>whnf
 refine bKo rfl ?_;conv=>whnf
 refine vY rfl rfl rfl ?_;conv=>whnf
 refine hK _ _ _ ?_
 refine aP ?_
 replace h:=aO h
 refine aK dCo fun K hK=>?_;conv=>whnf
 refine nlA rfl ?_;conv=>whnf
 refine bKo rfl ?_;conv=>whnf
 refine yH rfl ?_;conv=>whnf
 refine hK _ ?_
 cases h
 exact Wk.refl _
theorem dH {T:Tbl} (hT:T 54=aH dJ) {args:List AV} {hp:bH} {id:Nat} {k:AV→Prop} {a0:aE} {Φ:(Ar 8)×Bool→Prop} (h:W (bS a0) Φ) (hw:WkL args [bF a0]) (hk:∀ y,Φ y→k (.tup [eAr y.1,eB y.2])):cH T 54 args hp id k:=by
 obtain ⟨y,e,hy⟩:=dY h
 exact aV hT ⟨a0,rfl,lR e rfl⟩ (by exact eJ (lsC (wE _) (lsC (lsB _) lsN))) hw (hk y hy)
  def mM (a0:aE) (a1:List Int) (y1:(Ar 8)×Bool) (s4:Int×Int):Option (Ct (Int×Int) Bool):=cn (decide (s4.2<(a1.length:Int))) (ix a1 default s4.2 fun e5=>
  jn (fun p6:Bool=>cn p6 (some (.rt false)) (gd (0≤e5) (let v8:=(bor .i64 s4.1 (aDv .i64 1 e5));some (.nx (v8,(wr (s4.2+1))))))) fun k7=>
  cn (decide (e5<0)) (k7 true) (cn (decide (e5≥a0.N)) (k7 true) (gd (0≤e5) (cn ((aAo .i64 (wW .i64 s4.1 e5) 1) ==
  1) (k7 true) (gd (0≤e5∧e5<(8:Int)) (k7 ((rE .i64 (y1.1.at1 e5) s4.1) != 0))))))) (some (.bk (s4.1,s4.2)))
def eR (a0:aE) (a1:List Int):Option Bool:=bd (bS a0) fun y1=>jn (fun p2:Bool=>
  cn p2 (some false) (bd (lp (mM a0 a1 y1) FU (0,0)) fun c9=>smK c9 (fun s10=>some true) (fun r11=>some r11))) fun k3=>
  cn (!y1.2) (k3 true) (k3 ((a1.length:Int) != a0.N))
def lW:List AV→AV→Prop:=fun args r=>∃ a0 a1,args=[bF a0,(eL 1 eI default) a1]∧W (eR a0 a1) fun y=>r=(eB y)
theorem aA9 {T:Tbl} (hT:TOk Tryd.prog T) (hpf:cP T PF) (h54:T 54=aH dJ):FOk Tryd.prog 22 (aH lW):=by
 refine bM hT hpf Tryd.func22 rfl Tryd.ntmps22 Tryd.results22 (by decide) ?_
 rintro args r ⟨a0,a1,rfl,h⟩
 refine ⟨nle rfl,?_,?_⟩
 ·exact (lsC (bT _) (lsC (lsL fun _=>(lsI _ _)) lsN))
 rw [eR.eq_1] at h
 refine aC dCo rfl fun K hK=>?_;conv=>whnf
 refine hK _ _ _ ?_
 refine aC dCo rfl fun K hK=>?_;conv=>whnf
 refine nlA rfl ?_;conv=>whnf
 refine bKo rfl ?_;conv=>whnf
 refine nlA rfl ?_;conv=>whnf
 replace h:=bL h
 refine dH h54 h (WkL.refl _) (fun _ h=>?_);conv=>whnf
 refine aL ?_;conv=>whnf
 refine aL ?_;conv=>whnf
 refine aL ?_;conv=>whnf
 refine bKo rfl ?_;conv=>whnf
 refine vY rfl rfl rfl ?_;conv=>whnf
 refine hK _ _ _ ?_
 refine aF ?_
 refine aC dCo rfl fun K hK=>?_;conv=>whnf
 replace h:=lG h
 refine cLk h (fun _ h=>?_) (fun _ h=>?_)<;>(conv=>whnf)
 ·refine hK _ _ _ ?_
  refine aW fun K1 K2 hK1 hK2=>?_;conv=>whnf
  refine hK1 ?_
  replace h:=rM h
  refine aC dCo rfl fun K hK=>?_;conv=>whnf
  refine hK _ _ _ ?_
  refine aP ?_
  refine aQ ?_
  replace h:=aO h
  refine aK dCo fun K hK=>?_;conv=>whnf
  refine hK _ ?_
  cases h
  exact Wk.refl _
 refine nlA rfl ?_;conv=>whnf
 refine bKo rfl ?_;conv=>whnf
 refine gKo rfl ?_;conv=>whnf
 refine hK _ _ _ ?_
 refine aW fun K1 K2 hK1 hK2=>?_;conv=>whnf
 refine cLk h (fun _ h=>?_) (fun _ h=>?_)
 ·refine hK1 ?_
  refine aC dCo rfl fun K hK=>?_;conv=>whnf
  refine hK _ _ _ ?_
  refine aP ?_
  refine aQ ?_
  replace h:=aO h
  refine aK dCo fun K hK=>?_;conv=>whnf
  refine hK _ ?_
  cases h
  exact Wk.refl _
 refine hK2 ?_
 refine aG ?_
 refine tHn ?_
 refine aC dCo rfl fun K hK=>?_;conv=>whnf
 refine hK _ _ _ ?_
 refine aF ?_
 refine aC dCo rfl fun K hK=>?_;conv=>whnf
 refine hK _ _ _ ?_
 refine aJ ?_
 replace h:=bL h
 refine cY (body:=mM _ _ _) rfl h [2,5,24,25] [2] [5] [] (fun kl kh kr ids b s=>⟨ofL ([(7,eI s.1),(26,eI s.2)]++kl),ofH (([]++kh)++([]++kr)),b+64⟩) ?_;(conv=>whnf);refine And.intro ?_ (fun s m h=>cR ?_)
 ·refine aR ?_;conv=>whnf
  exact And.intro rfl (And.intro (aLc wkI (aLc wkI (aLc (WkR.ptr (fun _=>rfl)) (aLc (WkR.ptr (fun _=>rfl)) (aLc (wkr (lsL fun _=>(lsI _ _))) (aLc wkI aLn)))))) (aLc ⟨some _,rfl,bRc rfl (cKc wkI (cKc (wkr (lsL fun _=>(aI _))) cKn))⟩ (aLc ⟨some _,rfl,bO rfl rfl⟩ aLn)))
 replace h:=bL h;rw [mM.eq_1] at h
 refine aC dCo rfl fun K hK=>?_;conv=>whnf
 refine hK _ _ _ ?_
 refine aF ?_
 refine aW fun K1 K2 hK1 hK2=>?_;conv=>whnf
 refine cLk h (fun _ h=>?_) (fun _ h=>?_)
 ·refine hK1 ?_
  refine aG ?_
  refine tHn ?_
  refine aF ?_
  refine aJ ?_
  refine aC dCo rfl fun K hK=>?_;conv=>whnf
  refine dD h fun _ h=>?_;conv=>whnf
  refine gKo rfl ?_;conv=>whnf
  refine hK _ _ _ ?_
  refine aF ?_
  refine aC dCo rfl fun K hK=>?_;conv=>whnf
  replace h:=lG h
  refine cLk h (fun _ h=>?_) (fun _ h=>?_)<;>(conv=>whnf)
  ·refine hK _ _ _ ?_
   refine aW fun K1 K2 hK1 hK2=>?_;conv=>whnf
   refine hK1 ?_
   replace h:=rM h
   refine aC dCo rfl fun K hK=>?_;conv=>whnf
   refine hK _ _ _ ?_
   refine aP ?_
   refine aQ ?_
   refine aU ?_
   refine aQ ?_
   refine aQ ?_
   refine aU ?_
   refine aQ ?_
   replace h:=jO h
   replace h:=jN h
   replace h:=aO h
   refine aK dCo fun K hK=>?_;conv=>whnf
   refine hK _ ?_
   cases h
   exact Wk.refl _
  refine nlA rfl ?_;conv=>whnf
  refine bKo rfl ?_;conv=>whnf
  refine gKo rfl ?_;conv=>whnf
  refine cLk h (fun _ h=>?_) (fun _ h=>?_)<;>(conv=>whnf)
  ·refine hK _ _ _ ?_
   refine aW fun K1 K2 hK1 hK2=>?_;conv=>whnf
   refine hK1 ?_
   replace h:=rM h
   refine aC dCo rfl fun K hK=>?_;conv=>whnf
   refine hK _ _ _ ?_
   refine aP ?_
   refine aQ ?_
   refine aU ?_
   refine aQ ?_
   refine aQ ?_
   refine aU ?_
   refine aQ ?_
   replace h:=jO h
   replace h:=jN h
   replace h:=aO h
   refine aK dCo fun K hK=>?_;conv=>whnf
   refine hK _ ?_
   cases h
   exact Wk.refl _
  refine bW h fun _ h=>?_;conv=>whnf
  refine cLk h (fun _ h=>?_) (fun _ h=>?_)<;>(conv=>whnf)
  ·refine hK _ _ _ ?_
   refine aW fun K1 K2 hK1 hK2=>?_;conv=>whnf
   refine hK1 ?_
   replace h:=rM h
   refine aC dCo rfl fun K hK=>?_;conv=>whnf
   refine hK _ _ _ ?_
   refine aP ?_
   refine aQ ?_
   refine aU ?_
   refine aQ ?_
   refine aQ ?_
   refine aU ?_
   refine aQ ?_
   replace h:=jO h
   replace h:=jN h
   replace h:=aO h
   refine aK dCo fun K hK=>?_;conv=>whnf
   refine hK _ ?_
   cases h
   exact Wk.refl _
  refine bW h fun hx30 h=>?_;conv=>whnf
  refine nlA rfl ?_;conv=>whnf
  refine bKo rfl ?_;conv=>whnf
  refine iM rfl hx30 ?_;conv=>whnf
  refine hK _ _ _ ?_
  refine aW fun K1 K2 hK1 hK2=>?_;conv=>whnf
  refine cLk h (fun _ h=>?_) (fun _ h=>?_)
  ·refine hK1 ?_
   refine aC dCo rfl fun K hK=>?_;conv=>whnf
   refine hK _ _ _ ?_
   refine aP ?_
   refine aQ ?_
   refine aU ?_
   refine aQ ?_
   refine aQ ?_
   refine aU ?_
   refine aQ ?_
   replace h:=jO h
   replace h:=jN h
   replace h:=aO h
   refine aK dCo fun K hK=>?_;conv=>whnf
   refine hK _ ?_
   cases h
   exact Wk.refl _
  refine hK2 ?_
  refine aG ?_
  refine tHn ?_
  refine bY dCo rfl fun K hK=>?_;conv=>whnf
  refine bW h fun _ h=>?_;conv=>whnf
  refine hK _ _ _ ?_
  refine iBn ?_
  refine tHn ?_
  refine bY dCo rfl fun K hK=>?_;conv=>whnf
  refine hK _ _ _ ?_
  refine tHn ?_
  replace h:=bK h
  refine ⟨_,h,?_⟩
  refine aR ?_;conv=>whnf
  exact And.intro rfl (And.intro (aLc wkI (aLc wkI (aLc (WkR.ptr (fun _=>rfl)) (aLc (WkR.ptr (fun _=>rfl)) (aLc (wkr (lsL fun _=>(lsI _ _))) (aLc wkI aLn)))))) (aLc ⟨some _,rfl,bRc rfl (cKc wkI (cKc (wkr (lsL fun _=>(aI _))) cKn))⟩ (aLc ⟨some _,rfl,bO rfl rfl⟩ aLn)))
 refine hK2 ?_
 refine bI ?_
 refine aT ?_
 refine aT ?_
 refine aS ?_
 replace h:=cV h
 replace h:=cU h
 refine tHn ?_
 refine aC dCo rfl fun K hK=>?_;conv=>whnf
 refine hK _ _ _ ?_
 refine aP ?_
 replace h:=aO h
 refine aK dCo fun K hK=>?_;conv=>whnf
 refine hK _ ?_
 cases h
 exact Wk.refl _
theorem qK {T:Tbl} (hT:T 22=aH lW) {args:List AV} {hp:bH} {id:Nat} {k:AV→Prop} {a0:aE} {a1:List Int} {Φ:Bool→Prop} (h:W (eR a0 a1) Φ) (hw:WkL args [bF a0,(eL 1 eI default) a1]) (hk:∀ y,Φ y→k (eB y)):cH T 22 args hp id k:=by
 obtain ⟨y,e,hy⟩:=dY h
 exact aV hT ⟨a0,a1,rfl,lR e rfl⟩ (by exact (lsB _)) hw (hk y hy)
def fU (a0:aE):Option (aE×Int):=bd (bS a0) fun y1=>cn (!y1.2) (some ((⟨0,[]⟩:aE),70)) (bd (jE a0.N y1.1) fun y2=>
  some (y2,0))
def nF:List AV→AV→Prop:=fun args r=>∃ a0,args=[bF a0]∧W (fU a0) fun y=>r=(.tup [bF y.1,eI y.2])
theorem aCd {T:Tbl} (hT:TOk Tryd.prog T) (hpf:cP T PF) (h54:T 54=aH dJ) (h58:T 58=aH lZ):FOk Tryd.prog 24 (aH nF):=by
 refine bM hT hpf Tryd.func24 rfl Tryd.ntmps24 Tryd.results24 (by decide) ?_
 rintro args r ⟨a0,rfl,h⟩
 refine ⟨nle rfl,?_,?_⟩
 ·exact (lsC (bT _) lsN)
 rw [fU.eq_1] at h
 refine aC dCo rfl fun K hK=>?_;conv=>whnf
 refine hK _ _ _ ?_
 refine aC dCo rfl fun K hK=>?_;conv=>whnf
 refine nlA rfl ?_;conv=>whnf
 refine bKo rfl ?_;conv=>whnf
 refine nlA rfl ?_;conv=>whnf
 replace h:=bL h
 refine dH h54 h (WkL.refl _) (fun _ h=>?_);conv=>whnf
 refine aL ?_;conv=>whnf
 refine aL ?_;conv=>whnf
 refine aL ?_;conv=>whnf
 refine bKo rfl ?_;conv=>whnf
 refine vY rfl rfl rfl ?_;conv=>whnf
 refine hK _ _ _ ?_
 refine aF ?_
 refine aC dCo rfl fun K hK=>?_;conv=>whnf
 refine hK _ _ _ ?_
 refine aW fun K1 K2 hK1 hK2=>?_;conv=>whnf
 refine cLk h (fun _ h=>?_) (fun _ h=>?_)
 ·refine hK1 ?_
  refine aC dCo rfl fun K hK=>?_;conv=>whnf
  refine bKo rfl ?_;conv=>whnf
  refine And.intro rfl (And.intro (nle rfl) (And.intro rfl ?_));conv=>whnf
  refine hK _ _ _ ?_
  refine aP ?_
  refine aQ ?_
  replace h:=aO h
  refine aK dCo fun K hK=>?_;conv=>whnf
  refine nlA rfl ?_;conv=>whnf
  refine bKo rfl ?_;conv=>whnf
  refine nlA rfl ?_;conv=>whnf
  refine hK _ ?_
  cases h
  exact mL (aD (iA (aD (Wk.refl _) (aD iO bE))) (aD (Wk.refl _) bE))
 refine hK2 ?_
 refine aG ?_
 refine tHn ?_
 refine aC dCo rfl fun K hK=>?_;conv=>whnf
 refine nlA rfl ?_;conv=>whnf
 refine bKo rfl ?_;conv=>whnf
 refine gKo rfl ?_;conv=>whnf
 refine nlA rfl ?_;conv=>whnf
 refine bKo rfl ?_;conv=>whnf
 refine yH rfl ?_;conv=>whnf
 refine aL ?_;conv=>whnf
 replace h:=bL h
 refine uG h58 h (WkL.refl _) (fun _ h=>?_);conv=>whnf
 refine bKo rfl ?_;conv=>whnf
 refine And.intro rfl (And.intro (nle rfl) (And.intro rfl ?_));conv=>whnf
 refine hK _ _ _ ?_
 refine aP ?_
 replace h:=aO h
 refine aK dCo fun K hK=>?_;conv=>whnf
 refine nlA rfl ?_;conv=>whnf
 refine bKo rfl ?_;conv=>whnf
 refine nlA rfl ?_;conv=>whnf
 refine hK _ ?_
 cases h
 exact Wk.refl _
theorem vA {T:Tbl} (hT:T 24=aH nF) {args:List AV} {hp:bH} {id:Nat} {k:AV→Prop} {a0:aE} {Φ:aE×Int→Prop} (h:W (fU a0) Φ) (hw:WkL args [bF a0]) (hk:∀ y,Φ y→k (.tup [bF y.1,eI y.2])):cH T 24 args hp id k:=by
 obtain ⟨y,e,hy⟩:=dY h
 exact aV hT ⟨a0,rfl,lR e rfl⟩ (by exact eJ (lsC (bT _) (lsC (lsI _ _) lsN))) hw (hk y hy)
  def jS (a0:aE) (s2:Int×(Ar 8)) (y1:(Ar 8)×Bool) (s3:Int×(Ar 8)):Option (Ct (Int×(Ar 8)) (aE×Int)):=cn (decide (s3.1<a0.N)) (gd (0≤s2.1∧s2.1<(8:Int)) (gd (0≤s3.1) (jn (fun p4:(Ar 8)=>
  some (.nx ((wr (s3.1+1)),p4))) fun k5=>cn ((aAo .i64 (wW .i64 (y1.1.at1 s2.1) s3.1) 1) ==
  1) (gd (0≤s2.1∧s2.1<(8:Int)) (gd (0≤s3.1∧s3.1<(8:Int)) (gd (0≤s2.1∧s2.1<(8:Int)) (let m6:=s3.2.st1 s2.1 (rE .i64 (s3.2.at1 s2.1) (y1.1.at1 s3.1));
  k5 m6)))) (k5 s3.2)))) (some (.bk (s3.1,s3.2)))
  def jP (a0:aE) (y1:(Ar 8)×Bool) (s2:Int×(Ar 8)):Option (Ct (Int×(Ar 8)) (aE×Int)):=cn (decide (s2.1<a0.N)) (bd (lp (jS a0 s2 y1) FU (0,s2.2)) fun c7=>
  smK c7 (fun s8=>some (.nx ((wr (s2.1+1)),s8.2))) (fun r9=>some (.rt r9))) (some (.bk (s2.1,s2.2)))
def fD (a0:aE):Option (aE×Int):=bd (bS a0) fun y1=>
  cn (!y1.2) (some ((⟨0,[]⟩:aE),70)) (bd (lp (jP a0 y1) FU (0,y1.1)) fun c10=>smK c10 (fun s11=>bd (jE a0.N s11.2) fun y13=>
  some (y13,0)) (fun r12=>some r12))
def mE:List AV→AV→Prop:=fun args r=>∃ a0,args=[bF a0]∧W (fD a0) fun y=>r=(.tup [bF y.1,eI y.2])
theorem aBm {T:Tbl} (hT:TOk Tryd.prog T) (hpf:cP T PF) (h54:T 54=aH dJ) (h58:T 58=aH lZ):FOk Tryd.prog 25 (aH mE):=by
 refine bM hT hpf Tryd.func25 rfl Tryd.ntmps25 Tryd.results25 (by decide) ?_
 rintro args r ⟨a0,rfl,h⟩
 refine ⟨nle rfl,?_,?_⟩
 ·exact (lsC (bT _) lsN)
 rw [fD.eq_1] at h
 refine aC dCo rfl fun K hK=>?_;conv=>whnf
 refine hK _ _ _ ?_
 refine aC dCo rfl fun K hK=>?_;conv=>whnf
 refine nlA rfl ?_;conv=>whnf
 refine bKo rfl ?_;conv=>whnf
 refine nlA rfl ?_;conv=>whnf
 replace h:=bL h
 refine dH h54 h (WkL.refl _) (fun _ h=>?_);conv=>whnf
 refine aL ?_;conv=>whnf
 refine aL ?_;conv=>whnf
 refine aL ?_;conv=>whnf
 refine bKo rfl ?_;conv=>whnf
 refine vY rfl rfl rfl ?_;conv=>whnf
 refine hK _ _ _ ?_
 refine aF ?_
 refine aC dCo rfl fun K hK=>?_;conv=>whnf
 refine hK _ _ _ ?_
 refine aW fun K1 K2 hK1 hK2=>?_;conv=>whnf
 refine cLk h (fun _ h=>?_) (fun _ h=>?_)
 ·refine hK1 ?_
  refine aC dCo rfl fun K hK=>?_;conv=>whnf
  refine bKo rfl ?_;conv=>whnf
  refine And.intro rfl (And.intro (nle rfl) (And.intro rfl ?_));conv=>whnf
  refine hK _ _ _ ?_
  refine aP ?_
  refine aQ ?_
  replace h:=aO h
  refine aK dCo fun K hK=>?_;conv=>whnf
  refine nlA rfl ?_;conv=>whnf
  refine bKo rfl ?_;conv=>whnf
  refine nlA rfl ?_;conv=>whnf
  refine hK _ ?_
  cases h
  exact mL (aD (iA (aD (Wk.refl _) (aD iO bE))) (aD (Wk.refl _) bE))
 refine hK2 ?_
 refine aG ?_
 refine tHn ?_
 refine aC dCo rfl fun K hK=>?_;conv=>whnf
 refine nlA rfl ?_;conv=>whnf
 refine bKo rfl ?_;conv=>whnf
 refine yH rfl ?_;conv=>whnf
 refine bKo rfl ?_;conv=>whnf
 refine vY rfl rfl rfl ?_;conv=>whnf
 refine hK _ _ _ ?_
 refine aF ?_
 refine aC dCo rfl fun K hK=>?_;conv=>whnf
 refine nlA rfl ?_;conv=>whnf
 refine bKo rfl ?_;conv=>whnf
 refine gKo rfl ?_;conv=>whnf
 refine hK _ _ _ ?_
 refine aJ ?_
 replace h:=bL h
 refine cY (body:=jP _ _) rfl h [1,2,4,6,19] [1,2] [4] [6] (fun kl kh kr ids b s=>⟨ofL ([(20,eI s.1)]++kl),ofH (([]++kh)++([(xW ids 0,.cells (cA s.2))]++kr)),b+128⟩) ?_;(conv=>whnf);refine And.intro ?_ (fun s m h=>cR ?_)
 ·refine aR ?_;conv=>whnf
  exact And.intro rfl (And.intro (aLc wkI (aLc (WkR.ptr (fun _=>rfl)) (aLc (WkR.ptr (fun _=>rfl)) (aLc (WkR.ptr (fun _=>rfl)) (aLc (WkR.ptr (fun _=>rfl)) (aLc wkI aLn)))))) (aLc ⟨some _,rfl,bRc rfl (cKc wkI (cKc (wkr (lsL fun _=>(aI _))) cKn))⟩ (aLc ⟨some _,rfl,bRc rfl (cKc wkI (cKc (wkr bC) cKn))⟩ (aLc ⟨some _,rfl,bO rfl rfl⟩ (aLc ⟨some _,rfl,bO rfl rfl⟩ aLn)))))
 replace h:=bL h;rw [jP.eq_1] at h
 refine aC dCo rfl fun K hK=>?_;conv=>whnf
 refine hK _ _ _ ?_
 refine aF ?_
 refine aW fun K1 K2 hK1 hK2=>?_;conv=>whnf
 refine cLk h (fun _ h=>?_) (fun _ h=>?_)
 ·refine hK1 ?_
  refine aG ?_
  refine tHn ?_
  refine aF ?_
  refine aJ ?_
  refine aC dCo rfl fun K hK=>?_;conv=>whnf
  refine hK _ _ _ ?_
  refine aC dCo rfl fun K hK=>?_;conv=>whnf
  refine nlA rfl ?_;conv=>whnf
  refine bKo rfl ?_;conv=>whnf
  refine gKo rfl ?_;conv=>whnf
  refine hK _ _ _ ?_
  refine aJ ?_
  replace h:=bL h
  refine cY (body:=jS _ _ _) rfl h [1,2,4,6,7,19,20,24] [1,2] [4] [6] (fun kl kh kr ids b s=>⟨ofL ([(25,eI s.1)]++kl),ofH (([]++kh)++([(xW ids 0,.cells (cA s.2))]++kr)),b+128⟩) ?_;(conv=>whnf);refine And.intro ?_ (fun s m h=>cR ?_)
  ·refine aR ?_;conv=>whnf
   exact And.intro rfl (And.intro (aLc wkI (aLc (WkR.ptr (fun _=>rfl)) (aLc (WkR.ptr (fun _=>rfl)) (aLc (WkR.ptr (fun _=>rfl)) (aLc (WkR.ptr (fun _=>rfl)) (aLc wkI (aLc wkI (aLc wkI (aLc wkI aLn))))))))) (aLc ⟨some _,rfl,bRc rfl (cKc wkI (cKc (wkr (lsL fun _=>(aI _))) cKn))⟩ (aLc ⟨some _,rfl,bRc rfl (cKc wkI (cKc (wkr bC) cKn))⟩ (aLc ⟨some _,rfl,bO rfl rfl⟩ (aLc ⟨some _,rfl,bO rfl rfl⟩ aLn)))))
  replace h:=bL h;rw [jS.eq_1] at h
  refine aC dCo rfl fun K hK=>?_;conv=>whnf
  refine hK _ _ _ ?_
  refine aF ?_
  refine aW fun K1 K2 hK1 hK2=>?_;conv=>whnf
  refine cLk h (fun _ h=>?_) (fun _ h=>?_)
  ·refine hK1 ?_
   refine aG ?_
   refine tHn ?_
   refine aF ?_
   refine aJ ?_
   refine aC dCo rfl fun K hK=>?_;conv=>whnf
   refine hK _ _ _ ?_
   refine aC dCo rfl fun K hK=>?_;conv=>whnf
   refine bW h fun hx465 h=>?_;conv=>whnf
   refine nlA rfl ?_;conv=>whnf
   refine bKo rfl ?_;conv=>whnf
   refine iM rfl hx465 ?_;conv=>whnf
   refine bW h fun _ h=>?_;conv=>whnf
   refine hK _ _ _ ?_
   replace h:=lG h
   refine aW fun K1 K2 hK1 hK2=>?_;conv=>whnf
   refine cLk h (fun _ h=>?_) (fun _ h=>?_)
   ·refine hK1 ?_
    refine nQ dCo cG rfl (by kernel_rfl) fun K hK=>?_;conv=>whnf
    refine bW h fun hx469 h=>?_;conv=>whnf
    refine nlA rfl ?_;conv=>whnf
    refine bKo rfl ?_;conv=>whnf
    refine iM rfl hx469 ?_;conv=>whnf
    refine bW h fun hx470 h=>?_;conv=>whnf
    refine nlA rfl ?_;conv=>whnf
    refine bKo rfl ?_;conv=>whnf
    refine iM rfl hx470 ?_;conv=>whnf
    refine bW h fun hx471 h=>?_;conv=>whnf
    refine bKo rfl ?_;conv=>whnf
    refine aCL rfl hx471 rfl rfl ?_;conv=>whnf
    refine hK _ _ _ ?_
    refine iBn ?_
    refine tHn ?_
    refine bY dCo rfl fun K hK=>?_;conv=>whnf
    refine hK _ _ _ ?_
    refine tHn ?_
    replace h:=bK h
    refine ⟨_,h,?_⟩
    refine aR ?_;conv=>whnf
    exact And.intro rfl (And.intro (aLc wkI (aLc (WkR.ptr (fun _=>rfl)) (aLc (WkR.ptr (fun _=>rfl)) (aLc (WkR.ptr (fun _=>rfl)) (aLc (WkR.ptr (fun _=>rfl)) (aLc wkI (aLc wkI (aLc wkI (aLc wkI aLn))))))))) (aLc ⟨some _,rfl,bRc rfl (cKc wkI (cKc (wkr (lsL fun _=>(aI _))) cKn))⟩ (aLc ⟨some _,rfl,bRc rfl (cKc wkI (cKc (wkr bC) cKn))⟩ (aLc ⟨some _,rfl,bO rfl rfl⟩ (aLc ⟨some _,rfl,bO rfl rfl⟩ aLn)))))
   refine hK2 ?_
   refine aG ?_
   refine iBn ?_
   refine tHn ?_
   refine bY dCo rfl fun K hK=>?_;conv=>whnf
   refine hK _ _ _ ?_
   refine tHn ?_
   replace h:=bK h
   refine ⟨_,h,?_⟩
   refine aR ?_;conv=>whnf
   exact And.intro rfl (And.intro (aLc wkI (aLc (WkR.ptr (fun _=>rfl)) (aLc (WkR.ptr (fun _=>rfl)) (aLc (WkR.ptr (fun _=>rfl)) (aLc (WkR.ptr (fun _=>rfl)) (aLc wkI (aLc wkI (aLc wkI (aLc wkI aLn))))))))) (aLc ⟨some _,rfl,bRc rfl (cKc wkI (cKc (wkr (lsL fun _=>(aI _))) cKn))⟩ (aLc ⟨some _,rfl,bRc rfl (cKc wkI (cKc (wkr bC) cKn))⟩ (aLc ⟨some _,rfl,bO rfl rfl⟩ (aLc ⟨some _,rfl,bO rfl rfl⟩ aLn)))))
  refine hK2 ?_
  refine bI ?_
  refine aT ?_
  refine aT ?_
  refine aS ?_
  replace h:=cV h
  replace h:=cU h
  refine iBn ?_
  refine tHn ?_
  refine bY dCo rfl fun K hK=>?_;conv=>whnf
  refine hK _ _ _ ?_
  refine tHn ?_
  replace h:=bK h
  refine ⟨_,h,?_⟩
  refine aR ?_;conv=>whnf
  exact And.intro rfl (And.intro (aLc wkI (aLc (WkR.ptr (fun _=>rfl)) (aLc (WkR.ptr (fun _=>rfl)) (aLc (WkR.ptr (fun _=>rfl)) (aLc (WkR.ptr (fun _=>rfl)) (aLc wkI aLn)))))) (aLc ⟨some _,rfl,bRc rfl (cKc wkI (cKc (wkr (lsL fun _=>(aI _))) cKn))⟩ (aLc ⟨some _,rfl,bRc rfl (cKc wkI (cKc (wkr bC) cKn))⟩ (aLc ⟨some _,rfl,bO rfl rfl⟩ (aLc ⟨some _,rfl,bO rfl rfl⟩ aLn)))))
 refine hK2 ?_
 refine bI ?_
 refine aT ?_
 refine aT ?_
 refine aS ?_
 replace h:=cV h
 replace h:=cU h
 refine tHn ?_
 refine aC dCo rfl fun K hK=>?_;conv=>whnf
 refine nlA rfl ?_;conv=>whnf
 refine bKo rfl ?_;conv=>whnf
 refine gKo rfl ?_;conv=>whnf
 refine nlA rfl ?_;conv=>whnf
 refine bKo rfl ?_;conv=>whnf
 refine yH rfl ?_;conv=>whnf
 refine aL ?_;conv=>whnf
 replace h:=bL h
 refine uG h58 h (WkL.refl _) (fun _ h=>?_);conv=>whnf
 refine bKo rfl ?_;conv=>whnf
 refine And.intro rfl (And.intro (nle rfl) (And.intro rfl ?_));conv=>whnf
 refine hK _ _ _ ?_
 refine aP ?_
 replace h:=aO h
 refine aK dCo fun K hK=>?_;conv=>whnf
 refine nlA rfl ?_;conv=>whnf
 refine bKo rfl ?_;conv=>whnf
 refine nlA rfl ?_;conv=>whnf
 refine hK _ ?_
 cases h
 exact Wk.refl _
theorem uI {T:Tbl} (hT:T 25=aH mE) {args:List AV} {hp:bH} {id:Nat} {k:AV→Prop} {a0:aE} {Φ:aE×Int→Prop} (h:W (fD a0) Φ) (hw:WkL args [bF a0]) (hk:∀ y,Φ y→k (.tup [bF y.1,eI y.2])):cH T 25 args hp id k:=by
 obtain ⟨y,e,hy⟩:=dY h
 exact aV hT ⟨a0,rfl,lR e rfl⟩ (by exact eJ (lsC (bT _) (lsC (lsI _ _) lsN))) hw (hk y hy)
def dW (a0:aE) (a1:Int) (a2:Int):Option Bool:=bd (bS a0) fun y1=>jn (fun p2:Bool=>some p2) fun k3=>
  cn y1.2 (cn (decide ((aH9 a1 a2)≥0)) (cn (decide ((aH4 a1 a2)<a0.N)) (gd (0≤a2∧a2<(8:Int)) (gd (0≤a1) (let v4:=((aAo .i64 (wW .i64 (y1.1.at1 a2) a1) 1) ==
  1);k3 v4))) (k3 false)) (k3 false)) (k3 false)
def mA:List AV→AV→Prop:=fun args r=>∃ a0 a1 a2,args=[bF a0,eI a1,eI a2]∧W (dW a0 a1 a2) fun y=>r=(eB y)
theorem aB0 {T:Tbl} (hT:TOk Tryd.prog T) (hpf:cP T PF) (h54:T 54=aH dJ):FOk Tryd.prog 27 (aH mA):=by
 refine bM hT hpf Tryd.func27 rfl Tryd.ntmps27 Tryd.results27 (by decide) ?_
 rintro args r ⟨a0,a1,a2,rfl,h⟩
 refine ⟨nle rfl,?_,?_⟩
 ·exact (lsC (bT _) (lsC (lsI _ _) (lsC (lsI _ _) lsN)))
 rw [dW.eq_1] at h
 refine aC dCo rfl fun K hK=>?_;conv=>whnf
 refine hK _ _ _ ?_
 refine aC dCo rfl fun K hK=>?_;conv=>whnf
 refine nlA rfl ?_;conv=>whnf
 refine bKo rfl ?_;conv=>whnf
 refine nlA rfl ?_;conv=>whnf
 replace h:=bL h
 refine dH h54 h (WkL.refl _) (fun _ h=>?_);conv=>whnf
 refine aL ?_;conv=>whnf
 refine aL ?_;conv=>whnf
 refine aL ?_;conv=>whnf
 refine bKo rfl ?_;conv=>whnf
 refine vY rfl rfl rfl ?_;conv=>whnf
 refine hK _ _ _ ?_
 refine aC dCo rfl fun K hK=>?_;conv=>whnf
 replace h:=lG h
 refine cLk h (fun _ h=>?_) (fun _ h=>?_)<;>(conv=>whnf)
 ·refine cLk h (fun _ h=>?_) (fun _ h=>?_)<;>(conv=>whnf)
  ·refine nlA rfl ?_;conv=>whnf
   refine bKo rfl ?_;conv=>whnf
   refine gKo rfl ?_;conv=>whnf
   refine cLk h (fun _ h=>?_) (fun _ h=>?_)<;>(conv=>whnf)
   ·refine bW h fun hx476 h=>?_;conv=>whnf
    refine nlA rfl ?_;conv=>whnf
    refine bKo rfl ?_;conv=>whnf
    refine iM rfl hx476 ?_;conv=>whnf
    refine bW h fun _ h=>?_;conv=>whnf
    refine hK _ _ _ ?_
    refine aP ?_
    replace h:=aO h
    refine aK dCo fun K hK=>?_;conv=>whnf
    refine hK _ ?_
    cases h
    exact Wk.refl _
   refine hK _ _ _ ?_
   refine aP ?_
   replace h:=aO h
   refine aK dCo fun K hK=>?_;conv=>whnf
   refine hK _ ?_
   cases h
   exact Wk.refl _
  refine hK _ _ _ ?_
  refine aP ?_
  replace h:=aO h
  refine aK dCo fun K hK=>?_;conv=>whnf
  refine hK _ ?_
  cases h
  exact Wk.refl _
 refine hK _ _ _ ?_
 refine aP ?_
 replace h:=aO h
 refine aK dCo fun K hK=>?_;conv=>whnf
 refine hK _ ?_
 cases h
 exact Wk.refl _
theorem mT {T:Tbl} (hT:T 27=aH mA) {args:List AV} {hp:bH} {id:Nat} {k:AV→Prop} {a0:aE} {a1:Int} {a2:Int} {Φ:Bool→Prop} (h:W (dW a0 a1 a2) Φ) (hw:WkL args [bF a0,eI a1,eI a2]) (hk:∀ y,Φ y→k (eB y)):cH T 27 args hp id k:=by
 obtain ⟨y,e,hy⟩:=dY h
 exact aV hT ⟨a0,a1,a2,rfl,lR e rfl⟩ (by exact (lsB _)) hw (hk y hy)
def iW (a0:aE):Option Bool:=bd (bS a0) fun y1=>some y1.2
def mZ:List AV→AV→Prop:=fun args r=>∃ a0,args=[bF a0]∧W (iW a0) fun y=>r=(eB y)
theorem aB6 {T:Tbl} (hT:TOk Tryd.prog T) (hpf:cP T PF) (h54:T 54=aH dJ):FOk Tryd.prog 34 (aH mZ):=by
 refine bM hT hpf Tryd.func34 rfl Tryd.ntmps34 Tryd.results34 (by decide) ?_
 rintro args r ⟨a0,rfl,h⟩
 refine ⟨nle rfl,?_,?_⟩
 ·exact (lsC (bT _) lsN)
 rw [iW.eq_1] at h
 refine aC dCo rfl fun K hK=>?_;conv=>whnf
 refine hK _ _ _ ?_
 refine aC dCo rfl fun K hK=>?_;conv=>whnf
 refine nlA rfl ?_;conv=>whnf
 refine bKo rfl ?_;conv=>whnf
 refine nlA rfl ?_;conv=>whnf
 replace h:=bL h
 refine dH h54 h (WkL.refl _) (fun _ h=>?_);conv=>whnf
 refine aL ?_;conv=>whnf
 refine aL ?_;conv=>whnf
 refine aL ?_;conv=>whnf
 refine bKo rfl ?_;conv=>whnf
 refine vY rfl rfl rfl ?_;conv=>whnf
 refine hK _ _ _ ?_
 refine aC dCo rfl fun K hK=>?_;conv=>whnf
 refine hK _ _ _ ?_
 refine aP ?_
 replace h:=aO h
 refine aK dCo fun K hK=>?_;conv=>whnf
 refine hK _ ?_
 cases h
 exact Wk.refl _
theorem rN {T:Tbl} (hT:T 34=aH mZ) {args:List AV} {hp:bH} {id:Nat} {k:AV→Prop} {a0:aE} {Φ:Bool→Prop} (h:W (iW a0) Φ) (hw:WkL args [bF a0]) (hk:∀ y,Φ y→k (eB y)):cH T 34 args hp id k:=by
 obtain ⟨y,e,hy⟩:=dY h
 exact aV hT ⟨a0,rfl,lR e rfl⟩ (by exact (lsB _)) hw (hk y hy)
def gR:List AV→AV→Prop:=fun args r=>∃ (a0:Int) (a1:Ar 8),args=[eI a0,eAr a1]∧r=.fn 81 [] [.ep [eI a0] 0,.ep (cA a1) 0]
theorem zT {T:Tbl} (hT:TOk Tryd.prog T) (hpf:cP T PF):FOk Tryd.prog 56 (aH gR):=by
 refine bM hT hpf Tryd.func56 rfl Tryd.ntmps56 Tryd.results56 (by decide) ?_
 rintro args r ⟨a0,a1,rfl,rfl⟩
 refine ⟨nle rfl,?_,?_⟩
 ·exact (lsC (lsI _ _) (lsC (wE _) lsN))
 refine aC dCo rfl fun K hK=>?_;conv=>whnf
 refine aL ?_;conv=>whnf
 refine hK _ _ _ ?_
 refine sH 2 ?_;(conv=>whnf);refine ⟨_,rfl,?_⟩
 refine sH 3 ?_;(conv=>whnf);refine ⟨_,rfl,?_⟩
 refine aC dCo rfl fun K hK=>?_;conv=>whnf
 refine hK _ _ _ ?_
 refine aP ?_
 refine aK dCo fun K hK=>?_;conv=>whnf
 refine hK _ ?_
 exact Wk.refl _
  def fT (a9000:Type) (c900:Int) (c901:Ar 8) (s1:Int×a9000) (s2:Int×Int):Option (Ct (Int×Int) a9000):=cn (decide (s2.2<c900)) (gd (0≤s2.2) (jn (fun p3:Int=>
  some (.nx (p3,(wr (s2.2+1))))) fun k4=>cn ((aAo .i64 (wW .i64 s1.1 s2.2) 1)==1) (gd (0≤s2.2∧s2.2<(8:Int)) (let v5:=(bor .i64 s2.1 (c901.at1 s2.2));
  k4 v5)) (k4 s2.1))) (some (.bk (s2.1,s2.2)))
  def fS (a9000:Type) (c900:Int) (c901:Ar 8) (f9001:Int→a9000→Option a9000) (s1:Int×a9000):Option (Ct (Int×a9000) a9000):=cn (decide (s1.1<(aDv .i64 1 c900))) (bd (lp (fT a9000 c900 c901 s1) FU (0,0)) fun c6=>
  smK c6 (fun s7=>jn (fun p9:a9000=>some (.nx ((wr (s1.1+1)),p9))) fun k10=>cn ((rE .i64 s7.1 s1.1)==0) (bd (f9001 s1.1 s1.2) fun g11=>
  k10 g11) (k10 s1.2)) (fun r8=>some (.rt r8))) (some (.bk (s1.1,s1.2)))
  def eM (c900:Int) (c901:Ar 8) (a9000:Type) (f9001:Int→a9000→Option a9000) (g9002:a9000):Option a9000:=gd (0≤c900) (bd (lp (fS a9000 c900 c901 f9001) FU (0,g9002)) fun c12=>
  smK c12 (fun s13=>some s13.2) (fun r14=>some r14))
def iZ:List AV→(∀ σ:Type,(Int→σ→Option σ)→σ→Option σ)→Prop:=fun caps F=>∃ (c900:Int) (c901:Ar 8),caps=[.ep [eI c900] 0,.ep (cA c901) 0]∧F=eM c900 c901
theorem xN {T:Tbl} (hT:TOk Tryd.prog T) (hpf:cP T PF):FOk Tryd.prog 81 (itR Tryd.prog (fun x=>[Value.int .i64 x]) iZ):=by
 refine aQV hT hpf Tryd.func81 rfl Tryd.ntmps81 Tryd.results81 (by decide) ?_
 rintro caps F ⟨c900,c901,rfl,rfl⟩
 refine ⟨(lsC (lsE (lsC (lsI _ _) lsN)) (lsC (lsE (bD _)) lsN)),nle rfl,fun gS gG a9000 gi f9001 g9002 gfin hP hY h=>?_⟩
 rw [eM.eq_1] at h
 refine aC dCo rfl fun K hK=>?_;conv=>whnf
 refine gKo rfl ?_;conv=>whnf
 refine bW h fun _ h=>?_;conv=>whnf
 refine hK _ _ _ ?_
 refine aJ ?_
 replace h:=bL h
 refine qU (body:=fS _ _ _ _) rfl h [0,1,2,8] [] [] (fun kl kh ids b s=>⟨ofL ([(9,eI s.1)]++kl),ofH ([(0,.gh gS gG (gi s.2))]++kh),b+64⟩) ?_;(conv=>whnf);refine And.intro ?_ (fun s m h=>cR ?_)
 ·refine bN ?_;conv=>whnf
  exact And.intro rfl (And.intro (aLc wkI (aLc (zZ (fun _=>rfl)) (aLc (wkr (lsE (lsC (lsI _ _) lsN))) (aLc (wkr (lsE (bD _))) (aLc wkI aLn))))) (aLc ⟨some _,rfl,aIe rfl⟩ aLn))
 replace h:=bL h;rw [fS.eq_1] at h
 refine aC dCo rfl fun K hK=>?_;conv=>whnf
 refine hK _ _ _ ?_
 refine aF ?_
 refine aW fun K1 K2 hK1 hK2=>?_;conv=>whnf
 refine cLk h (fun _ h=>?_) (fun _ h=>?_)
 ·refine hK1 ?_
  refine aG ?_
  refine tHn ?_
  refine aF ?_
  refine aJ ?_
  refine aC dCo rfl fun K hK=>?_;conv=>whnf
  refine hK _ _ _ ?_
  refine aC dCo rfl fun K hK=>?_;conv=>whnf
  refine hK _ _ _ ?_
  refine aF ?_
  refine aC dCo rfl fun K hK=>?_;conv=>whnf
  refine gKo rfl ?_;conv=>whnf
  refine hK _ _ _ ?_
  refine aJ ?_
  replace h:=bL h
  refine aMx (body:=fT _ _ _ _) rfl h [0,1,2,4,8,9,12] (fun σ=>aRM σ++uE σ []++yN σ []) [] (fun kl kh ids b s=>⟨ofL ([(5,eI s.1),(13,eI s.2)]++kl),ofH ([]++kh),b+64⟩) ?_;(conv=>whnf);refine And.intro ?_ (fun s m h=>cR ?_)
  ·refine bN ?_;conv=>whnf
   exact And.intro rfl (And.intro (aLc wkI (aLc wkI (aLc (zZ (fun _=>rfl)) (aLc (wkr (lsE (lsC (lsI _ _) lsN))) (aLc (wkr (lsE (bD _))) (aLc wkI (aLc wkI (aLc wkI (aLc wkI aLn))))))))) (aLc ⟨some _,rfl,aIe rfl⟩ aLn))
  replace h:=bL h;rw [fT.eq_1] at h
  refine aC dCo rfl fun K hK=>?_;conv=>whnf
  refine hK _ _ _ ?_
  refine aF ?_
  refine aW fun K1 K2 hK1 hK2=>?_;conv=>whnf
  refine cLk h (fun _ h=>?_) (fun _ h=>?_)
  ·refine hK1 ?_
   refine aG ?_
   refine tHn ?_
   refine aF ?_
   refine aJ ?_
   refine aC dCo rfl fun K hK=>?_;conv=>whnf
   refine hK _ _ _ ?_
   refine aC dCo rfl fun K hK=>?_;conv=>whnf
   refine bW h fun _ h=>?_;conv=>whnf
   refine hK _ _ _ ?_
   replace h:=lG h
   refine aW fun K1 K2 hK1 hK2=>?_;conv=>whnf
   refine cLk h (fun _ h=>?_) (fun _ h=>?_)
   ·refine hK1 ?_
    refine bY dCo rfl fun K hK=>?_;conv=>whnf
    refine bW h fun hx200 h=>?_;conv=>whnf
    refine iM rfl hx200 ?_;conv=>whnf
    refine hK _ _ _ ?_
    refine iBn ?_
    refine tHn ?_
    refine bY dCo rfl fun K hK=>?_;conv=>whnf
    refine hK _ _ _ ?_
    refine tHn ?_
    replace h:=bK h
    refine ⟨_,h,?_⟩
    refine bN ?_;conv=>whnf
    exact And.intro rfl (And.intro (aLc wkI (aLc wkI (aLc (zZ (fun _=>rfl)) (aLc (wkr (lsE (lsC (lsI _ _) lsN))) (aLc (wkr (lsE (bD _))) (aLc wkI (aLc wkI (aLc wkI (aLc wkI aLn))))))))) (aLc ⟨some _,rfl,aIe rfl⟩ aLn))
   refine hK2 ?_
   refine aG ?_
   refine iBn ?_
   refine tHn ?_
   refine bY dCo rfl fun K hK=>?_;conv=>whnf
   refine hK _ _ _ ?_
   refine tHn ?_
   replace h:=bK h
   refine ⟨_,h,?_⟩
   refine bN ?_;conv=>whnf
   exact And.intro rfl (And.intro (aLc wkI (aLc wkI (aLc (zZ (fun _=>rfl)) (aLc (wkr (lsE (lsC (lsI _ _) lsN))) (aLc (wkr (lsE (bD _))) (aLc wkI (aLc wkI (aLc wkI (aLc wkI aLn))))))))) (aLc ⟨some _,rfl,aIe rfl⟩ aLn))
  refine hK2 ?_
  refine bI ?_
  refine aT ?_
  refine aT ?_
  refine aS ?_
  replace h:=cV h
  replace h:=cU h
  refine tHn ?_
  refine aC dCo rfl fun K hK=>?_;conv=>whnf
  replace h:=lG h
  refine cLk h (fun _ h=>?_) (fun _ h=>?_)<;>(conv=>whnf)
  ·refine aOI hY hP h rfl (aLU _) (fun _ h=>?_);conv=>whnf
   refine hK _ _ _ ?_
   refine aW fun K1 K2 hK1 hK2=>?_;conv=>whnf
   refine hK2 ?_
   refine aG ?_
   refine iBn ?_
   refine tHn ?_
   refine bY dCo rfl fun K hK=>?_;conv=>whnf
   refine hK _ _ _ ?_
   refine tHn ?_
   replace h:=bK h
   refine ⟨_,h,?_⟩
   refine bN ?_;conv=>whnf
   exact And.intro rfl (And.intro (aLc wkI (aLc (zZ (fun _=>rfl)) (aLc (wkr (lsE (lsC (lsI _ _) lsN))) (aLc (wkr (lsE (bD _))) (aLc wkI aLn))))) (aLc ⟨some _,rfl,aIe rfl⟩ aLn))
  refine hK _ _ _ ?_
  refine aW fun K1 K2 hK1 hK2=>?_;conv=>whnf
  refine hK2 ?_
  refine aG ?_
  refine iBn ?_
  refine tHn ?_
  refine bY dCo rfl fun K hK=>?_;conv=>whnf
  refine hK _ _ _ ?_
  refine tHn ?_
  replace h:=bK h
  refine ⟨_,h,?_⟩
  refine bN ?_;conv=>whnf
  exact And.intro rfl (And.intro (aLc wkI (aLc (zZ (fun _=>rfl)) (aLc (wkr (lsE (lsC (lsI _ _) lsN))) (aLc (wkr (lsE (bD _))) (aLc wkI aLn))))) (aLc ⟨some _,rfl,aIe rfl⟩ aLn))
 refine hK2 ?_
 refine bI ?_
 refine aT ?_
 refine aT ?_
 refine aS ?_
 replace h:=cV h
 replace h:=cU h
 replace h:=aO h
 cases h
 exact ⟨rfl,rfl⟩
def aKH (x:Int) (l:List Int):Option (List Int):=ap l [x] some
def wG (y:List Int) (b:Nat):AV:=.so b 0 y.length 1
def rO (y:List Int):List AB:=[.cells (flE (ceE eI) y)]
def gU (a0:Int) (a1:Ar 8):Option (List Int):=eM a0 a1 (List Int) aKH []
def fN:List AV→List Int→Prop:=fun args y=>∃ (a0:Int) (a1:Ar 8),args=[.nils,.fn 81 [] [.ep [eI a0] 0,.ep (cA a1) 0]]∧gU a0 a1=some y
def gV:List AV→List Int→Prop:=fun args y=>∃ (a0:Int) (a1:Ar 8),args=[.fn 81 [] [.ep [eI a0] 0,.ep (cA a1) 0]]∧gU a0 a1=some y
theorem uV {T:Tbl} (hT:TOk Tryd.prog T) (hpf:cP T PF) (h81:T 81=itR Tryd.prog (fun x=>[Value.int .i64 x]) iZ):FOk Tryd.prog 80 (aHw wG rO fN):=by
 refine aGQ hT hpf Tryd.func80 rfl Tryd.ntmps80 Tryd.results80 (by decide) (fun y=>⟨by simp [rO],by simp [rO,aAK]⟩) ?_
 rintro args y ⟨a0,a1,rfl,hF⟩
 have lofn:(AV.fn 81 [] [.ep [eI a0] 0,.ep (cA a1) 0]).loose:=(wM lsN (lsC (lsE (lsC (lsI _ _) lsN)) (lsC (lsE (bD _)) lsN)))
 refine ⟨nle rfl,(lsC bC (lsC lofn lsN)),fun base=>?_⟩
 refine aC dCo rfl fun K hK=>?_;conv=>whnf
 refine hK _ _ _ ?_
 refine aF ?_
 refine aC dCo rfl fun K hK=>?_;conv=>whnf
 refine hK _ _ _ ?_
 refine aJ ?_
 refine aE0 rfl rfl (n:=32) (Nat.le_refl _) (σ':=⟨ofL [(2,.ptr 32 0),(6,.fn 81 [] [.ep [eI a0] 0,.ep (cA a1) 0])],ofH [(32,.cells [.so 48 0 ([]:List Int).length 1]),(48,.cells (flE (ceE eI) ([]:List Int)))],1024⟩)
  (wON (by decide) [(32,some 64),(48,none)] ⟨WkR.ptr (fun _=>rfl),wkr lofn,trivial⟩ ⟨⟨_,rfl,bRc rfl (cKc (WkR.nilso (fun _=>rfl)) cKn)⟩,⟨_,rfl,aFN⟩,trivial⟩ rfl) ?_
 refine aK8 48 (by decide) (by decide) rfl rfl (fun x=>[eI x]) aMQ (fun _=>rfl) (by decide) h81 rfl (F:=eM _ _) (y:=aKH) hF ⟨_,_,rfl,rfl⟩ (nle rfl)
  (aMz (aLc (aQm (by decide)) (aLc (aG2 lofn) aLn))) (fun l:List Int=>[(32,.cells [.so 48 0 l.length 1]),(48,.cells (flE (ceE eI) l))]) (fun s=>(aLc rfl (aLc rfl aLn))) (fun x s gfin h=>?_) ?_
 ·rw [aKH.eq_1] at h
  refine bY dCo rfl fun K hK=>?_;conv=>whnf
  refine hK _ _ _ ?_
  refine tHn ?_
  refine aJ ?_
  refine bY dCo rfl fun K hK=>?_;conv=>whnf
  refine nlA rfl ?_;conv=>whnf
  refine bKo rfl ?_;conv=>whnf
  refine gKo rfl ?_;conv=>whnf
  refine dL (enc:=eI) (d:=default) (l:=[x]) (f:=some) (Φ:=fun _=>True) dCo (lR (a:=[x]) (by unfold lt;rfl) trivial) rfl rfl rfl ⟨nle rfl,nle rfl,rfl⟩ rfl ⟨⟨rfl,rfl,rfl⟩,trivial⟩ (fun _=>?_);conv=>whnf
  refine aA1 (enc:=eI) (d:=default) dCo h rfl rfl rfl ⟨rfl,nle rfl,nle rfl,nle rfl,rfl⟩ (fun _=>rfl) (fun _=>rfl) (fun _=>nofun) rfl rfl (fun h=>?_);conv=>whnf
  refine bKo rfl ?_;conv=>whnf
  refine And.intro rfl (And.intro (nle rfl) (And.intro rfl ?_));conv=>whnf
  refine hK _ _ _ ?_
  refine iBn ?_
  replace h:=aO h
  cases h
  refine ⟨rfl,_,wON (by decide) [(48,some 1344)] trivial ⟨⟨_,rfl,bRc rfl (cKc (WkR.so (fun _=>rfl)) cKn)⟩,⟨_,rfl,kA rfl (fun _=>(lsC (lsI _ _) lsN))⟩,trivial⟩ rfl⟩
 refine iBn ?_
 refine tHn ?_
 refine aE0 rfl rfl (n:=32) (Nat.le_refl _) (σ':=⟨ofL [(2,.ptr 32 0)],ofH [(32,.cells [.so 64 0 y.length 1]),(64,.cells (flE (ceE eI) y))],2048⟩)
  (aNC (by decide) ⟨WkR.ptr (fun _=>rfl),trivial⟩ ⟨⟨_,rfl,bRc rfl (cKc (WkR.so (fun _=>rfl)) cKn)⟩,⟨_,rfl,kA rfl (fun _=>(lsC (lsI _ _) lsN))⟩,trivial⟩) ?_
 refine aC dCo rfl fun K hK=>?_;conv=>whnf
 refine nlA rfl ?_;conv=>whnf
 refine bKo rfl ?_;conv=>whnf
 refine gKo rfl ?_;conv=>whnf
 refine hK _ _ _ ?_
 refine aP ?_
 refine aBZ dCo fun K hK=>?_;conv=>whnf
 refine hK _ ?_
 refine ⟨rfl,rfl,rfl,aBl (aIX (k:=0) rfl) rfl,fun k n x h1 h2=>?_⟩
 exact match k,n,x,h1,h2 with | 0,n,x,h1,h2=>by cases h1;cases h2;exact ⟨_,rfl,aCD (fun _=>(lsC (lsI _ _) lsN)) _⟩ | k+1,n,x,h1,h2=>by cases h1
theorem vR {T:Tbl} (hT:TOk Tryd.prog T) (hpf:cP T PF) (h80:T 80=aHw wG rO fN):FOk Tryd.prog 55 (aHw wG rO gV):=by
 refine aGQ hT hpf Tryd.func55 rfl Tryd.ntmps55 Tryd.results55 (by decide) (fun y=>⟨by simp [rO],by simp [rO,aAK]⟩) ?_
 rintro args y ⟨a0,a1,rfl,hF⟩
 have lofn:(AV.fn 81 [] [.ep [eI a0] 0,.ep (cA a1) 0]).loose:=(wM lsN (lsC (lsE (lsC (lsI _ _) lsN)) (lsC (lsE (bD _)) lsN)))
 refine ⟨nle rfl,(lsC lofn lsN),fun base=>?_⟩
 have h:W (bd (gU a0 a1) some) (fun z=>z=y):=lR (a:=y) (by rw [hF];unfold bd;rfl) rfl
 refine aC dCo rfl fun K hK=>?_;conv=>whnf
 refine hK _ _ _ ?_
 refine aC dCo rfl fun K hK=>?_;conv=>whnf
 refine zL h80 h (fun y e=>(⟨_,_,rfl,e⟩:fN _ _)) (WkL.refl _) (fun _ h=>?_);conv=>whnf
 refine hK _ _ _ ?_
 refine aP ?_
 replace h:=aO h
 refine aBZ dCo fun K hK=>?_;conv=>whnf
 refine hK _ ?_
 cases h
 refine ⟨rfl,rfl,rfl,aBl (aIX (k:=0) rfl) rfl,fun k n x h1 h2=>?_⟩
 exact match k,n,x,h1,h2 with | 0,n,x,h1,h2=>by cases h1;cases h2;exact ⟨_,rfl,aCD (fun _=>(lsC (lsI _ _) lsN)) _⟩ | k+1,n,x,h1,h2=>by cases h1
def dX (a0:aE):Option ((List Int)×Int):=bd (bS a0) fun y1=>cn (!y1.2) (some ([],70)) (bd (gU a0.N y1.1) fun y2=>
  some (y2,0))
def iR:List AV→AV→Prop:=fun args r=>∃ a0,args=[bF a0]∧W (dX a0) fun y=>r=(.tup [(eL 1 eI default) y.1,eI y.2])
theorem zV {T:Tbl} (hT:TOk Tryd.prog T) (hpf:cP T PF) (h54:T 54=aH dJ) (h55:T 55=aHw wG rO gV) (h56:T 56=aH gR):FOk Tryd.prog 18 (aH iR):=by
 refine bM hT hpf Tryd.func18 rfl Tryd.ntmps18 Tryd.results18 (by decide) ?_
 rintro args r ⟨a0,rfl,h⟩
 refine ⟨nle rfl,?_,?_⟩
 ·exact (lsC (bT _) lsN)
 rw [dX.eq_1] at h
 refine aC dCo rfl fun K hK=>?_;conv=>whnf
 refine hK _ _ _ ?_
 refine aC dCo rfl fun K hK=>?_;conv=>whnf
 refine nlA rfl ?_;conv=>whnf
 refine bKo rfl ?_;conv=>whnf
 refine nlA rfl ?_;conv=>whnf
 replace h:=bL h
 refine dH h54 h (WkL.refl _) (fun _ h=>?_);conv=>whnf
 refine aL ?_;conv=>whnf
 refine aL ?_;conv=>whnf
 refine aL ?_;conv=>whnf
 refine bKo rfl ?_;conv=>whnf
 refine vY rfl rfl rfl ?_;conv=>whnf
 refine hK _ _ _ ?_
 refine aF ?_
 refine aC dCo rfl fun K hK=>?_;conv=>whnf
 refine hK _ _ _ ?_
 refine aW fun K1 K2 hK1 hK2=>?_;conv=>whnf
 refine cLk h (fun _ h=>?_) (fun _ h=>?_)
 ·refine hK1 ?_
  refine aC dCo rfl fun K hK=>?_;conv=>whnf
  refine hK _ _ _ ?_
  refine aP ?_
  refine aQ ?_
  replace h:=aO h
  refine aK dCo fun K hK=>?_;conv=>whnf
  refine hK _ ?_
  cases h
  exact mL (aD iO (aD (Wk.refl _) bE))
 refine hK2 ?_
 refine aG ?_
 refine tHn ?_
 refine aC dCo rfl fun K hK=>?_;conv=>whnf
 refine nlA rfl ?_;conv=>whnf
 refine bKo rfl ?_;conv=>whnf
 refine gKo rfl ?_;conv=>whnf
 refine nlA rfl ?_;conv=>whnf
 refine bKo rfl ?_;conv=>whnf
 refine yH rfl ?_;conv=>whnf
 refine aL ?_;conv=>whnf
 refine aV h56 (S:=gR) ⟨_,_,rfl,rfl⟩ (wM lsN (lsC (lsE (lsC (lsI _ _) lsN)) (lsC (lsE (bD _)) lsN))) (WkL.refl _) ?_;conv=>whnf
 refine zL h55 h (fun y e=>(⟨_,_,rfl,e⟩:gV _ _)) (WkL.refl _) (fun _ h=>?_);conv=>whnf
 refine hK _ _ _ ?_
 refine qM 2 (enc:=eI) (e:=3) default (pS dCo rfl rfl rfl (fun _=>⟨rfl,rfl⟩)) ?_;(conv=>whnf);refine ⟨_,_,rfl,rfl,rfl,?_⟩
 refine aP ?_
 replace h:=aO h
 refine aK dCo fun K hK=>?_;conv=>whnf
 refine hK _ ?_
 cases h
 exact Wk.refl _
theorem sW {T:Tbl} (hT:T 18=aH iR) {args:List AV} {hp:bH} {id:Nat} {k:AV→Prop} {a0:aE} {Φ:(List Int)×Int→Prop} (h:W (dX a0) Φ) (hw:WkL args [bF a0]) (hk:∀ y,Φ y→k (.tup [(eL 1 eI default) y.1,eI y.2])):cH T 18 args hp id k:=by
 obtain ⟨y,e,hy⟩:=dY h
 exact aV hT ⟨a0,rfl,lR e rfl⟩ (by exact eJ (lsC (lsL fun _=>(lsI _ _)) (lsC (lsI _ _) lsN))) hw (hk y hy)
def lY (a0:aE) (x3:Int) (s6:Int×(GM Int)):Option (Ct (Int×(GM Int)) ((GM Int))):=cn (decide (s6.1<a0.N)) (gd (0≤s6.1) (jn (fun p7:(GM Int)=>
  some (.nx ((wr (s6.1+1)),p7))) fun k8=>cn ((aAo .i64 (wW .i64 x3 s6.1) 1) ==
  1) (gd (0≤s6.1) (let m9:=s6.2.put x3 (wr ((s6.2.get x3 0)+(s6.2.get (rE .i64 x3 (aDv .i64 1 s6.1)) 0)));k8 m9)) (k8 s6.2))) (some (.bk (s6.1,s6.2)))
def qL (a0:aE) (x3:Int) (s4:(GM Int)):Option ((GM Int)):=bd (lp (lY a0 x3) FU (0,s4)) fun c10=>smK c10 (fun s11=>some s11.2) (fun r12=>
  some r12)
def fL (a0:aE):Option (Int×Int):=bd (bS a0) fun y1=>cn (!y1.2) (some (0,70)) (let m2:=(GM.mt Int).put 0 1;
  bd (eM a0.N y1.1 ((GM Int)) (qL a0) m2) fun s5=>gd (0≤a0.N) (let v13:=(s5.get (wr ((aDv .i64 1 a0.N)-1)) 0);some (v13,0)))
def mX:List AV→AV→Prop:=fun args r=>∃ a0,args=[bF a0]∧W (fL a0) fun y=>r=(.tup [eI y.1,eI y.2])
theorem aCm {T:Tbl} (hT:TOk Tryd.prog T) (hpf:cP T PF) (h54:T 54=aH dJ) (h56:T 56=aH gR) (h81:T 81=itR Tryd.prog (fun x=>[Value.int .i64 x]) iZ):FOk Tryd.prog 20 (aH mX):=by
 refine bM hT hpf Tryd.func20 rfl Tryd.ntmps20 Tryd.results20 (by decide) ?_
 rintro args r ⟨a0,rfl,h⟩
 refine ⟨nle rfl,?_,?_⟩
 ·exact (lsC (bT _) lsN)
 rw [fL.eq_1] at h
 refine aC dCo rfl fun K hK=>?_;conv=>whnf
 refine hK _ _ _ ?_
 refine aC dCo rfl fun K hK=>?_;conv=>whnf
 refine nlA rfl ?_;conv=>whnf
 refine bKo rfl ?_;conv=>whnf
 refine nlA rfl ?_;conv=>whnf
 replace h:=bL h
 refine dH h54 h (WkL.refl _) (fun _ h=>?_);conv=>whnf
 refine aL ?_;conv=>whnf
 refine aL ?_;conv=>whnf
 refine aL ?_;conv=>whnf
 refine bKo rfl ?_;conv=>whnf
 refine vY rfl rfl rfl ?_;conv=>whnf
 refine hK _ _ _ ?_
 refine aF ?_
 refine aC dCo rfl fun K hK=>?_;conv=>whnf
 refine hK _ _ _ ?_
 refine aW fun K1 K2 hK1 hK2=>?_;conv=>whnf
 refine cLk h (fun _ h=>?_) (fun _ h=>?_)
 ·refine hK1 ?_
  refine aC dCo rfl fun K hK=>?_;conv=>whnf
  refine hK _ _ _ ?_
  refine aP ?_
  refine aQ ?_
  replace h:=aO h
  refine aK dCo fun K hK=>?_;conv=>whnf
  refine hK _ ?_
  cases h
  exact Wk.refl _
 refine hK2 ?_
 refine aG ?_
 refine tHn ?_
 refine aC dCo rfl fun K hK=>?_;conv=>whnf
 refine kZ (enc:=eI) (m:=(GM.mt Int)) dCo rfl rfl ?_;conv=>whnf
 refine bKo rfl ?_;conv=>whnf
 refine And.intro rfl (And.intro (nle rfl) (And.intro rfl ?_));conv=>whnf
 refine hK _ _ _ ?_
 refine aF ?_
 refine aC dCo rfl fun K hK=>?_;conv=>whnf
 refine nlA rfl ?_;conv=>whnf
 refine bKo rfl ?_;conv=>whnf
 refine gKo rfl ?_;conv=>whnf
 refine nlA rfl ?_;conv=>whnf
 refine bKo rfl ?_;conv=>whnf
 refine yH rfl ?_;conv=>whnf
 refine aL ?_;conv=>whnf
 refine aV h56 (S:=gR) ⟨_,_,rfl,rfl⟩ (wM lsN (lsC (lsE (lsC (lsI _ _) lsN)) (lsC (lsE (bD _)) lsN))) (WkL.refl _) ?_;conv=>whnf
 refine hK _ _ _ ?_
 refine aJ ?_
 refine aKV rfl rfl [1,6,17,21] [(1,32),(6,33),(17,34)] 33 34 ?_;conv=>whnf
 refine And.intro ?_ ?_
 ·refine aNB ?_;conv=>whnf
  exact And.intro rfl (And.intro (aLc (WkR.ptr (fun _=>rfl)) (aLc (WkR.ptr (fun _=>rfl)) (aLc (WkR.mp (fun _=>rfl)) (aLc (jX bV (aM (wkr (lsE (lsC (lsI _ _) lsN))) (aM (wkr (lsE (bD _))) bV))) aLn)))) (aLc ⟨some _,rfl,bRc rfl (cKc wkI (cKc (wkr (lsL fun _=>(aI _))) cKn))⟩ (aLc ⟨some _,rfl,bRc rfl (cKc (WkR.mp (fun _=>rfl)) cKn)⟩ (aLc ⟨some _,rfl,pQ (enc:=eI) rfl (fun _=>(lsI _ _))⟩ aLn))))
 obtain ⟨gfin,hfin,h⟩:=dY (bL h)
 refine aN0 rfl rfl (fun x=>[eI x]) aMQ (fun _=>rfl) (by decide) h81 rfl (F:=eM _ _) hfin ⟨_,_,rfl,rfl⟩ (nle rfl) (aLc (aKI (by decide)) (aLc (aKI (by decide)) (aLc (aQX (by decide)) (aLc (aPl aGe (aEJ (aPw (aEJ (aBT (lsI _ _)) aGe)) (aEJ (aBT (lsE (bD _))) aGe))) aLn)))) (fun s=>[(32,.cells [eI a0.N,(eL 2 kT default) a0.Pairs]),(33,.cells [.mp 34]),(34,abM eI s)]) (fun s=>(aLc rfl (aLc rfl (aLc rfl aLn)))) (fun x s gfin h=>?_) ?_
 ·clear hfin
  rw [qL.eq_1] at h
  refine bY dCo rfl fun K hK=>?_;conv=>whnf
  refine hK _ _ _ ?_
  refine tHn ?_
  refine aJ ?_
  refine aC dCo rfl fun K hK=>?_;conv=>whnf
  refine nlA rfl ?_;conv=>whnf
  refine bKo rfl ?_;conv=>whnf
  refine gKo rfl ?_;conv=>whnf
  refine hK _ _ _ ?_
  refine aJ ?_
  replace h:=bL h
  refine qU (body:=lY _ _) rfl h [1,6,7,17,24] [1,6] [17] (fun kl kh ids b s=>⟨ofL ([(25,eI s.1)]++kl),ofH ([(xW ids 0,abM eI s.2)]++kh),b+64⟩) ?_;(conv=>whnf);refine And.intro ?_ (fun s m h=>cR ?_)
  ·refine bN ?_;conv=>whnf
   exact And.intro rfl (And.intro (aLc wkI (aLc (WkR.ptr (fun _=>rfl)) (aLc (WkR.ptr (fun _=>rfl)) (aLc wkI (aLc (WkR.mp (fun _=>rfl)) (aLc wkI aLn)))))) (aLc ⟨some _,rfl,pQ (enc:=eI) rfl (fun _=>(lsI _ _))⟩ (aLc ⟨some _,rfl,bRc rfl (cKc wkI (cKc (wkr (lsL fun _=>(aI _))) cKn))⟩ (aLc ⟨some _,rfl,bRc rfl (cKc (WkR.mp (fun _=>rfl)) cKn)⟩ aLn))))
  replace h:=bL h;rw [lY.eq_1] at h
  refine aC dCo rfl fun K hK=>?_;conv=>whnf
  refine hK _ _ _ ?_
  refine aF ?_
  refine aW fun K1 K2 hK1 hK2=>?_;conv=>whnf
  refine cLk h (fun _ h=>?_) (fun _ h=>?_)
  ·refine hK1 ?_
   refine aG ?_
   refine tHn ?_
   refine aF ?_
   refine aJ ?_
   refine aC dCo rfl fun K hK=>?_;conv=>whnf
   refine hK _ _ _ ?_
   refine aC dCo rfl fun K hK=>?_;conv=>whnf
   refine bW h fun _ h=>?_;conv=>whnf
   refine hK _ _ _ ?_
   replace h:=lG h
   refine aW fun K1 K2 hK1 hK2=>?_;conv=>whnf
   refine cLk h (fun _ h=>?_) (fun _ h=>?_)
   ·refine hK1 ?_
    refine nQ dCo cG rfl (by kernel_rfl) fun K hK=>?_;conv=>whnf
    refine nlA rfl ?_;conv=>whnf
    refine bKo rfl ?_;conv=>whnf
    refine gKo rfl ?_;conv=>whnf
    refine aGC (enc:=eI) dCo rfl (0:Int) rfl rfl (nle rfl) ?_;conv=>whnf
    refine nlA rfl ?_;conv=>whnf
    refine bKo rfl ?_;conv=>whnf
    refine gKo rfl ?_;conv=>whnf
    refine bW h fun _ h=>?_;conv=>whnf
    refine aGC (enc:=eI) dCo rfl (0:Int) rfl rfl (nle rfl) ?_;conv=>whnf
    refine kZ (enc:=eI) dCo rfl rfl ?_;conv=>whnf
    refine hK _ _ _ ?_
    refine iBn ?_
    refine tHn ?_
    refine bY dCo rfl fun K hK=>?_;conv=>whnf
    refine hK _ _ _ ?_
    refine tHn ?_
    replace h:=bK h
    refine ⟨_,h,?_⟩
    refine bN ?_;conv=>whnf
    exact And.intro rfl (And.intro (aLc wkI (aLc (WkR.ptr (fun _=>rfl)) (aLc (WkR.ptr (fun _=>rfl)) (aLc wkI (aLc (WkR.mp (fun _=>rfl)) (aLc wkI aLn)))))) (aLc ⟨some _,rfl,pQ (enc:=eI) rfl (fun _=>(lsI _ _))⟩ (aLc ⟨some _,rfl,bRc rfl (cKc wkI (cKc (wkr (lsL fun _=>(aI _))) cKn))⟩ (aLc ⟨some _,rfl,bRc rfl (cKc (WkR.mp (fun _=>rfl)) cKn)⟩ aLn))))
   refine hK2 ?_
   refine aG ?_
   refine iBn ?_
   refine tHn ?_
   refine bY dCo rfl fun K hK=>?_;conv=>whnf
   refine hK _ _ _ ?_
   refine tHn ?_
   replace h:=bK h
   refine ⟨_,h,?_⟩
   refine bN ?_;conv=>whnf
   exact And.intro rfl (And.intro (aLc wkI (aLc (WkR.ptr (fun _=>rfl)) (aLc (WkR.ptr (fun _=>rfl)) (aLc wkI (aLc (WkR.mp (fun _=>rfl)) (aLc wkI aLn)))))) (aLc ⟨some _,rfl,pQ (enc:=eI) rfl (fun _=>(lsI _ _))⟩ (aLc ⟨some _,rfl,bRc rfl (cKc wkI (cKc (wkr (lsL fun _=>(aI _))) cKn))⟩ (aLc ⟨some _,rfl,bRc rfl (cKc (WkR.mp (fun _=>rfl)) cKn)⟩ aLn))))
  refine hK2 ?_
  refine bI ?_
  refine aT ?_
  refine aT ?_
  refine aS ?_
  replace h:=cV h
  replace h:=cU h
  refine iBn ?_
  replace h:=aO h
  cases h
  refine ⟨rfl,?_⟩
  refine bN (l:=[]) ?_;conv=>whnf
  exact And.intro rfl (And.intro aLn (aLc ⟨some _,rfl,bRc rfl (cKc wkI (cKc (wkr (lsL fun _=>(aI _))) cKn))⟩ (aLc ⟨some _,rfl,bRc rfl (cKc (WkR.mp (fun _=>rfl)) cKn)⟩ (aLc ⟨some _,rfl,pQ (enc:=eI) rfl (fun _=>(lsI _ _))⟩ aLn))))
 clear hfin
 refine iBn ?_
 refine tHn ?_
 refine qA dCo cG rfl (by kernel_rfl) fun K hK=>?_;conv=>whnf
 refine nlA rfl ?_;conv=>whnf
 refine bKo rfl ?_;conv=>whnf
 refine gKo rfl ?_;conv=>whnf
 refine nlA rfl ?_;conv=>whnf
 refine bKo rfl ?_;conv=>whnf
 refine gKo rfl ?_;conv=>whnf
 refine bW h fun _ h=>?_;conv=>whnf
 refine aGC (enc:=eI) dCo rfl (0:Int) rfl rfl (nle rfl) ?_;conv=>whnf
 refine hK _ _ _ ?_
 refine aP ?_
 replace h:=aO h
 refine aK dCo fun K hK=>?_;conv=>whnf
 refine hK _ ?_
 cases h
 exact Wk.refl _
theorem rD {T:Tbl} (hT:T 20=aH mX) {args:List AV} {hp:bH} {id:Nat} {k:AV→Prop} {a0:aE} {Φ:Int×Int→Prop} (h:W (fL a0) Φ) (hw:WkL args [bF a0]) (hk:∀ y,Φ y→k (.tup [eI y.1,eI y.2])):cH T 20 args hp id k:=by
 obtain ⟨y,e,hy⟩:=dY h
 exact aV hT ⟨a0,rfl,lR e rfl⟩ (by exact eJ (lsC (lsI _ _) (lsC (lsI _ _) lsN))) hw (hk y hy)
  def wF (a0:Int) (c1:aE) (c2:Ar 8) (f9002:Int→aE→(Ar 8)→(Ar 8)→Int→Option (Bool×(Ar 8)×Int)) (s1:Int×Int×(Ar 8)):Option (Ct (Int×Int×(Ar 8)) (Bool×(Ar 8)×Int)):=cn (decide (s1.1<c1.N)) (jn (fun p2:(Ar 8)×Int=>
  some (.nx ((wr (s1.1+1)),p2.2,p2.1))) fun k3=>jn (fun p4:Bool=>cn p4 (k3 (s1.2.2,s1.2.1)) (gd (0≤s1.1) (jn (fun p6:Bool×(Ar 8)×Int=>
  cn p6.1 (gd (0≤s1.1∧s1.1<(8:Int)) (let m9:=p6.2.1.st1 s1.1 (wr (a0+1));some (.rt (true,m9,p6.2.2)))) (k3 (p6.2.1,p6.2.2))) fun k7=>
  gd (0≤s1.1∧s1.1<(8:Int)) (cn ((s1.2.2.at1 s1.1) ==
  0) (k7 (true,s1.2.2,(bor .i64 s1.2.1 (aDv .i64 1 s1.1)))) (gd (0≤s1.1∧s1.1<(8:Int)) (bd (f9002 (wr ((s1.2.2.at1 s1.1)-1)) c1 c2 s1.2.2 (bor .i64 s1.2.1 (aDv .i64 1 s1.1))) fun y8=>
  k7 (y8.1,y8.2.1,y8.2.2))))))) fun k5=>gd (0≤s1.1∧s1.1<(8:Int)) (gd (0≤a0) (cn ((aAo .i64 (wW .i64 (c2.at1 s1.1) a0) 1) ==
  0) (k5 true) (gd (0≤s1.1) (k5 ((aAo .i64 (wW .i64 s1.2.1 s1.1) 1)==1)))))) (some (.bk (s1.1,s1.2.1,s1.2.2)))
  def yR (f9002:Int→aE→(Ar 8)→(Ar 8)→Int→Option (Bool×(Ar 8)×Int)) (a0:Int) (c1:aE) (c2:Ar 8) (m0:Ar 8) (x1:Int):Option (Bool×(Ar 8)×Int):=bd (lp (wF a0 c1 c2 f9002) FU (0,x1,m0)) fun c10=>
  smK c10 (fun s11=>some (false,s11.2.2,s11.2.1)) (fun r12=>some r12)
def uM:Nat→Int→aE→(Ar 8)→(Ar 8)→Int→Option (Bool×(Ar 8)×Int)
 | 0=>fun _ _ _ _ _=>none
 | k+1=>yR (uM k)
def rW (k:Nat):List AV→List BD→AV→List BD→Prop:=fun args bs r bs'=>∃ a0 c1 c2 m0 x1 y,args=[eI a0,.ep [eI c1.N,(eL 2 kT default) c1.Pairs] 0,.ep (cA c2) 0,.ptr 1 0,.ptr 0 0,.ptr 2 0]∧bs=[.ab (.cells (cA m0)),.ab (.cells ([eI x1])),.fn 65 [.v (.ep [eI c1.N,(eL 2 kT default) c1.Pairs] 0),.v (.ep (cA c2) 0),.p 1,.p 0,.p 2]]∧uM k a0 c1 c2 m0 x1=some y∧r=eB y.1∧bs'=[.ab (.cells (cA y.2.1)),.ab (.cells ([eI y.2.2])),.fn 65 [.v (.ep [eI c1.N,(eL 2 kT default) c1.Pairs] 0),.v (.ep (cA c2) 0),.p 1,.p 0,.p 2]]
theorem aIP (k:Nat) {T:Tbl} (hT:TOk Tryd.prog T) (hpf:cP T PF) (h65:T 65=wS (rW k)):FOk Tryd.prog 65 (wS (rW (k+1))):=by
 refine yO hT hpf Tryd.func65 rfl Tryd.ntmps65 Tryd.results65 (by decide) ?_
 rintro args bs r bs' ⟨a0,c1,c2,m0,x1,y,rfl,rfl,hF,rfl,rfl⟩
 refine ⟨nle rfl,Nat.le_refl _,(lsB _),⟨(bD _),⟨(aKc _),⟨⟨(lsE (lsC (lsI _ _) (lsC (lsL fun _=>(aI _)) lsN))),⟨(lsE (bD _)),⟨nle rfl,⟨nle rfl,⟨nle rfl,trivial⟩⟩⟩⟩⟩,trivial⟩⟩⟩,⟨(bD _),⟨(aKc _),⟨⟨(lsE (lsC (lsI _ _) (lsC (lsL fun _=>(aI _)) lsN))),⟨(lsE (bD _)),⟨nle rfl,⟨nle rfl,⟨nle rfl,trivial⟩⟩⟩⟩⟩,trivial⟩⟩⟩,?_⟩
 have h:W (yR (uM k) a0 c1 c2 m0 x1) (fun z=>z=y):=lR hF rfl
 rw [yR.eq_1] at h
 refine aC dCo rfl fun K hK=>?_;conv=>whnf
 refine hK _ _ _ ?_
 refine aF ?_
 refine aC dCo rfl fun K hK=>?_;conv=>whnf
 refine gKo rfl ?_;conv=>whnf
 refine hK _ _ _ ?_
 refine aJ ?_
 replace h:=bL h
 refine aHa (body:=wF _ _ _ _) rfl h [0,2,3,4,5,10] (fun σ=>aGy σ [2]++uE σ []++yN σ []) (fun σ=>yN σ []++uE σ []++aGy σ []) [] (fun kl kh kr ids b s=>⟨ofL ([(11,eI s.1)]++kl),ofH (([(1,.cells ([eI s.2.1]))]++kh)++([(0,.cells (cA s.2.2))]++kr)),b+128⟩) ?_;(conv=>whnf);refine And.intro ?_ (fun s m h=>cR ?_)
 ·refine aR ?_;conv=>whnf
  exact And.intro rfl (And.intro (aLc wkI (aLc wkI (aLc (wkr (lsE (bD _))) (aLc (WkR.ptr (fun _=>rfl)) (aLc (WkR.ptr (fun _=>rfl)) (aLc (WkR.ptr (fun _=>rfl)) (aLc wkI aLn))))))) (aLc ⟨some _,rfl,bRc rfl (cKc wkI cKn)⟩ (aLc ⟨some _,rfl,bRc rfl (cKc (jX bV (aM (wkr (lsE (lsC (lsI _ _) (lsC (lsL fun _=>(aI _)) lsN)))) (aM (wkr (lsE (bD _))) (aM (WkR.ptr (fun _=>rfl)) (aM (WkR.ptr (fun _=>rfl)) (aM (WkR.ptr (fun _=>rfl)) bV)))))) cKn)⟩ (aLc ⟨some _,rfl,bO rfl rfl⟩ aLn))))
 replace h:=bL h;rw [wF.eq_1] at h
 refine aC dCo rfl fun K hK=>?_;conv=>whnf
 refine hK _ _ _ ?_
 refine aF ?_
 refine aW fun K1 K2 hK1 hK2=>?_;conv=>whnf
 refine cLk h (fun _ h=>?_) (fun _ h=>?_)
 ·refine hK1 ?_
  refine aG ?_
  refine tHn ?_
  refine aF ?_
  replace h:=lG h
  refine aJ ?_
  refine aC dCo rfl fun K hK=>?_;conv=>whnf
  refine hK _ _ _ ?_
  refine aF ?_
  refine aC dCo rfl fun K hK=>?_;conv=>whnf
  replace h:=lG h
  refine bW h fun hx112 h=>?_;conv=>whnf
  refine iM rfl hx112 ?_;conv=>whnf
  refine bW h fun _ h=>?_;conv=>whnf
  refine cLk h (fun _ h=>?_) (fun _ h=>?_)<;>(conv=>whnf)
  ·refine hK _ _ _ ?_
   refine aW fun K1 K2 hK1 hK2=>?_;conv=>whnf
   refine hK1 ?_
   replace h:=rM h
   refine bI ?_
   refine aT ?_
   refine aS ?_
   refine tHn ?_
   refine bY dCo rfl fun K hK=>?_;conv=>whnf
   refine hK _ _ _ ?_
   refine tHn ?_
   replace h:=bK h
   refine ⟨_,h,?_⟩
   refine aR ?_;conv=>whnf
   exact And.intro rfl (And.intro (aLc wkI (aLc wkI (aLc (wkr (lsE (bD _))) (aLc (WkR.ptr (fun _=>rfl)) (aLc (WkR.ptr (fun _=>rfl)) (aLc (WkR.ptr (fun _=>rfl)) (aLc wkI aLn))))))) (aLc ⟨some _,rfl,bRc rfl (cKc wkI cKn)⟩ (aLc ⟨some _,rfl,bRc rfl (cKc (jX bV (aM (wkr (lsE (lsC (lsI _ _) (lsC (lsL fun _=>(aI _)) lsN)))) (aM (wkr (lsE (bD _))) (aM (WkR.ptr (fun _=>rfl)) (aM (WkR.ptr (fun _=>rfl)) (aM (WkR.ptr (fun _=>rfl)) bV)))))) cKn)⟩ (aLc ⟨some _,rfl,bO rfl rfl⟩ aLn))))
  refine nlA rfl ?_;conv=>whnf
  refine bKo rfl ?_;conv=>whnf
  refine gKo rfl ?_;conv=>whnf
  refine bW h fun _ h=>?_;conv=>whnf
  refine hK _ _ _ ?_
  refine aW fun K1 K2 hK1 hK2=>?_;conv=>whnf
  refine cLk h (fun _ h=>?_) (fun _ h=>?_)
  ·refine hK1 ?_
   refine bI ?_
   refine aT ?_
   refine aS ?_
   refine tHn ?_
   refine bY dCo rfl fun K hK=>?_;conv=>whnf
   refine hK _ _ _ ?_
   refine tHn ?_
   replace h:=bK h
   refine ⟨_,h,?_⟩
   refine aR ?_;conv=>whnf
   exact And.intro rfl (And.intro (aLc wkI (aLc wkI (aLc (wkr (lsE (bD _))) (aLc (WkR.ptr (fun _=>rfl)) (aLc (WkR.ptr (fun _=>rfl)) (aLc (WkR.ptr (fun _=>rfl)) (aLc wkI aLn))))))) (aLc ⟨some _,rfl,bRc rfl (cKc wkI cKn)⟩ (aLc ⟨some _,rfl,bRc rfl (cKc (jX bV (aM (wkr (lsE (lsC (lsI _ _) (lsC (lsL fun _=>(aI _)) lsN)))) (aM (wkr (lsE (bD _))) (aM (WkR.ptr (fun _=>rfl)) (aM (WkR.ptr (fun _=>rfl)) (aM (WkR.ptr (fun _=>rfl)) bV)))))) cKn)⟩ (aLc ⟨some _,rfl,bO rfl rfl⟩ aLn))))
  refine hK2 ?_
  refine aG ?_
  refine tHn ?_
  refine qA dCo cG rfl (by kernel_rfl) fun K hK=>?_;conv=>whnf
  refine nlA rfl ?_;conv=>whnf
  refine bKo rfl ?_;conv=>whnf
  refine gKo rfl ?_;conv=>whnf
  refine bW h fun _ h=>?_;conv=>whnf
  refine bKo rfl ?_;conv=>whnf
  refine And.intro rfl (And.intro (nle rfl) (And.intro rfl ?_));conv=>whnf
  refine hK _ _ _ ?_
  refine qA dCo cG rfl (by kernel_rfl) fun K hK=>?_;conv=>whnf
  replace h:=lG h
  refine bW h fun hx117 h=>?_;conv=>whnf
  refine nlA rfl ?_;conv=>whnf
  refine bKo rfl ?_;conv=>whnf
  refine iM rfl hx117 ?_;conv=>whnf
  refine cLk h (fun _ h=>?_) (fun _ h=>?_)<;>(conv=>whnf)
  ·refine hK _ _ _ ?_
   refine aW fun K1 K2 hK1 hK2=>?_;conv=>whnf
   refine hK1 ?_
   replace h:=rM h
   refine aC dCo rfl fun K hK=>?_;conv=>whnf
   refine bW h fun hx119 h=>?_;conv=>whnf
   refine bKo rfl ?_;conv=>whnf
   refine aCL rfl hx119 rfl rfl ?_;conv=>whnf
   refine hK _ _ _ ?_
   refine aC dCo rfl fun K hK=>?_;conv=>whnf
   refine hK _ _ _ ?_
   refine aP ?_
   refine aU ?_
   refine aQ ?_
   refine aQ ?_
   refine aU ?_
   refine aQ ?_
   replace h:=jO h
   replace h:=jN h
   replace h:=aO h
   refine oL dCo fun K hK=>?_;conv=>whnf
   refine hK _ ?_
   cases h
   exact ⟨Wk.refl _,⟨_,rfl,bkW _⟩,⟨_,rfl,bkW _⟩,rfl,trivial⟩
  refine nlA rfl ?_;conv=>whnf
  refine bKo rfl ?_;conv=>whnf
  refine gKo rfl ?_;conv=>whnf
  refine bW h fun hx120 h=>?_;conv=>whnf
  refine nlA rfl ?_;conv=>whnf
  refine bKo rfl ?_;conv=>whnf
  refine iM rfl hx120 ?_;conv=>whnf
  refine fQ (bs:=[.ab _,.ab _,.fn 65 [.v _,.v _,.p 1,.p 0,.p 2]]) (args0:=[_,_,_,.ptr 1 0,.ptr 0 0,.ptr 2 0]) h65 [_,_,_] h (.cons (yD (Wk.refl _) (lsI _ _)) (.cons (cM (lsE (lsC (lsI _ _) (lsC (lsL fun _=>(aI _)) lsN)))) (.cons (cM (lsE (bD _))) (.cons (jJ rfl) (.cons (jJ rfl) (.cons (jJ rfl) .nil)))))) ⟨⟨_,rfl,bkW _⟩,⟨_,rfl,bkW _⟩,rfl,trivial⟩ rfl (nle rfl) (fun y e=>(⟨_,_,_,_,_,_,rfl,rfl,e,rfl,rfl⟩:rW _ _ _ _ _)) (fun _ h=>?_);conv=>whnf
  refine hK _ _ _ ?_
  refine aW fun K1 K2 hK1 hK2=>?_;conv=>whnf
  refine cLk h (fun _ h=>?_) (fun _ h=>?_)
  ·refine hK1 ?_
   refine aC dCo rfl fun K hK=>?_;conv=>whnf
   refine bW h fun hx122 h=>?_;conv=>whnf
   refine bKo rfl ?_;conv=>whnf
   refine aCL rfl hx122 rfl rfl ?_;conv=>whnf
   refine hK _ _ _ ?_
   refine aC dCo rfl fun K hK=>?_;conv=>whnf
   refine hK _ _ _ ?_
   refine aP ?_
   refine aU ?_
   refine aQ ?_
   refine aQ ?_
   refine aU ?_
   refine aQ ?_
   replace h:=jO h
   replace h:=jN h
   replace h:=aO h
   refine oL dCo fun K hK=>?_;conv=>whnf
   refine hK _ ?_
   cases h
   exact ⟨Wk.refl _,⟨_,rfl,bkW _⟩,⟨_,rfl,bkW _⟩,rfl,trivial⟩
  refine hK2 ?_
  refine aG ?_
  refine iBn ?_
  refine tHn ?_
  refine bY dCo rfl fun K hK=>?_;conv=>whnf
  refine hK _ _ _ ?_
  refine tHn ?_
  replace h:=bK h
  refine ⟨_,h,?_⟩
  refine aR ?_;conv=>whnf
  exact And.intro rfl (And.intro (aLc wkI (aLc wkI (aLc (wkr (lsE (bD _))) (aLc (WkR.ptr (fun _=>rfl)) (aLc (WkR.ptr (fun _=>rfl)) (aLc (WkR.ptr (fun _=>rfl)) (aLc wkI aLn))))))) (aLc ⟨some _,rfl,bRc rfl (cKc wkI cKn)⟩ (aLc ⟨some _,rfl,bRc rfl (cKc (jX bV (aM (wkr (lsE (lsC (lsI _ _) (lsC (lsL fun _=>(aI _)) lsN)))) (aM (wkr (lsE (bD _))) (aM (WkR.ptr (fun _=>rfl)) (aM (WkR.ptr (fun _=>rfl)) (aM (WkR.ptr (fun _=>rfl)) bV)))))) cKn)⟩ (aLc ⟨some _,rfl,bO rfl rfl⟩ aLn))))
 refine hK2 ?_
 refine bI ?_
 refine aT ?_
 refine aT ?_
 refine aS ?_
 replace h:=cV h
 replace h:=cU h
 refine tHn ?_
 refine aC dCo rfl fun K hK=>?_;conv=>whnf
 refine hK _ _ _ ?_
 refine aP ?_
 replace h:=aO h
 refine oL dCo fun K hK=>?_;conv=>whnf
 refine hK _ ?_
 cases h
 exact ⟨Wk.refl _,⟨_,rfl,bkW _⟩,⟨_,rfl,bkW _⟩,rfl,trivial⟩
theorem aJP {T:Tbl} (hT:TOk Tryd.prog T) (hpf:cP T PF):FOk Tryd.prog 65 (wS (rW 10)):=
 aAU (S:=rW) hT hpf (by decide) Tryd.func65 rfl (by decide) (by rintro a b c d ⟨a0,c1,c2,m0,x1,y,-,-,h,-⟩;cases h) (fun k T' hT' hpf' hne h=>aIP k hT' hpf' h) 10
  def aAe (a0:Int) (c1:aE) (c2:Ar 8) (f9002:Int→aE→(Ar 8)→(GM (List Int))→Option ((List Int)×(GM (List Int)))) (s1:(List Int)×Int×(GM (List Int))):Option (Ct ((List Int)×Int×(GM (List Int))) ((List Int)×(GM (List Int)))):=cn (decide (s1.2.1<c1.N)) (jn (fun p2:Bool×(GM (List Int))=>
  jn (fun p5:(List Int)×(GM (List Int))=>some (.nx (p5.1,(wr (s1.2.1+1)),p5.2))) fun k6=>cn p2.1 (bd (f9002 s1.2.1 c1 c2 p2.2) fun y7=>
  k6 (y7.1,y7.2)) (k6 (s1.1,p2.2))) fun k3=>gd (0≤s1.2.1∧s1.2.1<(8:Int)) (gd (0≤a0) (cn ((aAo .i64 (wW .i64 (c2.at1 s1.2.1) a0) 1) ==
  1) (bd (f9002 s1.2.1 c1 c2 s1.2.2) fun y4=>k3 ((decide ((y4.1.length:Int)>(s1.1.length:Int))),y4.2)) (k3 (false,s1.2.2))))) (some (.bk (s1.1,s1.2.1,s1.2.2)))
  def aFt (f9002:Int→aE→(Ar 8)→(GM (List Int))→Option ((List Int)×(GM (List Int)))) (a0:Int) (c1:aE) (c2:Ar 8) (m0:GM (List Int)):Option ((List Int)×(GM (List Int))):=cn (m0.has a0) (some ((m0.get a0 []),m0)) (bd (lp (aAe a0 c1 c2 f9002) FU ([],0,m0)) fun c8=>
  smK c8 (fun s9=>lt ([a0]:List Int) fun l11=>ap l11 s9.1 fun l12=>let m13:=s9.2.2.put a0 l12;some ((m13.get a0 []),m13)) (fun r10=>some r10))
def aAv:Nat→Int→aE→(Ar 8)→(GM (List Int))→Option ((List Int)×(GM (List Int)))
 | 0=>fun _ _ _ _=>none
 | k+1=>aFt (aAv k)
def vQ (k:Nat):List AV→List BD→AV→List BD→Prop:=fun args bs r bs'=>∃ a0 c1 c2 m0 y,args=[eI a0,.ep [.mp 0] 0,.ep [eI c1.N,(eL 2 kT default) c1.Pairs] 0,.ep (cA c2) 0,.ptr 1 0]∧bs=[.ab (abM (eL 1 eI default) m0),.fn 59 [.m 0,.v (.ep [eI c1.N,(eL 2 kT default) c1.Pairs] 0),.v (.ep (cA c2) 0),.p 1]]∧aAv k a0 c1 c2 m0=some y∧r=(eL 1 eI default) y.1∧bs'=[.ab (abM (eL 1 eI default) y.2),.fn 59 [.m 0,.v (.ep [eI c1.N,(eL 2 kT default) c1.Pairs] 0),.v (.ep (cA c2) 0),.p 1]]
theorem aNF (k:Nat) {T:Tbl} (hT:TOk Tryd.prog T) (hpf:cP T PF) (h59:T 59=wS (vQ k)):FOk Tryd.prog 59 (wS (vQ (k+1))):=by
 refine yO hT hpf Tryd.func59 rfl Tryd.ntmps59 Tryd.results59 (by decide) ?_
 rintro args bs r bs' ⟨a0,c1,c2,m0,y,rfl,rfl,hF,rfl,rfl⟩
 refine ⟨nle rfl,Nat.le_refl _,(lsL fun _=>(lsI _ _)),⟨(aQE (fun _=>(lsL fun _=>(lsI _ _))) _),⟨⟨nle rfl,⟨(lsE (lsC (lsI _ _) (lsC (lsL fun _=>(aI _)) lsN))),⟨(lsE (bD _)),⟨nle rfl,trivial⟩⟩⟩⟩,trivial⟩⟩,⟨(aQE (fun _=>(lsL fun _=>(lsI _ _))) _),⟨⟨nle rfl,⟨(lsE (lsC (lsI _ _) (lsC (lsL fun _=>(aI _)) lsN))),⟨(lsE (bD _)),⟨nle rfl,trivial⟩⟩⟩⟩,trivial⟩⟩,?_⟩
 have h:W (aFt (aAv k) a0 c1 c2 m0) (fun z=>z=y):=lR hF rfl
 rw [aFt.eq_1] at h
 refine aC dCo rfl fun K hK=>?_;conv=>whnf
 refine hK _ _ _ ?_
 refine aF ?_
 refine aC dCo rfl fun K hK=>?_;conv=>whnf
 refine gKo rfl ?_;conv=>whnf
 refine aJN (enc:=(eL 1 eI default)) dCo rfl [] iO rfl (nle rfl) ?_;conv=>whnf
 refine hK _ _ _ ?_
 refine aC dCo rfl fun K hK=>?_;conv=>whnf
 refine hK _ _ _ ?_
 refine aW fun K1 K2 hK1 hK2=>?_;conv=>whnf
 refine cLk h (fun _ h=>?_) (fun _ h=>?_)
 ·refine hK1 ?_
  refine aC dCo rfl fun K hK=>?_;conv=>whnf
  refine hK _ _ _ ?_
  refine aP ?_
  refine aQ ?_
  replace h:=aO h
  refine oL dCo fun K hK=>?_;conv=>whnf
  refine hK _ ?_
  cases h
  exact ⟨Wk.refl _,⟨_,rfl,bkW _⟩,rfl,trivial⟩
 refine hK2 ?_
 refine aG ?_
 refine tHn ?_
 refine aC dCo rfl fun K hK=>?_;conv=>whnf
 refine hK _ _ _ ?_
 refine aF ?_
 refine aC dCo rfl fun K hK=>?_;conv=>whnf
 refine gKo rfl ?_;conv=>whnf
 refine hK _ _ _ ?_
 refine aJ ?_
 replace h:=bL h
 refine aMx (body:=aAe _ _ _ _) rfl h [0,1,3,4,20] (fun σ=>aGy σ [1]++uE σ []++yN σ []) [] (fun kl kh ids b s=>⟨ofL ([(9,(eL 1 eI default) s.1),(21,eI s.2.1)]++kl),ofH ([(0,abM (eL 1 eI default) s.2.2)]++kh),b+64⟩) ?_;(conv=>whnf);refine And.intro ?_ (fun s m h=>cR ?_)
 ·refine bN ?_;conv=>whnf
  exact And.intro rfl (And.intro (aLc (WkR.wk iO (lsL fun _=>(lsI _ _))) (aLc wkI (aLc wkI (aLc (vO (aM (WkR.mp (fun _=>rfl)) bV)) (aLc (wkr (lsE (bD _))) (aLc (WkR.ptr (fun _=>rfl)) (aLc wkI aLn))))))) (aLc ⟨some _,rfl,pQ (enc:=(eL 1 eI default)) rfl (fun _=>(lsL fun _=>(lsI _ _)))⟩ (aLc ⟨some _,rfl,bRc rfl (cKc (jX bV (aM (vO (aM (WkR.mp (fun _=>rfl)) bV)) (aM (wkr (lsE (lsC (lsI _ _) (lsC (lsL fun _=>(aI _)) lsN)))) (aM (wkr (lsE (bD _))) (aM (WkR.ptr (fun _=>rfl)) bV))))) cKn)⟩ aLn)))
 replace h:=bL h;rw [aAe.eq_1] at h
 refine aC dCo rfl fun K hK=>?_;conv=>whnf
 refine hK _ _ _ ?_
 refine aF ?_
 refine aW fun K1 K2 hK1 hK2=>?_;conv=>whnf
 refine cLk h (fun _ h=>?_) (fun _ h=>?_)
 ·refine hK1 ?_
  refine aG ?_
  refine tHn ?_
  refine aF ?_
  refine aJ ?_
  refine aC dCo rfl fun K hK=>?_;conv=>whnf
  refine hK _ _ _ ?_
  refine aC dCo rfl fun K hK=>?_;conv=>whnf
  replace h:=lG h
  refine bW h fun hx49 h=>?_;conv=>whnf
  refine iM rfl hx49 ?_;conv=>whnf
  refine bW h fun _ h=>?_;conv=>whnf
  refine cLk h (fun _ h=>?_) (fun _ h=>?_)<;>(conv=>whnf)
  ·refine nlA rfl ?_;conv=>whnf
   refine bKo rfl ?_;conv=>whnf
   refine gKo rfl ?_;conv=>whnf
   refine fQ (bs:=[.ab (abM (eL 1 eI default) _),.fn 59 [.m 0,.v _,.v _,.p 1]]) (args0:=[_,.ep [.mp 0] 0,_,_,.ptr 1 0]) h59 [_,_] h (.cons (yD (Wk.refl _) (lsI _ _)) (.cons (aFR (wI (aFS rfl) xD)) (.cons (cM (lsE (lsC (lsI _ _) (lsC (lsL fun _=>(aI _)) lsN)))) (.cons (cM (lsE (bD _))) (.cons (jJ rfl) .nil))))) ⟨⟨_,rfl,bkW _⟩,rfl,trivial⟩ rfl (nle rfl) (fun y e=>(⟨_,_,_,_,_,rfl,rfl,e,rfl,rfl⟩:vQ _ _ _ _ _)) (fun _ h=>?_);conv=>whnf
   refine hK _ _ _ ?_
   replace h:=lG h
   refine aW fun K1 K2 hK1 hK2=>?_;conv=>whnf
   refine cLk h (fun _ h=>?_) (fun _ h=>?_)
   ·refine hK1 ?_
    refine bY dCo rfl fun K hK=>?_;conv=>whnf
    refine nlA rfl ?_;conv=>whnf
    refine bKo rfl ?_;conv=>whnf
    refine gKo rfl ?_;conv=>whnf
    refine fQ (bs:=[.ab (abM (eL 1 eI default) _),.fn 59 [.m 0,.v _,.v _,.p 1]]) (args0:=[_,.ep [.mp 0] 0,_,_,.ptr 1 0]) h59 [_,_] h (.cons (yD (Wk.refl _) (lsI _ _)) (.cons (aFR (wI (aFS rfl) xD)) (.cons (cM (lsE (lsC (lsI _ _) (lsC (lsL fun _=>(aI _)) lsN)))) (.cons (cM (lsE (bD _))) (.cons (jJ rfl) .nil))))) ⟨⟨_,rfl,bkW _⟩,rfl,trivial⟩ rfl (nle rfl) (fun y e=>(⟨_,_,_,_,_,rfl,rfl,e,rfl,rfl⟩:vQ _ _ _ _ _)) (fun _ h=>?_);conv=>whnf
    refine hK _ _ _ ?_
    refine iBn ?_
    refine tHn ?_
    refine bY dCo rfl fun K hK=>?_;conv=>whnf
    refine hK _ _ _ ?_
    refine tHn ?_
    replace h:=bK h
    refine ⟨_,h,?_⟩
    refine bN ?_;conv=>whnf
    exact And.intro rfl (And.intro (aLc (wkr (lsL fun _=>(lsI _ _))) (aLc wkI (aLc wkI (aLc (vO (aM (WkR.mp (fun _=>rfl)) bV)) (aLc (wkr (lsE (bD _))) (aLc (WkR.ptr (fun _=>rfl)) (aLc wkI aLn))))))) (aLc ⟨some _,rfl,pQ (enc:=(eL 1 eI default)) rfl (fun _=>(lsL fun _=>(lsI _ _)))⟩ (aLc ⟨some _,rfl,bRc rfl (cKc (jX bV (aM (vO (aM (WkR.mp (fun _=>rfl)) bV)) (aM (wkr (lsE (lsC (lsI _ _) (lsC (lsL fun _=>(aI _)) lsN)))) (aM (wkr (lsE (bD _))) (aM (WkR.ptr (fun _=>rfl)) bV))))) cKn)⟩ aLn)))
   refine hK2 ?_
   refine aG ?_
   refine iBn ?_
   refine tHn ?_
   refine bY dCo rfl fun K hK=>?_;conv=>whnf
   refine hK _ _ _ ?_
   refine tHn ?_
   replace h:=bK h
   refine ⟨_,h,?_⟩
   refine bN ?_;conv=>whnf
   exact And.intro rfl (And.intro (aLc (wkr (lsL fun _=>(lsI _ _))) (aLc wkI (aLc wkI (aLc (vO (aM (WkR.mp (fun _=>rfl)) bV)) (aLc (wkr (lsE (bD _))) (aLc (WkR.ptr (fun _=>rfl)) (aLc wkI aLn))))))) (aLc ⟨some _,rfl,pQ (enc:=(eL 1 eI default)) rfl (fun _=>(lsL fun _=>(lsI _ _)))⟩ (aLc ⟨some _,rfl,bRc rfl (cKc (jX bV (aM (vO (aM (WkR.mp (fun _=>rfl)) bV)) (aM (wkr (lsE (lsC (lsI _ _) (lsC (lsL fun _=>(aI _)) lsN)))) (aM (wkr (lsE (bD _))) (aM (WkR.ptr (fun _=>rfl)) bV))))) cKn)⟩ aLn)))
  refine hK _ _ _ ?_
  replace h:=lG h
  refine aW fun K1 K2 hK1 hK2=>?_;conv=>whnf
  refine hK2 ?_
  replace h:=rS h
  refine aG ?_
  refine iBn ?_
  refine tHn ?_
  refine bY dCo rfl fun K hK=>?_;conv=>whnf
  refine hK _ _ _ ?_
  refine tHn ?_
  replace h:=bK h
  refine ⟨_,h,?_⟩
  refine bN ?_;conv=>whnf
  exact And.intro rfl (And.intro (aLc (wkr (lsL fun _=>(lsI _ _))) (aLc wkI (aLc wkI (aLc (vO (aM (WkR.mp (fun _=>rfl)) bV)) (aLc (wkr (lsE (bD _))) (aLc (WkR.ptr (fun _=>rfl)) (aLc wkI aLn))))))) (aLc ⟨some _,rfl,pQ (enc:=(eL 1 eI default)) rfl (fun _=>(lsL fun _=>(lsI _ _)))⟩ (aLc ⟨some _,rfl,bRc rfl (cKc (jX bV (aM (vO (aM (WkR.mp (fun _=>rfl)) bV)) (aM (wkr (lsE (lsC (lsI _ _) (lsC (lsL fun _=>(aI _)) lsN)))) (aM (wkr (lsE (bD _))) (aM (WkR.ptr (fun _=>rfl)) bV))))) cKn)⟩ aLn)))
 refine hK2 ?_
 refine bI ?_
 refine aT ?_
 refine aT ?_
 refine aS ?_
 replace h:=cV h
 replace h:=cU h
 refine tHn ?_
 refine qA dCo cG rfl (by kernel_rfl) fun K hK=>?_;conv=>whnf
 refine gKo rfl ?_;conv=>whnf
 refine dL (enc:=eI) (d:=default) dCo h rfl rfl rfl ⟨nle rfl,nle rfl,rfl⟩ rfl ⟨⟨rfl,rfl,rfl⟩,trivial⟩ (fun h=>?_);conv=>whnf
 refine aNM (enc:=eI) (d:=default) dCo h rfl rfl rfl ⟨rfl,nle rfl,nle rfl,nle rfl,rfl⟩ (fun _=>rfl) (fun h=>?_);conv=>whnf
 refine kZ (enc:=(eL 1 eI default)) dCo rfl rfl ?_;conv=>whnf
 refine hK _ _ _ ?_
 refine aC dCo rfl fun K hK=>?_;conv=>whnf
 refine gKo rfl ?_;conv=>whnf
 refine aLb (enc:=(eL 1 eI default)) dCo rfl [] iO rfl (nle rfl) ?_;conv=>whnf
 refine hK _ _ _ ?_
 refine aP ?_
 replace h:=aO h
 refine oL dCo fun K hK=>?_;conv=>whnf
 refine hK _ ?_
 cases h
 exact ⟨Wk.refl _,⟨_,rfl,bkW _⟩,rfl,trivial⟩
theorem aN8 {T:Tbl} (hT:TOk Tryd.prog T) (hpf:cP T PF):FOk Tryd.prog 59 (wS (vQ 10)):=
 aAU (S:=vQ) hT hpf (by decide) Tryd.func59 rfl (by decide) (by rintro a b c d ⟨a0,c1,c2,m0,y,-,-,h,-⟩;cases h) (fun k T' hT' hpf' hne h=>aNF k hT' hpf' h) 10
  def mC (a0:aE) (y1:(Ar 8)×Bool) (s2:(List Int)×Int×(GM (List Int))):Option (Ct ((List Int)×Int×(GM (List Int))) ((List Int)×Int)):=cn (decide (s2.2.1<a0.N)) (bd (aAv 10 s2.2.1 a0 y1.1 s2.2.2) fun y3=>
  jn (fun p4:(List Int)×(GM (List Int))=>some (.nx (p4.1,(wr (s2.2.1+1)),p4.2))) fun k5=>cn (decide ((y3.1.length:Int) >
  (s2.1.length:Int))) (bd (aAv 10 s2.2.1 a0 y1.1 y3.2) fun y6=>k5 (y6.1,y6.2)) (k5 (s2.1,y3.2))) (some (.bk (s2.1,s2.2.1,s2.2.2)))
def fX (a0:aE):Option ((List Int)×Int):=bd (bS a0) fun y1=>
  cn (!y1.2) (some ([],70)) (bd (lp (mC a0 y1) FU ([],0,(GM.mt (List Int)))) fun c7=>smK c7 (fun s8=>gd (s8.1.length≤1048576) (lt s8.1 fun m10=>
  some (m10,0))) (fun r9=>some r9))
def nL:List AV→AV→Prop:=fun args r=>∃ a0,args=[bF a0]∧W (fX a0) fun y=>r=(.tup [(eL 1 eI default) y.1,eI y.2])
theorem aCr {T:Tbl} (hT:TOk Tryd.prog T) (hpf:cP T PF) (h54:T 54=aH dJ) (h59:T 59=wS (vQ 10)) (h60:T 60=aCF 1 eI default):FOk Tryd.prog 29 (aH nL):=by
 refine bM hT hpf Tryd.func29 rfl Tryd.ntmps29 Tryd.results29 (by decide) ?_
 rintro args r ⟨a0,rfl,h⟩
 refine ⟨nle rfl,?_,?_⟩
 ·exact (lsC (bT _) lsN)
 rw [fX.eq_1] at h
 refine aC dCo rfl fun K hK=>?_;conv=>whnf
 refine hK _ _ _ ?_
 refine aC dCo rfl fun K hK=>?_;conv=>whnf
 refine nlA rfl ?_;conv=>whnf
 refine bKo rfl ?_;conv=>whnf
 refine nlA rfl ?_;conv=>whnf
 replace h:=bL h
 refine dH h54 h (WkL.refl _) (fun _ h=>?_);conv=>whnf
 refine aL ?_;conv=>whnf
 refine aL ?_;conv=>whnf
 refine aL ?_;conv=>whnf
 refine bKo rfl ?_;conv=>whnf
 refine vY rfl rfl rfl ?_;conv=>whnf
 refine hK _ _ _ ?_
 refine aF ?_
 refine aC dCo rfl fun K hK=>?_;conv=>whnf
 refine hK _ _ _ ?_
 refine aW fun K1 K2 hK1 hK2=>?_;conv=>whnf
 refine cLk h (fun _ h=>?_) (fun _ h=>?_)
 ·refine hK1 ?_
  refine aC dCo rfl fun K hK=>?_;conv=>whnf
  refine hK _ _ _ ?_
  refine aP ?_
  refine aQ ?_
  replace h:=aO h
  refine aK dCo fun K hK=>?_;conv=>whnf
  refine hK _ ?_
  cases h
  exact mL (aD iO (aD (Wk.refl _) bE))
 refine hK2 ?_
 refine aG ?_
 refine tHn ?_
 refine aC dCo rfl fun K hK=>?_;conv=>whnf
 refine bKo rfl ?_;conv=>whnf
 refine And.intro rfl (And.intro (nle rfl) (And.intro rfl ?_));conv=>whnf
 refine hK _ _ _ ?_
 refine aC dCo rfl fun K hK=>?_;conv=>whnf
 refine hK _ _ _ ?_
 refine sH 6 ?_;(conv=>whnf);refine ⟨_,rfl,?_⟩
 refine sH 1 ?_;(conv=>whnf);refine ⟨_,rfl,?_⟩
 refine sH 4 ?_;(conv=>whnf);refine ⟨_,rfl,?_⟩
 refine aC dCo rfl fun K hK=>?_;conv=>whnf
 refine bKo rfl ?_;conv=>whnf
 refine And.intro rfl (And.intro (nle rfl) (And.intro rfl ?_));conv=>whnf
 refine hK _ _ _ ?_
 refine aC dCo rfl fun K hK=>?_;conv=>whnf
 refine hK _ _ _ ?_
 refine aF ?_
 refine aC dCo rfl fun K hK=>?_;conv=>whnf
 refine gKo rfl ?_;conv=>whnf
 refine hK _ _ _ ?_
 refine aJ ?_
 replace h:=bL h
 refine qU (body:=mC _ _) rfl h [7,17,20] [7] [17] (fun kl kh ids b s=>⟨ofL ([(8,(eL 1 eI default) s.1),(21,eI s.2.1)]++kl),ofH ([(xW ids 0,abM (eL 1 eI default) s.2.2)]++kh),b+64⟩) ?_;(conv=>whnf);refine And.intro ?_ (fun s m h=>cR ?_)
 ·refine bN ?_;conv=>whnf
  exact And.intro rfl (And.intro (aLc (WkR.wk iO (lsL fun _=>(lsI _ _))) (aLc wkI (aLc (WkR.ptr (fun _=>rfl)) (aLc (WkR.mp (fun _=>rfl)) (aLc wkI aLn))))) (aLc ⟨some _,rfl,pQ (enc:=(eL 1 eI default)) (m:=(GM.mt (List Int))) rfl (fun _=>(lsL fun _=>(lsI _ _)))⟩ (aLc ⟨some _,rfl,bRc rfl (cKc (jX bV (aM (vO (aM (WkR.mp (fun _=>rfl)) bV)) (aM (wkr (lsE (lsC (lsI _ _) (lsC (lsL fun _=>(aI _)) lsN)))) (aM (wkr (lsE (bD _))) (aM (WkR.ptr (fun _=>rfl)) bV))))) cKn)⟩ aLn)))
 replace h:=bL h;rw [mC.eq_1] at h
 refine aC dCo rfl fun K hK=>?_;conv=>whnf
 refine hK _ _ _ ?_
 refine aF ?_
 refine aW fun K1 K2 hK1 hK2=>?_;conv=>whnf
 refine cLk h (fun _ h=>?_) (fun _ h=>?_)
 ·refine hK1 ?_
  refine aG ?_
  refine tHn ?_
  refine aF ?_
  refine aJ ?_
  refine aC dCo rfl fun K hK=>?_;conv=>whnf
  refine hK _ _ _ ?_
  refine aC dCo rfl fun K hK=>?_;conv=>whnf
  refine nlA rfl ?_;conv=>whnf
  refine bKo rfl ?_;conv=>whnf
  refine gKo rfl ?_;conv=>whnf
  refine fQ (bs:=[.ab (abM (eL 1 eI default) _),.fn 59 [.m 0,.v _,.v _,.p 1]]) (args0:=[_,.ep [.mp 0] 0,_,_,.ptr 1 0]) h59 [_,_] h (.cons (yD (Wk.refl _) (lsI _ _)) (.cons (aFR (wI (aFS rfl) xD)) (.cons (cM (lsE (lsC (lsI _ _) (lsC (lsL fun _=>(aI _)) lsN)))) (.cons (cM (lsE (bD _))) (.cons (jJ rfl) .nil))))) ⟨⟨_,rfl,bkW _⟩,rfl,trivial⟩ rfl (nle rfl) (fun y e=>(⟨_,_,_,_,_,rfl,rfl,e,rfl,rfl⟩:vQ 10 _ _ _ _)) (fun _ h=>?_);conv=>whnf
  refine hK _ _ _ ?_
  replace h:=lG h
  refine aW fun K1 K2 hK1 hK2=>?_;conv=>whnf
  refine cLk h (fun _ h=>?_) (fun _ h=>?_)
  ·refine hK1 ?_
   refine bY dCo rfl fun K hK=>?_;conv=>whnf
   refine nlA rfl ?_;conv=>whnf
   refine bKo rfl ?_;conv=>whnf
   refine gKo rfl ?_;conv=>whnf
   refine fQ (bs:=[.ab (abM (eL 1 eI default) _),.fn 59 [.m 0,.v _,.v _,.p 1]]) (args0:=[_,.ep [.mp 0] 0,_,_,.ptr 1 0]) h59 [_,_] h (.cons (yD (Wk.refl _) (lsI _ _)) (.cons (aFR (wI (aFS rfl) xD)) (.cons (cM (lsE (lsC (lsI _ _) (lsC (lsL fun _=>(aI _)) lsN)))) (.cons (cM (lsE (bD _))) (.cons (jJ rfl) .nil))))) ⟨⟨_,rfl,bkW _⟩,rfl,trivial⟩ rfl (nle rfl) (fun y e=>(⟨_,_,_,_,_,rfl,rfl,e,rfl,rfl⟩:vQ 10 _ _ _ _)) (fun _ h=>?_);conv=>whnf
   refine hK _ _ _ ?_
   refine iBn ?_
   refine tHn ?_
   refine bY dCo rfl fun K hK=>?_;conv=>whnf
   refine hK _ _ _ ?_
   refine tHn ?_
   replace h:=bK h
   refine ⟨_,h,?_⟩
   refine bN ?_;conv=>whnf
   exact And.intro rfl (And.intro (aLc (wkr (lsL fun _=>(lsI _ _))) (aLc wkI (aLc (WkR.ptr (fun _=>rfl)) (aLc (WkR.mp (fun _=>rfl)) (aLc wkI aLn))))) (aLc ⟨some _,rfl,pQ (enc:=(eL 1 eI default)) rfl (fun _=>(lsL fun _=>(lsI _ _)))⟩ (aLc ⟨some _,rfl,bRc rfl (cKc (jX bV (aM (vO (aM (WkR.mp (fun _=>rfl)) bV)) (aM (wkr (lsE (lsC (lsI _ _) (lsC (lsL fun _=>(aI _)) lsN)))) (aM (wkr (lsE (bD _))) (aM (WkR.ptr (fun _=>rfl)) bV))))) cKn)⟩ aLn)))
  refine hK2 ?_
  refine aG ?_
  refine iBn ?_
  refine tHn ?_
  refine bY dCo rfl fun K hK=>?_;conv=>whnf
  refine hK _ _ _ ?_
  refine tHn ?_
  replace h:=bK h
  refine ⟨_,h,?_⟩
  refine bN ?_;conv=>whnf
  exact And.intro rfl (And.intro (aLc (wkr (lsL fun _=>(lsI _ _))) (aLc wkI (aLc (WkR.ptr (fun _=>rfl)) (aLc (WkR.mp (fun _=>rfl)) (aLc wkI aLn))))) (aLc ⟨some _,rfl,pQ (enc:=(eL 1 eI default)) rfl (fun _=>(lsL fun _=>(lsI _ _)))⟩ (aLc ⟨some _,rfl,bRc rfl (cKc (jX bV (aM (vO (aM (WkR.mp (fun _=>rfl)) bV)) (aM (wkr (lsE (lsC (lsI _ _) (lsC (lsL fun _=>(aI _)) lsN)))) (aM (wkr (lsE (bD _))) (aM (WkR.ptr (fun _=>rfl)) bV))))) cKn)⟩ aLn)))
 refine hK2 ?_
 refine bI ?_
 refine aT ?_
 refine aT ?_
 refine aS ?_
 replace h:=cV h
 replace h:=cU h
 refine tHn ?_
 refine aC dCo rfl fun K hK=>?_;conv=>whnf
 refine aGU h fun hg h=>?_
 replace h:=aRo h
 refine aAq h60 (aD (Wk.refl _) bE) hg (fun _=>(lsC (lsI _ _) lsN)) ?_;conv=>whnf
 refine hK _ _ _ ?_
 refine qM 2 (enc:=eI) (e:=3) default (pS dCo rfl rfl rfl (fun _=>⟨rfl,rfl⟩)) ?_;(conv=>whnf);refine ⟨_,_,rfl,rfl,rfl,?_⟩
 refine aP ?_
 replace h:=aO h
 refine aK dCo fun K hK=>?_;conv=>whnf
 refine hK _ ?_
 cases h
 exact Wk.refl _
theorem uX {T:Tbl} (hT:T 29=aH nL) {args:List AV} {hp:bH} {id:Nat} {k:AV→Prop} {a0:aE} {Φ:(List Int)×Int→Prop} (h:W (fX a0) Φ) (hw:WkL args [bF a0]) (hk:∀ y,Φ y→k (.tup [(eL 1 eI default) y.1,eI y.2])):cH T 29 args hp id k:=by
 obtain ⟨y,e,hy⟩:=dY h
 exact aV hT ⟨a0,rfl,lR e rfl⟩ (by exact eJ (lsC (lsL fun _=>(lsI _ _)) (lsC (lsI _ _) lsN))) hw (hk y hy)
def pL (a0:Int) (a1:Ar 8) (s2:(List Int)×Int×Int):Option (Ct ((List Int)×Int×Int) (List Int)):=cn (decide (s2.2.2<a0)) (jn (fun p3:Bool=>
  cn p3 (lt ([s2.2.2]:List Int) fun l5=>ap s2.1 l5 fun l6=>gd (0≤s2.2.2) (let v7:=(bor .i64 s2.2.1 (aDv .i64 1 s2.2.2));
  some (.bk (l6,v7,s2.2.2)))) (some (.nx (s2.1,s2.2.1,(wr (s2.2.2+1)))))) fun k4=>gd (0≤s2.2.2) (cn ((aAo .i64 (wW .i64 s2.2.1 s2.2.2) 1) ==
  0) (gd (0≤s2.2.2∧s2.2.2<(8:Int)) (k4 ((rE .i64 (a1.at1 s2.2.2) s2.2.1)==0))) (k4 false))) (some (.bk (s2.1,s2.2.1,s2.2.2)))
  def pD (a0:Int) (a1:Ar 8) (s1:(List Int)×Int):Option (Ct ((List Int)×Int) (List Int)):=cn (decide ((s1.1.length:Int)<a0)) (bd (lp (pL a0 a1) FU (s1.1,s1.2,0)) fun c8=>
  smK c8 (fun s9=>some (.nx (s9.1,s9.2.1))) (fun r10=>some (.rt r10))) (some (.bk (s1.1,s1.2)))
def kV (a0:Int) (a1:Ar 8):Option (List Int):=bd (lp (pD a0 a1) FU ([],0)) fun c11=>smK c11 (fun s12=>some s12.1) (fun r13=>some r13)
def mN:List AV→AV→Prop:=fun args r=>∃ a0 a1,args=[eI a0,eAr a1]∧W (kV a0 a1) fun y=>r=((eL 1 eI default) y)
theorem aDY {T:Tbl} (hT:TOk Tryd.prog T) (hpf:cP T PF):FOk Tryd.prog 57 (aH mN):=by
 refine bM hT hpf Tryd.func57 rfl Tryd.ntmps57 Tryd.results57 (by decide) ?_
 rintro args r ⟨a0,a1,rfl,h⟩
 refine ⟨nle rfl,?_,?_⟩
 ·exact (lsC (lsI _ _) (lsC (wE _) lsN))
 rw [kV.eq_1] at h
 refine aC dCo rfl fun K hK=>?_;conv=>whnf
 refine aL ?_;conv=>whnf
 refine hK _ _ _ ?_
 refine aC dCo rfl fun K hK=>?_;conv=>whnf
 refine hK _ _ _ ?_
 refine aF ?_
 refine aC dCo rfl fun K hK=>?_;conv=>whnf
 refine hK _ _ _ ?_
 refine aJ ?_
 replace h:=bL h
 refine cY (body:=pD _ _) rfl h [0,3] [] [3] [] (fun kl kh kr ids b s=>⟨ofL ([(5,.so (b+0) 0 s.1.length 1),(6,eI s.2)]++kl),ofH (([]++kh)++([(b+0,.cells (flE (ceE eI) s.1))]++kr)),b+128⟩) ?_;(conv=>whnf);refine And.intro ?_ (fun s m h=>cR ?_)
 ·refine aR ?_;conv=>whnf
  exact And.intro rfl (And.intro (aLc (WkR.nilso (fun _=>rfl)) (aLc wkI (aLc wkI (aLc (WkR.ptr (fun _=>rfl)) aLn)))) (aLc ⟨none,rfl,aFN⟩ (aLc ⟨some _,rfl,bO rfl rfl⟩ aLn)))
 replace h:=bL h;rw [pD.eq_1] at h
 refine aF ?_
 refine aC dCo rfl fun K hK=>?_;conv=>whnf
 refine hK _ _ _ ?_
 refine aW fun K1 K2 hK1 hK2=>?_;conv=>whnf
 refine cLk h (fun _ h=>?_) (fun _ h=>?_)
 ·refine hK1 ?_
  refine aG ?_
  refine tHn ?_
  refine aJ ?_
  refine aC dCo rfl fun K hK=>?_;conv=>whnf
  refine hK _ _ _ ?_
  refine aJ ?_
  replace h:=bL h
  refine cY (body:=pL _ _) rfl h [0,3,12] [] [3] [] (fun kl kh kr ids b s=>⟨ofL ([(5,.so (b+0) 0 s.1.length 1),(6,eI s.2.1),(13,eI s.2.2)]++kl),ofH (([]++kh)++([(b+0,.cells (flE (ceE eI) s.1))]++kr)),b+128⟩) ?_;(conv=>whnf);refine And.intro ?_ (fun s m h=>cR ?_)
  ·refine aR ?_;conv=>whnf
   exact And.intro rfl (And.intro (aLc (WkR.so (fun _=>rfl)) (aLc wkI (aLc wkI (aLc wkI (aLc (WkR.ptr (fun _=>rfl)) (aLc wkI aLn)))))) (aLc ⟨some _,rfl,kA rfl (fun _=>(lsC (lsI _ _) lsN))⟩ (aLc ⟨some _,rfl,bO rfl rfl⟩ aLn)))
  replace h:=bL h;rw [pL.eq_1] at h
  refine aC dCo rfl fun K hK=>?_;conv=>whnf
  refine hK _ _ _ ?_
  refine aF ?_
  refine aW fun K1 K2 hK1 hK2=>?_;conv=>whnf
  refine cLk h (fun _ h=>?_) (fun _ h=>?_)
  ·refine hK1 ?_
   refine aG ?_
   refine tHn ?_
   refine aF ?_
   refine aJ ?_
   refine aC dCo rfl fun K hK=>?_;conv=>whnf
   refine hK _ _ _ ?_
   refine aC dCo rfl fun K hK=>?_;conv=>whnf
   replace h:=lG h
   refine bW h fun _ h=>?_;conv=>whnf
   refine cLk h (fun _ h=>?_) (fun _ h=>?_)<;>(conv=>whnf)
   ·refine bW h fun hx113 h=>?_;conv=>whnf
    refine nlA rfl ?_;conv=>whnf
    refine bKo rfl ?_;conv=>whnf
    refine iM rfl hx113 ?_;conv=>whnf
    refine hK _ _ _ ?_
    refine aW fun K1 K2 hK1 hK2=>?_;conv=>whnf
    refine cLk h (fun _ h=>?_) (fun _ h=>?_)
    ·refine hK1 ?_
     refine qA dCo cG rfl (by kernel_rfl) fun K hK=>?_;conv=>whnf
     refine dL (enc:=eI) (d:=default) dCo h rfl rfl rfl ⟨nle rfl,nle rfl,rfl⟩ rfl ⟨⟨rfl,rfl,rfl⟩,trivial⟩ (fun h=>?_);conv=>whnf
     refine aA1 (enc:=eI) (d:=default) dCo h rfl rfl rfl ⟨rfl,nle rfl,nle rfl,nle rfl,rfl⟩ (fun _=>rfl) (fun _=>rfl) (fun _=>nofun) rfl (rfl) (fun h=>?_);conv=>whnf
     refine bW h fun _ h=>?_;conv=>whnf
     refine hK _ _ _ ?_
     refine bI ?_
     refine aFF (by decide) ?_
     refine aT ?_
     refine aT ?_
     refine aS ?_
     replace h:=cV h
     replace h:=cU h
     refine iBn ?_
     refine tHn ?_
     replace h:=bK h
     refine ⟨_,h,?_⟩
     refine aR ?_;conv=>whnf
     exact And.intro rfl (And.intro (aLc (WkR.so (fun _=>rfl)) (aLc wkI (aLc wkI (aLc (WkR.ptr (fun _=>rfl)) aLn)))) (aLc ⟨some _,rfl,kA rfl (fun _=>(lsC (lsI _ _) lsN))⟩ (aLc ⟨some _,rfl,bO rfl rfl⟩ aLn)))
    refine hK2 ?_
    refine aG ?_
    refine iBn ?_
    refine tHn ?_
    refine bY dCo rfl fun K hK=>?_;conv=>whnf
    refine hK _ _ _ ?_
    refine tHn ?_
    replace h:=bK h
    refine ⟨_,h,?_⟩
    refine aR ?_;conv=>whnf
    exact And.intro rfl (And.intro (aLc (WkR.so (fun _=>rfl)) (aLc wkI (aLc wkI (aLc wkI (aLc (WkR.ptr (fun _=>rfl)) (aLc wkI aLn)))))) (aLc ⟨some _,rfl,kA rfl (fun _=>(lsC (lsI _ _) lsN))⟩ (aLc ⟨some _,rfl,bO rfl rfl⟩ aLn)))
   refine hK _ _ _ ?_
   refine aW fun K1 K2 hK1 hK2=>?_;conv=>whnf
   refine hK2 ?_
   replace h:=rS h
   refine aG ?_
   refine iBn ?_
   refine tHn ?_
   refine bY dCo rfl fun K hK=>?_;conv=>whnf
   refine hK _ _ _ ?_
   refine tHn ?_
   replace h:=bK h
   refine ⟨_,h,?_⟩
   refine aR ?_;conv=>whnf
   exact And.intro rfl (And.intro (aLc (WkR.so (fun _=>rfl)) (aLc wkI (aLc wkI (aLc wkI (aLc (WkR.ptr (fun _=>rfl)) (aLc wkI aLn)))))) (aLc ⟨some _,rfl,kA rfl (fun _=>(lsC (lsI _ _) lsN))⟩ (aLc ⟨some _,rfl,bO rfl rfl⟩ aLn)))
  refine hK2 ?_
  refine bI ?_
  refine aT ?_
  refine aT ?_
  refine aS ?_
  replace h:=cV h
  replace h:=cU h
  refine iBn ?_
  refine tHn ?_
  replace h:=bK h
  refine ⟨_,h,?_⟩
  refine aR ?_;conv=>whnf
  exact And.intro rfl (And.intro (aLc (WkR.so (fun _=>rfl)) (aLc wkI (aLc wkI (aLc (WkR.ptr (fun _=>rfl)) aLn)))) (aLc ⟨some _,rfl,kA rfl (fun _=>(lsC (lsI _ _) lsN))⟩ (aLc ⟨some _,rfl,bO rfl rfl⟩ aLn)))
 refine hK2 ?_
 refine bI ?_
 refine aT ?_
 refine aT ?_
 refine aS ?_
 replace h:=cV h
 replace h:=cU h
 refine tHn ?_
 refine aC dCo rfl fun K hK=>?_;conv=>whnf
 refine hK _ _ _ ?_
 refine qM 4 (enc:=eI) (e:=3) default (pS dCo rfl rfl rfl (fun _=>⟨rfl,rfl⟩)) ?_;(conv=>whnf);refine ⟨_,_,rfl,rfl,rfl,?_⟩
 refine aP ?_
 replace h:=aO h
 refine aK dCo fun K hK=>?_;conv=>whnf
 refine hK _ ?_
 cases h
 exact Wk.refl _
theorem sO {T:Tbl} (hT:T 57=aH mN) {args:List AV} {hp:bH} {id:Nat} {k:AV→Prop} {a0:Int} {a1:Ar 8} {Φ:List Int→Prop} (h:W (kV a0 a1) Φ) (hw:WkL args [eI a0,eAr a1]) (hk:∀ y,Φ y→k ((eL 1 eI default) y)):cH T 57 args hp id k:=by
 obtain ⟨y,e,hy⟩:=dY h
 exact aV hT ⟨a0,a1,rfl,lR e rfl⟩ (by exact (lsL fun _=>(lsI _ _))) hw (hk y hy)
def gI (a0:aE):Option ((List Int)×Int):=bd (bS a0) fun y1=>cn (!y1.2) (some ([],70)) (bd (kV a0.N y1.1) fun y2=>some (y2,0))
def oT:List AV→AV→Prop:=fun args r=>∃ a0,args=[bF a0]∧W (gI a0) fun y=>r=(.tup [(eL 1 eI default) y.1,eI y.2])
theorem aEp {T:Tbl} (hT:TOk Tryd.prog T) (hpf:cP T PF) (h54:T 54=aH dJ) (h57:T 57=aH mN):FOk Tryd.prog 19 (aH oT):=by
 refine bM hT hpf Tryd.func19 rfl Tryd.ntmps19 Tryd.results19 (by decide) ?_
 rintro args r ⟨a0,rfl,h⟩
 refine ⟨nle rfl,?_,?_⟩
 ·exact (lsC (bT _) lsN)
 rw [gI.eq_1] at h
 refine aC dCo rfl fun K hK=>?_;conv=>whnf
 refine hK _ _ _ ?_
 refine aC dCo rfl fun K hK=>?_;conv=>whnf
 refine nlA rfl ?_;conv=>whnf
 refine bKo rfl ?_;conv=>whnf
 refine nlA rfl ?_;conv=>whnf
 replace h:=bL h
 refine dH h54 h (WkL.refl _) (fun _ h=>?_);conv=>whnf
 refine aL ?_;conv=>whnf
 refine aL ?_;conv=>whnf
 refine aL ?_;conv=>whnf
 refine bKo rfl ?_;conv=>whnf
 refine vY rfl rfl rfl ?_;conv=>whnf
 refine hK _ _ _ ?_
 refine aF ?_
 refine aC dCo rfl fun K hK=>?_;conv=>whnf
 refine hK _ _ _ ?_
 refine aW fun K1 K2 hK1 hK2=>?_;conv=>whnf
 refine cLk h (fun _ h=>?_) (fun _ h=>?_)
 ·refine hK1 ?_
  refine aC dCo rfl fun K hK=>?_;conv=>whnf
  refine hK _ _ _ ?_
  refine aP ?_
  refine aQ ?_
  replace h:=aO h
  refine aK dCo fun K hK=>?_;conv=>whnf
  refine hK _ ?_
  cases h
  exact mL (aD iO (aD (Wk.refl _) bE))
 refine hK2 ?_
 refine aG ?_
 refine tHn ?_
 refine aC dCo rfl fun K hK=>?_;conv=>whnf
 refine nlA rfl ?_;conv=>whnf
 refine bKo rfl ?_;conv=>whnf
 refine gKo rfl ?_;conv=>whnf
 refine nlA rfl ?_;conv=>whnf
 refine bKo rfl ?_;conv=>whnf
 refine yH rfl ?_;conv=>whnf
 refine aL ?_;conv=>whnf
 replace h:=bL h
 refine sO h57 h (WkL.refl _) (fun _ h=>?_);conv=>whnf
 refine hK _ _ _ ?_
 refine aP ?_
 replace h:=aO h
 refine aK dCo fun K hK=>?_;conv=>whnf
 refine hK _ ?_
 cases h
 exact Wk.refl _
theorem wA {T:Tbl} (hT:T 19=aH oT) {args:List AV} {hp:bH} {id:Nat} {k:AV→Prop} {a0:aE} {Φ:(List Int)×Int→Prop} (h:W (gI a0) Φ) (hw:WkL args [bF a0]) (hk:∀ y,Φ y→k (.tup [(eL 1 eI default) y.1,eI y.2])):cH T 19 args hp id k:=by
 obtain ⟨y,e,hy⟩:=dY h
 exact aV hT ⟨a0,rfl,lR e rfl⟩ (by exact eJ (lsC (lsL fun _=>(lsI _ _)) (lsC (lsI _ _) lsN))) hw (hk y hy)
def fH (a0:Int):Option Int:=cn (a0 ==
  0) (some 64) (gd (0≤(wW .u64 (IntKind.u64.wrap ((aAo .u64 a0 (IntKind.u64.wrap (0-a0))) * 285870213051353865)) 58)∧(wW .u64 (IntKind.u64.wrap ((aAo .u64 a0 (IntKind.u64.wrap (0-a0))) * 285870213051353865)) 58)<(64:Int)) (let v1:=(wr ((gTz 1 (wW .u64 (IntKind.u64.wrap ((aAo .u64 a0 (IntKind.u64.wrap (0-a0))) * 285870213051353865)) 58))));
  some v1))
def dS:List AV→AV→Prop:=fun args r=>∃ a0,args=[(AV.int .u64) a0]∧W (fH a0) fun y=>r=(eI y)
theorem rY {T:Tbl} (hT:TOk Tryd.prog T) (hpf:cP T PF):FOk Tryd.prog 87 (aH dS):=by
 refine bM hT hpf Tryd.func87 rfl Tryd.ntmps87 Tryd.results87 (by decide) ?_
 rintro args r ⟨a0,rfl,h⟩
 refine ⟨nle rfl,?_,?_⟩
 ·exact (lsC (lsI _ _) lsN)
 rw [fH.eq_1] at h
 refine aC dCo rfl fun K hK=>?_;conv=>whnf
 refine hK _ _ _ ?_
 refine aF ?_
 refine aC dCo rfl fun K hK=>?_;conv=>whnf
 refine hK _ _ _ ?_
 refine aW fun K1 K2 hK1 hK2=>?_;conv=>whnf
 refine cLk h (fun _ h=>?_) (fun _ h=>?_)
 ·refine hK1 ?_
  refine aC dCo rfl fun K hK=>?_;conv=>whnf
  refine hK _ _ _ ?_
  refine aP ?_
  refine aQ ?_
  replace h:=aO h
  refine aK dCo fun K hK=>?_;conv=>whnf
  refine hK _ ?_
  cases h
  exact Wk.refl _
 refine hK2 ?_
 refine aG ?_
 refine tHn ?_
 refine aC dCo rfl fun K hK=>?_;conv=>whnf
 refine And.intro (by decide) ?_;conv=>whnf
 refine bW h fun hx117 h=>?_;conv=>whnf
 refine aO9 1 64 rfl rfl hx117 ?_;conv=>whnf
 refine hK _ _ _ ?_
 refine aP ?_
 replace h:=aO h
 refine aK dCo fun K hK=>?_;conv=>whnf
 refine hK _ ?_
 cases h
 exact Wk.refl _
theorem rB {T:Tbl} (hT:T 87=aH dS) {args:List AV} {hp:bH} {id:Nat} {k:AV→Prop} {a0:Int} {Φ:Int→Prop} (h:W (fH a0) Φ) (hw:WkL args [(AV.int .u64) a0]) (hk:∀ y,Φ y→k (eI y)):cH T 87 args hp id k:=by
 obtain ⟨y,e,hy⟩:=dY h
 exact aV hT ⟨a0,rfl,lR e rfl⟩ (by exact (lsI _ _)) hw (hk y hy)
def gE (a0:Int):Option Int:=bd (fH a0) fun y1=>some y1
def eP:List AV→AV→Prop:=fun args r=>∃ a0,args=[(AV.int .u64) a0]∧W (gE a0) fun y=>r=(eI y)
theorem sY {T:Tbl} (hT:TOk Tryd.prog T) (hpf:cP T PF) (h87:T 87=aH dS):FOk Tryd.prog 82 (aH eP):=by
 refine bM hT hpf Tryd.func82 rfl Tryd.ntmps82 Tryd.results82 (by decide) ?_
 rintro args r ⟨a0,rfl,h⟩
 refine ⟨nle rfl,?_,?_⟩
 ·exact (lsC (lsI _ _) lsN)
 rw [gE.eq_1] at h
 refine aC dCo rfl fun K hK=>?_;conv=>whnf
 refine hK _ _ _ ?_
 refine aF ?_
 refine aW fun K1 K2 hK1 hK2=>?_;conv=>whnf
 refine hK2 ?_
 refine aG ?_
 refine tHn ?_
 refine aC dCo rfl fun K hK=>?_;conv=>whnf
 replace h:=bL h
 refine rB h87 h (WkL.refl _) (fun _ h=>?_);conv=>whnf
 refine hK _ _ _ ?_
 refine aP ?_
 replace h:=aO h
 refine aK dCo fun K hK=>?_;conv=>whnf
 refine hK _ ?_
 cases h
 exact Wk.refl _
theorem rU {T:Tbl} (hT:T 82=aH eP) {args:List AV} {hp:bH} {id:Nat} {k:AV→Prop} {a0:Int} {Φ:Int→Prop} (h:W (gE a0) Φ) (hw:WkL args [(AV.int .u64) a0]) (hk:∀ y,Φ y→k (eI y)):cH T 82 args hp id k:=by
 obtain ⟨y,e,hy⟩:=dY h
 exact aV hT ⟨a0,rfl,lR e rfl⟩ (by exact (lsI _ _)) hw (hk y hy)
def sQ (s1:Int×(List Int)):Option (Ct (Int×(List Int)) (List Int)):=cn (s1.1 != 0) (bd (gE (IntKind.u64.wrap (s1.1))) fun y2=>
  lt ([y2]:List Int) fun l3=>ap s1.2 l3 fun l4=>let v5:=(aAo .i64 s1.1 (wr (s1.1-1)));some (.nx (v5,l4))) (some (.bk (s1.1,s1.2)))
def mB (a0:Int):Option (List Int):=bd (lp (sQ) FU (a0,[])) fun c6=>smK c6 (fun s7=>some s7.2) (fun r8=>some r8)
def oB:List AV→AV→Prop:=fun args r=>∃ a0,args=[eI a0]∧W (mB a0) fun y=>r=((eL 1 eI default) y)
theorem aA5 {T:Tbl} (hT:TOk Tryd.prog T) (hpf:cP T PF) (h82:T 82=aH eP):FOk Tryd.prog 61 (aH oB):=by
 refine bM hT hpf Tryd.func61 rfl Tryd.ntmps61 Tryd.results61 (by decide) ?_
 rintro args r ⟨a0,rfl,h⟩
 refine ⟨nle rfl,?_,?_⟩
 ·exact (lsC (lsI _ _) lsN)
 rw [mB.eq_1] at h
 refine aC dCo rfl fun K hK=>?_;conv=>whnf
 refine hK _ _ _ ?_
 refine aF ?_
 refine aJ ?_
 replace h:=bL h
 refine qU (body:=sQ) rfl h [] [] [] (fun kl kh ids b s=>⟨ofL ([(0,eI s.1),(2,.lst (.tok (b+0)) 1 s.2.length (fun j=>eI (s.2.getD j default)))]++kl),ofH ([(b+0,.cells [])]++kh),b+128⟩) ?_;(conv=>whnf);refine And.intro ?_ (fun s m h=>cR ?_)
 ·refine bN ?_;conv=>whnf
  exact And.intro rfl (And.intro (aLc wkI (aLc (WkR.nil (fun _=>rfl)) aLn)) (aLc ⟨none,rfl,oH⟩ aLn))
 replace h:=bL h;rw [sQ.eq_1] at h
 refine aF ?_
 refine aC dCo rfl fun K hK=>?_;conv=>whnf
 refine hK _ _ _ ?_
 refine aW fun K1 K2 hK1 hK2=>?_;conv=>whnf
 refine cLk h (fun _ h=>?_) (fun _ h=>?_)
 ·refine hK1 ?_
  refine aG ?_
  refine tHn ?_
  refine aF ?_
  refine aJ ?_
  refine bY dCo rfl fun K hK=>?_;conv=>whnf
  replace h:=bL h
  refine rU h82 h (WkL.refl _) (fun _ h=>?_);conv=>whnf
  refine dL (enc:=eI) (d:=default) dCo h rfl rfl rfl ⟨nle rfl,nle rfl,rfl⟩ rfl ⟨⟨rfl,rfl,rfl⟩,trivial⟩ (fun h=>?_);conv=>whnf
  refine gX (enc:=eI) (d:=default) dCo h (.inl rfl) rfl rfl rfl ⟨rfl,nle rfl,nle rfl,nle rfl,rfl⟩ (fun _=>rfl) (.inr (.inr ⟨_,_,rfl,rfl,rfl⟩)) (fun h=>?_);conv=>whnf
  refine hK _ _ _ ?_
  refine iBn ?_
  refine tHn ?_
  refine bY dCo rfl fun K hK=>?_;conv=>whnf
  refine hK _ _ _ ?_
  refine tHn ?_
  replace h:=bK h
  refine ⟨_,h,?_⟩
  refine bN ?_;conv=>whnf
  exact And.intro rfl (And.intro (aLc wkI (aLc (WkR.tok (fun _=>rfl) rfl (fun _ _=>Wk.refl _) (fun _=>(lsI _ _))) aLn)) (aLc ⟨some _,rfl,bRc rfl cKn⟩ aLn))
 refine hK2 ?_
 refine bI ?_
 refine aT ?_
 refine aT ?_
 refine aS ?_
 replace h:=cV h
 replace h:=cU h
 refine tHn ?_
 refine aC dCo rfl fun K hK=>?_;conv=>whnf
 refine hK _ _ _ ?_
 refine aP ?_
 replace h:=aO h
 refine aK dCo fun K hK=>?_;conv=>whnf
 refine hK _ ?_
 cases h
 exact cD
theorem aAi {T:Tbl} (hT:T 61=aH oB) {args:List AV} {hp:bH} {id:Nat} {k:AV→Prop} {a0:Int} {Φ:List Int→Prop} (h:W (mB a0) Φ) (hw:WkL args [eI a0]) (hk:∀ y,Φ y→k ((eL 1 eI default) y)):cH T 61 args hp id k:=by
 obtain ⟨y,e,hy⟩:=dY h
 exact aV hT ⟨a0,rfl,lR e rfl⟩ (by exact (lsL fun _=>(lsI _ _))) hw (hk y hy)
end Go.Proofs.YtlmboonbfhkfnaaDoor
