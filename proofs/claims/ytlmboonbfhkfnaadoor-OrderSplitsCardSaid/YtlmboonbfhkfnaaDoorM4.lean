import Derived.Test.YtlmboonbfhkfnaaDoorRows
import Derived.Test.YtlmboonbfhkfnaaDoorM2
import Derived.ProofKit
import Derived.LaidMore
import Derived.OpenShut
import Derived.Stop.Joined
import Derived.Test.YtlmboonbfhkfnaaDoorProg
import Derived.Test.YtlmboonbfhkfnaaDoorM3
import Derived.KernelRfl
import Derived.Laws.StructEq
import Derived.ChangeKeysEq
set_option linter.unusedVariables false
set_option linter.unusedSimpArgs false
set_option linter.unusedSectionVars false
namespace Go.Proofs.YtlmboonbfhkfnaaDoor
open Go Go.Eng Go.ChangeShapes Go.WideShapes Go.ChangeAt Go.WideMaps Go.WideElems Go.RowKit
set_option maxRecDepth 100000
abbrev aEx:List (String×DataW Unit):=[("math/bits.deBruijn32tab", Rows.laid_math_bits_deBruijn32tab),("math/bits.deBruijn64tab", Rows.laid_math_bits_deBruijn64tab)]
theorem aFt (os:Os) (args:Array Value):laidMetH Tryd.prog aEx ((World.doorLaid Tryd.prog 400 os).forCall (fun _ _=>0) ⟨#[],args,[]⟩).memory:=
 laidMetH_of_parts3 (fuel:=8) (laidMet_of_run' 8 (by kernel_rfl) (by kernel_rfl)) (by kernel_rfl) (by kernel_rfl)
theorem g32:Tryd.prog.globalNamed "math/bits.deBruijn32tab" = some 0:=by kernel_rfl
theorem g64:Tryd.prog.globalNamed "math/bits.deBruijn64tab" = some 1:=by kernel_rfl
theorem t32:(Tryd.prog.globals[0]?).map (·.type)=some 99:=by kernel_rfl
theorem t64:(Tryd.prog.globals[1]?).map (·.type)=some 100:=by kernel_rfl
theorem c5:Tryd.prog.cellsOf 5=1:=by kernel_rfl
theorem aGb {H:Type} {enc:TypeId×Value→H} {W:World} {base:Nat} {spare:Nat→Bool} {held:Bool} {fuel:Nat} {t n:Nat} {cs:Array Value} {p:List MemPlace} {L:List Nat} (ht:Tryd.prog.underlying t=some (.array n 5)) (hn:L.length=n)
  (h:DataW.trod enc Tryd.prog W base spare held fuel t cs.toList=some (.agg (L.map fun n:Nat=>.lit (.int .u8 (n:Int))),p)) {i:Nat} {v:Value} (hv:(L.map fun n:Nat=>Value.int .u8 (n:Int))[i]?=some v):cs[i]?=some v:=by
 obtain ⟨xs,m,rfl,hx,_,hl,hel⟩:=DataW.trod_array ht h
 rw [List.getElem?_map] at hv
 obtain ⟨x,hx1,rfl⟩:=Option.map_eq_some_iff.1 hv
 have hi:i<L.length:=(List.getElem?_eq_some_iff.1 hx1).1
 have h1:=hel i (by omega)
 obtain ⟨y,hy⟩:∃ y,xs[i]?=some y:=⟨xs[i]'(by omega),List.getElem?_eq_getElem (by omega)⟩
 rw [hy] at h1
 obtain ⟨k,e1,e2,_⟩:=DataW.trod_int Tryd.underlying5 h1
 simp only [Prod.mk.injEq,DataW.agg.injEq] at hx
 have e3:(xs.map (·.1))[i]?=some (.lit (.int .u8 k)):=by rw [List.getElem?_map,hy,e2];rfl
 rw [← hx.1,List.getElem?_map,hx1] at e3
 have e4:(x:Int)=k:=by simpa using e3
 rw [c5,Nat.mul_one] at e1
 have e5:(cs.toList.drop i)[0]?=some (.int .u8 k):=by
  have:((cs.toList.drop i).take 1)[0]?=some (.int .u8 k):=by rw [e1];rfl
  rwa [List.getElem?_take_of_lt (by omega)] at this
 rw [List.getElem?_drop,Nat.add_zero] at e5
 rw [← Array.getElem?_toList,e5,e4]
theorem aCN {W:World} (h:laidMetH Tryd.prog aEx W):GB (aET W).fz:=by
 rw [MakeChecks.laidMetH_plain _ _ _ (by kernel_rfl)] at h
 obtain ⟨ps,⟨g0,t0,cs0,f0,p0,q0,hg0,ht0,hv0,hd0,⟨g1,t1,cs1,f1,p1,q1,hg1,ht1,hv1,hd1,_,_⟩,_⟩,_,_⟩:=h
 obtain rfl:=Option.some.inj (g32.symm.trans hg0)
 obtain rfl:=Option.some.inj (g64.symm.trans hg1)
 obtain rfl:=Option.some.inj (t32.symm.trans ht0)
 obtain rfl:=Option.some.inj (t64.symm.trans ht1)
 intro g i v hv
 show W.cell? ⟨g,0+i,none⟩=some v
 rw [Nat.zero_add]
 match g with
 | 0=>
  rw [World.var?_cell hg0 hv0 i]
  exact aGb Tryd.underlying99 rfl hd0 hv
 | 1=>
  rw [World.var?_cell hg1 hv1 i]
  exact aGb Tryd.underlying100 rfl hd1 hv
 | _+2=>simp [aGF,aHi] at hv
def tdL:List (Nat×TD):=[
 (3,⟨.int .i64,1,[.int .i64 0],8⟩),
 (4,⟨.bool,1,[.bool false],1⟩),
 (5,⟨.int .u8,1,[.int .u8 0],1⟩),
 (22,⟨.slice 46,1,[.nils],24⟩),
 (25,⟨.struct [(3,0),(22,1)],2,[.int .i64 0,.nils],32⟩),
 (26,⟨.slice 3,1,[.nils],24⟩),
 (30,⟨.int .i64,1,[.int .i64 0],8⟩),
 (46,⟨.array 2 3,2,[.int .i64 0,.int .i64 0],16⟩),
 (50,⟨.slice 26,1,[.nils],24⟩),
 (53,⟨.array 8 3,8,[.int .i64 0,.int .i64 0,.int .i64 0,.int .i64 0,.int .i64 0,.int .i64 0,.int .i64 0,.int .i64 0],64⟩),
 (60,⟨.array 8 4,8,[.bool false,.bool false,.bool false,.bool false,.bool false,.bool false,.bool false,.bool false],8⟩),
 (61,⟨.array 8 60,64,[.bool false,.bool false,.bool false,.bool false,.bool false,.bool false,.bool false,.bool false,.bool false,.bool false,.bool false,.bool false,.bool false,.bool false,.bool false,.bool false,.bool false,.bool false,.bool false,.bool false,.bool false,.bool false,.bool false,.bool false,.bool false,.bool false,.bool false,.bool false,.bool false,.bool false,.bool false,.bool false,.bool false,.bool false,.bool false,.bool false,.bool false,.bool false,.bool false,.bool false,.bool false,.bool false,.bool false,.bool false,.bool false,.bool false,.bool false,.bool false,.bool false,.bool false,.bool false,.bool false,.bool false,.bool false,.bool false,.bool false,.bool false,.bool false,.bool false,.bool false,.bool false,.bool false,.bool false,.bool false],64⟩),
 (62,⟨.array 8 60,64,[.bool false,.bool false,.bool false,.bool false,.bool false,.bool false,.bool false,.bool false,.bool false,.bool false,.bool false,.bool false,.bool false,.bool false,.bool false,.bool false,.bool false,.bool false,.bool false,.bool false,.bool false,.bool false,.bool false,.bool false,.bool false,.bool false,.bool false,.bool false,.bool false,.bool false,.bool false,.bool false,.bool false,.bool false,.bool false,.bool false,.bool false,.bool false,.bool false,.bool false,.bool false,.bool false,.bool false,.bool false,.bool false,.bool false,.bool false,.bool false,.bool false,.bool false,.bool false,.bool false,.bool false,.bool false,.bool false,.bool false,.bool false,.bool false,.bool false,.bool false,.bool false,.bool false,.bool false,.bool false],64⟩),
 (65,⟨.array 8 3,8,[.int .i64 0,.int .i64 0,.int .i64 0,.int .i64 0,.int .i64 0,.int .i64 0,.int .i64 0,.int .i64 0],64⟩),
 (73,⟨.map .i64 3 (.int .i64 0),1,[.nilm],8⟩),
 (75,⟨.map .i64 26 (.nils),1,[.nilm],8⟩),
 (76,⟨.other,1,[.nilf],8⟩),
 (80,⟨.other,1,[.nilf],8⟩),
 (82,⟨.other,1,[.nilf],8⟩),
 (92,⟨.int .u64,1,[.int .u64 0],8⟩),
 (96,⟨.int .u32,1,[.int .u32 0],4⟩),
 (98,⟨.int .u64,1,[.int .u64 0],8⟩),
 (99,⟨.array 32 5,32,[.int .u8 0,.int .u8 0,.int .u8 0,.int .u8 0,.int .u8 0,.int .u8 0,.int .u8 0,.int .u8 0,.int .u8 0,.int .u8 0,.int .u8 0,.int .u8 0,.int .u8 0,.int .u8 0,.int .u8 0,.int .u8 0,.int .u8 0,.int .u8 0,.int .u8 0,.int .u8 0,.int .u8 0,.int .u8 0,.int .u8 0,.int .u8 0,.int .u8 0,.int .u8 0,.int .u8 0,.int .u8 0,.int .u8 0,.int .u8 0,.int .u8 0,.int .u8 0],32⟩),
 (100,⟨.array 64 5,64,[.int .u8 0,.int .u8 0,.int .u8 0,.int .u8 0,.int .u8 0,.int .u8 0,.int .u8 0,.int .u8 0,.int .u8 0,.int .u8 0,.int .u8 0,.int .u8 0,.int .u8 0,.int .u8 0,.int .u8 0,.int .u8 0,.int .u8 0,.int .u8 0,.int .u8 0,.int .u8 0,.int .u8 0,.int .u8 0,.int .u8 0,.int .u8 0,.int .u8 0,.int .u8 0,.int .u8 0,.int .u8 0,.int .u8 0,.int .u8 0,.int .u8 0,.int .u8 0,.int .u8 0,.int .u8 0,.int .u8 0,.int .u8 0,.int .u8 0,.int .u8 0,.int .u8 0,.int .u8 0,.int .u8 0,.int .u8 0,.int .u8 0,.int .u8 0,.int .u8 0,.int .u8 0,.int .u8 0,.int .u8 0,.int .u8 0,.int .u8 0,.int .u8 0,.int .u8 0,.int .u8 0,.int .u8 0,.int .u8 0,.int .u8 0,.int .u8 0,.int .u8 0,.int .u8 0,.int .u8 0,.int .u8 0,.int .u8 0,.int .u8 0,.int .u8 0],64⟩)]
def DC:DT:=aHN tdL
theorem td3:rQ Tryd.prog 3 ⟨.int .i64,1,[.int .i64 0],8⟩:=⟨by kernel_rfl,by kernel_rfl,by kernel_rfl,Tryd.underlying3⟩
theorem td4:rQ Tryd.prog 4 ⟨.bool,1,[.bool false],1⟩:=⟨by kernel_rfl,by kernel_rfl,by kernel_rfl,Tryd.underlying4⟩
theorem td5:rQ Tryd.prog 5 ⟨.int .u8,1,[.int .u8 0],1⟩:=⟨by kernel_rfl,by kernel_rfl,by kernel_rfl,Tryd.underlying5⟩
theorem aL6:rQ Tryd.prog 22 ⟨.slice 46,1,[.nils],24⟩:=⟨by kernel_rfl,by kernel_rfl,by kernel_rfl,Tryd.underlying22⟩
theorem aLO:rQ Tryd.prog 25 ⟨.struct [(3,0),(22,1)],2,[.int .i64 0,.nils],32⟩:=⟨by kernel_rfl,by kernel_rfl,by kernel_rfl,⟨_,Tryd.underlying25,rfl⟩⟩
theorem aL8:rQ Tryd.prog 26 ⟨.slice 3,1,[.nils],24⟩:=⟨by kernel_rfl,by kernel_rfl,by kernel_rfl,Tryd.underlying26⟩
theorem aLM:rQ Tryd.prog 30 ⟨.int .i64,1,[.int .i64 0],8⟩:=⟨by kernel_rfl,by kernel_rfl,by kernel_rfl,Tryd.underlying30⟩
theorem aL7:rQ Tryd.prog 46 ⟨.array 2 3,2,[.int .i64 0,.int .i64 0],16⟩:=⟨by kernel_rfl,by kernel_rfl,by kernel_rfl,Tryd.underlying46⟩
theorem aLG:rQ Tryd.prog 50 ⟨.slice 26,1,[.nils],24⟩:=⟨by kernel_rfl,by kernel_rfl,by kernel_rfl,Tryd.underlying50⟩
theorem aLF:rQ Tryd.prog 53 ⟨.array 8 3,8,[.int .i64 0,.int .i64 0,.int .i64 0,.int .i64 0,.int .i64 0,.int .i64 0,.int .i64 0,.int .i64 0],64⟩:=⟨by kernel_rfl,by kernel_rfl,by kernel_rfl,Tryd.underlying53⟩
theorem aLW:rQ Tryd.prog 60 ⟨.array 8 4,8,[.bool false,.bool false,.bool false,.bool false,.bool false,.bool false,.bool false,.bool false],8⟩:=⟨by kernel_rfl,by kernel_rfl,by kernel_rfl,Tryd.underlying60⟩
theorem aLK:rQ Tryd.prog 61 ⟨.array 8 60,64,[.bool false,.bool false,.bool false,.bool false,.bool false,.bool false,.bool false,.bool false,.bool false,.bool false,.bool false,.bool false,.bool false,.bool false,.bool false,.bool false,.bool false,.bool false,.bool false,.bool false,.bool false,.bool false,.bool false,.bool false,.bool false,.bool false,.bool false,.bool false,.bool false,.bool false,.bool false,.bool false,.bool false,.bool false,.bool false,.bool false,.bool false,.bool false,.bool false,.bool false,.bool false,.bool false,.bool false,.bool false,.bool false,.bool false,.bool false,.bool false,.bool false,.bool false,.bool false,.bool false,.bool false,.bool false,.bool false,.bool false,.bool false,.bool false,.bool false,.bool false,.bool false,.bool false,.bool false,.bool false],64⟩:=⟨by kernel_rfl,by kernel_rfl,by kernel_rfl,Tryd.underlying61⟩
theorem aLP:rQ Tryd.prog 62 ⟨.array 8 60,64,[.bool false,.bool false,.bool false,.bool false,.bool false,.bool false,.bool false,.bool false,.bool false,.bool false,.bool false,.bool false,.bool false,.bool false,.bool false,.bool false,.bool false,.bool false,.bool false,.bool false,.bool false,.bool false,.bool false,.bool false,.bool false,.bool false,.bool false,.bool false,.bool false,.bool false,.bool false,.bool false,.bool false,.bool false,.bool false,.bool false,.bool false,.bool false,.bool false,.bool false,.bool false,.bool false,.bool false,.bool false,.bool false,.bool false,.bool false,.bool false,.bool false,.bool false,.bool false,.bool false,.bool false,.bool false,.bool false,.bool false,.bool false,.bool false,.bool false,.bool false,.bool false,.bool false,.bool false,.bool false],64⟩:=⟨by kernel_rfl,by kernel_rfl,by kernel_rfl,Tryd.underlying62⟩
theorem aLU:rQ Tryd.prog 65 ⟨.array 8 3,8,[.int .i64 0,.int .i64 0,.int .i64 0,.int .i64 0,.int .i64 0,.int .i64 0,.int .i64 0,.int .i64 0],64⟩:=⟨by kernel_rfl,by kernel_rfl,by kernel_rfl,Tryd.underlying65⟩
theorem aLN:rQ Tryd.prog 73 ⟨.map .i64 3 (.int .i64 0),1,[.nilm],8⟩:=⟨by kernel_rfl,by kernel_rfl,by kernel_rfl,⟨by kernel_rfl,by kernel_rfl⟩⟩
theorem aL9:rQ Tryd.prog 75 ⟨.map .i64 26 (.nils),1,[.nilm],8⟩:=⟨by kernel_rfl,by kernel_rfl,by kernel_rfl,⟨by kernel_rfl,by kernel_rfl⟩⟩
theorem aLX:rQ Tryd.prog 76 ⟨.other,1,[.nilf],8⟩:=⟨by kernel_rfl,by kernel_rfl,by kernel_rfl,(by show aBx _ _=some false;kernel_rfl)⟩
theorem aMb:rQ Tryd.prog 80 ⟨.other,1,[.nilf],8⟩:=⟨by kernel_rfl,by kernel_rfl,by kernel_rfl,(by show aBx _ _=some false;kernel_rfl)⟩
theorem aL2:rQ Tryd.prog 82 ⟨.other,1,[.nilf],8⟩:=⟨by kernel_rfl,by kernel_rfl,by kernel_rfl,(by show aBx _ _=some false;kernel_rfl)⟩
theorem aL0:rQ Tryd.prog 92 ⟨.int .u64,1,[.int .u64 0],8⟩:=⟨by kernel_rfl,by kernel_rfl,by kernel_rfl,Tryd.underlying92⟩
theorem aLZ:rQ Tryd.prog 96 ⟨.int .u32,1,[.int .u32 0],4⟩:=⟨by kernel_rfl,by kernel_rfl,by kernel_rfl,Tryd.underlying96⟩
theorem aL1:rQ Tryd.prog 98 ⟨.int .u64,1,[.int .u64 0],8⟩:=⟨by kernel_rfl,by kernel_rfl,by kernel_rfl,Tryd.underlying98⟩
theorem aL5:rQ Tryd.prog 99 ⟨.array 32 5,32,[.int .u8 0,.int .u8 0,.int .u8 0,.int .u8 0,.int .u8 0,.int .u8 0,.int .u8 0,.int .u8 0,.int .u8 0,.int .u8 0,.int .u8 0,.int .u8 0,.int .u8 0,.int .u8 0,.int .u8 0,.int .u8 0,.int .u8 0,.int .u8 0,.int .u8 0,.int .u8 0,.int .u8 0,.int .u8 0,.int .u8 0,.int .u8 0,.int .u8 0,.int .u8 0,.int .u8 0,.int .u8 0,.int .u8 0,.int .u8 0,.int .u8 0,.int .u8 0],32⟩:=⟨by kernel_rfl,by kernel_rfl,by kernel_rfl,Tryd.underlying99⟩
theorem aK7:rQ Tryd.prog 100 ⟨.array 64 5,64,[.int .u8 0,.int .u8 0,.int .u8 0,.int .u8 0,.int .u8 0,.int .u8 0,.int .u8 0,.int .u8 0,.int .u8 0,.int .u8 0,.int .u8 0,.int .u8 0,.int .u8 0,.int .u8 0,.int .u8 0,.int .u8 0,.int .u8 0,.int .u8 0,.int .u8 0,.int .u8 0,.int .u8 0,.int .u8 0,.int .u8 0,.int .u8 0,.int .u8 0,.int .u8 0,.int .u8 0,.int .u8 0,.int .u8 0,.int .u8 0,.int .u8 0,.int .u8 0,.int .u8 0,.int .u8 0,.int .u8 0,.int .u8 0,.int .u8 0,.int .u8 0,.int .u8 0,.int .u8 0,.int .u8 0,.int .u8 0,.int .u8 0,.int .u8 0,.int .u8 0,.int .u8 0,.int .u8 0,.int .u8 0,.int .u8 0,.int .u8 0,.int .u8 0,.int .u8 0,.int .u8 0,.int .u8 0,.int .u8 0,.int .u8 0,.int .u8 0,.int .u8 0,.int .u8 0,.int .u8 0,.int .u8 0,.int .u8 0,.int .u8 0,.int .u8 0],64⟩:=⟨by kernel_rfl,by kernel_rfl,by kernel_rfl,Tryd.underlying100⟩
theorem dCo:DOk Tryd.prog DC:=(cT td3 (cT td4 (cT td5 (cT aL6 (cT aLO (cT aL8 (cT aLM (cT aL7 (cT aLG (cT aLF (cT aLW (cT aLK (cT aLP (cT aLU (cT aLN (cT aL9 (cT aLX (cT aMb (cT aL2 (cT aL0 (cT aLZ (cT aL1 (cT aL5 (cT aK7 (aHd _)))))))))))))))))))))))))
theorem eZ:Tryd.prog.follows .mixedOrders=true:=by kernel_rfl
def dK (x:Int×Int):AV:=.agg [eI x.1,eI x.2]
theorem aO (x:Int×Int):(dK x).loose:=(uB (lsC (lsI _ _) (lsC (lsI _ _) lsN)))
structure aP where
 N:Int
 Pairs:List (Int×Int)
instance:Inhabited aP:=⟨⟨default,default⟩⟩
def bN (x:aP):AV:=.agg [eI x.N,(eL 2 dK default) x.Pairs]
theorem bZ (x:aP):(bN x).loose:=(uB (lsC (lsI _ _) (lsC (lsL fun _=>(aO _)) lsN)))
theorem aFQ (x:Int):∀ b vs,Vs b [eI x] vs→vs=[Value.int .i64 x]:=fun b vs h=>by simpa [Vs,V,eI] using h
theorem aGx (b:bR) (x:Int):Vs b [eI x] [Value.int .i64 x]:=⟨_,_,rfl,by simp [V,eI],rfl⟩
def PF:FuncId→Bool:=fun f=>[4,5,6,7,8,9,10,11,12,13,18,19,20,21,22,23,24,25,26,27,28,29,30,31,32,33,34,35,36,37,54,56,57,58,61,62,63,64,68,69,70,79,82,83,85,86,87,100060].contains f
theorem aJD (x0:Int) (x1:Int) (y0:Int) (y1:Int):EqV Tryd.prog 46 (.agg [eI x0,eI x1]) (.agg [eI y0,eI y1]) ((x0==y0)&&(x1==y1)):=by
 intro β w u v ox oy hu hv
 simp only [V,Vs,eI,eB] at hu hv
 obtain ⟨_,rfl,_,_,rfl,rfl,_,_,rfl,rfl,rfl⟩:=hu
 obtain ⟨_,rfl,_,_,rfl,rfl,_,_,rfl,rfl,rfl⟩:=hv
 have u3:=Tryd.underlying3
 have a3:=Tryd.isAgg3
 have z3:=Tryd.sizeOf3
 have hm:Tryd.prog.eqGuardType Tryd.prog.depth 46=false:=by kernel_rfl
 have hi:∃ i,Tryd.prog.info? 3=some i:=⟨_,rfl⟩
 obtain ⟨i,hi⟩:=hi
 have hc:Tryd.prog.cellsOf 3=1:=by kernel_rfl
 have key:(Op.equalIn 10000 46 (.agg #[.int .i64 x0,.int .i64 x1]) (.agg #[.int .i64 y0,.int .i64 y1])).run Tryd.prog w=.ok ((x0==y0)&&(x1==y1)) w:=by
  rw [show (10000:Nat)=9999+1 from rfl,run_equalIn_array w 9999 _ _ Tryd.underlying46 hi,hc,show List.range 2=[0,1] from rfl]
  simp only [Op.eqItems]
  go_simp
  by_cases h0:x0=y0<;>by_cases h1:x1=y1<;>simp [h0,h1]
 constructor
 ·simp only [Sem.run_bind,run_eqGuard_agg w _ 46 _ _ _ _ hm,Result.andThen_ok,run_eql_struct,key]
 ·simp only [Sem.run_bind,run_eqGuard_agg w _ 46 _ _ _ _ hm,Result.andThen_ok,run_neq_struct,key]
def dZ (a0:Int) (a1:Int):Option Int:=jn (fun p1:Int=>gd (a1≠0) (some (Int.tmod p1 a1))) fun k2=>cn (decide (a0<0)) (k2 (wr (0-(wr (a0+1))))) (k2 a0)
def hG:List AV→AV→Prop:=fun args r=>∃ a0 a1,args=[eI a0,eI a1]∧W (dZ a0 a1) fun y=>r=(eI y)
theorem zQ {T:Tbl} (hT:TOk Tryd.prog T) (hpf:cP T PF):FOk Tryd.prog 13 (aS hG):=by
 refine bJ hT hpf Tryd.func13 rfl Tryd.ntmps13 Tryd.results13 (by decide) ?_
 rintro args r ⟨a0,a1,rfl,h⟩
 refine ⟨nle rfl,?_,?_⟩
 ·exact (lsC (lsI _ _) (lsC (lsI _ _) lsN))
 rw [dZ.eq_1] at h
 refine aE dCo rfl fun K hK=>?_;conv=>whnf
 refine hK _ _ _ ?_
 refine aL ?_
 refine aE dCo rfl fun K hK=>?_;conv=>whnf
 refine hK _ _ _ ?_
 replace h:=cL h
 refine aQ fun K1 K2 hK1 hK2=>?_;conv=>whnf
 refine cLk h (fun _ h=>?_) (fun _ h=>?_)
 ·refine hK1 ?_
  refine cR dCo rfl fun K hK=>?_;conv=>whnf
  refine hK _ _ _ ?_
  refine tHn ?_
  refine aE dCo rfl fun K hK=>?_;conv=>whnf
  refine cO h fun _ h=>?_;conv=>whnf
  refine hK _ _ _ ?_
  refine aD ?_
  replace h:=aB h
  refine aA dCo fun K hK=>?_;conv=>whnf
  refine hK _ ?_
  cases h
  exact Wk.refl _
 refine hK2 ?_
 refine aK ?_
 refine tHn ?_
 refine aE dCo rfl fun K hK=>?_;conv=>whnf
 refine cO h fun _ h=>?_;conv=>whnf
 refine hK _ _ _ ?_
 refine aD ?_
 replace h:=aB h
 refine aA dCo fun K hK=>?_;conv=>whnf
 refine hK _ ?_
 cases h
 exact Wk.refl _
theorem lM {T:Tbl} (hT:T 13=aS hG) {args:List AV} {hp:aX} {id:Nat} {k:AV→Prop} {a0:Int} {a1:Int} {Φ:Int→Prop} (h:W (dZ a0 a1) Φ) (hw:WkL args [eI a0,eI a1]) (hk:∀ y,Φ y→k (eI y)):cU T 13 args hp id k:=by
 obtain ⟨y,e,hy⟩:=fB h
 exact aZ hT ⟨a0,a1,rfl,kD e rfl⟩ (by exact (lsI _ _)) hw (hk y hy)
def fD (a0:Int) (a1:Int):Option Int:=jn (fun p1:Int=>gd (a1≠0) (some (Int.tmod p1 a1))) fun k2=>cn (decide (a0<0)) (k2 (wr (0-(wr (a0+1))))) (k2 a0)
def hO:List AV→AV→Prop:=fun args r=>∃ a0 a1,args=[eI a0,eI a1]∧W (fD a0 a1) fun y=>r=(eI y)
theorem xS {T:Tbl} (hT:TOk Tryd.prog T) (hpf:cP T PF):FOk Tryd.prog 37 (aS hO):=by
 refine bJ hT hpf Tryd.func37 rfl Tryd.ntmps37 Tryd.results37 (by decide) ?_
 rintro args r ⟨a0,a1,rfl,h⟩
 refine ⟨nle rfl,?_,?_⟩
 ·exact (lsC (lsI _ _) (lsC (lsI _ _) lsN))
 rw [fD.eq_1] at h
 refine aE dCo rfl fun K hK=>?_;conv=>whnf
 refine hK _ _ _ ?_
 refine aL ?_
 refine aE dCo rfl fun K hK=>?_;conv=>whnf
 refine hK _ _ _ ?_
 replace h:=cL h
 refine aQ fun K1 K2 hK1 hK2=>?_;conv=>whnf
 refine cLk h (fun _ h=>?_) (fun _ h=>?_)
 ·refine hK1 ?_
  refine cR dCo rfl fun K hK=>?_;conv=>whnf
  refine hK _ _ _ ?_
  refine tHn ?_
  refine aE dCo rfl fun K hK=>?_;conv=>whnf
  refine cO h fun _ h=>?_;conv=>whnf
  refine hK _ _ _ ?_
  refine aD ?_
  replace h:=aB h
  refine aA dCo fun K hK=>?_;conv=>whnf
  refine hK _ ?_
  cases h
  exact Wk.refl _
 refine hK2 ?_
 refine aK ?_
 refine tHn ?_
 refine aE dCo rfl fun K hK=>?_;conv=>whnf
 refine cO h fun _ h=>?_;conv=>whnf
 refine hK _ _ _ ?_
 refine aD ?_
 replace h:=aB h
 refine aA dCo fun K hK=>?_;conv=>whnf
 refine hK _ ?_
 cases h
 exact Wk.refl _
theorem iI {T:Tbl} (hT:T 37=aS hO) {args:List AV} {hp:aX} {id:Nat} {k:AV→Prop} {a0:Int} {a1:Int} {Φ:Int→Prop} (h:W (fD a0 a1) Φ) (hw:WkL args [eI a0,eI a1]) (hk:∀ y,Φ y→k (eI y)):cU T 37 args hp id k:=by
 obtain ⟨y,e,hy⟩:=fB h
 exact aZ hT ⟨a0,a1,rfl,kD e rfl⟩ (by exact (lsI _ _)) hw (hk y hy)
def nO (a0:List Int) (a1:List Int) (s1:Int):Option (Ct Int Bool):=cn (decide (s1<(a0.length:Int))) (ix a0 default s1 fun e2=>ix a1 default s1 fun e3=>
  cn (e2 != e3) (some (.rt false)) (some (.nx (wr (s1+1))))) (some (.bk s1))
def eA (a0:List Int) (a1:List Int):Option Bool:=cn ((a0.length:Int) != (a1.length:Int)) (some false) (bd (lp (nO a0 a1) FU 0) fun c4=>
  smK c4 (fun s5=>some true) (fun r6=>some r6))
def jI:List AV→AV→Prop:=fun args r=>∃ a0 a1,args=[(eL 1 eI default) a0,(eL 1 eI default) a1]∧W (eA a0 a1) fun y=>r=(eB y)
theorem yI {T:Tbl} (hT:TOk Tryd.prog T) (hpf:cP T PF):FOk Tryd.prog 36 (aS jI):=by
 refine bJ hT hpf Tryd.func36 rfl Tryd.ntmps36 Tryd.results36 (by decide) ?_
 rintro args r ⟨a0,a1,rfl,h⟩
 refine ⟨nle rfl,?_,?_⟩
 ·exact (lsC (lsL fun _=>(lsI _ _)) (lsC (lsL fun _=>(lsI _ _)) lsN))
 rw [eA.eq_1] at h
 refine aE dCo rfl fun K hK=>?_;conv=>whnf
 refine hK _ _ _ ?_
 refine aL ?_
 refine aE dCo rfl fun K hK=>?_;conv=>whnf
 refine hK _ _ _ ?_
 refine aQ fun K1 K2 hK1 hK2=>?_;conv=>whnf
 refine cLk h (fun _ h=>?_) (fun _ h=>?_)
 ·refine hK1 ?_
  refine aE dCo rfl fun K hK=>?_;conv=>whnf
  refine hK _ _ _ ?_
  refine aD ?_
  refine aG ?_
  replace h:=aB h
  refine aA dCo fun K hK=>?_;conv=>whnf
  refine hK _ ?_
  cases h
  exact Wk.refl _
 refine hK2 ?_
 refine aK ?_
 refine tHn ?_
 refine aL ?_
 refine aE dCo rfl fun K hK=>?_;conv=>whnf
 refine hK _ _ _ ?_
 refine aN ?_
 replace h:=bC h
 refine jR (body:=nO _ _) rfl h [0,1] [] [] (fun kl kh ids b s=>⟨ofL ([(5,eI s)]++kl),ofH ([]++kh),b+64⟩) ?_;(conv=>whnf);refine And.intro ?_ (fun s m h=>dP ?_)
 ·refine bG ?_;conv=>whnf
  exact And.intro rfl (And.intro (aLc wkI (aLc (wkr (lsL fun _=>(lsI _ _))) (aLc (wkr (lsL fun _=>(lsI _ _))) aLn))) aLn)
 replace h:=bC h;rw [nO.eq_1] at h
 refine aL ?_
 refine aE dCo rfl fun K hK=>?_;conv=>whnf
 refine hK _ _ _ ?_
 refine aQ fun K1 K2 hK1 hK2=>?_;conv=>whnf
 refine cLk h (fun _ h=>?_) (fun _ h=>?_)
 ·refine hK1 ?_
  refine aK ?_
  refine tHn ?_
  refine aL ?_
  refine aN ?_
  refine tC dCo eZ rfl (by kernel_rfl) fun K hK=>?_;conv=>whnf
  refine kU h fun _ h=>?_;conv=>whnf
  refine gKo rfl ?_;conv=>whnf
  refine kU h fun _ h=>?_;conv=>whnf
  refine gKo rfl ?_;conv=>whnf
  refine hK _ _ _ ?_
  refine aQ fun K1 K2 hK1 hK2=>?_;conv=>whnf
  refine cLk h (fun _ h=>?_) (fun _ h=>?_)
  ·refine hK1 ?_
   refine aE dCo rfl fun K hK=>?_;conv=>whnf
   refine hK _ _ _ ?_
   refine aD ?_
   refine aC ?_
   refine aG ?_
   refine aG ?_
   refine aC ?_
   refine aG ?_
   replace h:=kJ h
   replace h:=kH h
   replace h:=aB h
   refine aA dCo fun K hK=>?_;conv=>whnf
   refine hK _ ?_
   cases h
   exact Wk.refl _
  refine hK2 ?_
  refine aK ?_
  refine iBn ?_
  refine tHn ?_
  refine cR dCo rfl fun K hK=>?_;conv=>whnf
  refine hK _ _ _ ?_
  refine tHn ?_
  replace h:=bU h
  refine ⟨_,h,?_⟩
  refine bG ?_;conv=>whnf
  exact And.intro rfl (And.intro (aLc wkI (aLc (wkr (lsL fun _=>(lsI _ _))) (aLc (wkr (lsL fun _=>(lsI _ _))) aLn))) aLn)
 refine hK2 ?_
 refine bO ?_
 refine bD ?_
 refine bD ?_
 refine bA ?_
 replace h:=dT h
 replace h:=dU h
 refine tHn ?_
 refine aE dCo rfl fun K hK=>?_;conv=>whnf
 refine hK _ _ _ ?_
 refine aD ?_
 replace h:=aB h
 refine aA dCo fun K hK=>?_;conv=>whnf
 refine hK _ ?_
 cases h
 exact Wk.refl _
theorem eY {T:Tbl} (hT:T 36=aS jI) {args:List AV} {hp:aX} {id:Nat} {k:AV→Prop} {a0:List Int} {a1:List Int} {Φ:Bool→Prop} (h:W (eA a0 a1) Φ) (hw:WkL args [(eL 1 eI default) a0,(eL 1 eI default) a1]) (hk:∀ y,Φ y→k (eB y)):cU T 36 args hp id k:=by
 obtain ⟨y,e,hy⟩:=fB h
 exact aZ hT ⟨a0,a1,rfl,kD e rfl⟩ (by exact (lsB _)) hw (hk y hy)
def nX (a0:aP) (a1:aP) (s3:Int):Option (Ct Int Bool):=cn (decide (s3<(a0.Pairs.length:Int))) (ix a0.Pairs default s3 fun e4=>
  ix a1.Pairs default s3 fun e5=>cn (!((e4.1==e5.1)&&(e4.2==e5.2))) (some (.rt false)) (some (.nx (wr (s3+1))))) (some (.bk s3))
def jM (a0:aP) (a1:aP):Option Bool:=jn (fun p1:Bool=>cn p1 (some false) (bd (lp (nX a0 a1) FU 0) fun c6=>smK c6 (fun s7=>
  some true) (fun r8=>some r8))) fun k2=>cn (a0.N != a1.N) (k2 true) (k2 ((a0.Pairs.length:Int) != (a1.Pairs.length:Int)))
def jW:List AV→AV→Prop:=fun args r=>∃ a0 a1,args=[bN a0,bN a1]∧W (jM a0 a1) fun y=>r=(eB y)
theorem aAz {T:Tbl} (hT:TOk Tryd.prog T) (hpf:cP T PF):FOk Tryd.prog 26 (aS jW):=by
 refine bJ hT hpf Tryd.func26 rfl Tryd.ntmps26 Tryd.results26 (by decide) ?_
 rintro args r ⟨a0,a1,rfl,h⟩
 refine ⟨nle rfl,?_,?_⟩
 ·exact (lsC (bZ _) (lsC (bZ _) lsN))
 rw [jM.eq_1] at h
 refine aE dCo rfl fun K hK=>?_;conv=>whnf
 refine hK _ _ _ ?_
 refine aL ?_
 refine aE dCo rfl fun K hK=>?_;conv=>whnf
 replace h:=cL h
 refine nlA rfl ?_;conv=>whnf
 refine bKo rfl ?_;conv=>whnf
 refine gKo rfl ?_;conv=>whnf
 refine nlA rfl ?_;conv=>whnf
 refine bKo rfl ?_;conv=>whnf
 refine gKo rfl ?_;conv=>whnf
 refine cLk h (fun _ h=>?_) (fun _ h=>?_)<;>(conv=>whnf)
 ·refine hK _ _ _ ?_
  refine aQ fun K1 K2 hK1 hK2=>?_;conv=>whnf
  refine hK1 ?_
  replace h:=fC h
  refine aE dCo rfl fun K hK=>?_;conv=>whnf
  refine hK _ _ _ ?_
  refine aD ?_
  refine aG ?_
  replace h:=aB h
  refine aA dCo fun K hK=>?_;conv=>whnf
  refine hK _ ?_
  cases h
  exact Wk.refl _
 refine nlA rfl ?_;conv=>whnf
 refine bKo rfl ?_;conv=>whnf
 refine gKo rfl ?_;conv=>whnf
 refine nlA rfl ?_;conv=>whnf
 refine bKo rfl ?_;conv=>whnf
 refine gKo rfl ?_;conv=>whnf
 refine hK _ _ _ ?_
 refine aQ fun K1 K2 hK1 hK2=>?_;conv=>whnf
 refine cLk h (fun _ h=>?_) (fun _ h=>?_)
 ·refine hK1 ?_
  refine aE dCo rfl fun K hK=>?_;conv=>whnf
  refine hK _ _ _ ?_
  refine aD ?_
  refine aG ?_
  replace h:=aB h
  refine aA dCo fun K hK=>?_;conv=>whnf
  refine hK _ ?_
  cases h
  exact Wk.refl _
 refine hK2 ?_
 refine aK ?_
 refine tHn ?_
 refine aL ?_
 refine aE dCo rfl fun K hK=>?_;conv=>whnf
 refine hK _ _ _ ?_
 refine aN ?_
 replace h:=bC h
 refine jR (body:=nX _ _) rfl h [2,3] [2,3] [] (fun kl kh ids b s=>⟨ofL ([(5,eI s)]++kl),ofH ([]++kh),b+64⟩) ?_;(conv=>whnf);refine And.intro ?_ (fun s m h=>dP ?_)
 ·refine bG ?_;conv=>whnf
  exact And.intro rfl (And.intro (aLc wkI (aLc (WkR.ptr (fun _=>rfl)) (aLc (WkR.ptr (fun _=>rfl)) aLn))) (aLc ⟨some _,rfl,bRc rfl (cKc wkI (cKc (wkr (lsL fun _=>(aO _))) cKn))⟩ (aLc ⟨some _,rfl,bRc rfl (cKc wkI (cKc (wkr (lsL fun _=>(aO _))) cKn))⟩ aLn)))
 replace h:=bC h;rw [nX.eq_1] at h
 refine aL ?_
 refine aE dCo rfl fun K hK=>?_;conv=>whnf
 refine nlA rfl ?_;conv=>whnf
 refine bKo rfl ?_;conv=>whnf
 refine gKo rfl ?_;conv=>whnf
 refine hK _ _ _ ?_
 refine aQ fun K1 K2 hK1 hK2=>?_;conv=>whnf
 refine cLk h (fun _ h=>?_) (fun _ h=>?_)
 ·refine hK1 ?_
  refine aK ?_
  refine tHn ?_
  refine aL ?_
  refine aN ?_
  refine tC dCo eZ rfl (by kernel_rfl) fun K hK=>?_;conv=>whnf
  refine nlA rfl ?_;conv=>whnf
  refine bKo rfl ?_;conv=>whnf
  refine gKo rfl ?_;conv=>whnf
  refine kU h fun _ h=>?_;conv=>whnf
  refine nlA rfl ?_;conv=>whnf
  refine nlA rfl ?_;conv=>whnf
  refine bKo rfl ?_;conv=>whnf
  refine gKo rfl ?_;conv=>whnf
  refine kU h fun _ h=>?_;conv=>whnf
  refine nlA rfl ?_;conv=>whnf
  refine aKs (aJD _ _ _ _) ?_;conv=>whnf
  refine hK _ _ _ ?_
  refine aQ fun K1 K2 hK1 hK2=>?_;conv=>whnf
  refine cLk h (fun _ h=>?_) (fun _ h=>?_)
  ·refine hK1 ?_
   refine aE dCo rfl fun K hK=>?_;conv=>whnf
   refine hK _ _ _ ?_
   refine aD ?_
   refine aC ?_
   refine aG ?_
   refine aG ?_
   refine aC ?_
   refine aG ?_
   replace h:=kJ h
   replace h:=kH h
   replace h:=aB h
   refine aA dCo fun K hK=>?_;conv=>whnf
   refine hK _ ?_
   cases h
   exact Wk.refl _
  refine hK2 ?_
  refine aK ?_
  refine iBn ?_
  refine tHn ?_
  refine cR dCo rfl fun K hK=>?_;conv=>whnf
  refine hK _ _ _ ?_
  refine tHn ?_
  replace h:=bU h
  refine ⟨_,h,?_⟩
  refine bG ?_;conv=>whnf
  exact And.intro rfl (And.intro (aLc wkI (aLc (WkR.ptr (fun _=>rfl)) (aLc (WkR.ptr (fun _=>rfl)) aLn))) (aLc ⟨some _,rfl,bRc rfl (cKc wkI (cKc (wkr (lsL fun _=>(aO _))) cKn))⟩ (aLc ⟨some _,rfl,bRc rfl (cKc wkI (cKc (wkr (lsL fun _=>(aO _))) cKn))⟩ aLn)))
 refine hK2 ?_
 refine bO ?_
 refine bD ?_
 refine bD ?_
 refine bA ?_
 replace h:=dT h
 replace h:=dU h
 refine tHn ?_
 refine aE dCo rfl fun K hK=>?_;conv=>whnf
 refine hK _ _ _ ?_
 refine aD ?_
 replace h:=aB h
 refine aA dCo fun K hK=>?_;conv=>whnf
 refine hK _ ?_
 cases h
 exact Wk.refl _
theorem oW {T:Tbl} (hT:T 26=aS jW) {args:List AV} {hp:aX} {id:Nat} {k:AV→Prop} {a0:aP} {a1:aP} {Φ:Bool→Prop} (h:W (jM a0 a1) Φ) (hw:WkL args [bN a0,bN a1]) (hk:∀ y,Φ y→k (eB y)):cU T 26 args hp id k:=by
 obtain ⟨y,e,hy⟩:=fB h
 exact aZ hT ⟨a0,a1,rfl,kD e rfl⟩ (by exact (lsB _)) hw (hk y hy)
def qC (a0:List Int) (a1:Int) (s1:Int):Option (Ct Int Bool):=cn (decide (s1<(a0.length:Int))) (ix a0 default s1 fun e2=>cn (e2 ==
  a1) (some (.rt true)) (some (.nx (wr (s1+1))))) (some (.bk s1))
def mR (a0:List Int) (a1:Int):Option Bool:=bd (lp (qC a0 a1) FU 0) fun c3=>smK c3 (fun s4=>some false) (fun r5=>some r5)
def mL:List AV→AV→Prop:=fun args r=>∃ a0 a1,args=[(eL 1 eI default) a0,eI a1]∧W (mR a0 a1) fun y=>r=(eB y)
theorem aB6 {T:Tbl} (hT:TOk Tryd.prog T) (hpf:cP T PF):FOk Tryd.prog 23 (aS mL):=by
 refine bJ hT hpf Tryd.func23 rfl Tryd.ntmps23 Tryd.results23 (by decide) ?_
 rintro args r ⟨a0,a1,rfl,h⟩
 refine ⟨nle rfl,?_,?_⟩
 ·exact (lsC (lsL fun _=>(lsI _ _)) (lsC (lsI _ _) lsN))
 rw [mR.eq_1] at h
 refine aE dCo rfl fun K hK=>?_;conv=>whnf
 refine hK _ _ _ ?_
 refine aL ?_
 refine aE dCo rfl fun K hK=>?_;conv=>whnf
 refine hK _ _ _ ?_
 refine aN ?_
 replace h:=bC h
 refine jR (body:=qC _ _) rfl h [0,1] [] [] (fun kl kh ids b s=>⟨ofL ([(5,eI s)]++kl),ofH ([]++kh),b+64⟩) ?_;(conv=>whnf);refine And.intro ?_ (fun s m h=>dP ?_)
 ·refine bG ?_;conv=>whnf
  exact And.intro rfl (And.intro (aLc wkI (aLc (wkr (lsL fun _=>(lsI _ _))) (aLc wkI aLn))) aLn)
 replace h:=bC h;rw [qC.eq_1] at h
 refine aL ?_
 refine aE dCo rfl fun K hK=>?_;conv=>whnf
 refine hK _ _ _ ?_
 refine aQ fun K1 K2 hK1 hK2=>?_;conv=>whnf
 refine cLk h (fun _ h=>?_) (fun _ h=>?_)
 ·refine hK1 ?_
  refine aK ?_
  refine tHn ?_
  refine aL ?_
  refine aN ?_
  refine aE dCo rfl fun K hK=>?_;conv=>whnf
  refine kU h fun _ h=>?_;conv=>whnf
  refine gKo rfl ?_;conv=>whnf
  refine hK _ _ _ ?_
  refine aQ fun K1 K2 hK1 hK2=>?_;conv=>whnf
  refine cLk h (fun _ h=>?_) (fun _ h=>?_)
  ·refine hK1 ?_
   refine aE dCo rfl fun K hK=>?_;conv=>whnf
   refine hK _ _ _ ?_
   refine aD ?_
   refine aC ?_
   refine aG ?_
   refine aG ?_
   refine aC ?_
   refine aG ?_
   replace h:=kJ h
   replace h:=kH h
   replace h:=aB h
   refine aA dCo fun K hK=>?_;conv=>whnf
   refine hK _ ?_
   cases h
   exact Wk.refl _
  refine hK2 ?_
  refine aK ?_
  refine iBn ?_
  refine tHn ?_
  refine cR dCo rfl fun K hK=>?_;conv=>whnf
  refine hK _ _ _ ?_
  refine tHn ?_
  replace h:=bU h
  refine ⟨_,h,?_⟩
  refine bG ?_;conv=>whnf
  exact And.intro rfl (And.intro (aLc wkI (aLc (wkr (lsL fun _=>(lsI _ _))) (aLc wkI aLn))) aLn)
 refine hK2 ?_
 refine bO ?_
 refine bD ?_
 refine bD ?_
 refine bA ?_
 replace h:=dT h
 replace h:=dU h
 refine tHn ?_
 refine aE dCo rfl fun K hK=>?_;conv=>whnf
 refine hK _ _ _ ?_
 refine aD ?_
 replace h:=aB h
 refine aA dCo fun K hK=>?_;conv=>whnf
 refine hK _ ?_
 cases h
 exact Wk.refl _
theorem qW {T:Tbl} (hT:T 23=aS mL) {args:List AV} {hp:aX} {id:Nat} {k:AV→Prop} {a0:List Int} {a1:Int} {Φ:Bool→Prop} (h:W (mR a0 a1) Φ) (hw:WkL args [(eL 1 eI default) a0,eI a1]) (hk:∀ y,Φ y→k (eB y)):cU T 23 args hp id k:=by
 obtain ⟨y,e,hy⟩:=fB h
 exact aZ hT ⟨a0,a1,rfl,kD e rfl⟩ (by exact (lsB _)) hw (hk y hy)
def lQ (a0:aP) (a1:Int) (a2:Int) (s1:Int):Option (Ct Int Bool):=cn (decide (s1<(a0.Pairs.length:Int))) (ix a0.Pairs default s1 fun e2=>
  cn ((e2.1==a1)&&(e2.2==a2)) (some (.rt true)) (some (.nx (wr (s1+1))))) (some (.bk s1))
def jF (a0:aP) (a1:Int) (a2:Int):Option Bool:=bd (lp (lQ a0 a1 a2) FU 0) fun c3=>smK c3 (fun s4=>some false) (fun r5=>some r5)
def gV:List AV→AV→Prop:=fun args r=>∃ a0 a1 a2,args=[bN a0,eI a1,eI a2]∧W (jF a0 a1 a2) fun y=>r=(eB y)
theorem uA {T:Tbl} (hT:TOk Tryd.prog T) (hpf:cP T PF):FOk Tryd.prog 70 (aS gV):=by
 refine bJ hT hpf Tryd.func70 rfl Tryd.ntmps70 Tryd.results70 (by decide) ?_
 rintro args r ⟨a0,a1,a2,rfl,h⟩
 refine ⟨nle rfl,?_,?_⟩
 ·exact (lsC (bZ _) (lsC (lsI _ _) (lsC (lsI _ _) lsN)))
 rw [jF.eq_1] at h
 refine aE dCo rfl fun K hK=>?_;conv=>whnf
 refine hK _ _ _ ?_
 refine aL ?_
 refine aE dCo rfl fun K hK=>?_;conv=>whnf
 refine hK _ _ _ ?_
 refine aN ?_
 replace h:=bC h
 refine jR (body:=lQ _ _ _) rfl h [1,2,3] [3] [] (fun kl kh ids b s=>⟨ofL ([(7,eI s)]++kl),ofH ([]++kh),b+64⟩) ?_;(conv=>whnf);refine And.intro ?_ (fun s m h=>dP ?_)
 ·refine bG ?_;conv=>whnf
  exact And.intro rfl (And.intro (aLc wkI (aLc wkI (aLc wkI (aLc (WkR.ptr (fun _=>rfl)) aLn)))) (aLc ⟨some _,rfl,bRc rfl (cKc wkI (cKc (wkr (lsL fun _=>(aO _))) cKn))⟩ aLn))
 replace h:=bC h;rw [lQ.eq_1] at h
 refine aL ?_
 refine aE dCo rfl fun K hK=>?_;conv=>whnf
 refine nlA rfl ?_;conv=>whnf
 refine bKo rfl ?_;conv=>whnf
 refine gKo rfl ?_;conv=>whnf
 refine hK _ _ _ ?_
 refine aQ fun K1 K2 hK1 hK2=>?_;conv=>whnf
 refine cLk h (fun _ h=>?_) (fun _ h=>?_)
 ·refine hK1 ?_
  refine aK ?_
  refine tHn ?_
  refine aL ?_
  refine aN ?_
  refine aE dCo rfl fun K hK=>?_;conv=>whnf
  refine nlA rfl ?_;conv=>whnf
  refine bKo rfl ?_;conv=>whnf
  refine gKo rfl ?_;conv=>whnf
  refine kU h fun _ h=>?_;conv=>whnf
  refine nlA rfl ?_;conv=>whnf
  refine aKw (aJD _ _ _ _) ?_;conv=>whnf
  refine hK _ _ _ ?_
  refine aQ fun K1 K2 hK1 hK2=>?_;conv=>whnf
  refine cLk h (fun _ h=>?_) (fun _ h=>?_)
  ·refine hK1 ?_
   refine aE dCo rfl fun K hK=>?_;conv=>whnf
   refine hK _ _ _ ?_
   refine aD ?_
   refine aC ?_
   refine aG ?_
   refine aG ?_
   refine aC ?_
   refine aG ?_
   replace h:=kJ h
   replace h:=kH h
   replace h:=aB h
   refine aA dCo fun K hK=>?_;conv=>whnf
   refine hK _ ?_
   cases h
   exact Wk.refl _
  refine hK2 ?_
  refine aK ?_
  refine iBn ?_
  refine tHn ?_
  refine cR dCo rfl fun K hK=>?_;conv=>whnf
  refine hK _ _ _ ?_
  refine tHn ?_
  replace h:=bU h
  refine ⟨_,h,?_⟩
  refine bG ?_;conv=>whnf
  exact And.intro rfl (And.intro (aLc wkI (aLc wkI (aLc wkI (aLc (WkR.ptr (fun _=>rfl)) aLn)))) (aLc ⟨some _,rfl,bRc rfl (cKc wkI (cKc (wkr (lsL fun _=>(aO _))) cKn))⟩ aLn))
 refine hK2 ?_
 refine bO ?_
 refine bD ?_
 refine bD ?_
 refine bA ?_
 replace h:=dT h
 replace h:=dU h
 refine tHn ?_
 refine aE dCo rfl fun K hK=>?_;conv=>whnf
 refine hK _ _ _ ?_
 refine aD ?_
 replace h:=aB h
 refine aA dCo fun K hK=>?_;conv=>whnf
 refine hK _ ?_
 cases h
 exact Wk.refl _
theorem sJ {T:Tbl} (hT:T 70=aS gV) {args:List AV} {hp:aX} {id:Nat} {k:AV→Prop} {a0:aP} {a1:Int} {a2:Int} {Φ:Bool→Prop} (h:W (jF a0 a1 a2) Φ) (hw:WkL args [bN a0,eI a1,eI a2]) (hk:∀ y,Φ y→k (eB y)):cU T 70 args hp id k:=by
 obtain ⟨y,e,hy⟩:=fB h
 exact aZ hT ⟨a0,a1,a2,rfl,kD e rfl⟩ (by exact (lsB _)) hw (hk y hy)
def fT (a0:Int):Option Bool:=some (a0 != a0)
def fQ:List AV→AV→Prop:=fun args r=>∃ a0,args=[eI a0]∧W (fT a0) fun y=>r=(eB y)
theorem tF {T:Tbl} (hT:TOk Tryd.prog T) (hpf:cP T PF):FOk Tryd.prog 83 (aS fQ):=by
 refine bJ hT hpf Tryd.func83 rfl Tryd.ntmps83 Tryd.results83 (by decide) ?_
 rintro args r ⟨a0,rfl,h⟩
 refine ⟨nle rfl,?_,?_⟩
 ·exact (lsC (lsI _ _) lsN)
 rw [fT.eq_1] at h
 refine aE dCo rfl fun K hK=>?_;conv=>whnf
 refine hK _ _ _ ?_
 refine aE dCo rfl fun K hK=>?_;conv=>whnf
 refine hK _ _ _ ?_
 refine aD ?_
 replace h:=aB h
 refine aA dCo fun K hK=>?_;conv=>whnf
 refine hK _ ?_
 cases h
 exact Wk.refl _
theorem lV {T:Tbl} (hT:T 83=aS fQ) {args:List AV} {hp:aX} {id:Nat} {k:AV→Prop} {a0:Int} {Φ:Bool→Prop} (h:W (fT a0) Φ) (hw:WkL args [eI a0]) (hk:∀ y,Φ y→k (eB y)):cU T 83 args hp id k:=by
 obtain ⟨y,e,hy⟩:=fB h
 exact aZ hT ⟨a0,rfl,kD e rfl⟩ (by exact (lsB _)) hw (hk y hy)
def dW (a0:Int×Int) (c900:aP):Option Bool:=jn (fun p1:Bool=>some p1) fun k2=>
  cn (decide ((aJ7 a0.1 a0.2)<0)) (k2 true) (cn (decide ((aIM a0.1 a0.2)≥c900.N)) (k2 true) (k2 (a0.1==a0.2)))
def dV:List AV→AV→Prop:=fun args r=>∃ a0 c900,args=[dK a0,.ep [eI c900.N,(eL 2 dK default) c900.Pairs] 0]∧W (dW a0 c900) fun y=>r=(eB y)
theorem sE {T:Tbl} (hT:TOk Tryd.prog T) (hpf:cP T PF):FOk Tryd.prog 69 (aS dV):=by
 refine bJ hT hpf Tryd.func69 rfl Tryd.ntmps69 Tryd.results69 (by decide) ?_
 rintro args r ⟨a0,c900,rfl,h⟩
 refine ⟨nle rfl,?_,?_⟩
 ·exact (lsC (aO _) (lsC (lsE (lsC (lsI _ _) (lsC (lsL fun _=>(aO _)) lsN))) lsN))
 rw [dW.eq_1] at h
 refine aE dCo rfl fun K hK=>?_;conv=>whnf
 refine hK _ _ _ ?_
 refine aE dCo rfl fun K hK=>?_;conv=>whnf
 replace h:=cL h
 refine And.intro (by decide) ?_;conv=>whnf
 refine nlA rfl ?_;conv=>whnf
 refine bKo rfl ?_;conv=>whnf
 refine gKo rfl ?_;conv=>whnf
 refine And.intro (by decide) ?_;conv=>whnf
 refine nlA rfl ?_;conv=>whnf
 refine bKo rfl ?_;conv=>whnf
 refine gKo rfl ?_;conv=>whnf
 refine cLk h (fun _ h=>?_) (fun _ h=>?_)<;>(conv=>whnf)
 ·refine hK _ _ _ ?_
  refine aD ?_
  replace h:=aB h
  refine aA dCo fun K hK=>?_;conv=>whnf
  refine hK _ ?_
  cases h
  exact Wk.refl _
 refine And.intro (by decide) ?_;conv=>whnf
 refine nlA rfl ?_;conv=>whnf
 refine bKo rfl ?_;conv=>whnf
 refine gKo rfl ?_;conv=>whnf
 refine And.intro (by decide) ?_;conv=>whnf
 refine nlA rfl ?_;conv=>whnf
 refine bKo rfl ?_;conv=>whnf
 refine gKo rfl ?_;conv=>whnf
 refine gKo rfl ?_;conv=>whnf
 refine cLk h (fun _ h=>?_) (fun _ h=>?_)<;>(conv=>whnf)
 ·refine hK _ _ _ ?_
  refine aD ?_
  replace h:=aB h
  refine aA dCo fun K hK=>?_;conv=>whnf
  refine hK _ ?_
  cases h
  exact Wk.refl _
 refine And.intro (by decide) ?_;conv=>whnf
 refine nlA rfl ?_;conv=>whnf
 refine bKo rfl ?_;conv=>whnf
 refine gKo rfl ?_;conv=>whnf
 refine And.intro (by decide) ?_;conv=>whnf
 refine nlA rfl ?_;conv=>whnf
 refine bKo rfl ?_;conv=>whnf
 refine gKo rfl ?_;conv=>whnf
 refine hK _ _ _ ?_
 refine aD ?_
 replace h:=aB h
 refine aA dCo fun K hK=>?_;conv=>whnf
 refine hK _ ?_
 cases h
 exact Wk.refl _
theorem pO {T:Tbl} (hT:T 69=aS dV) {args:List AV} {hp:aX} {id:Nat} {k:AV→aX→Prop} {a0:Int×Int} {c900:aP} {Φ:Bool→Prop} (h:W (dW a0 c900) Φ) (hw:WkL args [dK a0,.ep [eI c900.N,(eL 2 dK default) c900.Pairs] 0]) (hk:∀ y,Φ y→k (eB y) hp):qA T 69 args hp id k:=by
 obtain ⟨y,e,hy⟩:=fB h
 exact aBX hT ⟨a0,c900,rfl,kD e rfl⟩ (by exact (lsB _)) hw (hk y hy)
def nI (a0:List Int) (s1:Int):Option (Ct Int Int):=cn (decide (s1<(a0.length:Int))) (ix a0 default s1 fun e2=>cn (e2 !=
  0) (some (.rt e2)) (some (.nx (wr (s1+1))))) (some (.bk s1))
def lW (a0:List Int):Option Int:=bd (lp (nI a0) FU 0) fun c3=>smK c3 (fun s4=>some 0) (fun r5=>some r5)
def jV:List AV→AV→Prop:=fun args r=>∃ a0,args=[(eL 1 eI default) a0]∧W (lW a0) fun y=>r=(eI y)
theorem aAm {T:Tbl} (hT:TOk Tryd.prog T) (hpf:cP T PF):FOk Tryd.prog 62 (aS jV):=by
 refine bJ hT hpf Tryd.func62 rfl Tryd.ntmps62 Tryd.results62 (by decide) ?_
 rintro args r ⟨a0,rfl,h⟩
 refine ⟨nle rfl,?_,?_⟩
 ·exact (lsC (lsL fun _=>(lsI _ _)) lsN)
 rw [lW.eq_1] at h
 refine aE dCo rfl fun K hK=>?_;conv=>whnf
 refine hK _ _ _ ?_
 refine aE dCo rfl fun K hK=>?_;conv=>whnf
 refine hK _ _ _ ?_
 refine aL ?_
 refine aE dCo rfl fun K hK=>?_;conv=>whnf
 refine hK _ _ _ ?_
 refine aN ?_
 replace h:=bC h
 refine jR (body:=nI _) rfl h [3,6,7] [] [] (fun kl kh ids b s=>⟨ofL ([(8,eI s)]++kl),ofH ([]++kh),b+64⟩) ?_;(conv=>whnf);refine And.intro ?_ (fun s m h=>dP ?_)
 ·refine bG ?_;conv=>whnf
  exact And.intro rfl (And.intro (aLc wkI (aLc wkI (aLc (wkr (lsL fun _=>(lsI _ _))) (aLc wkI aLn)))) aLn)
 replace h:=bC h;rw [nI.eq_1] at h
 refine aE dCo rfl fun K hK=>?_;conv=>whnf
 refine hK _ _ _ ?_
 refine aL ?_
 refine aQ fun K1 K2 hK1 hK2=>?_;conv=>whnf
 refine cLk h (fun _ h=>?_) (fun _ h=>?_)
 ·refine hK1 ?_
  refine aK ?_
  refine tHn ?_
  refine aL ?_
  refine aN ?_
  refine aE dCo rfl fun K hK=>?_;conv=>whnf
  refine kU h fun _ h=>?_;conv=>whnf
  refine gKo rfl ?_;conv=>whnf
  refine hK _ _ _ ?_
  refine aE dCo rfl fun K hK=>?_;conv=>whnf
  refine hK _ _ _ ?_
  refine aQ fun K1 K2 hK1 hK2=>?_;conv=>whnf
  refine cLk h (fun _ h=>?_) (fun _ h=>?_)
  ·refine hK1 ?_
   refine aE dCo rfl fun K hK=>?_;conv=>whnf
   refine hK _ _ _ ?_
   refine aD ?_
   refine aC ?_
   refine aG ?_
   refine aG ?_
   refine aC ?_
   refine aG ?_
   replace h:=kJ h
   replace h:=kH h
   replace h:=aB h
   refine aA dCo fun K hK=>?_;conv=>whnf
   refine hK _ ?_
   cases h
   exact Wk.refl _
  refine hK2 ?_
  refine aK ?_
  refine iBn ?_
  refine tHn ?_
  refine cR dCo rfl fun K hK=>?_;conv=>whnf
  refine hK _ _ _ ?_
  refine tHn ?_
  replace h:=bU h
  refine ⟨_,h,?_⟩
  refine bG ?_;conv=>whnf
  exact And.intro rfl (And.intro (aLc wkI (aLc wkI (aLc (wkr (lsL fun _=>(lsI _ _))) (aLc wkI aLn)))) aLn)
 refine hK2 ?_
 refine bO ?_
 refine bD ?_
 refine bD ?_
 refine bA ?_
 replace h:=dT h
 replace h:=dU h
 refine tHn ?_
 refine aE dCo rfl fun K hK=>?_;conv=>whnf
 refine hK _ _ _ ?_
 refine aD ?_
 replace h:=aB h
 refine aA dCo fun K hK=>?_;conv=>whnf
 refine hK _ ?_
 cases h
 exact Wk.refl _
theorem uS {T:Tbl} (hT:T 62=aS jV) {args:List AV} {hp:aX} {id:Nat} {k:AV→Prop} {a0:List Int} {Φ:Int→Prop} (h:W (lW a0) Φ) (hw:WkL args [(eL 1 eI default) a0]) (hk:∀ y,Φ y→k (eI y)):cU T 62 args hp id k:=by
 obtain ⟨y,e,hy⟩:=fB h
 exact aZ hT ⟨a0,rfl,kD e rfl⟩ (by exact (lsI _ _)) hw (hk y hy)
  def fU (a0:aP) (s16:Int×(Ar 8)) (s18:Int×(Ar 8)):Option (Ct (Int×(Ar 8)) ((Ar 8)×Bool)):=cn (decide (s18.1<a0.N)) (gd (0≤s18.1∧s18.1<(8:Int)) (gd (0≤s18.1) (cn ((tI .i64 (vX .i64 (s16.2.at1 s18.1) s18.1) 1) ==
  1) (some (.rt (s16.2,false))) (some (.nx ((wr (s18.1+1)),s18.2)))))) (some (.bk (s18.1,s18.2)))
  def eO (a0:aP) (s7:Int×(Ar 8)) (s8:Int×(Ar 8)):Option (Ct (Int×(Ar 8)) ((Ar 8)×Bool)):=cn (decide (s8.1<a0.N)) (gd (0≤s8.1∧s8.1<(8:Int)) (gd (0≤s7.1) (jn (fun p9:(Ar 8)=>
  some (.nx ((wr (s8.1+1)),p9))) fun k10=>cn ((tI .i64 (vX .i64 (s8.2.at1 s8.1) s7.1) 1) ==
  1) (gd (0≤s8.1∧s8.1<(8:Int)) (gd (0≤s7.1∧s7.1<(8:Int)) (gd (0≤s8.1∧s8.1<(8:Int)) (let m11:=s8.2.st1 s8.1 (bor .i64 (s8.2.at1 s8.1) (s8.2.at1 s7.1));
  k10 m11)))) (k10 s8.2)))) (some (.bk (s8.1,s8.2)))
  def eU (a0:aP) (s7:Int×(Ar 8)):Option (Ct (Int×(Ar 8)) ((Ar 8)×Bool)):=cn (decide (s7.1<a0.N)) (bd (lp (eO a0 s7) FU (0,s7.2)) fun c12=>
  smK c12 (fun s13=>some (.nx ((wr (s7.1+1)),s13.2))) (fun r14=>some (.rt r14))) (some (.bk (s7.1,s7.2)))
  def fA (a0:aP) (s1:Int×(Ar 8)):Option (Ct (Int×(Ar 8)) ((Ar 8)×Bool)):=cn (decide (s1.1<(a0.Pairs.length:Int))) (ix a0.Pairs default s1.1 fun e2=>
  gd (0≤e2.2∧e2.2<(8:Int)) (gd (0≤e2.1) (gd (0≤e2.2∧e2.2<(8:Int)) (let m3:=s1.2.st1 e2.2 (bor .i64 (s1.2.at1 e2.2) (aEP .i64 1 e2.1));
  some (.nx ((wr (s1.1+1)),m3)))))) (some (.bk (s1.1,s1.2)))
def fK (a0:aP):Option ((Ar 8)×Bool):=bd (lp (fA a0) FU (0,(Ar.zero 8))) fun c4=>smK c4 (fun s5=>
  bd (lp (eU a0) FU (0,s5.2)) fun c15=>smK c15 (fun s16=>bd (lp (fU a0 s16) FU (0,(Ar.zero 8))) fun c19=>smK c19 (fun s20=>
  some (s16.2,true)) (fun r21=>some r21)) (fun r17=>some r17)) (fun r6=>some r6)
def gM:List AV→AV→Prop:=fun args r=>∃ a0,args=[bN a0]∧W (fK a0) fun y=>r=(.tup [eAr y.1,eB y.2])
theorem uF {T:Tbl} (hT:TOk Tryd.prog T) (hpf:cP T PF):FOk Tryd.prog 79 (aS gM):=by
 refine bJ hT hpf Tryd.func79 rfl Tryd.ntmps79 Tryd.results79 (by decide) ?_
 rintro args r ⟨a0,rfl,h⟩
 refine ⟨nle rfl,?_,?_⟩
 ·exact (lsC (bZ _) lsN)
 rw [fK.eq_1] at h
 refine aE dCo rfl fun K hK=>?_;conv=>whnf
 refine hK _ _ _ ?_
 refine aE dCo rfl fun K hK=>?_;conv=>whnf
 refine hK _ _ _ ?_
 refine aL ?_
 refine aE dCo rfl fun K hK=>?_;conv=>whnf
 refine nlA rfl ?_;conv=>whnf
 refine bKo rfl ?_;conv=>whnf
 refine gKo rfl ?_;conv=>whnf
 refine hK _ _ _ ?_
 refine aN ?_
 replace h:=bC h
 refine gQ (body:=fA _) rfl h [1,2,4,11,12] [1] [2] [4] (fun kl kh kr ids b s=>⟨ofL ([(13,eI s.1)]++kl),ofH (([]++kh)++([(aAH ids 0,.cells (cA s.2))]++kr)),b+128⟩) ?_;(conv=>whnf);refine And.intro ?_ (fun s m h=>dP ?_)
 ·refine bM ?_;conv=>whnf
  exact And.intro rfl (And.intro (aLc wkI (aLc (WkR.ptr (fun _=>rfl)) (aLc (WkR.ptr (fun _=>rfl)) (aLc (WkR.ptr (fun _=>rfl)) (aLc (wkr (lsL fun _=>(aO _))) (aLc wkI aLn)))))) (aLc ⟨some _,rfl,bRc rfl (cKc wkI (cKc (wkr (lsL fun _=>(aO _))) cKn))⟩ (aLc ⟨some _,rfl,aY (x:=(Ar.zero 8)) rfl rfl⟩ (aLc ⟨some _,rfl,aY (x:=(Ar.zero 8)) rfl rfl⟩ aLn))))
 replace h:=bC h;rw [fA.eq_1] at h
 refine aE dCo rfl fun K hK=>?_;conv=>whnf
 refine hK _ _ _ ?_
 refine aL ?_
 refine aQ fun K1 K2 hK1 hK2=>?_;conv=>whnf
 refine cLk h (fun _ h=>?_) (fun _ h=>?_)
 ·refine hK1 ?_
  refine aK ?_
  refine tHn ?_
  refine aL ?_
  refine aN ?_
  refine aE dCo rfl fun K hK=>?_;conv=>whnf
  refine kU h fun _ h=>?_;conv=>whnf
  refine nlA rfl ?_;conv=>whnf
  refine bKo rfl ?_;conv=>whnf
  refine And.intro rfl (And.intro (nle rfl) (And.intro rfl ?_));conv=>whnf
  refine hK _ _ _ ?_
  refine aAL dCo eZ rfl (by kernel_rfl) fun K hK=>?_;conv=>whnf
  refine And.intro (by decide) ?_;conv=>whnf
  refine nlA rfl ?_;conv=>whnf
  refine bKo rfl ?_;conv=>whnf
  refine gKo rfl ?_;conv=>whnf
  refine cO h fun hx215 h=>?_;conv=>whnf
  refine nlA rfl ?_;conv=>whnf
  refine bKo rfl ?_;conv=>whnf
  refine dS rfl hx215 ?_;conv=>whnf
  refine And.intro (by decide) ?_;conv=>whnf
  refine nlA rfl ?_;conv=>whnf
  refine bKo rfl ?_;conv=>whnf
  refine gKo rfl ?_;conv=>whnf
  refine cO h fun _ h=>?_;conv=>whnf
  refine cO h fun hx216 h=>?_;conv=>whnf
  refine bKo rfl ?_;conv=>whnf
  refine wU rfl hx216 rfl rfl ?_;conv=>whnf
  refine hK _ _ _ ?_
  refine iBn ?_
  refine tHn ?_
  refine cR dCo rfl fun K hK=>?_;conv=>whnf
  refine hK _ _ _ ?_
  refine tHn ?_
  replace h:=bU h
  refine ⟨_,h,?_⟩
  refine bM ?_;conv=>whnf
  exact And.intro rfl (And.intro (aLc wkI (aLc (WkR.ptr (fun _=>rfl)) (aLc (WkR.ptr (fun _=>rfl)) (aLc (WkR.ptr (fun _=>rfl)) (aLc (wkr (lsL fun _=>(aO _))) (aLc wkI aLn)))))) (aLc ⟨some _,rfl,bRc rfl (cKc wkI (cKc (wkr (lsL fun _=>(aO _))) cKn))⟩ (aLc ⟨some _,rfl,aY rfl rfl⟩ (aLc ⟨some _,rfl,aY (x:=(Ar.zero 8)) rfl rfl⟩ aLn))))
 refine hK2 ?_
 refine bO ?_
 refine bD ?_
 refine bD ?_
 refine bA ?_
 replace h:=dT h
 replace h:=dU h
 refine tHn ?_
 refine aL ?_
 refine aE dCo rfl fun K hK=>?_;conv=>whnf
 refine nlA rfl ?_;conv=>whnf
 refine bKo rfl ?_;conv=>whnf
 refine gKo rfl ?_;conv=>whnf
 refine hK _ _ _ ?_
 refine aN ?_
 replace h:=bC h
 refine gQ (body:=eU _) rfl h [1,2,4,28] [1] [2] [4] (fun kl kh kr ids b s=>⟨ofL ([(29,eI s.1)]++kl),ofH (([]++kh)++([(aAH ids 0,.cells (cA s.2))]++kr)),b+128⟩) ?_;(conv=>whnf);refine And.intro ?_ (fun s m h=>dP ?_)
 ·refine bM ?_;conv=>whnf
  exact And.intro rfl (And.intro (aLc wkI (aLc (WkR.ptr (fun _=>rfl)) (aLc (WkR.ptr (fun _=>rfl)) (aLc (WkR.ptr (fun _=>rfl)) (aLc wkI aLn))))) (aLc ⟨some _,rfl,bRc rfl (cKc wkI (cKc (wkr (lsL fun _=>(aO _))) cKn))⟩ (aLc ⟨some _,rfl,aY rfl rfl⟩ (aLc ⟨some _,rfl,aY (x:=(Ar.zero 8)) rfl rfl⟩ aLn))))
 replace h:=bC h;rw [eU.eq_1] at h
 refine aE dCo rfl fun K hK=>?_;conv=>whnf
 refine hK _ _ _ ?_
 refine aL ?_
 refine aQ fun K1 K2 hK1 hK2=>?_;conv=>whnf
 refine cLk h (fun _ h=>?_) (fun _ h=>?_)
 ·refine hK1 ?_
  refine aK ?_
  refine tHn ?_
  refine aL ?_
  refine aN ?_
  refine aE dCo rfl fun K hK=>?_;conv=>whnf
  refine hK _ _ _ ?_
  refine aE dCo rfl fun K hK=>?_;conv=>whnf
  refine nlA rfl ?_;conv=>whnf
  refine bKo rfl ?_;conv=>whnf
  refine gKo rfl ?_;conv=>whnf
  refine hK _ _ _ ?_
  refine aN ?_
  replace h:=bC h
  refine gQ (body:=eO _ _) rfl h [1,2,4,7,28,29,33] [1] [2] [4] (fun kl kh kr ids b s=>⟨ofL ([(34,eI s.1)]++kl),ofH (([]++kh)++([(aAH ids 0,.cells (cA s.2))]++kr)),b+128⟩) ?_;(conv=>whnf);refine And.intro ?_ (fun s m h=>dP ?_)
  ·refine bM ?_;conv=>whnf
   exact And.intro rfl (And.intro (aLc wkI (aLc (WkR.ptr (fun _=>rfl)) (aLc (WkR.ptr (fun _=>rfl)) (aLc (WkR.ptr (fun _=>rfl)) (aLc wkI (aLc wkI (aLc wkI (aLc wkI aLn)))))))) (aLc ⟨some _,rfl,bRc rfl (cKc wkI (cKc (wkr (lsL fun _=>(aO _))) cKn))⟩ (aLc ⟨some _,rfl,aY rfl rfl⟩ (aLc ⟨some _,rfl,aY (x:=(Ar.zero 8)) rfl rfl⟩ aLn))))
  replace h:=bC h;rw [eO.eq_1] at h
  refine aE dCo rfl fun K hK=>?_;conv=>whnf
  refine hK _ _ _ ?_
  refine aL ?_
  refine aQ fun K1 K2 hK1 hK2=>?_;conv=>whnf
  refine cLk h (fun _ h=>?_) (fun _ h=>?_)
  ·refine hK1 ?_
   refine aK ?_
   refine tHn ?_
   refine aL ?_
   refine aN ?_
   refine aE dCo rfl fun K hK=>?_;conv=>whnf
   refine hK _ _ _ ?_
   refine aE dCo rfl fun K hK=>?_;conv=>whnf
   refine cO h fun hx469 h=>?_;conv=>whnf
   refine nlA rfl ?_;conv=>whnf
   refine bKo rfl ?_;conv=>whnf
   refine dS rfl hx469 ?_;conv=>whnf
   refine cO h fun _ h=>?_;conv=>whnf
   refine hK _ _ _ ?_
   replace h:=cL h
   refine aQ fun K1 K2 hK1 hK2=>?_;conv=>whnf
   refine cLk h (fun _ h=>?_) (fun _ h=>?_)
   ·refine hK1 ?_
    refine aAL dCo eZ rfl (by kernel_rfl) fun K hK=>?_;conv=>whnf
    refine cO h fun hx473 h=>?_;conv=>whnf
    refine nlA rfl ?_;conv=>whnf
    refine bKo rfl ?_;conv=>whnf
    refine dS rfl hx473 ?_;conv=>whnf
    refine cO h fun hx474 h=>?_;conv=>whnf
    refine nlA rfl ?_;conv=>whnf
    refine bKo rfl ?_;conv=>whnf
    refine dS rfl hx474 ?_;conv=>whnf
    refine cO h fun hx475 h=>?_;conv=>whnf
    refine bKo rfl ?_;conv=>whnf
    refine wU rfl hx475 rfl rfl ?_;conv=>whnf
    refine hK _ _ _ ?_
    refine iBn ?_
    refine tHn ?_
    refine cR dCo rfl fun K hK=>?_;conv=>whnf
    refine hK _ _ _ ?_
    refine tHn ?_
    replace h:=bU h
    refine ⟨_,h,?_⟩
    refine bM ?_;conv=>whnf
    exact And.intro rfl (And.intro (aLc wkI (aLc (WkR.ptr (fun _=>rfl)) (aLc (WkR.ptr (fun _=>rfl)) (aLc (WkR.ptr (fun _=>rfl)) (aLc wkI (aLc wkI (aLc wkI (aLc wkI aLn)))))))) (aLc ⟨some _,rfl,bRc rfl (cKc wkI (cKc (wkr (lsL fun _=>(aO _))) cKn))⟩ (aLc ⟨some _,rfl,aY rfl rfl⟩ (aLc ⟨some _,rfl,aY (x:=(Ar.zero 8)) rfl rfl⟩ aLn))))
   refine hK2 ?_
   refine aK ?_
   refine iBn ?_
   refine tHn ?_
   refine cR dCo rfl fun K hK=>?_;conv=>whnf
   refine hK _ _ _ ?_
   refine tHn ?_
   replace h:=bU h
   refine ⟨_,h,?_⟩
   refine bM ?_;conv=>whnf
   exact And.intro rfl (And.intro (aLc wkI (aLc (WkR.ptr (fun _=>rfl)) (aLc (WkR.ptr (fun _=>rfl)) (aLc (WkR.ptr (fun _=>rfl)) (aLc wkI (aLc wkI (aLc wkI (aLc wkI aLn)))))))) (aLc ⟨some _,rfl,bRc rfl (cKc wkI (cKc (wkr (lsL fun _=>(aO _))) cKn))⟩ (aLc ⟨some _,rfl,aY rfl rfl⟩ (aLc ⟨some _,rfl,aY (x:=(Ar.zero 8)) rfl rfl⟩ aLn))))
  refine hK2 ?_
  refine bO ?_
  refine bD ?_
  refine bD ?_
  refine bA ?_
  replace h:=dT h
  replace h:=dU h
  refine iBn ?_
  refine tHn ?_
  refine cR dCo rfl fun K hK=>?_;conv=>whnf
  refine hK _ _ _ ?_
  refine tHn ?_
  replace h:=bU h
  refine ⟨_,h,?_⟩
  refine bM ?_;conv=>whnf
  exact And.intro rfl (And.intro (aLc wkI (aLc (WkR.ptr (fun _=>rfl)) (aLc (WkR.ptr (fun _=>rfl)) (aLc (WkR.ptr (fun _=>rfl)) (aLc wkI aLn))))) (aLc ⟨some _,rfl,bRc rfl (cKc wkI (cKc (wkr (lsL fun _=>(aO _))) cKn))⟩ (aLc ⟨some _,rfl,aY rfl rfl⟩ (aLc ⟨some _,rfl,aY (x:=(Ar.zero 8)) rfl rfl⟩ aLn))))
 refine hK2 ?_
 refine bO ?_
 refine bD ?_
 refine bD ?_
 refine bA ?_
 replace h:=dT h
 replace h:=dU h
 refine tHn ?_
 refine aL ?_
 refine aE dCo rfl fun K hK=>?_;conv=>whnf
 refine nlA rfl ?_;conv=>whnf
 refine bKo rfl ?_;conv=>whnf
 refine gKo rfl ?_;conv=>whnf
 refine hK _ _ _ ?_
 refine aN ?_
 replace h:=bC h
 refine gQ (body:=fU _ _) rfl h [2,4,55] [] [4] [2] (fun kl kh kr ids b s=>⟨ofL ([(56,eI s.1)]++kl),ofH (([]++kh)++([(aAH ids 0,.cells (cA s.2))]++kr)),b+128⟩) ?_;(conv=>whnf);refine And.intro ?_ (fun s m h=>dP ?_)
 ·refine bM ?_;conv=>whnf
  exact And.intro rfl (And.intro (aLc wkI (aLc (WkR.ptr (fun _=>rfl)) (aLc (WkR.ptr (fun _=>rfl)) (aLc wkI aLn)))) (aLc ⟨some _,rfl,aY (x:=(Ar.zero 8)) rfl rfl⟩ (aLc ⟨some _,rfl,aY rfl rfl⟩ aLn)))
 replace h:=bC h;rw [fU.eq_1] at h
 refine aE dCo rfl fun K hK=>?_;conv=>whnf
 refine hK _ _ _ ?_
 refine aL ?_
 refine aQ fun K1 K2 hK1 hK2=>?_;conv=>whnf
 refine cLk h (fun _ h=>?_) (fun _ h=>?_)
 ·refine hK1 ?_
  refine aK ?_
  refine tHn ?_
  refine aL ?_
  refine aN ?_
  refine aE dCo rfl fun K hK=>?_;conv=>whnf
  refine hK _ _ _ ?_
  refine aE dCo rfl fun K hK=>?_;conv=>whnf
  refine cO h fun hx483 h=>?_;conv=>whnf
  refine nlA rfl ?_;conv=>whnf
  refine bKo rfl ?_;conv=>whnf
  refine dS rfl hx483 ?_;conv=>whnf
  refine cO h fun _ h=>?_;conv=>whnf
  refine hK _ _ _ ?_
  refine aQ fun K1 K2 hK1 hK2=>?_;conv=>whnf
  refine cLk h (fun _ h=>?_) (fun _ h=>?_)
  ·refine hK1 ?_
   refine aE dCo rfl fun K hK=>?_;conv=>whnf
   refine nlA rfl ?_;conv=>whnf
   refine bKo rfl ?_;conv=>whnf
   refine rD rfl ?_;conv=>whnf
   refine bKo rfl ?_;conv=>whnf
   refine oO (vQ _) rfl rfl ?_;conv=>whnf
   refine hK _ _ _ ?_
   refine aD ?_
   refine aC ?_
   refine aG ?_
   refine aG ?_
   refine aC ?_
   refine aG ?_
   replace h:=kJ h
   replace h:=kH h
   replace h:=aB h
   refine aA dCo fun K hK=>?_;conv=>whnf
   refine nlA rfl ?_;conv=>whnf
   refine bKo rfl ?_;conv=>whnf
   refine rD rfl ?_;conv=>whnf
   refine hK _ ?_
   cases h
   exact Wk.refl _
  refine hK2 ?_
  refine aK ?_
  refine iBn ?_
  refine tHn ?_
  refine cR dCo rfl fun K hK=>?_;conv=>whnf
  refine hK _ _ _ ?_
  refine tHn ?_
  replace h:=bU h
  refine ⟨_,h,?_⟩
  refine bM ?_;conv=>whnf
  exact And.intro rfl (And.intro (aLc wkI (aLc (WkR.ptr (fun _=>rfl)) (aLc (WkR.ptr (fun _=>rfl)) (aLc wkI aLn)))) (aLc ⟨some _,rfl,aY rfl rfl⟩ (aLc ⟨some _,rfl,aY rfl rfl⟩ aLn)))
 refine hK2 ?_
 refine bO ?_
 refine bD ?_
 refine bD ?_
 refine bA ?_
 replace h:=dT h
 replace h:=dU h
 refine tHn ?_
 refine aE dCo rfl fun K hK=>?_;conv=>whnf
 refine nlA rfl ?_;conv=>whnf
 refine bKo rfl ?_;conv=>whnf
 refine rD rfl ?_;conv=>whnf
 refine bKo rfl ?_;conv=>whnf
 refine oO (vQ _) rfl rfl ?_;conv=>whnf
 refine hK _ _ _ ?_
 refine aD ?_
 replace h:=aB h
 refine aA dCo fun K hK=>?_;conv=>whnf
 refine nlA rfl ?_;conv=>whnf
 refine bKo rfl ?_;conv=>whnf
 refine rD rfl ?_;conv=>whnf
 refine hK _ ?_
 cases h
 exact Wk.refl _
theorem rX {T:Tbl} (hT:T 79=aS gM) {args:List AV} {hp:aX} {id:Nat} {k:AV→Prop} {a0:aP} {Φ:(Ar 8)×Bool→Prop} (h:W (fK a0) Φ) (hw:WkL args [bN a0]) (hk:∀ y,Φ y→k (.tup [eAr y.1,eB y.2])):cU T 79 args hp id k:=by
 obtain ⟨y,e,hy⟩:=fB h
 exact aZ hT ⟨a0,rfl,kD e rfl⟩ (by exact fH (lsC (oT _) (lsC (lsB _) lsN))) hw (hk y hy)
def eX (a0:Int) (a1:Int):Option Int:=bd (fT a0) fun y1=>bd (fT a1) fun y2=>
  cn y1 (cn y2 (some 0) (some (-1))) (cn y2 (some 1) (cn (decide (a0<a1)) (some (-1)) (cn (decide (a0>a1)) (some 1) (some 0))))
def dQ:List AV→AV→Prop:=fun args r=>∃ a0 a1,args=[eI a0,eI a1]∧W (eX a0 a1) fun y=>r=(eI y)
theorem qY {T:Tbl} (hT:TOk Tryd.prog T) (hpf:cP T PF) (h83:T 83=aS fQ):FOk Tryd.prog 63 (aS dQ):=by
 refine bJ hT hpf Tryd.func63 rfl Tryd.ntmps63 Tryd.results63 (by decide) ?_
 rintro args r ⟨a0,a1,rfl,h⟩
 refine ⟨nle rfl,?_,?_⟩
 ·exact (lsC (lsI _ _) (lsC (lsI _ _) lsN))
 rw [eX.eq_1] at h
 refine aE dCo rfl fun K hK=>?_;conv=>whnf
 refine hK _ _ _ ?_
 refine aE dCo rfl fun K hK=>?_;conv=>whnf
 replace h:=bC h
 refine lV h83 h (WkL.refl _) (fun _ h=>?_);conv=>whnf
 refine hK _ _ _ ?_
 refine aE dCo rfl fun K hK=>?_;conv=>whnf
 replace h:=bC h
 refine lV h83 h (WkL.refl _) (fun _ h=>?_);conv=>whnf
 refine hK _ _ _ ?_
 refine aL ?_
 refine aE dCo rfl fun K hK=>?_;conv=>whnf
 refine hK _ _ _ ?_
 refine aQ fun K1 K2 hK1 hK2=>?_;conv=>whnf
 refine cLk h (fun _ h=>?_) (fun _ h=>?_)
 ·refine hK1 ?_
  refine aL ?_
  refine aE dCo rfl fun K hK=>?_;conv=>whnf
  refine hK _ _ _ ?_
  refine aQ fun K1 K2 hK1 hK2=>?_;conv=>whnf
  refine cLk h (fun _ h=>?_) (fun _ h=>?_)
  ·refine hK1 ?_
   refine aE dCo rfl fun K hK=>?_;conv=>whnf
   refine hK _ _ _ ?_
   refine aD ?_
   refine aG ?_
   refine aG ?_
   replace h:=aB h
   refine aA dCo fun K hK=>?_;conv=>whnf
   refine hK _ ?_
   cases h
   exact Wk.refl _
  refine hK2 ?_
  refine aK ?_
  refine tHn ?_
  refine aE dCo rfl fun K hK=>?_;conv=>whnf
  refine hK _ _ _ ?_
  refine aD ?_
  refine aG ?_
  replace h:=aB h
  refine aA dCo fun K hK=>?_;conv=>whnf
  refine hK _ ?_
  cases h
  exact Wk.refl _
 refine hK2 ?_
 refine aK ?_
 refine tHn ?_
 refine aL ?_
 refine aE dCo rfl fun K hK=>?_;conv=>whnf
 refine hK _ _ _ ?_
 refine aQ fun K1 K2 hK1 hK2=>?_;conv=>whnf
 refine cLk h (fun _ h=>?_) (fun _ h=>?_)
 ·refine hK1 ?_
  refine aE dCo rfl fun K hK=>?_;conv=>whnf
  refine hK _ _ _ ?_
  refine aD ?_
  refine aG ?_
  replace h:=aB h
  refine aA dCo fun K hK=>?_;conv=>whnf
  refine hK _ ?_
  cases h
  exact Wk.refl _
 refine hK2 ?_
 refine aK ?_
 refine tHn ?_
 refine aL ?_
 refine aE dCo rfl fun K hK=>?_;conv=>whnf
 refine hK _ _ _ ?_
 refine aQ fun K1 K2 hK1 hK2=>?_;conv=>whnf
 refine cLk h (fun _ h=>?_) (fun _ h=>?_)
 ·refine hK1 ?_
  refine aE dCo rfl fun K hK=>?_;conv=>whnf
  refine hK _ _ _ ?_
  refine aD ?_
  refine aG ?_
  replace h:=aB h
  refine aA dCo fun K hK=>?_;conv=>whnf
  refine hK _ ?_
  cases h
  exact Wk.refl _
 refine hK2 ?_
 refine aK ?_
 refine tHn ?_
 refine aL ?_
 refine aE dCo rfl fun K hK=>?_;conv=>whnf
 refine hK _ _ _ ?_
 refine aQ fun K1 K2 hK1 hK2=>?_;conv=>whnf
 refine cLk h (fun _ h=>?_) (fun _ h=>?_)
 ·refine hK1 ?_
  refine aE dCo rfl fun K hK=>?_;conv=>whnf
  refine hK _ _ _ ?_
  refine aD ?_
  refine aG ?_
  replace h:=aB h
  refine aA dCo fun K hK=>?_;conv=>whnf
  refine hK _ ?_
  cases h
  exact Wk.refl _
 refine hK2 ?_
 refine aK ?_
 refine tHn ?_
 refine aE dCo rfl fun K hK=>?_;conv=>whnf
 refine hK _ _ _ ?_
 refine aD ?_
 replace h:=aB h
 refine aA dCo fun K hK=>?_;conv=>whnf
 refine hK _ ?_
 cases h
 exact Wk.refl _
theorem kE {T:Tbl} (hT:T 63=aS dQ) {args:List AV} {hp:aX} {id:Nat} {k:AV→Prop} {a0:Int} {a1:Int} {Φ:Int→Prop} (h:W (eX a0 a1) Φ) (hw:WkL args [eI a0,eI a1]) (hk:∀ y,Φ y→k (eI y)):cU T 63 args hp id k:=by
 obtain ⟨y,e,hy⟩:=fB h
 exact aZ hT ⟨a0,a1,rfl,kD e rfl⟩ (by exact (lsI _ _)) hw (hk y hy)
def fV (a0:List Int) (a1:List Int) (s1:Int):Option (Ct Int Int):=cn (decide (s1<(a0.length:Int))) (ix a0 default s1 fun e2=>
  cn (decide (s1≥(a1.length:Int))) (some (.rt 1)) (ix a1 default s1 fun e3=>bd (eX e2 e3) fun y4=>cn (y4 !=
  0) (some (.rt y4)) (some (.nx (wr (s1+1)))))) (some (.bk s1))
def eM (a0:List Int) (a1:List Int):Option Int:=bd (lp (fV a0 a1) FU 0) fun c5=>smK c5 (fun s6=>
  cn (decide ((a0.length:Int)<(a1.length:Int))) (some (-1)) (some 0)) (fun r7=>some r7)
def dM:List AV→AV→Prop:=fun args r=>∃ a0 a1,args=[(eL 1 eI default) a0,(eL 1 eI default) a1]∧W (eM a0 a1) fun y=>r=(eI y)
theorem oX {T:Tbl} (hT:TOk Tryd.prog T) (hpf:cP T PF) (h63:T 63=aS dQ):FOk Tryd.prog 64 (aS dM):=by
 refine bJ hT hpf Tryd.func64 rfl Tryd.ntmps64 Tryd.results64 (by decide) ?_
 rintro args r ⟨a0,a1,rfl,h⟩
 refine ⟨nle rfl,?_,?_⟩
 ·exact (lsC (lsL fun _=>(lsI _ _)) (lsC (lsL fun _=>(lsI _ _)) lsN))
 rw [eM.eq_1] at h
 refine aE dCo rfl fun K hK=>?_;conv=>whnf
 refine hK _ _ _ ?_
 refine aL ?_
 refine aE dCo rfl fun K hK=>?_;conv=>whnf
 refine hK _ _ _ ?_
 refine aN ?_
 replace h:=bC h
 refine jR (body:=fV _ _) rfl h [0,1,9,10] [] [] (fun kl kh ids b s=>⟨ofL ([(11,eI s)]++kl),ofH ([]++kh),b+64⟩) ?_;(conv=>whnf);refine And.intro ?_ (fun s m h=>dP ?_)
 ·refine bG ?_;conv=>whnf
  exact And.intro rfl (And.intro (aLc wkI (aLc (wkr (lsL fun _=>(lsI _ _))) (aLc (wkr (lsL fun _=>(lsI _ _))) (aLc (wkr (lsL fun _=>(lsI _ _))) (aLc wkI aLn))))) aLn)
 replace h:=bC h;rw [fV.eq_1] at h
 refine aE dCo rfl fun K hK=>?_;conv=>whnf
 refine hK _ _ _ ?_
 refine aL ?_
 refine aQ fun K1 K2 hK1 hK2=>?_;conv=>whnf
 refine cLk h (fun _ h=>?_) (fun _ h=>?_)
 ·refine hK1 ?_
  refine aK ?_
  refine tHn ?_
  refine aL ?_
  refine aN ?_
  refine aE dCo rfl fun K hK=>?_;conv=>whnf
  refine kU h fun _ h=>?_;conv=>whnf
  refine gKo rfl ?_;conv=>whnf
  refine hK _ _ _ ?_
  refine aL ?_
  refine aE dCo rfl fun K hK=>?_;conv=>whnf
  refine hK _ _ _ ?_
  refine aQ fun K1 K2 hK1 hK2=>?_;conv=>whnf
  refine cLk h (fun _ h=>?_) (fun _ h=>?_)
  ·refine hK1 ?_
   refine aE dCo rfl fun K hK=>?_;conv=>whnf
   refine hK _ _ _ ?_
   refine aD ?_
   refine aG ?_
   refine aC ?_
   refine aG ?_
   refine aG ?_
   refine aC ?_
   refine aG ?_
   replace h:=kJ h
   replace h:=kH h
   replace h:=aB h
   refine aA dCo fun K hK=>?_;conv=>whnf
   refine hK _ ?_
   cases h
   exact Wk.refl _
  refine hK2 ?_
  refine aK ?_
  refine tHn ?_
  refine aE dCo rfl fun K hK=>?_;conv=>whnf
  refine kU h fun _ h=>?_;conv=>whnf
  refine gKo rfl ?_;conv=>whnf
  refine hK _ _ _ ?_
  refine aE dCo rfl fun K hK=>?_;conv=>whnf
  replace h:=bC h
  refine kE h63 h (WkL.refl _) (fun _ h=>?_);conv=>whnf
  refine hK _ _ _ ?_
  refine aE dCo rfl fun K hK=>?_;conv=>whnf
  refine hK _ _ _ ?_
  refine aQ fun K1 K2 hK1 hK2=>?_;conv=>whnf
  refine cLk h (fun _ h=>?_) (fun _ h=>?_)
  ·refine hK1 ?_
   refine aE dCo rfl fun K hK=>?_;conv=>whnf
   refine hK _ _ _ ?_
   refine aD ?_
   refine aC ?_
   refine aG ?_
   refine aG ?_
   refine aC ?_
   refine aG ?_
   replace h:=kJ h
   replace h:=kH h
   replace h:=aB h
   refine aA dCo fun K hK=>?_;conv=>whnf
   refine hK _ ?_
   cases h
   exact Wk.refl _
  refine hK2 ?_
  refine aK ?_
  refine iBn ?_
  refine tHn ?_
  refine cR dCo rfl fun K hK=>?_;conv=>whnf
  refine hK _ _ _ ?_
  refine tHn ?_
  replace h:=bU h
  refine ⟨_,h,?_⟩
  refine bG ?_;conv=>whnf
  exact And.intro rfl (And.intro (aLc wkI (aLc (wkr (lsL fun _=>(lsI _ _))) (aLc (wkr (lsL fun _=>(lsI _ _))) (aLc (wkr (lsL fun _=>(lsI _ _))) (aLc wkI aLn))))) aLn)
 refine hK2 ?_
 refine bO ?_
 refine bD ?_
 refine bD ?_
 refine bA ?_
 replace h:=dT h
 replace h:=dU h
 refine tHn ?_
 refine aL ?_
 refine aE dCo rfl fun K hK=>?_;conv=>whnf
 refine hK _ _ _ ?_
 refine aQ fun K1 K2 hK1 hK2=>?_;conv=>whnf
 refine cLk h (fun _ h=>?_) (fun _ h=>?_)
 ·refine hK1 ?_
  refine aE dCo rfl fun K hK=>?_;conv=>whnf
  refine hK _ _ _ ?_
  refine aD ?_
  refine aG ?_
  replace h:=aB h
  refine aA dCo fun K hK=>?_;conv=>whnf
  refine hK _ ?_
  cases h
  exact Wk.refl _
 refine hK2 ?_
 refine aK ?_
 refine tHn ?_
 refine aE dCo rfl fun K hK=>?_;conv=>whnf
 refine hK _ _ _ ?_
 refine aD ?_
 replace h:=aB h
 refine aA dCo fun K hK=>?_;conv=>whnf
 refine hK _ ?_
 cases h
 exact Wk.refl _
theorem oA {T:Tbl} (hT:T 64=aS dM) {args:List AV} {hp:aX} {id:Nat} {k:AV→Prop} {a0:List Int} {a1:List Int} {Φ:Int→Prop} (h:W (eM a0 a1) Φ) (hw:WkL args [(eL 1 eI default) a0,(eL 1 eI default) a1]) (hk:∀ y,Φ y→k (eI y)):cU T 64 args hp id k:=by
 obtain ⟨y,e,hy⟩:=fB h
 exact aZ hT ⟨a0,a1,rfl,kD e rfl⟩ (by exact (lsI _ _)) hw (hk y hy)
def cG (a0:List (Int×Int)) (c910:aP) (s1:Int):Option (Ct Int Int):=cn (decide (s1<(a0.length:Int))) (ix a0 default s1 fun e2=>
  bd (dW e2 c910) fun y3=>cn y3 (some (.rt s1)) (some (.nx (wr (s1+1))))) (some (.bk s1))
def bX (a0:List (Int×Int)) (c910:aP):Option Int:=bd (lp (cG a0 c910) FU 0) fun c4=>smK c4 (fun s5=>
  some (-1)) (fun r6=>some r6)
def gK:List AV→AV→Prop:=fun args r=>∃ a0 c910,args=[(eL 2 dK default) a0,.fn 69 [] [.ep [eI c910.N,(eL 2 dK default) c910.Pairs] 0]]∧W (bX a0 c910) fun y=>r=(eI y)
theorem lB {T:Tbl} (hT:TOk Tryd.prog T) (hpf:cP T PF) (h69:T 69=aS dV):FOk Tryd.prog 85 (aS gK):=by
 refine bJ hT hpf Tryd.func85 rfl Tryd.ntmps85 Tryd.results85 (by decide) ?_
 rintro args r ⟨a0,c910,rfl,h⟩
 refine ⟨nle rfl,?_,?_⟩
 ·exact (lsC (lsL fun _=>(aO _)) (lsC (pE lsN (lsC (lsE (lsC (lsI _ _) (lsC (lsL fun _=>(aO _)) lsN))) lsN)) lsN))
 rw [bX.eq_1] at h
 refine aE dCo rfl fun K hK=>?_;conv=>whnf
 refine hK _ _ _ ?_
 refine aL ?_
 refine aE dCo rfl fun K hK=>?_;conv=>whnf
 refine hK _ _ _ ?_
 refine aN ?_
 replace h:=bC h
 refine jR (body:=cG _ _) rfl h [0,1,7] [] [] (fun kl kh ids b s=>⟨ofL ([(8,eI s)]++kl),ofH ([]++kh),b+64⟩) ?_;(conv=>whnf);refine And.intro ?_ (fun s m h=>dP ?_)
 ·refine bG ?_;conv=>whnf
  exact And.intro rfl (And.intro (aLc wkI (aLc (wkr (lsL fun _=>(aO _))) (aLc (eS bE (aM (wkr (lsE (lsC (lsI _ _) (lsC (lsL fun _=>(aO _)) lsN)))) bE)) (aLc wkI aLn)))) aLn)
 replace h:=bC h;rw [cG.eq_1] at h
 refine aE dCo rfl fun K hK=>?_;conv=>whnf
 refine hK _ _ _ ?_
 refine aL ?_
 refine aQ fun K1 K2 hK1 hK2=>?_;conv=>whnf
 refine cLk h (fun _ h=>?_) (fun _ h=>?_)
 ·refine hK1 ?_
  refine aK ?_
  refine tHn ?_
  refine aL ?_
  refine aN ?_
  refine aE dCo rfl fun K hK=>?_;conv=>whnf
  refine hK _ _ _ ?_
  refine aE dCo rfl fun K hK=>?_;conv=>whnf
  refine kU h fun _ h=>?_;conv=>whnf
  refine nlA rfl ?_;conv=>whnf
  replace h:=bC h
  refine pO h69 h (WkL.refl _) (fun _ h=>?_);conv=>whnf
  refine hK _ _ _ ?_
  refine aQ fun K1 K2 hK1 hK2=>?_;conv=>whnf
  refine cLk h (fun _ h=>?_) (fun _ h=>?_)
  ·refine hK1 ?_
   refine aE dCo rfl fun K hK=>?_;conv=>whnf
   refine hK _ _ _ ?_
   refine aD ?_
   refine aC ?_
   refine aG ?_
   refine aG ?_
   refine aC ?_
   refine aG ?_
   replace h:=kJ h
   replace h:=kH h
   replace h:=aB h
   refine aA dCo fun K hK=>?_;conv=>whnf
   refine hK _ ?_
   cases h
   exact Wk.refl _
  refine hK2 ?_
  refine aK ?_
  refine iBn ?_
  refine tHn ?_
  refine cR dCo rfl fun K hK=>?_;conv=>whnf
  refine hK _ _ _ ?_
  refine tHn ?_
  replace h:=bU h
  refine ⟨_,h,?_⟩
  refine bG ?_;conv=>whnf
  exact And.intro rfl (And.intro (aLc wkI (aLc (wkr (lsL fun _=>(aO _))) (aLc (eS bE (aM (wkr (lsE (lsC (lsI _ _) (lsC (lsL fun _=>(aO _)) lsN)))) bE)) (aLc wkI aLn)))) aLn)
 refine hK2 ?_
 refine bO ?_
 refine bD ?_
 refine bD ?_
 refine bA ?_
 replace h:=dT h
 replace h:=dU h
 refine tHn ?_
 refine aE dCo rfl fun K hK=>?_;conv=>whnf
 refine hK _ _ _ ?_
 refine aD ?_
 replace h:=aB h
 refine aA dCo fun K hK=>?_;conv=>whnf
 refine hK _ ?_
 cases h
 exact Wk.refl _
def cJ:List AV→AV→Prop:=fun args r=>gK args r
theorem kA {T:Tbl} (hT:T 85=aS cJ) {args:List AV} {hp:aX} {id:Nat} {k:AV→Prop} {a0:List (Int×Int)} {c910:aP} {Φ:Int→Prop} (h:W (bX a0 c910) Φ) (hw:WkL args [(eL 2 dK default) a0,.fn 69 [] [.ep [eI c910.N,(eL 2 dK default) c910.Pairs] 0]]) (hk:∀ y,Φ y→k (eI y)):cU T 85 args hp id k:=by
 obtain ⟨y,e,hy⟩:=fB h
 exact aZ hT ⟨a0,c910,rfl,kD e rfl⟩ (by exact (lsI _ _)) hw (hk y hy)
theorem mP {T:Tbl} (hT:TOk Tryd.prog T) (hpf:cP T PF) (h69:T 69=aS dV):FOk Tryd.prog 85 (aS cJ):=(lB hT hpf h69)
def cB (a0:List (Int×Int)) (c910:aP):Option Bool:=bd (bX a0 c910) fun y1=>some (decide (y1≥0))
def fJ:List AV→AV→Prop:=fun args r=>∃ a0 c910,args=[(eL 2 dK default) a0,.fn 69 [] [.ep [eI c910.N,(eL 2 dK default) c910.Pairs] 0]]∧W (cB a0 c910) fun y=>r=(eB y)
theorem jJ {T:Tbl} (hT:TOk Tryd.prog T) (hpf:cP T PF) (h85:T 85=aS cJ):FOk Tryd.prog 68 (aS fJ):=by
 refine bJ hT hpf Tryd.func68 rfl Tryd.ntmps68 Tryd.results68 (by decide) ?_
 rintro args r ⟨a0,c910,rfl,h⟩
 refine ⟨nle rfl,?_,?_⟩
 ·exact (lsC (lsL fun _=>(aO _)) (lsC (pE lsN (lsC (lsE (lsC (lsI _ _) (lsC (lsL fun _=>(aO _)) lsN))) lsN)) lsN))
 rw [cB.eq_1] at h
 refine aE dCo rfl fun K hK=>?_;conv=>whnf
 refine hK _ _ _ ?_
 refine aE dCo rfl fun K hK=>?_;conv=>whnf
 replace h:=bC h
 refine kA h85 h (WkL.refl _) (fun _ h=>?_);conv=>whnf
 refine hK _ _ _ ?_
 refine aD ?_
 replace h:=aB h
 refine aA dCo fun K hK=>?_;conv=>whnf
 refine hK _ ?_
 cases h
 exact Wk.refl _
def cK:List AV→AV→Prop:=fun args r=>fJ args r
theorem iU {T:Tbl} (hT:T 68=aS cK) {args:List AV} {hp:aX} {id:Nat} {k:AV→Prop} {a0:List (Int×Int)} {c910:aP} {Φ:Bool→Prop} (h:W (cB a0 c910) Φ) (hw:WkL args [(eL 2 dK default) a0,.fn 69 [] [.ep [eI c910.N,(eL 2 dK default) c910.Pairs] 0]]) (hk:∀ y,Φ y→k (eB y)):cU T 68 args hp id k:=by
 obtain ⟨y,e,hy⟩:=fB h
 exact aZ hT ⟨a0,c910,rfl,kD e rfl⟩ (by exact (lsB _)) hw (hk y hy)
theorem lK {T:Tbl} (hT:TOk Tryd.prog T) (hpf:cP T PF) (h85:T 85=aS cJ):FOk Tryd.prog 68 (aS cK):=(jJ hT hpf h85)
def mA (a0:aP) (a1:List Int) (s1:Int):Option (Ct Int Bool):=cn (decide (s1<(a1.length:Int))) (ix a1 default s1 fun e2=>
  gd ((a1.length:Int)≠0) (ix a1 default (Int.tmod (wr (s1+1)) (a1.length:Int)) fun e3=>bd (jF a0 e2 e3) fun y4=>
  cn (!y4) (some (.rt false)) (some (.nx (wr (s1+1)))))) (some (.bk s1))
def rN (a0:aP) (a1:List Int):Option Bool:=bd (lp (mA a0 a1) FU 0) fun c5=>smK c5 (fun s6=>let v8:=(decide ((a1.length:Int)≥2));
  some v8) (fun r7=>some r7)
def nJ:List AV→AV→Prop:=fun args r=>∃ a0 a1,args=[bN a0,(eL 1 eI default) a1]∧W (rN a0 a1) fun y=>r=(eB y)
theorem wB {T:Tbl} (hT:TOk Tryd.prog T) (hpf:cP T PF) (h70:T 70=aS gV):FOk Tryd.prog 35 (aS nJ):=by
 refine bJ hT hpf Tryd.func35 rfl Tryd.ntmps35 Tryd.results35 (by decide) ?_
 rintro args r ⟨a0,a1,rfl,h⟩
 refine ⟨nle rfl,?_,?_⟩
 ·exact (lsC (bZ _) (lsC (lsL fun _=>(lsI _ _)) lsN))
 rw [rN.eq_1] at h
 refine aE dCo rfl fun K hK=>?_;conv=>whnf
 refine hK _ _ _ ?_
 refine aL ?_
 refine aE dCo rfl fun K hK=>?_;conv=>whnf
 refine hK _ _ _ ?_
 refine aN ?_
 replace h:=bC h
 refine jR (body:=mA _ _) rfl h [1,2] [2] [] (fun kl kh ids b s=>⟨ofL ([(5,eI s)]++kl),ofH ([]++kh),b+64⟩) ?_;(conv=>whnf);refine And.intro ?_ (fun s m h=>dP ?_)
 ·refine bG ?_;conv=>whnf
  exact And.intro rfl (And.intro (aLc wkI (aLc (wkr (lsL fun _=>(lsI _ _))) (aLc (WkR.ptr (fun _=>rfl)) aLn))) (aLc ⟨some _,rfl,bRc rfl (cKc wkI (cKc (wkr (lsL fun _=>(aO _))) cKn))⟩ aLn))
 replace h:=bC h;rw [mA.eq_1] at h
 refine aL ?_
 refine aE dCo rfl fun K hK=>?_;conv=>whnf
 refine hK _ _ _ ?_
 refine aQ fun K1 K2 hK1 hK2=>?_;conv=>whnf
 refine cLk h (fun _ h=>?_) (fun _ h=>?_)
 ·refine hK1 ?_
  refine aK ?_
  refine tHn ?_
  refine aL ?_
  refine aN ?_
  refine tC dCo eZ rfl (by kernel_rfl) fun K hK=>?_;conv=>whnf
  refine nlA rfl ?_;conv=>whnf
  refine bKo rfl ?_;conv=>whnf
  refine nlA rfl ?_;conv=>whnf
  refine kU h fun _ h=>?_;conv=>whnf
  refine gKo rfl ?_;conv=>whnf
  refine cO h fun _ h=>?_;conv=>whnf
  refine kU h fun _ h=>?_;conv=>whnf
  refine gKo rfl ?_;conv=>whnf
  replace h:=bC h
  refine sJ h70 h (WkL.refl _) (fun _ h=>?_);conv=>whnf
  refine hK _ _ _ ?_
  refine aQ fun K1 K2 hK1 hK2=>?_;conv=>whnf
  refine cLk h (fun _ h=>?_) (fun _ h=>?_)
  ·refine hK1 ?_
   refine aE dCo rfl fun K hK=>?_;conv=>whnf
   refine hK _ _ _ ?_
   refine aD ?_
   refine aC ?_
   refine aG ?_
   refine aG ?_
   refine aC ?_
   refine aG ?_
   replace h:=kJ h
   replace h:=kH h
   replace h:=aB h
   refine aA dCo fun K hK=>?_;conv=>whnf
   refine hK _ ?_
   cases h
   exact Wk.refl _
  refine hK2 ?_
  refine aK ?_
  refine iBn ?_
  refine tHn ?_
  refine cR dCo rfl fun K hK=>?_;conv=>whnf
  refine hK _ _ _ ?_
  refine tHn ?_
  replace h:=bU h
  refine ⟨_,h,?_⟩
  refine bG ?_;conv=>whnf
  exact And.intro rfl (And.intro (aLc wkI (aLc (wkr (lsL fun _=>(lsI _ _))) (aLc (WkR.ptr (fun _=>rfl)) aLn))) (aLc ⟨some _,rfl,bRc rfl (cKc wkI (cKc (wkr (lsL fun _=>(aO _))) cKn))⟩ aLn))
 refine hK2 ?_
 refine bO ?_
 refine bD ?_
 refine bD ?_
 refine bA ?_
 replace h:=dT h
 replace h:=dU h
 refine tHn ?_
 refine aE dCo rfl fun K hK=>?_;conv=>whnf
 refine hK _ _ _ ?_
 refine aD ?_
 replace h:=aB h
 refine aA dCo fun K hK=>?_;conv=>whnf
 refine hK _ ?_
 cases h
 exact Wk.refl _
  def eR (a0:Int) (a1:Ar 8) (s1:Int×aP) (s2:Int×aP):Option (Ct (Int×aP) aP):=cn (decide (s2.1<a0)) (gd (0≤s2.1∧s2.1<(8:Int)) (gd (0≤s1.1) (jn (fun p3:aP=>
  some (.nx ((wr (s2.1+1)),p3))) fun k4=>cn ((tI .i64 (vX .i64 (a1.at1 s2.1) s1.1) 1)==1) (lt ([(s1.1,s2.1)]:List (Int×Int)) fun l5=>ap s2.2.Pairs l5 fun l6=>
  k4 (⟨s2.2.N,l6⟩:aP)) (k4 s2.2)))) (some (.bk (s2.1,s2.2)))
  def eW (a0:Int) (a1:Ar 8) (s1:Int×aP):Option (Ct (Int×aP) aP):=cn (decide (s1.1<a0)) (bd (lp (eR a0 a1 s1) FU (0,s1.2)) fun c7=>
  smK c7 (fun s8=>some (.nx ((wr (s1.1+1)),s8.2))) (fun r9=>some (.rt r9))) (some (.bk (s1.1,s1.2)))
def eE (a0:Int) (a1:Ar 8):Option aP:=bd (lp (eW a0 a1) FU (0,(⟨a0,[]⟩:aP))) fun c10=>smK c10 (fun s11=>some s11.2) (fun r12=>
  some r12)
def fO:List AV→AV→Prop:=fun args r=>∃ a0 a1,args=[eI a0,eAr a1]∧W (eE a0 a1) fun y=>r=(bN y)
theorem tV {T:Tbl} (hT:TOk Tryd.prog T) (hpf:cP T PF):FOk Tryd.prog 58 (aS fO):=by
 refine bJ hT hpf Tryd.func58 rfl Tryd.ntmps58 Tryd.results58 (by decide) ?_
 rintro args r ⟨a0,a1,rfl,h⟩
 refine ⟨nle rfl,?_,?_⟩
 ·exact (lsC (lsI _ _) (lsC (oT _) lsN))
 rw [eE.eq_1] at h
 refine aE dCo rfl fun K hK=>?_;conv=>whnf
 refine aU ?_;conv=>whnf
 refine hK _ _ _ ?_
 refine aE dCo rfl fun K hK=>?_;conv=>whnf
 refine bKo rfl ?_;conv=>whnf
 refine And.intro rfl (And.intro (nle rfl) (And.intro rfl ?_));conv=>whnf
 refine hK _ _ _ ?_
 refine aL ?_
 refine aE dCo rfl fun K hK=>?_;conv=>whnf
 refine hK _ _ _ ?_
 refine aN ?_
 replace h:=bC h
 refine gQ (body:=eW _ _) rfl h [0,3,4,5,10] [4] [3] [5] (fun kl kh kr ids b s=>⟨ofL ([(11,eI s.1)]++kl),ofH (([(aAH ids 0,.cells [eI s.2.N,.lst (.tok (b+0)) 2 s.2.Pairs.length (fun j=>dK (s.2.Pairs.getD j default))]),(b+0,.cells [])]++kh)++([]++kr)),b+128⟩) ?_;(conv=>whnf);refine And.intro ?_ (fun s m h=>dP ?_)
 ·refine bM ?_;conv=>whnf
  exact And.intro rfl (And.intro (aLc wkI (aLc wkI (aLc (WkR.ptr (fun _=>rfl)) (aLc (WkR.ptr (fun _=>rfl)) (aLc (WkR.ptr (fun _=>rfl)) (aLc wkI aLn)))))) (aLc ⟨some _,rfl,bRc rfl (cKc wkI (cKc (WkR.nil (fun _=>rfl)) cKn))⟩ (aLc ⟨none,rfl,sG⟩ (aLc ⟨some _,rfl,bRc rfl (cKc wkI (cKc (wkr bW) cKn))⟩ (aLc ⟨some _,rfl,aY rfl rfl⟩ aLn)))))
 replace h:=bC h;rw [eW.eq_1] at h
 refine aE dCo rfl fun K hK=>?_;conv=>whnf
 refine hK _ _ _ ?_
 refine aL ?_
 refine aQ fun K1 K2 hK1 hK2=>?_;conv=>whnf
 refine cLk h (fun _ h=>?_) (fun _ h=>?_)
 ·refine hK1 ?_
  refine aK ?_
  refine tHn ?_
  refine aL ?_
  refine aN ?_
  refine aE dCo rfl fun K hK=>?_;conv=>whnf
  refine hK _ _ _ ?_
  refine aE dCo rfl fun K hK=>?_;conv=>whnf
  refine hK _ _ _ ?_
  refine aN ?_
  replace h:=bC h
  refine gQ (body:=eR _ _ _) rfl h [0,3,4,5,6,10,11,14] [4] [3] [5] (fun kl kh kr ids b s=>⟨ofL ([(15,eI s.1)]++kl),ofH (([(aAH ids 0,.cells [eI s.2.N,.lst (.tok (b+0)) 2 s.2.Pairs.length (fun j=>dK (s.2.Pairs.getD j default))]),(b+0,.cells [])]++kh)++([]++kr)),b+128⟩) ?_;(conv=>whnf);refine And.intro ?_ (fun s m h=>dP ?_)
  ·refine bM ?_;conv=>whnf
   exact And.intro rfl (And.intro (aLc wkI (aLc wkI (aLc (WkR.ptr (fun _=>rfl)) (aLc (WkR.ptr (fun _=>rfl)) (aLc (WkR.ptr (fun _=>rfl)) (aLc wkI (aLc wkI (aLc wkI (aLc wkI aLn))))))))) (aLc ⟨some _,rfl,bRc rfl (cKc wkI (cKc (WkR.tok (fun _=>rfl) rfl (fun _ _=>Wk.refl _) (fun _=>(aO _))) cKn))⟩ (aLc ⟨some _,rfl,bRc rfl cKn⟩ (aLc ⟨some _,rfl,bRc rfl (cKc wkI (cKc (wkr bW) cKn))⟩ (aLc ⟨some _,rfl,aY rfl rfl⟩ aLn)))))
  replace h:=bC h;rw [eR.eq_1] at h
  refine aE dCo rfl fun K hK=>?_;conv=>whnf
  refine hK _ _ _ ?_
  refine aL ?_
  refine aQ fun K1 K2 hK1 hK2=>?_;conv=>whnf
  refine cLk h (fun _ h=>?_) (fun _ h=>?_)
  ·refine hK1 ?_
   refine aK ?_
   refine tHn ?_
   refine aL ?_
   refine aN ?_
   refine aE dCo rfl fun K hK=>?_;conv=>whnf
   refine hK _ _ _ ?_
   refine aE dCo rfl fun K hK=>?_;conv=>whnf
   refine cO h fun hx195 h=>?_;conv=>whnf
   refine nlA rfl ?_;conv=>whnf
   refine bKo rfl ?_;conv=>whnf
   refine dS rfl hx195 ?_;conv=>whnf
   refine cO h fun _ h=>?_;conv=>whnf
   refine hK _ _ _ ?_
   replace h:=cL h
   refine aQ fun K1 K2 hK1 hK2=>?_;conv=>whnf
   refine cLk h (fun _ h=>?_) (fun _ h=>?_)
   ·refine hK1 ?_
    refine cR dCo rfl fun K hK=>?_;conv=>whnf
    refine nlA rfl ?_;conv=>whnf
    refine bKo rfl ?_;conv=>whnf
    refine gKo rfl ?_;conv=>whnf
    refine cZ (enc:=dK) (d:=default) dCo h rfl rfl rfl ⟨nle rfl,nle rfl,rfl⟩ rfl ⟨⟨rfl,nle rfl⟩,trivial⟩ (fun h=>?_);conv=>whnf
    refine dI (enc:=dK) (d:=default) dCo h (.inl rfl) rfl rfl rfl ⟨rfl,nle rfl,nle rfl,nle rfl,rfl⟩ (fun _=>rfl) (.inr (.inr ⟨_,_,rfl,rfl,rfl⟩)) (fun h=>?_);conv=>whnf
    refine bKo rfl ?_;conv=>whnf
    refine And.intro rfl (And.intro (nle rfl) (And.intro rfl ?_));conv=>whnf
    refine hK _ _ _ ?_
    refine iBn ?_
    refine tHn ?_
    refine cR dCo rfl fun K hK=>?_;conv=>whnf
    refine hK _ _ _ ?_
    refine tHn ?_
    replace h:=bU h
    refine ⟨_,h,?_⟩
    refine bM ?_;conv=>whnf
    exact And.intro rfl (And.intro (aLc wkI (aLc wkI (aLc (WkR.ptr (fun _=>rfl)) (aLc (WkR.ptr (fun _=>rfl)) (aLc (WkR.ptr (fun _=>rfl)) (aLc wkI (aLc wkI (aLc wkI (aLc wkI aLn))))))))) (aLc ⟨some _,rfl,bRc rfl (cKc wkI (cKc (WkR.tok (fun _=>rfl) rfl (fun _ _=>Wk.refl _) (fun _=>(aO _))) cKn))⟩ (aLc ⟨some _,rfl,bRc rfl cKn⟩ (aLc ⟨some _,rfl,bRc rfl (cKc wkI (cKc (wkr bW) cKn))⟩ (aLc ⟨some _,rfl,aY rfl rfl⟩ aLn)))))
   refine hK2 ?_
   refine aK ?_
   refine iBn ?_
   refine tHn ?_
   refine cR dCo rfl fun K hK=>?_;conv=>whnf
   refine hK _ _ _ ?_
   refine tHn ?_
   replace h:=bU h
   refine ⟨_,h,?_⟩
   refine bM ?_;conv=>whnf
   exact And.intro rfl (And.intro (aLc wkI (aLc wkI (aLc (WkR.ptr (fun _=>rfl)) (aLc (WkR.ptr (fun _=>rfl)) (aLc (WkR.ptr (fun _=>rfl)) (aLc wkI (aLc wkI (aLc wkI (aLc wkI aLn))))))))) (aLc ⟨some _,rfl,bRc rfl (cKc wkI (cKc (WkR.tok (fun _=>rfl) rfl (fun _ _=>Wk.refl _) (fun _=>(aO _))) cKn))⟩ (aLc ⟨some _,rfl,bRc rfl cKn⟩ (aLc ⟨some _,rfl,bRc rfl (cKc wkI (cKc (wkr bW) cKn))⟩ (aLc ⟨some _,rfl,aY rfl rfl⟩ aLn)))))
  refine hK2 ?_
  refine bO ?_
  refine bD ?_
  refine bD ?_
  refine bA ?_
  replace h:=dT h
  replace h:=dU h
  refine iBn ?_
  refine tHn ?_
  refine cR dCo rfl fun K hK=>?_;conv=>whnf
  refine hK _ _ _ ?_
  refine tHn ?_
  replace h:=bU h
  refine ⟨_,h,?_⟩
  refine bM ?_;conv=>whnf
  exact And.intro rfl (And.intro (aLc wkI (aLc wkI (aLc (WkR.ptr (fun _=>rfl)) (aLc (WkR.ptr (fun _=>rfl)) (aLc (WkR.ptr (fun _=>rfl)) (aLc wkI aLn)))))) (aLc ⟨some _,rfl,bRc rfl (cKc wkI (cKc (WkR.tok (fun _=>rfl) rfl (fun _ _=>Wk.refl _) (fun _=>(aO _))) cKn))⟩ (aLc ⟨some _,rfl,bRc rfl cKn⟩ (aLc ⟨some _,rfl,bRc rfl (cKc wkI (cKc (wkr bW) cKn))⟩ (aLc ⟨some _,rfl,aY rfl rfl⟩ aLn)))))
 refine hK2 ?_
 refine bO ?_
 refine bD ?_
 refine bD ?_
 refine bA ?_
 replace h:=dT h
 replace h:=dU h
 refine tHn ?_
 refine aE dCo rfl fun K hK=>?_;conv=>whnf
 refine nlA rfl ?_;conv=>whnf
 refine bKo rfl ?_;conv=>whnf
 refine nlA rfl ?_;conv=>whnf
 refine bKo rfl ?_;conv=>whnf
 refine And.intro rfl (And.intro (nle rfl) (And.intro rfl ?_));conv=>whnf
 refine hK _ _ _ ?_
 refine aD ?_
 replace h:=aB h
 refine aA dCo fun K hK=>?_;conv=>whnf
 refine nlA rfl ?_;conv=>whnf
 refine bKo rfl ?_;conv=>whnf
 refine nlA rfl ?_;conv=>whnf
 refine hK _ ?_
 cases h
 exact (bH (aF (Wk.refl _) (aF aW aJ)))
theorem mO {T:Tbl} (hT:T 58=aS fO) {args:List AV} {hp:aX} {id:Nat} {k:AV→Prop} {a0:Int} {a1:Ar 8} {Φ:aP→Prop} (h:W (eE a0 a1) Φ) (hw:WkL args [eI a0,eAr a1]) (hk:∀ y,Φ y→k (bN y)):cU T 58 args hp id k:=by
 obtain ⟨y,e,hy⟩:=fB h
 exact aZ hT ⟨a0,a1,rfl,kD e rfl⟩ (by exact (bZ _)) hw (hk y hy)
def dE (a0:aP):Option Bool:=jn (fun p1:Bool=>cn p1 (some false) (bd (cB a0.Pairs a0) fun y3=>some (!y3))) fun k2=>
  cn (decide (a0.N<0)) (k2 true) (cn (decide (a0.N>8)) (k2 true) (k2 (decide ((a0.Pairs.length:Int)>28))))
def eG:List AV→AV→Prop:=fun args r=>∃ a0,args=[bN a0]∧W (dE a0) fun y=>r=(eB y)
theorem uQ {T:Tbl} (hT:TOk Tryd.prog T) (hpf:cP T PF) (h68:T 68=aS cK):FOk Tryd.prog 33 (aS eG):=by
 refine bJ hT hpf Tryd.func33 rfl Tryd.ntmps33 Tryd.results33 (by decide) ?_
 rintro args r ⟨a0,rfl,h⟩
 refine ⟨nle rfl,?_,?_⟩
 ·exact (lsC (bZ _) lsN)
 rw [dE.eq_1] at h
 refine aE dCo rfl fun K hK=>?_;conv=>whnf
 refine hK _ _ _ ?_
 refine aL ?_
 refine aE dCo rfl fun K hK=>?_;conv=>whnf
 replace h:=cL h
 refine nlA rfl ?_;conv=>whnf
 refine bKo rfl ?_;conv=>whnf
 refine gKo rfl ?_;conv=>whnf
 refine cLk h (fun _ h=>?_) (fun _ h=>?_)<;>(conv=>whnf)
 ·refine hK _ _ _ ?_
  refine aQ fun K1 K2 hK1 hK2=>?_;conv=>whnf
  refine hK1 ?_
  replace h:=fC h
  refine aE dCo rfl fun K hK=>?_;conv=>whnf
  refine hK _ _ _ ?_
  refine aD ?_
  refine aG ?_
  replace h:=aB h
  refine aA dCo fun K hK=>?_;conv=>whnf
  refine hK _ ?_
  cases h
  exact Wk.refl _
 refine nlA rfl ?_;conv=>whnf
 refine bKo rfl ?_;conv=>whnf
 refine gKo rfl ?_;conv=>whnf
 refine cLk h (fun _ h=>?_) (fun _ h=>?_)<;>(conv=>whnf)
 ·refine hK _ _ _ ?_
  refine aQ fun K1 K2 hK1 hK2=>?_;conv=>whnf
  refine hK1 ?_
  replace h:=fC h
  refine aE dCo rfl fun K hK=>?_;conv=>whnf
  refine hK _ _ _ ?_
  refine aD ?_
  refine aG ?_
  replace h:=aB h
  refine aA dCo fun K hK=>?_;conv=>whnf
  refine hK _ ?_
  cases h
  exact Wk.refl _
 refine nlA rfl ?_;conv=>whnf
 refine bKo rfl ?_;conv=>whnf
 refine gKo rfl ?_;conv=>whnf
 refine hK _ _ _ ?_
 refine aQ fun K1 K2 hK1 hK2=>?_;conv=>whnf
 refine cLk h (fun _ h=>?_) (fun _ h=>?_)
 ·refine hK1 ?_
  refine aE dCo rfl fun K hK=>?_;conv=>whnf
  refine hK _ _ _ ?_
  refine aD ?_
  refine aG ?_
  replace h:=aB h
  refine aA dCo fun K hK=>?_;conv=>whnf
  refine hK _ ?_
  cases h
  exact Wk.refl _
 refine hK2 ?_
 refine aK ?_
 refine tHn ?_
 refine lP 1 ?_;(conv=>whnf);refine ⟨_,rfl,?_⟩
 refine aE dCo rfl fun K hK=>?_;conv=>whnf
 refine gKo rfl ?_;conv=>whnf
 replace h:=bC h
 refine iU h68 h (WkL.refl _) (fun _ h=>?_);conv=>whnf
 refine hK _ _ _ ?_
 refine aD ?_
 replace h:=aB h
 refine aA dCo fun K hK=>?_;conv=>whnf
 refine hK _ ?_
 cases h
 exact Wk.refl _
theorem gD {T:Tbl} (hT:T 33=aS eG) {args:List AV} {hp:aX} {id:Nat} {k:AV→Prop} {a0:aP} {Φ:Bool→Prop} (h:W (dE a0) Φ) (hw:WkL args [bN a0]) (hk:∀ y,Φ y→k (eB y)):cU T 33 args hp id k:=by
 obtain ⟨y,e,hy⟩:=fB h
 exact aZ hT ⟨a0,rfl,kD e rfl⟩ (by exact (lsB _)) hw (hk y hy)
def bI (a0:aP):Option ((Ar 8)×Bool):=bd (dE a0) fun y1=>cn (!y1) (some ((Ar.zero 8),false)) (bd (fK a0) fun y2=>some (y2.1,y2.2))
def cC:List AV→AV→Prop:=fun args r=>∃ a0,args=[bN a0]∧W (bI a0) fun y=>r=(.tup [eAr y.1,eB y.2])
theorem aAi {T:Tbl} (hT:TOk Tryd.prog T) (hpf:cP T PF) (h33:T 33=aS eG) (h79:T 79=aS gM):FOk Tryd.prog 54 (aS cC):=by
 refine bJ hT hpf Tryd.func54 rfl Tryd.ntmps54 Tryd.results54 (by decide) ?_
 rintro args r ⟨a0,rfl,h⟩
 refine ⟨nle rfl,?_,?_⟩
 ·exact (lsC (bZ _) lsN)
 rw [bI.eq_1] at h
 refine aE dCo rfl fun K hK=>?_;conv=>whnf
 refine hK _ _ _ ?_
 refine aL ?_
 refine aE dCo rfl fun K hK=>?_;conv=>whnf
 refine nlA rfl ?_;conv=>whnf
 refine bKo rfl ?_;conv=>whnf
 refine nlA rfl ?_;conv=>whnf
 replace h:=bC h
 refine gD h33 h (WkL.refl _) (fun _ h=>?_);conv=>whnf
 refine hK _ _ _ ?_
 refine aQ fun K1 K2 hK1 hK2=>?_;conv=>whnf
 refine cLk h (fun _ h=>?_) (fun _ h=>?_)
 ·refine hK1 ?_
  refine aE dCo rfl fun K hK=>?_;conv=>whnf
  refine bKo rfl ?_;conv=>whnf
  refine oO (x:=(Ar.zero 8)) rfl rfl rfl ?_;conv=>whnf
  refine hK _ _ _ ?_
  refine aD ?_
  refine aG ?_
  replace h:=aB h
  refine aA dCo fun K hK=>?_;conv=>whnf
  refine nlA rfl ?_;conv=>whnf
  refine bKo rfl ?_;conv=>whnf
  refine rD (x:=(Ar.zero 8)) rfl ?_;conv=>whnf
  refine hK _ ?_
  cases h
  exact Wk.refl _
 refine hK2 ?_
 refine aK ?_
 refine tHn ?_
 refine aE dCo rfl fun K hK=>?_;conv=>whnf
 refine nlA rfl ?_;conv=>whnf
 refine bKo rfl ?_;conv=>whnf
 refine nlA rfl ?_;conv=>whnf
 replace h:=bC h
 refine rX h79 h (WkL.refl _) (fun _ h=>?_);conv=>whnf
 refine aU ?_;conv=>whnf
 refine aU ?_;conv=>whnf
 refine bKo rfl ?_;conv=>whnf
 refine oO rfl rfl rfl ?_;conv=>whnf
 refine hK _ _ _ ?_
 refine aD ?_
 replace h:=aB h
 refine aA dCo fun K hK=>?_;conv=>whnf
 refine nlA rfl ?_;conv=>whnf
 refine bKo rfl ?_;conv=>whnf
 refine rD rfl ?_;conv=>whnf
 refine hK _ ?_
 cases h
 exact Wk.refl _
theorem bY {T:Tbl} (hT:T 54=aS cC) {args:List AV} {hp:aX} {id:Nat} {k:AV→Prop} {a0:aP} {Φ:(Ar 8)×Bool→Prop} (h:W (bI a0) Φ) (hw:WkL args [bN a0]) (hk:∀ y,Φ y→k (.tup [eAr y.1,eB y.2])):cU T 54 args hp id k:=by
 obtain ⟨y,e,hy⟩:=fB h
 exact aZ hT ⟨a0,rfl,kD e rfl⟩ (by exact fH (lsC (oT _) (lsC (lsB _) lsN))) hw (hk y hy)
  def lG (a0:aP) (a1:List Int) (y1:(Ar 8)×Bool) (s4:Int×Int):Option (Ct (Int×Int) Bool):=cn (decide (s4.2<(a1.length:Int))) (ix a1 default s4.2 fun e5=>
  jn (fun p6:Bool=>cn p6 (some (.rt false)) (gd (0≤e5) (let v8:=(bor .i64 s4.1 (aEP .i64 1 e5));some (.nx (v8,(wr (s4.2+1))))))) fun k7=>
  cn (decide (e5<0)) (k7 true) (cn (decide (e5≥a0.N)) (k7 true) (gd (0≤e5) (cn ((tI .i64 (vX .i64 s4.1 e5) 1) ==
  1) (k7 true) (gd (0≤e5∧e5<(8:Int)) (k7 ((qP .i64 (y1.1.at1 e5) s4.1) != 0))))))) (some (.bk (s4.1,s4.2)))
def gN (a0:aP) (a1:List Int):Option Bool:=bd (bI a0) fun y1=>jn (fun p2:Bool=>
  cn p2 (some false) (bd (lp (lG a0 a1 y1) FU (0,0)) fun c9=>smK c9 (fun s10=>some true) (fun r11=>some r11))) fun k3=>
  cn (!y1.2) (k3 true) (k3 ((a1.length:Int) != a0.N))
def gU:List AV→AV→Prop:=fun args r=>∃ a0 a1,args=[bN a0,(eL 1 eI default) a1]∧W (gN a0 a1) fun y=>r=(eB y)
theorem vV {T:Tbl} (hT:TOk Tryd.prog T) (hpf:cP T PF) (h54:T 54=aS cC):FOk Tryd.prog 22 (aS gU):=by
 refine bJ hT hpf Tryd.func22 rfl Tryd.ntmps22 Tryd.results22 (by decide) ?_
 rintro args r ⟨a0,a1,rfl,h⟩
 refine ⟨nle rfl,?_,?_⟩
 ·exact (lsC (bZ _) (lsC (lsL fun _=>(lsI _ _)) lsN))
 rw [gN.eq_1] at h
 refine aE dCo rfl fun K hK=>?_;conv=>whnf
 refine hK _ _ _ ?_
 refine aE dCo rfl fun K hK=>?_;conv=>whnf
 refine nlA rfl ?_;conv=>whnf
 refine bKo rfl ?_;conv=>whnf
 refine nlA rfl ?_;conv=>whnf
 replace h:=bC h
 refine bY h54 h (WkL.refl _) (fun _ h=>?_);conv=>whnf
 refine aU ?_;conv=>whnf
 refine aU ?_;conv=>whnf
 refine aU ?_;conv=>whnf
 refine bKo rfl ?_;conv=>whnf
 refine oO rfl rfl rfl ?_;conv=>whnf
 refine hK _ _ _ ?_
 refine aL ?_
 refine aE dCo rfl fun K hK=>?_;conv=>whnf
 replace h:=cL h
 refine cLk h (fun _ h=>?_) (fun _ h=>?_)<;>(conv=>whnf)
 ·refine hK _ _ _ ?_
  refine aQ fun K1 K2 hK1 hK2=>?_;conv=>whnf
  refine hK1 ?_
  replace h:=fC h
  refine aE dCo rfl fun K hK=>?_;conv=>whnf
  refine hK _ _ _ ?_
  refine aD ?_
  refine aG ?_
  replace h:=aB h
  refine aA dCo fun K hK=>?_;conv=>whnf
  refine hK _ ?_
  cases h
  exact Wk.refl _
 refine nlA rfl ?_;conv=>whnf
 refine bKo rfl ?_;conv=>whnf
 refine gKo rfl ?_;conv=>whnf
 refine hK _ _ _ ?_
 refine aQ fun K1 K2 hK1 hK2=>?_;conv=>whnf
 refine cLk h (fun _ h=>?_) (fun _ h=>?_)
 ·refine hK1 ?_
  refine aE dCo rfl fun K hK=>?_;conv=>whnf
  refine hK _ _ _ ?_
  refine aD ?_
  refine aG ?_
  replace h:=aB h
  refine aA dCo fun K hK=>?_;conv=>whnf
  refine hK _ ?_
  cases h
  exact Wk.refl _
 refine hK2 ?_
 refine aK ?_
 refine tHn ?_
 refine aE dCo rfl fun K hK=>?_;conv=>whnf
 refine hK _ _ _ ?_
 refine aL ?_
 refine aE dCo rfl fun K hK=>?_;conv=>whnf
 refine hK _ _ _ ?_
 refine aN ?_
 replace h:=bC h
 refine gQ (body:=lG _ _ _) rfl h [2,5,24,25] [2] [5] [] (fun kl kh kr ids b s=>⟨ofL ([(7,eI s.1),(26,eI s.2)]++kl),ofH (([]++kh)++([]++kr)),b+64⟩) ?_;(conv=>whnf);refine And.intro ?_ (fun s m h=>dP ?_)
 ·refine bM ?_;conv=>whnf
  exact And.intro rfl (And.intro (aLc wkI (aLc wkI (aLc (WkR.ptr (fun _=>rfl)) (aLc (WkR.ptr (fun _=>rfl)) (aLc (wkr (lsL fun _=>(lsI _ _))) (aLc wkI aLn)))))) (aLc ⟨some _,rfl,bRc rfl (cKc wkI (cKc (wkr (lsL fun _=>(aO _))) cKn))⟩ (aLc ⟨some _,rfl,aY rfl rfl⟩ aLn)))
 replace h:=bC h;rw [lG.eq_1] at h
 refine aE dCo rfl fun K hK=>?_;conv=>whnf
 refine hK _ _ _ ?_
 refine aL ?_
 refine aQ fun K1 K2 hK1 hK2=>?_;conv=>whnf
 refine cLk h (fun _ h=>?_) (fun _ h=>?_)
 ·refine hK1 ?_
  refine aK ?_
  refine tHn ?_
  refine aL ?_
  refine aN ?_
  refine aE dCo rfl fun K hK=>?_;conv=>whnf
  refine kU h fun _ h=>?_;conv=>whnf
  refine gKo rfl ?_;conv=>whnf
  refine hK _ _ _ ?_
  refine aL ?_
  refine aE dCo rfl fun K hK=>?_;conv=>whnf
  replace h:=cL h
  refine cLk h (fun _ h=>?_) (fun _ h=>?_)<;>(conv=>whnf)
  ·refine hK _ _ _ ?_
   refine aQ fun K1 K2 hK1 hK2=>?_;conv=>whnf
   refine hK1 ?_
   replace h:=fC h
   refine aE dCo rfl fun K hK=>?_;conv=>whnf
   refine hK _ _ _ ?_
   refine aD ?_
   refine aG ?_
   refine aC ?_
   refine aG ?_
   refine aG ?_
   refine aC ?_
   refine aG ?_
   replace h:=kJ h
   replace h:=kH h
   replace h:=aB h
   refine aA dCo fun K hK=>?_;conv=>whnf
   refine hK _ ?_
   cases h
   exact Wk.refl _
  refine nlA rfl ?_;conv=>whnf
  refine bKo rfl ?_;conv=>whnf
  refine gKo rfl ?_;conv=>whnf
  refine cLk h (fun _ h=>?_) (fun _ h=>?_)<;>(conv=>whnf)
  ·refine hK _ _ _ ?_
   refine aQ fun K1 K2 hK1 hK2=>?_;conv=>whnf
   refine hK1 ?_
   replace h:=fC h
   refine aE dCo rfl fun K hK=>?_;conv=>whnf
   refine hK _ _ _ ?_
   refine aD ?_
   refine aG ?_
   refine aC ?_
   refine aG ?_
   refine aG ?_
   refine aC ?_
   refine aG ?_
   replace h:=kJ h
   replace h:=kH h
   replace h:=aB h
   refine aA dCo fun K hK=>?_;conv=>whnf
   refine hK _ ?_
   cases h
   exact Wk.refl _
  refine cO h fun _ h=>?_;conv=>whnf
  refine cLk h (fun _ h=>?_) (fun _ h=>?_)<;>(conv=>whnf)
  ·refine hK _ _ _ ?_
   refine aQ fun K1 K2 hK1 hK2=>?_;conv=>whnf
   refine hK1 ?_
   replace h:=fC h
   refine aE dCo rfl fun K hK=>?_;conv=>whnf
   refine hK _ _ _ ?_
   refine aD ?_
   refine aG ?_
   refine aC ?_
   refine aG ?_
   refine aG ?_
   refine aC ?_
   refine aG ?_
   replace h:=kJ h
   replace h:=kH h
   replace h:=aB h
   refine aA dCo fun K hK=>?_;conv=>whnf
   refine hK _ ?_
   cases h
   exact Wk.refl _
  refine cO h fun hx30 h=>?_;conv=>whnf
  refine nlA rfl ?_;conv=>whnf
  refine bKo rfl ?_;conv=>whnf
  refine dS rfl hx30 ?_;conv=>whnf
  refine hK _ _ _ ?_
  refine aQ fun K1 K2 hK1 hK2=>?_;conv=>whnf
  refine cLk h (fun _ h=>?_) (fun _ h=>?_)
  ·refine hK1 ?_
   refine aE dCo rfl fun K hK=>?_;conv=>whnf
   refine hK _ _ _ ?_
   refine aD ?_
   refine aG ?_
   refine aC ?_
   refine aG ?_
   refine aG ?_
   refine aC ?_
   refine aG ?_
   replace h:=kJ h
   replace h:=kH h
   replace h:=aB h
   refine aA dCo fun K hK=>?_;conv=>whnf
   refine hK _ ?_
   cases h
   exact Wk.refl _
  refine hK2 ?_
  refine aK ?_
  refine tHn ?_
  refine cR dCo rfl fun K hK=>?_;conv=>whnf
  refine cO h fun _ h=>?_;conv=>whnf
  refine hK _ _ _ ?_
  refine iBn ?_
  refine tHn ?_
  refine cR dCo rfl fun K hK=>?_;conv=>whnf
  refine hK _ _ _ ?_
  refine tHn ?_
  replace h:=bU h
  refine ⟨_,h,?_⟩
  refine bM ?_;conv=>whnf
  exact And.intro rfl (And.intro (aLc wkI (aLc wkI (aLc (WkR.ptr (fun _=>rfl)) (aLc (WkR.ptr (fun _=>rfl)) (aLc (wkr (lsL fun _=>(lsI _ _))) (aLc wkI aLn)))))) (aLc ⟨some _,rfl,bRc rfl (cKc wkI (cKc (wkr (lsL fun _=>(aO _))) cKn))⟩ (aLc ⟨some _,rfl,aY rfl rfl⟩ aLn)))
 refine hK2 ?_
 refine bO ?_
 refine bD ?_
 refine bD ?_
 refine bA ?_
 replace h:=dT h
 replace h:=dU h
 refine tHn ?_
 refine aE dCo rfl fun K hK=>?_;conv=>whnf
 refine hK _ _ _ ?_
 refine aD ?_
 replace h:=aB h
 refine aA dCo fun K hK=>?_;conv=>whnf
 refine hK _ ?_
 cases h
 exact Wk.refl _
theorem mV {T:Tbl} (hT:T 22=aS gU) {args:List AV} {hp:aX} {id:Nat} {k:AV→Prop} {a0:aP} {a1:List Int} {Φ:Bool→Prop} (h:W (gN a0 a1) Φ) (hw:WkL args [bN a0,(eL 1 eI default) a1]) (hk:∀ y,Φ y→k (eB y)):cU T 22 args hp id k:=by
 obtain ⟨y,e,hy⟩:=fB h
 exact aZ hT ⟨a0,a1,rfl,kD e rfl⟩ (by exact (lsB _)) hw (hk y hy)
def kQ (a0:aP):Option (aP×Int):=bd (bI a0) fun y1=>cn (!y1.2) (some ((⟨0,[]⟩:aP),70)) (bd (eE a0.N y1.1) fun y2=>
  some (y2,0))
def iL:List AV→AV→Prop:=fun args r=>∃ a0,args=[bN a0]∧W (kQ a0) fun y=>r=(.tup [bN y.1,eI y.2])
theorem vZ {T:Tbl} (hT:TOk Tryd.prog T) (hpf:cP T PF) (h54:T 54=aS cC) (h58:T 58=aS fO):FOk Tryd.prog 24 (aS iL):=by
 refine bJ hT hpf Tryd.func24 rfl Tryd.ntmps24 Tryd.results24 (by decide) ?_
 rintro args r ⟨a0,rfl,h⟩
 refine ⟨nle rfl,?_,?_⟩
 ·exact (lsC (bZ _) lsN)
 rw [kQ.eq_1] at h
 refine aE dCo rfl fun K hK=>?_;conv=>whnf
 refine hK _ _ _ ?_
 refine aE dCo rfl fun K hK=>?_;conv=>whnf
 refine nlA rfl ?_;conv=>whnf
 refine bKo rfl ?_;conv=>whnf
 refine nlA rfl ?_;conv=>whnf
 replace h:=bC h
 refine bY h54 h (WkL.refl _) (fun _ h=>?_);conv=>whnf
 refine aU ?_;conv=>whnf
 refine aU ?_;conv=>whnf
 refine aU ?_;conv=>whnf
 refine bKo rfl ?_;conv=>whnf
 refine oO rfl rfl rfl ?_;conv=>whnf
 refine hK _ _ _ ?_
 refine aL ?_
 refine aE dCo rfl fun K hK=>?_;conv=>whnf
 refine hK _ _ _ ?_
 refine aQ fun K1 K2 hK1 hK2=>?_;conv=>whnf
 refine cLk h (fun _ h=>?_) (fun _ h=>?_)
 ·refine hK1 ?_
  refine aE dCo rfl fun K hK=>?_;conv=>whnf
  refine bKo rfl ?_;conv=>whnf
  refine And.intro rfl (And.intro (nle rfl) (And.intro rfl ?_));conv=>whnf
  refine hK _ _ _ ?_
  refine aD ?_
  refine aG ?_
  replace h:=aB h
  refine aA dCo fun K hK=>?_;conv=>whnf
  refine nlA rfl ?_;conv=>whnf
  refine bKo rfl ?_;conv=>whnf
  refine nlA rfl ?_;conv=>whnf
  refine hK _ ?_
  cases h
  exact pD (aF (bH (aF (Wk.refl _) (aF kF aJ))) (aF (Wk.refl _) aJ))
 refine hK2 ?_
 refine aK ?_
 refine tHn ?_
 refine aE dCo rfl fun K hK=>?_;conv=>whnf
 refine nlA rfl ?_;conv=>whnf
 refine bKo rfl ?_;conv=>whnf
 refine gKo rfl ?_;conv=>whnf
 refine nlA rfl ?_;conv=>whnf
 refine bKo rfl ?_;conv=>whnf
 refine rD rfl ?_;conv=>whnf
 refine aU ?_;conv=>whnf
 replace h:=bC h
 refine mO h58 h (WkL.refl _) (fun _ h=>?_);conv=>whnf
 refine bKo rfl ?_;conv=>whnf
 refine And.intro rfl (And.intro (nle rfl) (And.intro rfl ?_));conv=>whnf
 refine hK _ _ _ ?_
 refine aD ?_
 replace h:=aB h
 refine aA dCo fun K hK=>?_;conv=>whnf
 refine nlA rfl ?_;conv=>whnf
 refine bKo rfl ?_;conv=>whnf
 refine nlA rfl ?_;conv=>whnf
 refine hK _ ?_
 cases h
 exact Wk.refl _
theorem sZ {T:Tbl} (hT:T 24=aS iL) {args:List AV} {hp:aX} {id:Nat} {k:AV→Prop} {a0:aP} {Φ:aP×Int→Prop} (h:W (kQ a0) Φ) (hw:WkL args [bN a0]) (hk:∀ y,Φ y→k (.tup [bN y.1,eI y.2])):cU T 24 args hp id k:=by
 obtain ⟨y,e,hy⟩:=fB h
 exact aZ hT ⟨a0,rfl,kD e rfl⟩ (by exact fH (lsC (bZ _) (lsC (lsI _ _) lsN))) hw (hk y hy)
  def eP (a0:aP) (s2:Int×(Ar 8)) (y1:(Ar 8)×Bool) (s3:Int×(Ar 8)):Option (Ct (Int×(Ar 8)) (aP×Int)):=cn (decide (s3.1<a0.N)) (gd (0≤s2.1∧s2.1<(8:Int)) (gd (0≤s3.1) (jn (fun p4:(Ar 8)=>
  some (.nx ((wr (s3.1+1)),p4))) fun k5=>cn ((tI .i64 (vX .i64 (y1.1.at1 s2.1) s3.1) 1) ==
  1) (gd (0≤s2.1∧s2.1<(8:Int)) (gd (0≤s3.1∧s3.1<(8:Int)) (gd (0≤s2.1∧s2.1<(8:Int)) (let m6:=s3.2.st1 s2.1 (qP .i64 (s3.2.at1 s2.1) (y1.1.at1 s3.1));
  k5 m6)))) (k5 s3.2)))) (some (.bk (s3.1,s3.2)))
  def eV (a0:aP) (y1:(Ar 8)×Bool) (s2:Int×(Ar 8)):Option (Ct (Int×(Ar 8)) (aP×Int)):=cn (decide (s2.1<a0.N)) (bd (lp (eP a0 s2 y1) FU (0,s2.2)) fun c7=>
  smK c7 (fun s8=>some (.nx ((wr (s2.1+1)),s8.2))) (fun r9=>some (.rt r9))) (some (.bk (s2.1,s2.2)))
def eJ (a0:aP):Option (aP×Int):=bd (bI a0) fun y1=>
  cn (!y1.2) (some ((⟨0,[]⟩:aP),70)) (bd (lp (eV a0 y1) FU (0,y1.1)) fun c10=>smK c10 (fun s11=>bd (eE a0.N s11.2) fun y13=>
  some (y13,0)) (fun r12=>some r12))
def fL:List AV→AV→Prop:=fun args r=>∃ a0,args=[bN a0]∧W (eJ a0) fun y=>r=(.tup [bN y.1,eI y.2])
theorem vG {T:Tbl} (hT:TOk Tryd.prog T) (hpf:cP T PF) (h54:T 54=aS cC) (h58:T 58=aS fO):FOk Tryd.prog 25 (aS fL):=by
 refine bJ hT hpf Tryd.func25 rfl Tryd.ntmps25 Tryd.results25 (by decide) ?_
 rintro args r ⟨a0,rfl,h⟩
 refine ⟨nle rfl,?_,?_⟩
 ·exact (lsC (bZ _) lsN)
 rw [eJ.eq_1] at h
 refine aE dCo rfl fun K hK=>?_;conv=>whnf
 refine hK _ _ _ ?_
 refine aE dCo rfl fun K hK=>?_;conv=>whnf
 refine nlA rfl ?_;conv=>whnf
 refine bKo rfl ?_;conv=>whnf
 refine nlA rfl ?_;conv=>whnf
 replace h:=bC h
 refine bY h54 h (WkL.refl _) (fun _ h=>?_);conv=>whnf
 refine aU ?_;conv=>whnf
 refine aU ?_;conv=>whnf
 refine aU ?_;conv=>whnf
 refine bKo rfl ?_;conv=>whnf
 refine oO rfl rfl rfl ?_;conv=>whnf
 refine hK _ _ _ ?_
 refine aL ?_
 refine aE dCo rfl fun K hK=>?_;conv=>whnf
 refine hK _ _ _ ?_
 refine aQ fun K1 K2 hK1 hK2=>?_;conv=>whnf
 refine cLk h (fun _ h=>?_) (fun _ h=>?_)
 ·refine hK1 ?_
  refine aE dCo rfl fun K hK=>?_;conv=>whnf
  refine bKo rfl ?_;conv=>whnf
  refine And.intro rfl (And.intro (nle rfl) (And.intro rfl ?_));conv=>whnf
  refine hK _ _ _ ?_
  refine aD ?_
  refine aG ?_
  replace h:=aB h
  refine aA dCo fun K hK=>?_;conv=>whnf
  refine nlA rfl ?_;conv=>whnf
  refine bKo rfl ?_;conv=>whnf
  refine nlA rfl ?_;conv=>whnf
  refine hK _ ?_
  cases h
  exact pD (aF (bH (aF (Wk.refl _) (aF kF aJ))) (aF (Wk.refl _) aJ))
 refine hK2 ?_
 refine aK ?_
 refine tHn ?_
 refine aE dCo rfl fun K hK=>?_;conv=>whnf
 refine nlA rfl ?_;conv=>whnf
 refine bKo rfl ?_;conv=>whnf
 refine rD rfl ?_;conv=>whnf
 refine bKo rfl ?_;conv=>whnf
 refine oO rfl rfl rfl ?_;conv=>whnf
 refine hK _ _ _ ?_
 refine aL ?_
 refine aE dCo rfl fun K hK=>?_;conv=>whnf
 refine nlA rfl ?_;conv=>whnf
 refine bKo rfl ?_;conv=>whnf
 refine gKo rfl ?_;conv=>whnf
 refine hK _ _ _ ?_
 refine aN ?_
 replace h:=bC h
 refine gQ (body:=eV _ _) rfl h [1,2,4,6,19] [1,2] [4] [6] (fun kl kh kr ids b s=>⟨ofL ([(20,eI s.1)]++kl),ofH (([]++kh)++([(aAH ids 0,.cells (cA s.2))]++kr)),b+128⟩) ?_;(conv=>whnf);refine And.intro ?_ (fun s m h=>dP ?_)
 ·refine bM ?_;conv=>whnf
  exact And.intro rfl (And.intro (aLc wkI (aLc (WkR.ptr (fun _=>rfl)) (aLc (WkR.ptr (fun _=>rfl)) (aLc (WkR.ptr (fun _=>rfl)) (aLc (WkR.ptr (fun _=>rfl)) (aLc wkI aLn)))))) (aLc ⟨some _,rfl,bRc rfl (cKc wkI (cKc (wkr (lsL fun _=>(aO _))) cKn))⟩ (aLc ⟨some _,rfl,bRc rfl (cKc wkI (cKc (wkr bW) cKn))⟩ (aLc ⟨some _,rfl,aY rfl rfl⟩ (aLc ⟨some _,rfl,aY rfl rfl⟩ aLn)))))
 replace h:=bC h;rw [eV.eq_1] at h
 refine aE dCo rfl fun K hK=>?_;conv=>whnf
 refine hK _ _ _ ?_
 refine aL ?_
 refine aQ fun K1 K2 hK1 hK2=>?_;conv=>whnf
 refine cLk h (fun _ h=>?_) (fun _ h=>?_)
 ·refine hK1 ?_
  refine aK ?_
  refine tHn ?_
  refine aL ?_
  refine aN ?_
  refine aE dCo rfl fun K hK=>?_;conv=>whnf
  refine hK _ _ _ ?_
  refine aE dCo rfl fun K hK=>?_;conv=>whnf
  refine nlA rfl ?_;conv=>whnf
  refine bKo rfl ?_;conv=>whnf
  refine gKo rfl ?_;conv=>whnf
  refine hK _ _ _ ?_
  refine aN ?_
  replace h:=bC h
  refine gQ (body:=eP _ _ _) rfl h [1,2,4,6,7,19,20,24] [1,2] [4] [6] (fun kl kh kr ids b s=>⟨ofL ([(25,eI s.1)]++kl),ofH (([]++kh)++([(aAH ids 0,.cells (cA s.2))]++kr)),b+128⟩) ?_;(conv=>whnf);refine And.intro ?_ (fun s m h=>dP ?_)
  ·refine bM ?_;conv=>whnf
   exact And.intro rfl (And.intro (aLc wkI (aLc (WkR.ptr (fun _=>rfl)) (aLc (WkR.ptr (fun _=>rfl)) (aLc (WkR.ptr (fun _=>rfl)) (aLc (WkR.ptr (fun _=>rfl)) (aLc wkI (aLc wkI (aLc wkI (aLc wkI aLn))))))))) (aLc ⟨some _,rfl,bRc rfl (cKc wkI (cKc (wkr (lsL fun _=>(aO _))) cKn))⟩ (aLc ⟨some _,rfl,bRc rfl (cKc wkI (cKc (wkr bW) cKn))⟩ (aLc ⟨some _,rfl,aY rfl rfl⟩ (aLc ⟨some _,rfl,aY rfl rfl⟩ aLn)))))
  replace h:=bC h;rw [eP.eq_1] at h
  refine aE dCo rfl fun K hK=>?_;conv=>whnf
  refine hK _ _ _ ?_
  refine aL ?_
  refine aQ fun K1 K2 hK1 hK2=>?_;conv=>whnf
  refine cLk h (fun _ h=>?_) (fun _ h=>?_)
  ·refine hK1 ?_
   refine aK ?_
   refine tHn ?_
   refine aL ?_
   refine aN ?_
   refine aE dCo rfl fun K hK=>?_;conv=>whnf
   refine hK _ _ _ ?_
   refine aE dCo rfl fun K hK=>?_;conv=>whnf
   refine cO h fun hx465 h=>?_;conv=>whnf
   refine nlA rfl ?_;conv=>whnf
   refine bKo rfl ?_;conv=>whnf
   refine dS rfl hx465 ?_;conv=>whnf
   refine cO h fun _ h=>?_;conv=>whnf
   refine hK _ _ _ ?_
   replace h:=cL h
   refine aQ fun K1 K2 hK1 hK2=>?_;conv=>whnf
   refine cLk h (fun _ h=>?_) (fun _ h=>?_)
   ·refine hK1 ?_
    refine aAL dCo eZ rfl (by kernel_rfl) fun K hK=>?_;conv=>whnf
    refine cO h fun hx469 h=>?_;conv=>whnf
    refine nlA rfl ?_;conv=>whnf
    refine bKo rfl ?_;conv=>whnf
    refine dS rfl hx469 ?_;conv=>whnf
    refine cO h fun hx470 h=>?_;conv=>whnf
    refine nlA rfl ?_;conv=>whnf
    refine bKo rfl ?_;conv=>whnf
    refine dS rfl hx470 ?_;conv=>whnf
    refine cO h fun hx471 h=>?_;conv=>whnf
    refine bKo rfl ?_;conv=>whnf
    refine wU rfl hx471 rfl rfl ?_;conv=>whnf
    refine hK _ _ _ ?_
    refine iBn ?_
    refine tHn ?_
    refine cR dCo rfl fun K hK=>?_;conv=>whnf
    refine hK _ _ _ ?_
    refine tHn ?_
    replace h:=bU h
    refine ⟨_,h,?_⟩
    refine bM ?_;conv=>whnf
    exact And.intro rfl (And.intro (aLc wkI (aLc (WkR.ptr (fun _=>rfl)) (aLc (WkR.ptr (fun _=>rfl)) (aLc (WkR.ptr (fun _=>rfl)) (aLc (WkR.ptr (fun _=>rfl)) (aLc wkI (aLc wkI (aLc wkI (aLc wkI aLn))))))))) (aLc ⟨some _,rfl,bRc rfl (cKc wkI (cKc (wkr (lsL fun _=>(aO _))) cKn))⟩ (aLc ⟨some _,rfl,bRc rfl (cKc wkI (cKc (wkr bW) cKn))⟩ (aLc ⟨some _,rfl,aY rfl rfl⟩ (aLc ⟨some _,rfl,aY rfl rfl⟩ aLn)))))
   refine hK2 ?_
   refine aK ?_
   refine iBn ?_
   refine tHn ?_
   refine cR dCo rfl fun K hK=>?_;conv=>whnf
   refine hK _ _ _ ?_
   refine tHn ?_
   replace h:=bU h
   refine ⟨_,h,?_⟩
   refine bM ?_;conv=>whnf
   exact And.intro rfl (And.intro (aLc wkI (aLc (WkR.ptr (fun _=>rfl)) (aLc (WkR.ptr (fun _=>rfl)) (aLc (WkR.ptr (fun _=>rfl)) (aLc (WkR.ptr (fun _=>rfl)) (aLc wkI (aLc wkI (aLc wkI (aLc wkI aLn))))))))) (aLc ⟨some _,rfl,bRc rfl (cKc wkI (cKc (wkr (lsL fun _=>(aO _))) cKn))⟩ (aLc ⟨some _,rfl,bRc rfl (cKc wkI (cKc (wkr bW) cKn))⟩ (aLc ⟨some _,rfl,aY rfl rfl⟩ (aLc ⟨some _,rfl,aY rfl rfl⟩ aLn)))))
  refine hK2 ?_
  refine bO ?_
  refine bD ?_
  refine bD ?_
  refine bA ?_
  replace h:=dT h
  replace h:=dU h
  refine iBn ?_
  refine tHn ?_
  refine cR dCo rfl fun K hK=>?_;conv=>whnf
  refine hK _ _ _ ?_
  refine tHn ?_
  replace h:=bU h
  refine ⟨_,h,?_⟩
  refine bM ?_;conv=>whnf
  exact And.intro rfl (And.intro (aLc wkI (aLc (WkR.ptr (fun _=>rfl)) (aLc (WkR.ptr (fun _=>rfl)) (aLc (WkR.ptr (fun _=>rfl)) (aLc (WkR.ptr (fun _=>rfl)) (aLc wkI aLn)))))) (aLc ⟨some _,rfl,bRc rfl (cKc wkI (cKc (wkr (lsL fun _=>(aO _))) cKn))⟩ (aLc ⟨some _,rfl,bRc rfl (cKc wkI (cKc (wkr bW) cKn))⟩ (aLc ⟨some _,rfl,aY rfl rfl⟩ (aLc ⟨some _,rfl,aY rfl rfl⟩ aLn)))))
 refine hK2 ?_
 refine bO ?_
 refine bD ?_
 refine bD ?_
 refine bA ?_
 replace h:=dT h
 replace h:=dU h
 refine tHn ?_
 refine aE dCo rfl fun K hK=>?_;conv=>whnf
 refine nlA rfl ?_;conv=>whnf
 refine bKo rfl ?_;conv=>whnf
 refine gKo rfl ?_;conv=>whnf
 refine nlA rfl ?_;conv=>whnf
 refine bKo rfl ?_;conv=>whnf
 refine rD rfl ?_;conv=>whnf
 refine aU ?_;conv=>whnf
 replace h:=bC h
 refine mO h58 h (WkL.refl _) (fun _ h=>?_);conv=>whnf
 refine bKo rfl ?_;conv=>whnf
 refine And.intro rfl (And.intro (nle rfl) (And.intro rfl ?_));conv=>whnf
 refine hK _ _ _ ?_
 refine aD ?_
 replace h:=aB h
 refine aA dCo fun K hK=>?_;conv=>whnf
 refine nlA rfl ?_;conv=>whnf
 refine bKo rfl ?_;conv=>whnf
 refine nlA rfl ?_;conv=>whnf
 refine hK _ ?_
 cases h
 exact Wk.refl _
theorem mZ {T:Tbl} (hT:T 25=aS fL) {args:List AV} {hp:aX} {id:Nat} {k:AV→Prop} {a0:aP} {Φ:aP×Int→Prop} (h:W (eJ a0) Φ) (hw:WkL args [bN a0]) (hk:∀ y,Φ y→k (.tup [bN y.1,eI y.2])):cU T 25 args hp id k:=by
 obtain ⟨y,e,hy⟩:=fB h
 exact aZ hT ⟨a0,rfl,kD e rfl⟩ (by exact fH (lsC (bZ _) (lsC (lsI _ _) lsN))) hw (hk y hy)
def cH (a0:aP) (a1:Int) (a2:Int):Option Bool:=bd (bI a0) fun y1=>jn (fun p2:Bool=>some p2) fun k3=>
  cn y1.2 (cn (decide ((aJ7 a1 a2)≥0)) (cn (decide ((aIM a1 a2)<a0.N)) (gd (0≤a2∧a2<(8:Int)) (gd (0≤a1) (let v4:=((tI .i64 (vX .i64 (y1.1.at1 a2) a1) 1) ==
  1);k3 v4))) (k3 false)) (k3 false)) (k3 false)
def eC:List AV→AV→Prop:=fun args r=>∃ a0 a1 a2,args=[bN a0,eI a1,eI a2]∧W (cH a0 a1 a2) fun y=>r=(eB y)
theorem vW {T:Tbl} (hT:TOk Tryd.prog T) (hpf:cP T PF) (h54:T 54=aS cC):FOk Tryd.prog 27 (aS eC):=by
 refine bJ hT hpf Tryd.func27 rfl Tryd.ntmps27 Tryd.results27 (by decide) ?_
 rintro args r ⟨a0,a1,a2,rfl,h⟩
 refine ⟨nle rfl,?_,?_⟩
 ·exact (lsC (bZ _) (lsC (lsI _ _) (lsC (lsI _ _) lsN)))
 rw [cH.eq_1] at h
 refine aE dCo rfl fun K hK=>?_;conv=>whnf
 refine hK _ _ _ ?_
 refine aE dCo rfl fun K hK=>?_;conv=>whnf
 refine nlA rfl ?_;conv=>whnf
 refine bKo rfl ?_;conv=>whnf
 refine nlA rfl ?_;conv=>whnf
 replace h:=bC h
 refine bY h54 h (WkL.refl _) (fun _ h=>?_);conv=>whnf
 refine aU ?_;conv=>whnf
 refine aU ?_;conv=>whnf
 refine aU ?_;conv=>whnf
 refine bKo rfl ?_;conv=>whnf
 refine oO rfl rfl rfl ?_;conv=>whnf
 refine hK _ _ _ ?_
 refine aE dCo rfl fun K hK=>?_;conv=>whnf
 replace h:=cL h
 refine cLk h (fun _ h=>?_) (fun _ h=>?_)<;>(conv=>whnf)
 ·refine cLk h (fun _ h=>?_) (fun _ h=>?_)<;>(conv=>whnf)
  ·refine nlA rfl ?_;conv=>whnf
   refine bKo rfl ?_;conv=>whnf
   refine gKo rfl ?_;conv=>whnf
   refine cLk h (fun _ h=>?_) (fun _ h=>?_)<;>(conv=>whnf)
   ·refine cO h fun hx476 h=>?_;conv=>whnf
    refine nlA rfl ?_;conv=>whnf
    refine bKo rfl ?_;conv=>whnf
    refine dS rfl hx476 ?_;conv=>whnf
    refine cO h fun _ h=>?_;conv=>whnf
    refine hK _ _ _ ?_
    refine aD ?_
    replace h:=aB h
    refine aA dCo fun K hK=>?_;conv=>whnf
    refine hK _ ?_
    cases h
    exact Wk.refl _
   refine hK _ _ _ ?_
   refine aD ?_
   replace h:=aB h
   refine aA dCo fun K hK=>?_;conv=>whnf
   refine hK _ ?_
   cases h
   exact Wk.refl _
  refine hK _ _ _ ?_
  refine aD ?_
  replace h:=aB h
  refine aA dCo fun K hK=>?_;conv=>whnf
  refine hK _ ?_
  cases h
  exact Wk.refl _
 refine hK _ _ _ ?_
 refine aD ?_
 replace h:=aB h
 refine aA dCo fun K hK=>?_;conv=>whnf
 refine hK _ ?_
 cases h
 exact Wk.refl _
theorem aI {T:Tbl} (hT:T 27=aS eC) {args:List AV} {hp:aX} {id:Nat} {k:AV→Prop} {a0:aP} {a1:Int} {a2:Int} {Φ:Bool→Prop} (h:W (cH a0 a1 a2) Φ) (hw:WkL args [bN a0,eI a1,eI a2]) (hk:∀ y,Φ y→k (eB y)):cU T 27 args hp id k:=by
 obtain ⟨y,e,hy⟩:=fB h
 exact aZ hT ⟨a0,a1,a2,rfl,kD e rfl⟩ (by exact (lsB _)) hw (hk y hy)
def iM (a0:aP):Option Bool:=bd (bI a0) fun y1=>some y1.2
def iF:List AV→AV→Prop:=fun args r=>∃ a0,args=[bN a0]∧W (iM a0) fun y=>r=(eB y)
theorem wH {T:Tbl} (hT:TOk Tryd.prog T) (hpf:cP T PF) (h54:T 54=aS cC):FOk Tryd.prog 34 (aS iF):=by
 refine bJ hT hpf Tryd.func34 rfl Tryd.ntmps34 Tryd.results34 (by decide) ?_
 rintro args r ⟨a0,rfl,h⟩
 refine ⟨nle rfl,?_,?_⟩
 ·exact (lsC (bZ _) lsN)
 rw [iM.eq_1] at h
 refine aE dCo rfl fun K hK=>?_;conv=>whnf
 refine hK _ _ _ ?_
 refine aE dCo rfl fun K hK=>?_;conv=>whnf
 refine nlA rfl ?_;conv=>whnf
 refine bKo rfl ?_;conv=>whnf
 refine nlA rfl ?_;conv=>whnf
 replace h:=bC h
 refine bY h54 h (WkL.refl _) (fun _ h=>?_);conv=>whnf
 refine aU ?_;conv=>whnf
 refine aU ?_;conv=>whnf
 refine aU ?_;conv=>whnf
 refine bKo rfl ?_;conv=>whnf
 refine oO rfl rfl rfl ?_;conv=>whnf
 refine hK _ _ _ ?_
 refine aE dCo rfl fun K hK=>?_;conv=>whnf
 refine hK _ _ _ ?_
 refine aD ?_
 replace h:=aB h
 refine aA dCo fun K hK=>?_;conv=>whnf
 refine hK _ ?_
 cases h
 exact Wk.refl _
theorem oF {T:Tbl} (hT:T 34=aS iF) {args:List AV} {hp:aX} {id:Nat} {k:AV→Prop} {a0:aP} {Φ:Bool→Prop} (h:W (iM a0) Φ) (hw:WkL args [bN a0]) (hk:∀ y,Φ y→k (eB y)):cU T 34 args hp id k:=by
 obtain ⟨y,e,hy⟩:=fB h
 exact aZ hT ⟨a0,rfl,kD e rfl⟩ (by exact (lsB _)) hw (hk y hy)
def dJ:List AV→AV→Prop:=fun args r=>∃ (a0:Int) (a1:Ar 8),args=[eI a0,eAr a1]∧r=.fn 81 [] [.ep [eI a0] 0,.ep (cA a1) 0]
theorem rT {T:Tbl} (hT:TOk Tryd.prog T) (hpf:cP T PF):FOk Tryd.prog 56 (aS dJ):=by
 refine bJ hT hpf Tryd.func56 rfl Tryd.ntmps56 Tryd.results56 (by decide) ?_
 rintro args r ⟨a0,a1,rfl,rfl⟩
 refine ⟨nle rfl,?_,?_⟩
 ·exact (lsC (lsI _ _) (lsC (oT _) lsN))
 refine aE dCo rfl fun K hK=>?_;conv=>whnf
 refine aU ?_;conv=>whnf
 refine hK _ _ _ ?_
 refine lP 2 ?_;(conv=>whnf);refine ⟨_,rfl,?_⟩
 refine lP 3 ?_;(conv=>whnf);refine ⟨_,rfl,?_⟩
 refine aE dCo rfl fun K hK=>?_;conv=>whnf
 refine hK _ _ _ ?_
 refine aD ?_
 refine aA dCo fun K hK=>?_;conv=>whnf
 refine hK _ ?_
 exact Wk.refl _
  def dC (a9000:Type) (c900:Int) (c901:Ar 8) (s1:Int×a9000) (s2:Int×Int):Option (Ct (Int×Int) a9000):=cn (decide (s2.2<c900)) (gd (0≤s2.2) (jn (fun p3:Int=>
  some (.nx (p3,(wr (s2.2+1))))) fun k4=>cn ((tI .i64 (vX .i64 s1.1 s2.2) 1)==1) (gd (0≤s2.2∧s2.2<(8:Int)) (let v5:=(bor .i64 s2.1 (c901.at1 s2.2));
  k4 v5)) (k4 s2.1))) (some (.bk (s2.1,s2.2)))
  def dB (a9000:Type) (c900:Int) (c901:Ar 8) (f9001:Int→a9000→Option a9000) (s1:Int×a9000):Option (Ct (Int×a9000) a9000):=cn (decide (s1.1<(aEP .i64 1 c900))) (bd (lp (dC a9000 c900 c901 s1) FU (0,0)) fun c6=>
  smK c6 (fun s7=>jn (fun p9:a9000=>some (.nx ((wr (s1.1+1)),p9))) fun k10=>cn ((qP .i64 s7.1 s1.1)==0) (bd (f9001 s1.1 s1.2) fun g11=>
  k10 g11) (k10 s1.2)) (fun r8=>some (.rt r8))) (some (.bk (s1.1,s1.2)))
  def cM (c900:Int) (c901:Ar 8) (a9000:Type) (f9001:Int→a9000→Option a9000) (g9002:a9000):Option a9000:=gd (0≤c900) (bd (lp (dB a9000 c900 c901 f9001) FU (0,g9002)) fun c12=>
  smK c12 (fun s13=>some s13.2) (fun r14=>some r14))
def dX:List AV→(∀ σ:Type,(Int→σ→Option σ)→σ→Option σ)→Prop:=fun caps F=>∃ (c900:Int) (c901:Ar 8),caps=[.ep [eI c900] 0,.ep (cA c901) 0]∧F=cM c900 c901
theorem qF {T:Tbl} (hT:TOk Tryd.prog T) (hpf:cP T PF):FOk Tryd.prog 81 (itR Tryd.prog (fun x=>[Value.int .i64 x]) dX):=by
 refine aJf hT hpf Tryd.func81 rfl Tryd.ntmps81 Tryd.results81 (by decide) ?_
 rintro caps F ⟨c900,c901,rfl,rfl⟩
 refine ⟨(lsC (lsE (lsC (lsI _ _) lsN)) (lsC (lsE (aT _)) lsN)),nle rfl,fun gS gG a9000 gi f9001 g9002 gfin hP hY h=>?_⟩
 rw [cM.eq_1] at h
 refine aE dCo rfl fun K hK=>?_;conv=>whnf
 refine gKo rfl ?_;conv=>whnf
 refine cO h fun _ h=>?_;conv=>whnf
 refine hK _ _ _ ?_
 refine aN ?_
 replace h:=bC h
 refine jR (body:=dB _ _ _ _) rfl h [0,1,2,8] [] [] (fun kl kh ids b s=>⟨ofL ([(9,eI s.1)]++kl),ofH ([(0,.gh gS gG (gi s.2))]++kh),b+64⟩) ?_;(conv=>whnf);refine And.intro ?_ (fun s m h=>dP ?_)
 ·refine bG ?_;conv=>whnf
  exact And.intro rfl (And.intro (aLc wkI (aLc (sM (fun _=>rfl)) (aLc (wkr (lsE (lsC (lsI _ _) lsN))) (aLc (wkr (lsE (aT _))) (aLc wkI aLn))))) (aLc ⟨some _,rfl,aCQ rfl⟩ aLn))
 replace h:=bC h;rw [dB.eq_1] at h
 refine aE dCo rfl fun K hK=>?_;conv=>whnf
 refine hK _ _ _ ?_
 refine aL ?_
 refine aQ fun K1 K2 hK1 hK2=>?_;conv=>whnf
 refine cLk h (fun _ h=>?_) (fun _ h=>?_)
 ·refine hK1 ?_
  refine aK ?_
  refine tHn ?_
  refine aL ?_
  refine aN ?_
  refine aE dCo rfl fun K hK=>?_;conv=>whnf
  refine hK _ _ _ ?_
  refine aE dCo rfl fun K hK=>?_;conv=>whnf
  refine hK _ _ _ ?_
  refine aL ?_
  refine aE dCo rfl fun K hK=>?_;conv=>whnf
  refine gKo rfl ?_;conv=>whnf
  refine hK _ _ _ ?_
  refine aN ?_
  replace h:=bC h
  refine aGn (body:=dC _ _ _ _) rfl h [0,1,2,4,8,9,12] (fun σ=>aK4 σ++oI σ []++qV σ []) [] (fun kl kh ids b s=>⟨ofL ([(5,eI s.1),(13,eI s.2)]++kl),ofH ([]++kh),b+64⟩) ?_;(conv=>whnf);refine And.intro ?_ (fun s m h=>dP ?_)
  ·refine bG ?_;conv=>whnf
   exact And.intro rfl (And.intro (aLc wkI (aLc wkI (aLc (sM (fun _=>rfl)) (aLc (wkr (lsE (lsC (lsI _ _) lsN))) (aLc (wkr (lsE (aT _))) (aLc wkI (aLc wkI (aLc wkI (aLc wkI aLn))))))))) (aLc ⟨some _,rfl,aCQ rfl⟩ aLn))
  replace h:=bC h;rw [dC.eq_1] at h
  refine aE dCo rfl fun K hK=>?_;conv=>whnf
  refine hK _ _ _ ?_
  refine aL ?_
  refine aQ fun K1 K2 hK1 hK2=>?_;conv=>whnf
  refine cLk h (fun _ h=>?_) (fun _ h=>?_)
  ·refine hK1 ?_
   refine aK ?_
   refine tHn ?_
   refine aL ?_
   refine aN ?_
   refine aE dCo rfl fun K hK=>?_;conv=>whnf
   refine hK _ _ _ ?_
   refine aE dCo rfl fun K hK=>?_;conv=>whnf
   refine cO h fun _ h=>?_;conv=>whnf
   refine hK _ _ _ ?_
   replace h:=cL h
   refine aQ fun K1 K2 hK1 hK2=>?_;conv=>whnf
   refine cLk h (fun _ h=>?_) (fun _ h=>?_)
   ·refine hK1 ?_
    refine cR dCo rfl fun K hK=>?_;conv=>whnf
    refine cO h fun hx200 h=>?_;conv=>whnf
    refine dS rfl hx200 ?_;conv=>whnf
    refine hK _ _ _ ?_
    refine iBn ?_
    refine tHn ?_
    refine cR dCo rfl fun K hK=>?_;conv=>whnf
    refine hK _ _ _ ?_
    refine tHn ?_
    replace h:=bU h
    refine ⟨_,h,?_⟩
    refine bG ?_;conv=>whnf
    exact And.intro rfl (And.intro (aLc wkI (aLc wkI (aLc (sM (fun _=>rfl)) (aLc (wkr (lsE (lsC (lsI _ _) lsN))) (aLc (wkr (lsE (aT _))) (aLc wkI (aLc wkI (aLc wkI (aLc wkI aLn))))))))) (aLc ⟨some _,rfl,aCQ rfl⟩ aLn))
   refine hK2 ?_
   refine aK ?_
   refine iBn ?_
   refine tHn ?_
   refine cR dCo rfl fun K hK=>?_;conv=>whnf
   refine hK _ _ _ ?_
   refine tHn ?_
   replace h:=bU h
   refine ⟨_,h,?_⟩
   refine bG ?_;conv=>whnf
   exact And.intro rfl (And.intro (aLc wkI (aLc wkI (aLc (sM (fun _=>rfl)) (aLc (wkr (lsE (lsC (lsI _ _) lsN))) (aLc (wkr (lsE (aT _))) (aLc wkI (aLc wkI (aLc wkI (aLc wkI aLn))))))))) (aLc ⟨some _,rfl,aCQ rfl⟩ aLn))
  refine hK2 ?_
  refine bO ?_
  refine bD ?_
  refine bD ?_
  refine bA ?_
  replace h:=dT h
  replace h:=dU h
  refine tHn ?_
  refine aE dCo rfl fun K hK=>?_;conv=>whnf
  replace h:=cL h
  refine cLk h (fun _ h=>?_) (fun _ h=>?_)<;>(conv=>whnf)
  ·refine aJn hY hP h rfl (aFQ _) (fun _ h=>?_);conv=>whnf
   refine hK _ _ _ ?_
   refine aQ fun K1 K2 hK1 hK2=>?_;conv=>whnf
   refine hK2 ?_
   refine aK ?_
   refine iBn ?_
   refine tHn ?_
   refine cR dCo rfl fun K hK=>?_;conv=>whnf
   refine hK _ _ _ ?_
   refine tHn ?_
   replace h:=bU h
   refine ⟨_,h,?_⟩
   refine bG ?_;conv=>whnf
   exact And.intro rfl (And.intro (aLc wkI (aLc (sM (fun _=>rfl)) (aLc (wkr (lsE (lsC (lsI _ _) lsN))) (aLc (wkr (lsE (aT _))) (aLc wkI aLn))))) (aLc ⟨some _,rfl,aCQ rfl⟩ aLn))
  refine hK _ _ _ ?_
  refine aQ fun K1 K2 hK1 hK2=>?_;conv=>whnf
  refine hK2 ?_
  refine aK ?_
  refine iBn ?_
  refine tHn ?_
  refine cR dCo rfl fun K hK=>?_;conv=>whnf
  refine hK _ _ _ ?_
  refine tHn ?_
  replace h:=bU h
  refine ⟨_,h,?_⟩
  refine bG ?_;conv=>whnf
  exact And.intro rfl (And.intro (aLc wkI (aLc (sM (fun _=>rfl)) (aLc (wkr (lsE (lsC (lsI _ _) lsN))) (aLc (wkr (lsE (aT _))) (aLc wkI aLn))))) (aLc ⟨some _,rfl,aCQ rfl⟩ aLn))
 refine hK2 ?_
 refine bO ?_
 refine bD ?_
 refine bD ?_
 refine bA ?_
 replace h:=dT h
 replace h:=dU h
 replace h:=aB h
 cases h
 exact ⟨rfl,rfl⟩
def aG1 (x:Int) (l:List Int):Option (List Int):=ap l [x] some
def oN (y:List Int) (b:Nat):AV:=.so b 0 y.length 1
def kB (y:List Int):List AB:=[.cells (flE (ceE eI) y)]
def eN (a0:Int) (a1:Ar 8):Option (List Int):=cM a0 a1 (List Int) aG1 []
def dA:List AV→List Int→Prop:=fun args y=>∃ (a0:Int) (a1:Ar 8),args=[.nils,.fn 81 [] [.ep [eI a0] 0,.ep (cA a1) 0]]∧eN a0 a1=some y
def dN:List AV→List Int→Prop:=fun args y=>∃ (a0:Int) (a1:Ar 8),args=[.fn 81 [] [.ep [eI a0] 0,.ep (cA a1) 0]]∧eN a0 a1=some y
theorem oB {T:Tbl} (hT:TOk Tryd.prog T) (hpf:cP T PF) (h81:T 81=itR Tryd.prog (fun x=>[Value.int .i64 x]) dX):FOk Tryd.prog 80 (aCk oN kB dA):=by
 refine aB0 hT hpf Tryd.func80 rfl Tryd.ntmps80 Tryd.results80 (by decide) (fun y=>⟨by simp [kB],by simp [kB,tO]⟩) ?_
 rintro args y ⟨a0,a1,rfl,hF⟩
 have lofn:(AV.fn 81 [] [.ep [eI a0] 0,.ep (cA a1) 0]).loose:=(pE lsN (lsC (lsE (lsC (lsI _ _) lsN)) (lsC (lsE (aT _)) lsN)))
 refine ⟨nle rfl,(lsC bW (lsC lofn lsN)),fun base=>?_⟩
 refine aE dCo rfl fun K hK=>?_;conv=>whnf
 refine hK _ _ _ ?_
 refine aL ?_
 refine aE dCo rfl fun K hK=>?_;conv=>whnf
 refine hK _ _ _ ?_
 refine aN ?_
 refine yD rfl rfl (n:=32) (Nat.le_refl _) (σ':=⟨ofL [(2,.ptr 32 0),(6,.fn 81 [] [.ep [eI a0] 0,.ep (cA a1) 0])],ofH [(32,.cells [.so 48 0 ([]:List Int).length 1]),(48,.cells (flE (ceE eI) ([]:List Int)))],1024⟩)
  (wON (by decide) [(32,some 64),(48,none)] ⟨WkR.ptr (fun _=>rfl),wkr lofn,trivial⟩ ⟨⟨_,rfl,bRc rfl (cKc (WkR.nilso (fun _=>rfl)) cKn)⟩,⟨_,rfl,aBc⟩,trivial⟩ rfl) ?_
 refine aE8 48 (by decide) (by decide) rfl rfl (fun x=>[eI x]) aGx (fun _=>rfl) (by decide) h81 rfl (F:=cM _ _) (y:=aG1) hF ⟨_,_,rfl,rfl⟩ (nle rfl)
  (aGw (aLc (aJr (by decide)) (aLc (aB8 lofn) aLn))) (fun l:List Int=>[(32,.cells [.so 48 0 l.length 1]),(48,.cells (flE (ceE eI) l))]) (fun s=>(aLc rfl (aLc rfl aLn))) (fun x s gfin h=>?_) ?_
 ·rw [aG1.eq_1] at h
  refine cR dCo rfl fun K hK=>?_;conv=>whnf
  refine hK _ _ _ ?_
  refine tHn ?_
  refine aN ?_
  refine cR dCo rfl fun K hK=>?_;conv=>whnf
  refine nlA rfl ?_;conv=>whnf
  refine bKo rfl ?_;conv=>whnf
  refine gKo rfl ?_;conv=>whnf
  refine cZ (enc:=eI) (d:=default) (l:=[x]) (f:=some) (Φ:=fun _=>True) dCo (kD (a:=[x]) (by unfold lt;rfl) trivial) rfl rfl rfl ⟨nle rfl,nle rfl,rfl⟩ rfl ⟨⟨rfl,rfl,rfl⟩,trivial⟩ (fun _=>?_);conv=>whnf
  refine aBr (enc:=eI) (d:=default) dCo h rfl rfl rfl ⟨rfl,nle rfl,nle rfl,nle rfl,rfl⟩ (fun _=>rfl) (fun _=>rfl) (fun _=>nofun) rfl rfl (fun h=>?_);conv=>whnf
  refine bKo rfl ?_;conv=>whnf
  refine And.intro rfl (And.intro (nle rfl) (And.intro rfl ?_));conv=>whnf
  refine hK _ _ _ ?_
  refine iBn ?_
  replace h:=aB h
  cases h
  refine ⟨rfl,_,wON (by decide) [(48,some 1344)] trivial ⟨⟨_,rfl,bRc rfl (cKc (WkR.so (fun _=>rfl)) cKn)⟩,⟨_,rfl,fZ rfl (fun _=>(lsC (lsI _ _) lsN))⟩,trivial⟩ rfl⟩
 refine iBn ?_
 refine tHn ?_
 refine yD rfl rfl (n:=32) (Nat.le_refl _) (σ':=⟨ofL [(2,.ptr 32 0)],ofH [(32,.cells [.so 64 0 y.length 1]),(64,.cells (flE (ceE eI) y))],2048⟩)
  (aHC (by decide) ⟨WkR.ptr (fun _=>rfl),trivial⟩ ⟨⟨_,rfl,bRc rfl (cKc (WkR.so (fun _=>rfl)) cKn)⟩,⟨_,rfl,fZ rfl (fun _=>(lsC (lsI _ _) lsN))⟩,trivial⟩) ?_
 refine aE dCo rfl fun K hK=>?_;conv=>whnf
 refine nlA rfl ?_;conv=>whnf
 refine bKo rfl ?_;conv=>whnf
 refine gKo rfl ?_;conv=>whnf
 refine hK _ _ _ ?_
 refine aD ?_
 refine uW dCo fun K hK=>?_;conv=>whnf
 refine hK _ ?_
 refine ⟨rfl,rfl,rfl,vJ (aEN (k:=0) rfl) rfl,fun k n x h1 h2=>?_⟩
 exact match k,n,x,h1,h2 with | 0,n,x,h1,h2=>by cases h1;cases h2;exact ⟨_,rfl,wW (fun _=>(lsC (lsI _ _) lsN)) _⟩ | k+1,n,x,h1,h2=>by cases h1
theorem pB {T:Tbl} (hT:TOk Tryd.prog T) (hpf:cP T PF) (h80:T 80=aCk oN kB dA):FOk Tryd.prog 55 (aCk oN kB dN):=by
 refine aB0 hT hpf Tryd.func55 rfl Tryd.ntmps55 Tryd.results55 (by decide) (fun y=>⟨by simp [kB],by simp [kB,tO]⟩) ?_
 rintro args y ⟨a0,a1,rfl,hF⟩
 have lofn:(AV.fn 81 [] [.ep [eI a0] 0,.ep (cA a1) 0]).loose:=(pE lsN (lsC (lsE (lsC (lsI _ _) lsN)) (lsC (lsE (aT _)) lsN)))
 refine ⟨nle rfl,(lsC lofn lsN),fun base=>?_⟩
 have h:W (bd (eN a0 a1) some) (fun z=>z=y):=kD (a:=y) (by rw [hF];unfold bd;rfl) rfl
 refine aE dCo rfl fun K hK=>?_;conv=>whnf
 refine hK _ _ _ ?_
 refine aE dCo rfl fun K hK=>?_;conv=>whnf
 refine sH h80 h (fun y e=>(⟨_,_,rfl,e⟩:dA _ _)) (WkL.refl _) (fun _ h=>?_);conv=>whnf
 refine hK _ _ _ ?_
 refine aD ?_
 replace h:=aB h
 refine uW dCo fun K hK=>?_;conv=>whnf
 refine hK _ ?_
 cases h
 refine ⟨rfl,rfl,rfl,vJ (aEN (k:=0) rfl) rfl,fun k n x h1 h2=>?_⟩
 exact match k,n,x,h1,h2 with | 0,n,x,h1,h2=>by cases h1;cases h2;exact ⟨_,rfl,wW (fun _=>(lsC (lsI _ _) lsN)) _⟩ | k+1,n,x,h1,h2=>by cases h1
def gW (a0:aP):Option ((List Int)×Int):=bd (bI a0) fun y1=>cn (!y1.2) (some ([],70)) (bd (eN a0.N y1.1) fun y2=>
  some (y2,0))
def fI:List AV→AV→Prop:=fun args r=>∃ a0,args=[bN a0]∧W (gW a0) fun y=>r=(.tup [(eL 1 eI default) y.1,eI y.2])
theorem rS {T:Tbl} (hT:TOk Tryd.prog T) (hpf:cP T PF) (h54:T 54=aS cC) (h55:T 55=aCk oN kB dN) (h56:T 56=aS dJ):FOk Tryd.prog 18 (aS fI):=by
 refine bJ hT hpf Tryd.func18 rfl Tryd.ntmps18 Tryd.results18 (by decide) ?_
 rintro args r ⟨a0,rfl,h⟩
 refine ⟨nle rfl,?_,?_⟩
 ·exact (lsC (bZ _) lsN)
 rw [gW.eq_1] at h
 refine aE dCo rfl fun K hK=>?_;conv=>whnf
 refine hK _ _ _ ?_
 refine aE dCo rfl fun K hK=>?_;conv=>whnf
 refine nlA rfl ?_;conv=>whnf
 refine bKo rfl ?_;conv=>whnf
 refine nlA rfl ?_;conv=>whnf
 replace h:=bC h
 refine bY h54 h (WkL.refl _) (fun _ h=>?_);conv=>whnf
 refine aU ?_;conv=>whnf
 refine aU ?_;conv=>whnf
 refine aU ?_;conv=>whnf
 refine bKo rfl ?_;conv=>whnf
 refine oO rfl rfl rfl ?_;conv=>whnf
 refine hK _ _ _ ?_
 refine aL ?_
 refine aE dCo rfl fun K hK=>?_;conv=>whnf
 refine hK _ _ _ ?_
 refine aQ fun K1 K2 hK1 hK2=>?_;conv=>whnf
 refine cLk h (fun _ h=>?_) (fun _ h=>?_)
 ·refine hK1 ?_
  refine aE dCo rfl fun K hK=>?_;conv=>whnf
  refine hK _ _ _ ?_
  refine aD ?_
  refine aG ?_
  replace h:=aB h
  refine aA dCo fun K hK=>?_;conv=>whnf
  refine hK _ ?_
  cases h
  exact pD (aF kF (aF (Wk.refl _) aJ))
 refine hK2 ?_
 refine aK ?_
 refine tHn ?_
 refine aE dCo rfl fun K hK=>?_;conv=>whnf
 refine nlA rfl ?_;conv=>whnf
 refine bKo rfl ?_;conv=>whnf
 refine gKo rfl ?_;conv=>whnf
 refine nlA rfl ?_;conv=>whnf
 refine bKo rfl ?_;conv=>whnf
 refine rD rfl ?_;conv=>whnf
 refine aU ?_;conv=>whnf
 refine aZ h56 (S:=dJ) ⟨_,_,rfl,rfl⟩ (pE lsN (lsC (lsE (lsC (lsI _ _) lsN)) (lsC (lsE (aT _)) lsN))) (WkL.refl _) ?_;conv=>whnf
 refine sH h55 h (fun y e=>(⟨_,_,rfl,e⟩:dN _ _)) (WkL.refl _) (fun _ h=>?_);conv=>whnf
 refine hK _ _ _ ?_
 refine nM 2 (enc:=eI) (e:=3) default (lT dCo rfl rfl rfl (fun _=>⟨rfl,rfl⟩)) ?_;(conv=>whnf);refine ⟨_,_,rfl,rfl,rfl,?_⟩
 refine aD ?_
 replace h:=aB h
 refine aA dCo fun K hK=>?_;conv=>whnf
 refine hK _ ?_
 cases h
 exact Wk.refl _
theorem qN {T:Tbl} (hT:T 18=aS fI) {args:List AV} {hp:aX} {id:Nat} {k:AV→Prop} {a0:aP} {Φ:(List Int)×Int→Prop} (h:W (gW a0) Φ) (hw:WkL args [bN a0]) (hk:∀ y,Φ y→k (.tup [(eL 1 eI default) y.1,eI y.2])):cU T 18 args hp id k:=by
 obtain ⟨y,e,hy⟩:=fB h
 exact aZ hT ⟨a0,rfl,kD e rfl⟩ (by exact fH (lsC (lsL fun _=>(lsI _ _)) (lsC (lsI _ _) lsN))) hw (hk y hy)
def fN (a0:aP) (x3:Int) (s6:Int×(GM Int)):Option (Ct (Int×(GM Int)) ((GM Int))):=cn (decide (s6.1<a0.N)) (gd (0≤s6.1) (jn (fun p7:(GM Int)=>
  some (.nx ((wr (s6.1+1)),p7))) fun k8=>cn ((tI .i64 (vX .i64 x3 s6.1) 1) ==
  1) (gd (0≤s6.1) (let m9:=s6.2.put x3 (wr ((s6.2.get x3 0)+(s6.2.get (qP .i64 x3 (aEP .i64 1 s6.1)) 0)));k8 m9)) (k8 s6.2))) (some (.bk (s6.1,s6.2)))
def jH (a0:aP) (x3:Int) (s4:(GM Int)):Option ((GM Int)):=bd (lp (fN a0 x3) FU (0,s4)) fun c10=>smK c10 (fun s11=>some s11.2) (fun r12=>
  some r12)
def cI (a0:aP):Option (Int×Int):=bd (bI a0) fun y1=>cn (!y1.2) (some (0,70)) (let m2:=(GM.mt Int).put 0 1;
  bd (cM a0.N y1.1 ((GM Int)) (jH a0) m2) fun s5=>gd (0≤a0.N) (let v13:=(s5.get (wr ((aEP .i64 1 a0.N)-1)) 0);some (v13,0)))
def gF:List AV→AV→Prop:=fun args r=>∃ a0,args=[bN a0]∧W (cI a0) fun y=>r=(.tup [eI y.1,eI y.2])
theorem wJ {T:Tbl} (hT:TOk Tryd.prog T) (hpf:cP T PF) (h54:T 54=aS cC) (h56:T 56=aS dJ) (h81:T 81=itR Tryd.prog (fun x=>[Value.int .i64 x]) dX):FOk Tryd.prog 20 (aS gF):=by
 refine bJ hT hpf Tryd.func20 rfl Tryd.ntmps20 Tryd.results20 (by decide) ?_
 rintro args r ⟨a0,rfl,h⟩
 refine ⟨nle rfl,?_,?_⟩
 ·exact (lsC (bZ _) lsN)
 rw [cI.eq_1] at h
 refine aE dCo rfl fun K hK=>?_;conv=>whnf
 refine hK _ _ _ ?_
 refine aE dCo rfl fun K hK=>?_;conv=>whnf
 refine nlA rfl ?_;conv=>whnf
 refine bKo rfl ?_;conv=>whnf
 refine nlA rfl ?_;conv=>whnf
 replace h:=bC h
 refine bY h54 h (WkL.refl _) (fun _ h=>?_);conv=>whnf
 refine aU ?_;conv=>whnf
 refine aU ?_;conv=>whnf
 refine aU ?_;conv=>whnf
 refine bKo rfl ?_;conv=>whnf
 refine oO rfl rfl rfl ?_;conv=>whnf
 refine hK _ _ _ ?_
 refine aL ?_
 refine aE dCo rfl fun K hK=>?_;conv=>whnf
 refine hK _ _ _ ?_
 refine aQ fun K1 K2 hK1 hK2=>?_;conv=>whnf
 refine cLk h (fun _ h=>?_) (fun _ h=>?_)
 ·refine hK1 ?_
  refine aE dCo rfl fun K hK=>?_;conv=>whnf
  refine hK _ _ _ ?_
  refine aD ?_
  refine aG ?_
  replace h:=aB h
  refine aA dCo fun K hK=>?_;conv=>whnf
  refine hK _ ?_
  cases h
  exact Wk.refl _
 refine hK2 ?_
 refine aK ?_
 refine tHn ?_
 refine aE dCo rfl fun K hK=>?_;conv=>whnf
 refine fF (enc:=eI) (m:=(GM.mt Int)) dCo rfl rfl ?_;conv=>whnf
 refine bKo rfl ?_;conv=>whnf
 refine And.intro rfl (And.intro (nle rfl) (And.intro rfl ?_));conv=>whnf
 refine hK _ _ _ ?_
 refine aL ?_
 refine aE dCo rfl fun K hK=>?_;conv=>whnf
 refine nlA rfl ?_;conv=>whnf
 refine bKo rfl ?_;conv=>whnf
 refine gKo rfl ?_;conv=>whnf
 refine nlA rfl ?_;conv=>whnf
 refine bKo rfl ?_;conv=>whnf
 refine rD rfl ?_;conv=>whnf
 refine aU ?_;conv=>whnf
 refine aZ h56 (S:=dJ) ⟨_,_,rfl,rfl⟩ (pE lsN (lsC (lsE (lsC (lsI _ _) lsN)) (lsC (lsE (aT _)) lsN))) (WkL.refl _) ?_;conv=>whnf
 refine hK _ _ _ ?_
 refine aN ?_
 refine aFH rfl rfl [1,6,17,21] [(1,32),(6,33),(17,34)] 33 34 ?_;conv=>whnf
 refine And.intro ?_ ?_
 ·refine aHu ?_;conv=>whnf
  exact And.intro rfl (And.intro (aLc (WkR.ptr (fun _=>rfl)) (aLc (WkR.ptr (fun _=>rfl)) (aLc (WkR.mp (fun _=>rfl)) (aLc (eS bE (aM (wkr (lsE (lsC (lsI _ _) lsN))) (aM (wkr (lsE (aT _))) bE))) aLn)))) (aLc ⟨some _,rfl,bRc rfl (cKc wkI (cKc (wkr (lsL fun _=>(aO _))) cKn))⟩ (aLc ⟨some _,rfl,bRc rfl (cKc (WkR.mp (fun _=>rfl)) cKn)⟩ (aLc ⟨some _,rfl,iN (enc:=eI) rfl (fun _=>(lsI _ _))⟩ aLn))))
 obtain ⟨gfin,hfin,h⟩:=fB (bC h)
 refine aHm rfl rfl (fun x=>[eI x]) aGx (fun _=>rfl) (by decide) h81 rfl (F:=cM _ _) hfin ⟨_,_,rfl,rfl⟩ (nle rfl) (aLc (aEu (by decide)) (aLc (aEu (by decide)) (aLc (aIL (by decide)) (aLc (aIT aBI (yS (aJE (yS (vF (lsI _ _)) aBI)) (yS (vF (lsE (aT _))) aBI))) aLn)))) (fun s=>[(32,.cells [eI a0.N,(eL 2 dK default) a0.Pairs]),(33,.cells [.mp 34]),(34,abM eI s)]) (fun s=>(aLc rfl (aLc rfl (aLc rfl aLn)))) (fun x s gfin h=>?_) ?_
 ·clear hfin
  rw [jH.eq_1] at h
  refine cR dCo rfl fun K hK=>?_;conv=>whnf
  refine hK _ _ _ ?_
  refine tHn ?_
  refine aN ?_
  refine aE dCo rfl fun K hK=>?_;conv=>whnf
  refine nlA rfl ?_;conv=>whnf
  refine bKo rfl ?_;conv=>whnf
  refine gKo rfl ?_;conv=>whnf
  refine hK _ _ _ ?_
  refine aN ?_
  replace h:=bC h
  refine jR (body:=fN _ _) rfl h [1,6,7,17,24] [1,6] [17] (fun kl kh ids b s=>⟨ofL ([(25,eI s.1)]++kl),ofH ([(aAH ids 0,abM eI s.2)]++kh),b+64⟩) ?_;(conv=>whnf);refine And.intro ?_ (fun s m h=>dP ?_)
  ·refine bG ?_;conv=>whnf
   exact And.intro rfl (And.intro (aLc wkI (aLc (WkR.ptr (fun _=>rfl)) (aLc (WkR.ptr (fun _=>rfl)) (aLc wkI (aLc (WkR.mp (fun _=>rfl)) (aLc wkI aLn)))))) (aLc ⟨some _,rfl,iN (enc:=eI) rfl (fun _=>(lsI _ _))⟩ (aLc ⟨some _,rfl,bRc rfl (cKc wkI (cKc (wkr (lsL fun _=>(aO _))) cKn))⟩ (aLc ⟨some _,rfl,bRc rfl (cKc (WkR.mp (fun _=>rfl)) cKn)⟩ aLn))))
  replace h:=bC h;rw [fN.eq_1] at h
  refine aE dCo rfl fun K hK=>?_;conv=>whnf
  refine hK _ _ _ ?_
  refine aL ?_
  refine aQ fun K1 K2 hK1 hK2=>?_;conv=>whnf
  refine cLk h (fun _ h=>?_) (fun _ h=>?_)
  ·refine hK1 ?_
   refine aK ?_
   refine tHn ?_
   refine aL ?_
   refine aN ?_
   refine aE dCo rfl fun K hK=>?_;conv=>whnf
   refine hK _ _ _ ?_
   refine aE dCo rfl fun K hK=>?_;conv=>whnf
   refine cO h fun _ h=>?_;conv=>whnf
   refine hK _ _ _ ?_
   replace h:=cL h
   refine aQ fun K1 K2 hK1 hK2=>?_;conv=>whnf
   refine cLk h (fun _ h=>?_) (fun _ h=>?_)
   ·refine hK1 ?_
    refine aAL dCo eZ rfl (by kernel_rfl) fun K hK=>?_;conv=>whnf
    refine nlA rfl ?_;conv=>whnf
    refine bKo rfl ?_;conv=>whnf
    refine gKo rfl ?_;conv=>whnf
    refine aBG (enc:=eI) dCo rfl (0:Int) rfl rfl (nle rfl) ?_;conv=>whnf
    refine nlA rfl ?_;conv=>whnf
    refine bKo rfl ?_;conv=>whnf
    refine gKo rfl ?_;conv=>whnf
    refine cO h fun _ h=>?_;conv=>whnf
    refine aBG (enc:=eI) dCo rfl (0:Int) rfl rfl (nle rfl) ?_;conv=>whnf
    refine fF (enc:=eI) dCo rfl rfl ?_;conv=>whnf
    refine hK _ _ _ ?_
    refine iBn ?_
    refine tHn ?_
    refine cR dCo rfl fun K hK=>?_;conv=>whnf
    refine hK _ _ _ ?_
    refine tHn ?_
    replace h:=bU h
    refine ⟨_,h,?_⟩
    refine bG ?_;conv=>whnf
    exact And.intro rfl (And.intro (aLc wkI (aLc (WkR.ptr (fun _=>rfl)) (aLc (WkR.ptr (fun _=>rfl)) (aLc wkI (aLc (WkR.mp (fun _=>rfl)) (aLc wkI aLn)))))) (aLc ⟨some _,rfl,iN (enc:=eI) rfl (fun _=>(lsI _ _))⟩ (aLc ⟨some _,rfl,bRc rfl (cKc wkI (cKc (wkr (lsL fun _=>(aO _))) cKn))⟩ (aLc ⟨some _,rfl,bRc rfl (cKc (WkR.mp (fun _=>rfl)) cKn)⟩ aLn))))
   refine hK2 ?_
   refine aK ?_
   refine iBn ?_
   refine tHn ?_
   refine cR dCo rfl fun K hK=>?_;conv=>whnf
   refine hK _ _ _ ?_
   refine tHn ?_
   replace h:=bU h
   refine ⟨_,h,?_⟩
   refine bG ?_;conv=>whnf
   exact And.intro rfl (And.intro (aLc wkI (aLc (WkR.ptr (fun _=>rfl)) (aLc (WkR.ptr (fun _=>rfl)) (aLc wkI (aLc (WkR.mp (fun _=>rfl)) (aLc wkI aLn)))))) (aLc ⟨some _,rfl,iN (enc:=eI) rfl (fun _=>(lsI _ _))⟩ (aLc ⟨some _,rfl,bRc rfl (cKc wkI (cKc (wkr (lsL fun _=>(aO _))) cKn))⟩ (aLc ⟨some _,rfl,bRc rfl (cKc (WkR.mp (fun _=>rfl)) cKn)⟩ aLn))))
  refine hK2 ?_
  refine bO ?_
  refine bD ?_
  refine bD ?_
  refine bA ?_
  replace h:=dT h
  replace h:=dU h
  refine iBn ?_
  replace h:=aB h
  cases h
  refine ⟨rfl,?_⟩
  refine bG (l:=[]) ?_;conv=>whnf
  exact And.intro rfl (And.intro aLn (aLc ⟨some _,rfl,bRc rfl (cKc wkI (cKc (wkr (lsL fun _=>(aO _))) cKn))⟩ (aLc ⟨some _,rfl,bRc rfl (cKc (WkR.mp (fun _=>rfl)) cKn)⟩ (aLc ⟨some _,rfl,iN (enc:=eI) rfl (fun _=>(lsI _ _))⟩ aLn))))
 clear hfin
 refine iBn ?_
 refine tHn ?_
 refine tC dCo eZ rfl (by kernel_rfl) fun K hK=>?_;conv=>whnf
 refine nlA rfl ?_;conv=>whnf
 refine bKo rfl ?_;conv=>whnf
 refine gKo rfl ?_;conv=>whnf
 refine nlA rfl ?_;conv=>whnf
 refine bKo rfl ?_;conv=>whnf
 refine gKo rfl ?_;conv=>whnf
 refine cO h fun _ h=>?_;conv=>whnf
 refine aBG (enc:=eI) dCo rfl (0:Int) rfl rfl (nle rfl) ?_;conv=>whnf
 refine hK _ _ _ ?_
 refine aD ?_
 replace h:=aB h
 refine aA dCo fun K hK=>?_;conv=>whnf
 refine hK _ ?_
 cases h
 exact Wk.refl _
theorem aH {T:Tbl} (hT:T 20=aS gF) {args:List AV} {hp:aX} {id:Nat} {k:AV→Prop} {a0:aP} {Φ:Int×Int→Prop} (h:W (cI a0) Φ) (hw:WkL args [bN a0]) (hk:∀ y,Φ y→k (.tup [eI y.1,eI y.2])):cU T 20 args hp id k:=by
 obtain ⟨y,e,hy⟩:=fB h
 exact aZ hT ⟨a0,rfl,kD e rfl⟩ (by exact fH (lsC (lsI _ _) (lsC (lsI _ _) lsN))) hw (hk y hy)
  def vT (a0:Int) (c1:aP) (c2:Ar 8) (f9002:Int→aP→(Ar 8)→(Ar 8)→Int→Option (Bool×(Ar 8)×Int)) (s1:Int×Int×(Ar 8)):Option (Ct (Int×Int×(Ar 8)) (Bool×(Ar 8)×Int)):=cn (decide (s1.1<c1.N)) (jn (fun p2:(Ar 8)×Int=>
  some (.nx ((wr (s1.1+1)),p2.2,p2.1))) fun k3=>jn (fun p4:Bool=>cn p4 (k3 (s1.2.2,s1.2.1)) (gd (0≤s1.1) (jn (fun p6:Bool×(Ar 8)×Int=>
  cn p6.1 (gd (0≤s1.1∧s1.1<(8:Int)) (let m9:=p6.2.1.st1 s1.1 (wr (a0+1));some (.rt (true,m9,p6.2.2)))) (k3 (p6.2.1,p6.2.2))) fun k7=>
  gd (0≤s1.1∧s1.1<(8:Int)) (cn ((s1.2.2.at1 s1.1) ==
  0) (k7 (true,s1.2.2,(bor .i64 s1.2.1 (aEP .i64 1 s1.1)))) (gd (0≤s1.1∧s1.1<(8:Int)) (bd (f9002 (wr ((s1.2.2.at1 s1.1)-1)) c1 c2 s1.2.2 (bor .i64 s1.2.1 (aEP .i64 1 s1.1))) fun y8=>
  k7 (y8.1,y8.2.1,y8.2.2))))))) fun k5=>gd (0≤s1.1∧s1.1<(8:Int)) (gd (0≤a0) (cn ((tI .i64 (vX .i64 (c2.at1 s1.1) a0) 1) ==
  0) (k5 true) (gd (0≤s1.1) (k5 ((tI .i64 (vX .i64 s1.2.1 s1.1) 1)==1)))))) (some (.bk (s1.1,s1.2.1,s1.2.2)))
  def zC (f9002:Int→aP→(Ar 8)→(Ar 8)→Int→Option (Bool×(Ar 8)×Int)) (a0:Int) (c1:aP) (c2:Ar 8) (m0:Ar 8) (x1:Int):Option (Bool×(Ar 8)×Int):=bd (lp (vT a0 c1 c2 f9002) FU (0,x1,m0)) fun c10=>
  smK c10 (fun s11=>some (false,s11.2.2,s11.2.1)) (fun r12=>some r12)
def tJ:Nat→Int→aP→(Ar 8)→(Ar 8)→Int→Option (Bool×(Ar 8)×Int)
 | 0=>fun _ _ _ _ _=>none
 | k+1=>zC (tJ k)
def kS (k:Nat):List AV→List BD→AV→List BD→Prop:=fun args bs r bs'=>∃ a0 c1 c2 m0 x1 y,args=[eI a0,.ep [eI c1.N,(eL 2 dK default) c1.Pairs] 0,.ep (cA c2) 0,.ptr 1 0,.ptr 0 0,.ptr 2 0]∧bs=[.ab (.cells (cA m0)),.ab (.cells ([eI x1])),.fn 65 [.v (.ep [eI c1.N,(eL 2 dK default) c1.Pairs] 0),.v (.ep (cA c2) 0),.p 1,.p 0,.p 2]]∧tJ k a0 c1 c2 m0 x1=some y∧r=eB y.1∧bs'=[.ab (.cells (cA y.2.1)),.ab (.cells ([eI y.2.2])),.fn 65 [.v (.ep [eI c1.N,(eL 2 dK default) c1.Pairs] 0),.v (.ep (cA c2) 0),.p 1,.p 0,.p 2]]
theorem aDy (k:Nat) {T:Tbl} (hT:TOk Tryd.prog T) (hpf:cP T PF) (h65:T 65=pM (kS k)):FOk Tryd.prog 65 (pM (kS (k+1))):=by
 refine rI hT hpf Tryd.func65 rfl Tryd.ntmps65 Tryd.results65 (by decide) ?_
 rintro args bs r bs' ⟨a0,c1,c2,m0,x1,y,rfl,rfl,hF,rfl,rfl⟩
 refine ⟨nle rfl,Nat.le_refl _,(lsB _),⟨(aT _),⟨(aDL _),⟨⟨(lsE (lsC (lsI _ _) (lsC (lsL fun _=>(aO _)) lsN))),⟨(lsE (aT _)),⟨nle rfl,⟨nle rfl,⟨nle rfl,trivial⟩⟩⟩⟩⟩,trivial⟩⟩⟩,⟨(aT _),⟨(aDL _),⟨⟨(lsE (lsC (lsI _ _) (lsC (lsL fun _=>(aO _)) lsN))),⟨(lsE (aT _)),⟨nle rfl,⟨nle rfl,⟨nle rfl,trivial⟩⟩⟩⟩⟩,trivial⟩⟩⟩,?_⟩
 have h:W (zC (tJ k) a0 c1 c2 m0 x1) (fun z=>z=y):=kD hF rfl
 rw [zC.eq_1] at h
 refine aE dCo rfl fun K hK=>?_;conv=>whnf
 refine hK _ _ _ ?_
 refine aL ?_
 refine aE dCo rfl fun K hK=>?_;conv=>whnf
 refine gKo rfl ?_;conv=>whnf
 refine hK _ _ _ ?_
 refine aN ?_
 replace h:=bC h
 refine aB9 (body:=vT _ _ _ _) rfl h [0,2,3,4,5,10] (fun σ=>aBT σ [2]++oI σ []++qV σ []) (fun σ=>qV σ []++oI σ []++aBT σ []) [] (fun kl kh kr ids b s=>⟨ofL ([(11,eI s.1)]++kl),ofH (([(1,.cells ([eI s.2.1]))]++kh)++([(0,.cells (cA s.2.2))]++kr)),b+128⟩) ?_;(conv=>whnf);refine And.intro ?_ (fun s m h=>dP ?_)
 ·refine bM ?_;conv=>whnf
  exact And.intro rfl (And.intro (aLc wkI (aLc wkI (aLc (wkr (lsE (aT _))) (aLc (WkR.ptr (fun _=>rfl)) (aLc (WkR.ptr (fun _=>rfl)) (aLc (WkR.ptr (fun _=>rfl)) (aLc wkI aLn))))))) (aLc ⟨some _,rfl,bRc rfl (cKc wkI cKn)⟩ (aLc ⟨some _,rfl,bRc rfl (cKc (eS bE (aM (wkr (lsE (lsC (lsI _ _) (lsC (lsL fun _=>(aO _)) lsN)))) (aM (wkr (lsE (aT _))) (aM (WkR.ptr (fun _=>rfl)) (aM (WkR.ptr (fun _=>rfl)) (aM (WkR.ptr (fun _=>rfl)) bE)))))) cKn)⟩ (aLc ⟨some _,rfl,aY rfl rfl⟩ aLn))))
 replace h:=bC h;rw [vT.eq_1] at h
 refine aE dCo rfl fun K hK=>?_;conv=>whnf
 refine hK _ _ _ ?_
 refine aL ?_
 refine aQ fun K1 K2 hK1 hK2=>?_;conv=>whnf
 refine cLk h (fun _ h=>?_) (fun _ h=>?_)
 ·refine hK1 ?_
  refine aK ?_
  refine tHn ?_
  refine aL ?_
  replace h:=cL h
  refine aN ?_
  refine aE dCo rfl fun K hK=>?_;conv=>whnf
  refine hK _ _ _ ?_
  refine aL ?_
  refine aE dCo rfl fun K hK=>?_;conv=>whnf
  replace h:=cL h
  refine cO h fun hx112 h=>?_;conv=>whnf
  refine dS rfl hx112 ?_;conv=>whnf
  refine cO h fun _ h=>?_;conv=>whnf
  refine cLk h (fun _ h=>?_) (fun _ h=>?_)<;>(conv=>whnf)
  ·refine hK _ _ _ ?_
   refine aQ fun K1 K2 hK1 hK2=>?_;conv=>whnf
   refine hK1 ?_
   replace h:=fC h
   refine bO ?_
   refine bD ?_
   refine bA ?_
   refine tHn ?_
   refine cR dCo rfl fun K hK=>?_;conv=>whnf
   refine hK _ _ _ ?_
   refine tHn ?_
   replace h:=bU h
   refine ⟨_,h,?_⟩
   refine bM ?_;conv=>whnf
   exact And.intro rfl (And.intro (aLc wkI (aLc wkI (aLc (wkr (lsE (aT _))) (aLc (WkR.ptr (fun _=>rfl)) (aLc (WkR.ptr (fun _=>rfl)) (aLc (WkR.ptr (fun _=>rfl)) (aLc wkI aLn))))))) (aLc ⟨some _,rfl,bRc rfl (cKc wkI cKn)⟩ (aLc ⟨some _,rfl,bRc rfl (cKc (eS bE (aM (wkr (lsE (lsC (lsI _ _) (lsC (lsL fun _=>(aO _)) lsN)))) (aM (wkr (lsE (aT _))) (aM (WkR.ptr (fun _=>rfl)) (aM (WkR.ptr (fun _=>rfl)) (aM (WkR.ptr (fun _=>rfl)) bE)))))) cKn)⟩ (aLc ⟨some _,rfl,aY rfl rfl⟩ aLn))))
  refine nlA rfl ?_;conv=>whnf
  refine bKo rfl ?_;conv=>whnf
  refine gKo rfl ?_;conv=>whnf
  refine cO h fun _ h=>?_;conv=>whnf
  refine hK _ _ _ ?_
  refine aQ fun K1 K2 hK1 hK2=>?_;conv=>whnf
  refine cLk h (fun _ h=>?_) (fun _ h=>?_)
  ·refine hK1 ?_
   refine bO ?_
   refine bD ?_
   refine bA ?_
   refine tHn ?_
   refine cR dCo rfl fun K hK=>?_;conv=>whnf
   refine hK _ _ _ ?_
   refine tHn ?_
   replace h:=bU h
   refine ⟨_,h,?_⟩
   refine bM ?_;conv=>whnf
   exact And.intro rfl (And.intro (aLc wkI (aLc wkI (aLc (wkr (lsE (aT _))) (aLc (WkR.ptr (fun _=>rfl)) (aLc (WkR.ptr (fun _=>rfl)) (aLc (WkR.ptr (fun _=>rfl)) (aLc wkI aLn))))))) (aLc ⟨some _,rfl,bRc rfl (cKc wkI cKn)⟩ (aLc ⟨some _,rfl,bRc rfl (cKc (eS bE (aM (wkr (lsE (lsC (lsI _ _) (lsC (lsL fun _=>(aO _)) lsN)))) (aM (wkr (lsE (aT _))) (aM (WkR.ptr (fun _=>rfl)) (aM (WkR.ptr (fun _=>rfl)) (aM (WkR.ptr (fun _=>rfl)) bE)))))) cKn)⟩ (aLc ⟨some _,rfl,aY rfl rfl⟩ aLn))))
  refine hK2 ?_
  refine aK ?_
  refine tHn ?_
  refine tC dCo eZ rfl (by kernel_rfl) fun K hK=>?_;conv=>whnf
  refine nlA rfl ?_;conv=>whnf
  refine bKo rfl ?_;conv=>whnf
  refine gKo rfl ?_;conv=>whnf
  refine cO h fun _ h=>?_;conv=>whnf
  refine bKo rfl ?_;conv=>whnf
  refine And.intro rfl (And.intro (nle rfl) (And.intro rfl ?_));conv=>whnf
  refine hK _ _ _ ?_
  refine tC dCo eZ rfl (by kernel_rfl) fun K hK=>?_;conv=>whnf
  replace h:=cL h
  refine cO h fun hx117 h=>?_;conv=>whnf
  refine nlA rfl ?_;conv=>whnf
  refine bKo rfl ?_;conv=>whnf
  refine dS rfl hx117 ?_;conv=>whnf
  refine cLk h (fun _ h=>?_) (fun _ h=>?_)<;>(conv=>whnf)
  ·refine hK _ _ _ ?_
   refine aQ fun K1 K2 hK1 hK2=>?_;conv=>whnf
   refine hK1 ?_
   replace h:=fC h
   refine aE dCo rfl fun K hK=>?_;conv=>whnf
   refine cO h fun hx119 h=>?_;conv=>whnf
   refine bKo rfl ?_;conv=>whnf
   refine wU rfl hx119 rfl rfl ?_;conv=>whnf
   refine hK _ _ _ ?_
   refine aE dCo rfl fun K hK=>?_;conv=>whnf
   refine hK _ _ _ ?_
   refine aD ?_
   refine aC ?_
   refine aG ?_
   refine aG ?_
   refine aC ?_
   refine aG ?_
   replace h:=kJ h
   replace h:=kH h
   replace h:=aB h
   refine gY dCo fun K hK=>?_;conv=>whnf
   refine hK _ ?_
   cases h
   exact ⟨Wk.refl _,⟨_,rfl,bkW _⟩,⟨_,rfl,bkW _⟩,rfl,trivial⟩
  refine nlA rfl ?_;conv=>whnf
  refine bKo rfl ?_;conv=>whnf
  refine gKo rfl ?_;conv=>whnf
  refine cO h fun hx120 h=>?_;conv=>whnf
  refine nlA rfl ?_;conv=>whnf
  refine bKo rfl ?_;conv=>whnf
  refine dS rfl hx120 ?_;conv=>whnf
  refine dD (bs:=[.ab _,.ab _,.fn 65 [.v _,.v _,.p 1,.p 0,.p 2]]) (args0:=[_,_,_,.ptr 1 0,.ptr 0 0,.ptr 2 0]) h65 [_,_,_] h (.cons (rH (Wk.refl _) (lsI _ _)) (.cons (bQ (lsE (lsC (lsI _ _) (lsC (lsL fun _=>(aO _)) lsN)))) (.cons (bQ (lsE (aT _))) (.cons (eD rfl) (.cons (eD rfl) (.cons (eD rfl) .nil)))))) ⟨⟨_,rfl,bkW _⟩,⟨_,rfl,bkW _⟩,rfl,trivial⟩ rfl (nle rfl) (fun y e=>(⟨_,_,_,_,_,_,rfl,rfl,e,rfl,rfl⟩:kS _ _ _ _ _)) (fun _ h=>?_);conv=>whnf
  refine hK _ _ _ ?_
  refine aQ fun K1 K2 hK1 hK2=>?_;conv=>whnf
  refine cLk h (fun _ h=>?_) (fun _ h=>?_)
  ·refine hK1 ?_
   refine aE dCo rfl fun K hK=>?_;conv=>whnf
   refine cO h fun hx122 h=>?_;conv=>whnf
   refine bKo rfl ?_;conv=>whnf
   refine wU rfl hx122 rfl rfl ?_;conv=>whnf
   refine hK _ _ _ ?_
   refine aE dCo rfl fun K hK=>?_;conv=>whnf
   refine hK _ _ _ ?_
   refine aD ?_
   refine aC ?_
   refine aG ?_
   refine aG ?_
   refine aC ?_
   refine aG ?_
   replace h:=kJ h
   replace h:=kH h
   replace h:=aB h
   refine gY dCo fun K hK=>?_;conv=>whnf
   refine hK _ ?_
   cases h
   exact ⟨Wk.refl _,⟨_,rfl,bkW _⟩,⟨_,rfl,bkW _⟩,rfl,trivial⟩
  refine hK2 ?_
  refine aK ?_
  refine iBn ?_
  refine tHn ?_
  refine cR dCo rfl fun K hK=>?_;conv=>whnf
  refine hK _ _ _ ?_
  refine tHn ?_
  replace h:=bU h
  refine ⟨_,h,?_⟩
  refine bM ?_;conv=>whnf
  exact And.intro rfl (And.intro (aLc wkI (aLc wkI (aLc (wkr (lsE (aT _))) (aLc (WkR.ptr (fun _=>rfl)) (aLc (WkR.ptr (fun _=>rfl)) (aLc (WkR.ptr (fun _=>rfl)) (aLc wkI aLn))))))) (aLc ⟨some _,rfl,bRc rfl (cKc wkI cKn)⟩ (aLc ⟨some _,rfl,bRc rfl (cKc (eS bE (aM (wkr (lsE (lsC (lsI _ _) (lsC (lsL fun _=>(aO _)) lsN)))) (aM (wkr (lsE (aT _))) (aM (WkR.ptr (fun _=>rfl)) (aM (WkR.ptr (fun _=>rfl)) (aM (WkR.ptr (fun _=>rfl)) bE)))))) cKn)⟩ (aLc ⟨some _,rfl,aY rfl rfl⟩ aLn))))
 refine hK2 ?_
 refine bO ?_
 refine bD ?_
 refine bD ?_
 refine bA ?_
 replace h:=dT h
 replace h:=dU h
 refine tHn ?_
 refine aE dCo rfl fun K hK=>?_;conv=>whnf
 refine hK _ _ _ ?_
 refine aD ?_
 replace h:=aB h
 refine gY dCo fun K hK=>?_;conv=>whnf
 refine hK _ ?_
 cases h
 exact ⟨Wk.refl _,⟨_,rfl,bkW _⟩,⟨_,rfl,bkW _⟩,rfl,trivial⟩
theorem aEb {T:Tbl} (hT:TOk Tryd.prog T) (hpf:cP T PF):FOk Tryd.prog 65 (pM (kS 10)):=
 tN (S:=kS) hT hpf (by decide) Tryd.func65 rfl (by decide) (by rintro a b c d ⟨a0,c1,c2,m0,x1,y,-,-,h,-⟩;cases h) (fun k T' hT' hpf' hne h=>aDy k hT' hpf' h) 10
  def aB4 (a0:Int) (c1:aP) (c2:Ar 8) (f9002:Int→aP→(Ar 8)→(GM (List Int))→Option ((List Int)×(GM (List Int)))) (s1:(List Int)×Int×(GM (List Int))):Option (Ct ((List Int)×Int×(GM (List Int))) ((List Int)×(GM (List Int)))):=cn (decide (s1.2.1<c1.N)) (jn (fun p2:Bool×(GM (List Int))=>
  jn (fun p5:(List Int)×(GM (List Int))=>some (.nx (p5.1,(wr (s1.2.1+1)),p5.2))) fun k6=>cn p2.1 (bd (f9002 s1.2.1 c1 c2 p2.2) fun y7=>
  k6 (y7.1,y7.2)) (k6 (s1.1,p2.2))) fun k3=>gd (0≤s1.2.1∧s1.2.1<(8:Int)) (gd (0≤a0) (cn ((tI .i64 (vX .i64 (c2.at1 s1.2.1) a0) 1) ==
  1) (bd (f9002 s1.2.1 c1 c2 s1.2.2) fun y4=>k3 ((decide ((y4.1.length:Int)>(s1.1.length:Int))),y4.2)) (k3 (false,s1.2.2))))) (some (.bk (s1.1,s1.2.1,s1.2.2)))
  def aEe (f9002:Int→aP→(Ar 8)→(GM (List Int))→Option ((List Int)×(GM (List Int)))) (a0:Int) (c1:aP) (c2:Ar 8) (m0:GM (List Int)):Option ((List Int)×(GM (List Int))):=cn (m0.has a0) (some ((m0.get a0 []),m0)) (bd (lp (aB4 a0 c1 c2 f9002) FU ([],0,m0)) fun c8=>
  smK c8 (fun s9=>lt ([a0]:List Int) fun l11=>ap l11 s9.1 fun l12=>let m13:=s9.2.2.put a0 l12;some ((m13.get a0 []),m13)) (fun r10=>some r10))
def aAP:Nat→Int→aP→(Ar 8)→(GM (List Int))→Option ((List Int)×(GM (List Int)))
 | 0=>fun _ _ _ _=>none
 | k+1=>aEe (aAP k)
def oQ (k:Nat):List AV→List BD→AV→List BD→Prop:=fun args bs r bs'=>∃ a0 c1 c2 m0 y,args=[eI a0,.ep [.mp 0] 0,.ep [eI c1.N,(eL 2 dK default) c1.Pairs] 0,.ep (cA c2) 0,.ptr 1 0]∧bs=[.ab (abM (eL 1 eI default) m0),.fn 59 [.m 0,.v (.ep [eI c1.N,(eL 2 dK default) c1.Pairs] 0),.v (.ep (cA c2) 0),.p 1]]∧aAP k a0 c1 c2 m0=some y∧r=(eL 1 eI default) y.1∧bs'=[.ab (abM (eL 1 eI default) y.2),.fn 59 [.m 0,.v (.ep [eI c1.N,(eL 2 dK default) c1.Pairs] 0),.v (.ep (cA c2) 0),.p 1]]
theorem aHt (k:Nat) {T:Tbl} (hT:TOk Tryd.prog T) (hpf:cP T PF) (h59:T 59=pM (oQ k)):FOk Tryd.prog 59 (pM (oQ (k+1))):=by
 refine rI hT hpf Tryd.func59 rfl Tryd.ntmps59 Tryd.results59 (by decide) ?_
 rintro args bs r bs' ⟨a0,c1,c2,m0,y,rfl,rfl,hF,rfl,rfl⟩
 refine ⟨nle rfl,Nat.le_refl _,(lsL fun _=>(lsI _ _)),⟨(aIH (fun _=>(lsL fun _=>(lsI _ _))) _),⟨⟨nle rfl,⟨(lsE (lsC (lsI _ _) (lsC (lsL fun _=>(aO _)) lsN))),⟨(lsE (aT _)),⟨nle rfl,trivial⟩⟩⟩⟩,trivial⟩⟩,⟨(aIH (fun _=>(lsL fun _=>(lsI _ _))) _),⟨⟨nle rfl,⟨(lsE (lsC (lsI _ _) (lsC (lsL fun _=>(aO _)) lsN))),⟨(lsE (aT _)),⟨nle rfl,trivial⟩⟩⟩⟩,trivial⟩⟩,?_⟩
 have h:W (aEe (aAP k) a0 c1 c2 m0) (fun z=>z=y):=kD hF rfl
 rw [aEe.eq_1] at h
 refine aE dCo rfl fun K hK=>?_;conv=>whnf
 refine hK _ _ _ ?_
 refine aL ?_
 refine aE dCo rfl fun K hK=>?_;conv=>whnf
 refine gKo rfl ?_;conv=>whnf
 refine aDw (enc:=(eL 1 eI default)) dCo rfl [] kF rfl (nle rfl) ?_;conv=>whnf
 refine hK _ _ _ ?_
 refine aE dCo rfl fun K hK=>?_;conv=>whnf
 refine hK _ _ _ ?_
 refine aQ fun K1 K2 hK1 hK2=>?_;conv=>whnf
 refine cLk h (fun _ h=>?_) (fun _ h=>?_)
 ·refine hK1 ?_
  refine aE dCo rfl fun K hK=>?_;conv=>whnf
  refine hK _ _ _ ?_
  refine aD ?_
  refine aG ?_
  replace h:=aB h
  refine gY dCo fun K hK=>?_;conv=>whnf
  refine hK _ ?_
  cases h
  exact ⟨Wk.refl _,⟨_,rfl,bkW _⟩,rfl,trivial⟩
 refine hK2 ?_
 refine aK ?_
 refine tHn ?_
 refine aE dCo rfl fun K hK=>?_;conv=>whnf
 refine hK _ _ _ ?_
 refine aL ?_
 refine aE dCo rfl fun K hK=>?_;conv=>whnf
 refine gKo rfl ?_;conv=>whnf
 refine hK _ _ _ ?_
 refine aN ?_
 replace h:=bC h
 refine aGn (body:=aB4 _ _ _ _) rfl h [0,1,3,4,20] (fun σ=>aBT σ [1]++oI σ []++qV σ []) [] (fun kl kh ids b s=>⟨ofL ([(9,(eL 1 eI default) s.1),(21,eI s.2.1)]++kl),ofH ([(0,abM (eL 1 eI default) s.2.2)]++kh),b+64⟩) ?_;(conv=>whnf);refine And.intro ?_ (fun s m h=>dP ?_)
 ·refine bG ?_;conv=>whnf
  exact And.intro rfl (And.intro (aLc (WkR.wk kF (lsL fun _=>(lsI _ _))) (aLc wkI (aLc wkI (aLc (oR (aM (WkR.mp (fun _=>rfl)) bE)) (aLc (wkr (lsE (aT _))) (aLc (WkR.ptr (fun _=>rfl)) (aLc wkI aLn))))))) (aLc ⟨some _,rfl,iN (enc:=(eL 1 eI default)) rfl (fun _=>(lsL fun _=>(lsI _ _)))⟩ (aLc ⟨some _,rfl,bRc rfl (cKc (eS bE (aM (oR (aM (WkR.mp (fun _=>rfl)) bE)) (aM (wkr (lsE (lsC (lsI _ _) (lsC (lsL fun _=>(aO _)) lsN)))) (aM (wkr (lsE (aT _))) (aM (WkR.ptr (fun _=>rfl)) bE))))) cKn)⟩ aLn)))
 replace h:=bC h;rw [aB4.eq_1] at h
 refine aE dCo rfl fun K hK=>?_;conv=>whnf
 refine hK _ _ _ ?_
 refine aL ?_
 refine aQ fun K1 K2 hK1 hK2=>?_;conv=>whnf
 refine cLk h (fun _ h=>?_) (fun _ h=>?_)
 ·refine hK1 ?_
  refine aK ?_
  refine tHn ?_
  refine aL ?_
  refine aN ?_
  refine aE dCo rfl fun K hK=>?_;conv=>whnf
  refine hK _ _ _ ?_
  refine aE dCo rfl fun K hK=>?_;conv=>whnf
  replace h:=cL h
  refine cO h fun hx49 h=>?_;conv=>whnf
  refine dS rfl hx49 ?_;conv=>whnf
  refine cO h fun _ h=>?_;conv=>whnf
  refine cLk h (fun _ h=>?_) (fun _ h=>?_)<;>(conv=>whnf)
  ·refine nlA rfl ?_;conv=>whnf
   refine bKo rfl ?_;conv=>whnf
   refine gKo rfl ?_;conv=>whnf
   refine dD (bs:=[.ab (abM (eL 1 eI default) _),.fn 59 [.m 0,.v _,.v _,.p 1]]) (args0:=[_,.ep [.mp 0] 0,_,_,.ptr 1 0]) h59 [_,_] h (.cons (rH (Wk.refl _) (lsI _ _)) (.cons (aAR (pL (aBm rfl) qM)) (.cons (bQ (lsE (lsC (lsI _ _) (lsC (lsL fun _=>(aO _)) lsN)))) (.cons (bQ (lsE (aT _))) (.cons (eD rfl) .nil))))) ⟨⟨_,rfl,bkW _⟩,rfl,trivial⟩ rfl (nle rfl) (fun y e=>(⟨_,_,_,_,_,rfl,rfl,e,rfl,rfl⟩:oQ _ _ _ _ _)) (fun _ h=>?_);conv=>whnf
   refine hK _ _ _ ?_
   replace h:=cL h
   refine aQ fun K1 K2 hK1 hK2=>?_;conv=>whnf
   refine cLk h (fun _ h=>?_) (fun _ h=>?_)
   ·refine hK1 ?_
    refine cR dCo rfl fun K hK=>?_;conv=>whnf
    refine nlA rfl ?_;conv=>whnf
    refine bKo rfl ?_;conv=>whnf
    refine gKo rfl ?_;conv=>whnf
    refine dD (bs:=[.ab (abM (eL 1 eI default) _),.fn 59 [.m 0,.v _,.v _,.p 1]]) (args0:=[_,.ep [.mp 0] 0,_,_,.ptr 1 0]) h59 [_,_] h (.cons (rH (Wk.refl _) (lsI _ _)) (.cons (aAR (pL (aBm rfl) qM)) (.cons (bQ (lsE (lsC (lsI _ _) (lsC (lsL fun _=>(aO _)) lsN)))) (.cons (bQ (lsE (aT _))) (.cons (eD rfl) .nil))))) ⟨⟨_,rfl,bkW _⟩,rfl,trivial⟩ rfl (nle rfl) (fun y e=>(⟨_,_,_,_,_,rfl,rfl,e,rfl,rfl⟩:oQ _ _ _ _ _)) (fun _ h=>?_);conv=>whnf
    refine hK _ _ _ ?_
    refine iBn ?_
    refine tHn ?_
    refine cR dCo rfl fun K hK=>?_;conv=>whnf
    refine hK _ _ _ ?_
    refine tHn ?_
    replace h:=bU h
    refine ⟨_,h,?_⟩
    refine bG ?_;conv=>whnf
    exact And.intro rfl (And.intro (aLc (wkr (lsL fun _=>(lsI _ _))) (aLc wkI (aLc wkI (aLc (oR (aM (WkR.mp (fun _=>rfl)) bE)) (aLc (wkr (lsE (aT _))) (aLc (WkR.ptr (fun _=>rfl)) (aLc wkI aLn))))))) (aLc ⟨some _,rfl,iN (enc:=(eL 1 eI default)) rfl (fun _=>(lsL fun _=>(lsI _ _)))⟩ (aLc ⟨some _,rfl,bRc rfl (cKc (eS bE (aM (oR (aM (WkR.mp (fun _=>rfl)) bE)) (aM (wkr (lsE (lsC (lsI _ _) (lsC (lsL fun _=>(aO _)) lsN)))) (aM (wkr (lsE (aT _))) (aM (WkR.ptr (fun _=>rfl)) bE))))) cKn)⟩ aLn)))
   refine hK2 ?_
   refine aK ?_
   refine iBn ?_
   refine tHn ?_
   refine cR dCo rfl fun K hK=>?_;conv=>whnf
   refine hK _ _ _ ?_
   refine tHn ?_
   replace h:=bU h
   refine ⟨_,h,?_⟩
   refine bG ?_;conv=>whnf
   exact And.intro rfl (And.intro (aLc (wkr (lsL fun _=>(lsI _ _))) (aLc wkI (aLc wkI (aLc (oR (aM (WkR.mp (fun _=>rfl)) bE)) (aLc (wkr (lsE (aT _))) (aLc (WkR.ptr (fun _=>rfl)) (aLc wkI aLn))))))) (aLc ⟨some _,rfl,iN (enc:=(eL 1 eI default)) rfl (fun _=>(lsL fun _=>(lsI _ _)))⟩ (aLc ⟨some _,rfl,bRc rfl (cKc (eS bE (aM (oR (aM (WkR.mp (fun _=>rfl)) bE)) (aM (wkr (lsE (lsC (lsI _ _) (lsC (lsL fun _=>(aO _)) lsN)))) (aM (wkr (lsE (aT _))) (aM (WkR.ptr (fun _=>rfl)) bE))))) cKn)⟩ aLn)))
  refine hK _ _ _ ?_
  replace h:=cL h
  refine aQ fun K1 K2 hK1 hK2=>?_;conv=>whnf
  refine hK2 ?_
  replace h:=vI h
  refine aK ?_
  refine iBn ?_
  refine tHn ?_
  refine cR dCo rfl fun K hK=>?_;conv=>whnf
  refine hK _ _ _ ?_
  refine tHn ?_
  replace h:=bU h
  refine ⟨_,h,?_⟩
  refine bG ?_;conv=>whnf
  exact And.intro rfl (And.intro (aLc (wkr (lsL fun _=>(lsI _ _))) (aLc wkI (aLc wkI (aLc (oR (aM (WkR.mp (fun _=>rfl)) bE)) (aLc (wkr (lsE (aT _))) (aLc (WkR.ptr (fun _=>rfl)) (aLc wkI aLn))))))) (aLc ⟨some _,rfl,iN (enc:=(eL 1 eI default)) rfl (fun _=>(lsL fun _=>(lsI _ _)))⟩ (aLc ⟨some _,rfl,bRc rfl (cKc (eS bE (aM (oR (aM (WkR.mp (fun _=>rfl)) bE)) (aM (wkr (lsE (lsC (lsI _ _) (lsC (lsL fun _=>(aO _)) lsN)))) (aM (wkr (lsE (aT _))) (aM (WkR.ptr (fun _=>rfl)) bE))))) cKn)⟩ aLn)))
 refine hK2 ?_
 refine bO ?_
 refine bD ?_
 refine bD ?_
 refine bA ?_
 replace h:=dT h
 replace h:=dU h
 refine tHn ?_
 refine tC dCo eZ rfl (by kernel_rfl) fun K hK=>?_;conv=>whnf
 refine gKo rfl ?_;conv=>whnf
 refine cZ (enc:=eI) (d:=default) dCo h rfl rfl rfl ⟨nle rfl,nle rfl,rfl⟩ rfl ⟨⟨rfl,rfl,rfl⟩,trivial⟩ (fun h=>?_);conv=>whnf
 refine aGP (enc:=eI) (d:=default) dCo h rfl rfl rfl ⟨rfl,nle rfl,nle rfl,nle rfl,rfl⟩ (fun _=>rfl) (fun h=>?_);conv=>whnf
 refine fF (enc:=(eL 1 eI default)) dCo rfl rfl ?_;conv=>whnf
 refine hK _ _ _ ?_
 refine aE dCo rfl fun K hK=>?_;conv=>whnf
 refine gKo rfl ?_;conv=>whnf
 refine aE3 (enc:=(eL 1 eI default)) dCo rfl [] kF rfl (nle rfl) ?_;conv=>whnf
 refine hK _ _ _ ?_
 refine aD ?_
 replace h:=aB h
 refine gY dCo fun K hK=>?_;conv=>whnf
 refine hK _ ?_
 cases h
 exact ⟨Wk.refl _,⟨_,rfl,bkW _⟩,rfl,trivial⟩
theorem aG4 {T:Tbl} (hT:TOk Tryd.prog T) (hpf:cP T PF):FOk Tryd.prog 59 (pM (oQ 10)):=
 tN (S:=oQ) hT hpf (by decide) Tryd.func59 rfl (by decide) (by rintro a b c d ⟨a0,c1,c2,m0,y,-,-,h,-⟩;cases h) (fun k T' hT' hpf' hne h=>aHt k hT' hpf' h) 10
  def mD (a0:aP) (y1:(Ar 8)×Bool) (s2:(List Int)×Int×(GM (List Int))):Option (Ct ((List Int)×Int×(GM (List Int))) ((List Int)×Int)):=cn (decide (s2.2.1<a0.N)) (bd (aAP 10 s2.2.1 a0 y1.1 s2.2.2) fun y3=>
  jn (fun p4:(List Int)×(GM (List Int))=>some (.nx (p4.1,(wr (s2.2.1+1)),p4.2))) fun k5=>cn (decide ((y3.1.length:Int) >
  (s2.1.length:Int))) (bd (aAP 10 s2.2.1 a0 y1.1 y3.2) fun y6=>k5 (y6.1,y6.2)) (k5 (s2.1,y3.2))) (some (.bk (s2.1,s2.2.1,s2.2.2)))
def kN (a0:aP):Option ((List Int)×Int):=bd (bI a0) fun y1=>
  cn (!y1.2) (some ([],70)) (bd (lp (mD a0 y1) FU ([],0,(GM.mt (List Int)))) fun c7=>smK c7 (fun s8=>gd (s8.1.length≤1048576) (lt s8.1 fun m10=>
  some (m10,0))) (fun r9=>some r9))
def iQ:List AV→AV→Prop:=fun args r=>∃ a0,args=[bN a0]∧W (kN a0) fun y=>r=(.tup [(eL 1 eI default) y.1,eI y.2])
theorem vY {T:Tbl} (hT:TOk Tryd.prog T) (hpf:cP T PF) (h54:T 54=aS cC) (h59:T 59=pM (oQ 10)) (h60:T 60=wK 1 eI default):FOk Tryd.prog 29 (aS iQ):=by
 refine bJ hT hpf Tryd.func29 rfl Tryd.ntmps29 Tryd.results29 (by decide) ?_
 rintro args r ⟨a0,rfl,h⟩
 refine ⟨nle rfl,?_,?_⟩
 ·exact (lsC (bZ _) lsN)
 rw [kN.eq_1] at h
 refine aE dCo rfl fun K hK=>?_;conv=>whnf
 refine hK _ _ _ ?_
 refine aE dCo rfl fun K hK=>?_;conv=>whnf
 refine nlA rfl ?_;conv=>whnf
 refine bKo rfl ?_;conv=>whnf
 refine nlA rfl ?_;conv=>whnf
 replace h:=bC h
 refine bY h54 h (WkL.refl _) (fun _ h=>?_);conv=>whnf
 refine aU ?_;conv=>whnf
 refine aU ?_;conv=>whnf
 refine aU ?_;conv=>whnf
 refine bKo rfl ?_;conv=>whnf
 refine oO rfl rfl rfl ?_;conv=>whnf
 refine hK _ _ _ ?_
 refine aL ?_
 refine aE dCo rfl fun K hK=>?_;conv=>whnf
 refine hK _ _ _ ?_
 refine aQ fun K1 K2 hK1 hK2=>?_;conv=>whnf
 refine cLk h (fun _ h=>?_) (fun _ h=>?_)
 ·refine hK1 ?_
  refine aE dCo rfl fun K hK=>?_;conv=>whnf
  refine hK _ _ _ ?_
  refine aD ?_
  refine aG ?_
  replace h:=aB h
  refine aA dCo fun K hK=>?_;conv=>whnf
  refine hK _ ?_
  cases h
  exact pD (aF kF (aF (Wk.refl _) aJ))
 refine hK2 ?_
 refine aK ?_
 refine tHn ?_
 refine aE dCo rfl fun K hK=>?_;conv=>whnf
 refine bKo rfl ?_;conv=>whnf
 refine And.intro rfl (And.intro (nle rfl) (And.intro rfl ?_));conv=>whnf
 refine hK _ _ _ ?_
 refine aE dCo rfl fun K hK=>?_;conv=>whnf
 refine hK _ _ _ ?_
 refine lP 6 ?_;(conv=>whnf);refine ⟨_,rfl,?_⟩
 refine lP 1 ?_;(conv=>whnf);refine ⟨_,rfl,?_⟩
 refine lP 4 ?_;(conv=>whnf);refine ⟨_,rfl,?_⟩
 refine aE dCo rfl fun K hK=>?_;conv=>whnf
 refine bKo rfl ?_;conv=>whnf
 refine And.intro rfl (And.intro (nle rfl) (And.intro rfl ?_));conv=>whnf
 refine hK _ _ _ ?_
 refine aE dCo rfl fun K hK=>?_;conv=>whnf
 refine hK _ _ _ ?_
 refine aL ?_
 refine aE dCo rfl fun K hK=>?_;conv=>whnf
 refine gKo rfl ?_;conv=>whnf
 refine hK _ _ _ ?_
 refine aN ?_
 replace h:=bC h
 refine jR (body:=mD _ _) rfl h [7,17,20] [7] [17] (fun kl kh ids b s=>⟨ofL ([(8,(eL 1 eI default) s.1),(21,eI s.2.1)]++kl),ofH ([(aAH ids 0,abM (eL 1 eI default) s.2.2)]++kh),b+64⟩) ?_;(conv=>whnf);refine And.intro ?_ (fun s m h=>dP ?_)
 ·refine bG ?_;conv=>whnf
  exact And.intro rfl (And.intro (aLc (WkR.wk kF (lsL fun _=>(lsI _ _))) (aLc wkI (aLc (WkR.ptr (fun _=>rfl)) (aLc (WkR.mp (fun _=>rfl)) (aLc wkI aLn))))) (aLc ⟨some _,rfl,iN (enc:=(eL 1 eI default)) (m:=(GM.mt (List Int))) rfl (fun _=>(lsL fun _=>(lsI _ _)))⟩ (aLc ⟨some _,rfl,bRc rfl (cKc (eS bE (aM (oR (aM (WkR.mp (fun _=>rfl)) bE)) (aM (wkr (lsE (lsC (lsI _ _) (lsC (lsL fun _=>(aO _)) lsN)))) (aM (wkr (lsE (aT _))) (aM (WkR.ptr (fun _=>rfl)) bE))))) cKn)⟩ aLn)))
 replace h:=bC h;rw [mD.eq_1] at h
 refine aE dCo rfl fun K hK=>?_;conv=>whnf
 refine hK _ _ _ ?_
 refine aL ?_
 refine aQ fun K1 K2 hK1 hK2=>?_;conv=>whnf
 refine cLk h (fun _ h=>?_) (fun _ h=>?_)
 ·refine hK1 ?_
  refine aK ?_
  refine tHn ?_
  refine aL ?_
  refine aN ?_
  refine aE dCo rfl fun K hK=>?_;conv=>whnf
  refine hK _ _ _ ?_
  refine aE dCo rfl fun K hK=>?_;conv=>whnf
  refine nlA rfl ?_;conv=>whnf
  refine bKo rfl ?_;conv=>whnf
  refine gKo rfl ?_;conv=>whnf
  refine dD (bs:=[.ab (abM (eL 1 eI default) _),.fn 59 [.m 0,.v _,.v _,.p 1]]) (args0:=[_,.ep [.mp 0] 0,_,_,.ptr 1 0]) h59 [_,_] h (.cons (rH (Wk.refl _) (lsI _ _)) (.cons (aAR (pL (aBm rfl) qM)) (.cons (bQ (lsE (lsC (lsI _ _) (lsC (lsL fun _=>(aO _)) lsN)))) (.cons (bQ (lsE (aT _))) (.cons (eD rfl) .nil))))) ⟨⟨_,rfl,bkW _⟩,rfl,trivial⟩ rfl (nle rfl) (fun y e=>(⟨_,_,_,_,_,rfl,rfl,e,rfl,rfl⟩:oQ 10 _ _ _ _)) (fun _ h=>?_);conv=>whnf
  refine hK _ _ _ ?_
  replace h:=cL h
  refine aQ fun K1 K2 hK1 hK2=>?_;conv=>whnf
  refine cLk h (fun _ h=>?_) (fun _ h=>?_)
  ·refine hK1 ?_
   refine cR dCo rfl fun K hK=>?_;conv=>whnf
   refine nlA rfl ?_;conv=>whnf
   refine bKo rfl ?_;conv=>whnf
   refine gKo rfl ?_;conv=>whnf
   refine dD (bs:=[.ab (abM (eL 1 eI default) _),.fn 59 [.m 0,.v _,.v _,.p 1]]) (args0:=[_,.ep [.mp 0] 0,_,_,.ptr 1 0]) h59 [_,_] h (.cons (rH (Wk.refl _) (lsI _ _)) (.cons (aAR (pL (aBm rfl) qM)) (.cons (bQ (lsE (lsC (lsI _ _) (lsC (lsL fun _=>(aO _)) lsN)))) (.cons (bQ (lsE (aT _))) (.cons (eD rfl) .nil))))) ⟨⟨_,rfl,bkW _⟩,rfl,trivial⟩ rfl (nle rfl) (fun y e=>(⟨_,_,_,_,_,rfl,rfl,e,rfl,rfl⟩:oQ 10 _ _ _ _)) (fun _ h=>?_);conv=>whnf
   refine hK _ _ _ ?_
   refine iBn ?_
   refine tHn ?_
   refine cR dCo rfl fun K hK=>?_;conv=>whnf
   refine hK _ _ _ ?_
   refine tHn ?_
   replace h:=bU h
   refine ⟨_,h,?_⟩
   refine bG ?_;conv=>whnf
   exact And.intro rfl (And.intro (aLc (wkr (lsL fun _=>(lsI _ _))) (aLc wkI (aLc (WkR.ptr (fun _=>rfl)) (aLc (WkR.mp (fun _=>rfl)) (aLc wkI aLn))))) (aLc ⟨some _,rfl,iN (enc:=(eL 1 eI default)) rfl (fun _=>(lsL fun _=>(lsI _ _)))⟩ (aLc ⟨some _,rfl,bRc rfl (cKc (eS bE (aM (oR (aM (WkR.mp (fun _=>rfl)) bE)) (aM (wkr (lsE (lsC (lsI _ _) (lsC (lsL fun _=>(aO _)) lsN)))) (aM (wkr (lsE (aT _))) (aM (WkR.ptr (fun _=>rfl)) bE))))) cKn)⟩ aLn)))
  refine hK2 ?_
  refine aK ?_
  refine iBn ?_
  refine tHn ?_
  refine cR dCo rfl fun K hK=>?_;conv=>whnf
  refine hK _ _ _ ?_
  refine tHn ?_
  replace h:=bU h
  refine ⟨_,h,?_⟩
  refine bG ?_;conv=>whnf
  exact And.intro rfl (And.intro (aLc (wkr (lsL fun _=>(lsI _ _))) (aLc wkI (aLc (WkR.ptr (fun _=>rfl)) (aLc (WkR.mp (fun _=>rfl)) (aLc wkI aLn))))) (aLc ⟨some _,rfl,iN (enc:=(eL 1 eI default)) rfl (fun _=>(lsL fun _=>(lsI _ _)))⟩ (aLc ⟨some _,rfl,bRc rfl (cKc (eS bE (aM (oR (aM (WkR.mp (fun _=>rfl)) bE)) (aM (wkr (lsE (lsC (lsI _ _) (lsC (lsL fun _=>(aO _)) lsN)))) (aM (wkr (lsE (aT _))) (aM (WkR.ptr (fun _=>rfl)) bE))))) cKn)⟩ aLn)))
 refine hK2 ?_
 refine bO ?_
 refine bD ?_
 refine bD ?_
 refine bA ?_
 replace h:=dT h
 replace h:=dU h
 refine tHn ?_
 refine aE dCo rfl fun K hK=>?_;conv=>whnf
 refine aED h fun hg h=>?_
 replace h:=aKy h
 refine sR h60 (aF (Wk.refl _) aJ) hg (fun _=>(lsC (lsI _ _) lsN)) ?_;conv=>whnf
 refine hK _ _ _ ?_
 refine nM 2 (enc:=eI) (e:=3) default (lT dCo rfl rfl rfl (fun _=>⟨rfl,rfl⟩)) ?_;(conv=>whnf);refine ⟨_,_,rfl,rfl,rfl,?_⟩
 refine aD ?_
 replace h:=aB h
 refine aA dCo fun K hK=>?_;conv=>whnf
 refine hK _ ?_
 cases h
 exact Wk.refl _
theorem tB {T:Tbl} (hT:T 29=aS iQ) {args:List AV} {hp:aX} {id:Nat} {k:AV→Prop} {a0:aP} {Φ:(List Int)×Int→Prop} (h:W (kN a0) Φ) (hw:WkL args [bN a0]) (hk:∀ y,Φ y→k (.tup [(eL 1 eI default) y.1,eI y.2])):cU T 29 args hp id k:=by
 obtain ⟨y,e,hy⟩:=fB h
 exact aZ hT ⟨a0,rfl,kD e rfl⟩ (by exact fH (lsC (lsL fun _=>(lsI _ _)) (lsC (lsI _ _) lsN))) hw (hk y hy)
def nP (a0:Int) (a1:Ar 8) (s2:(List Int)×Int×Int):Option (Ct ((List Int)×Int×Int) (List Int)):=cn (decide (s2.2.2<a0)) (jn (fun p3:Bool=>
  cn p3 (lt ([s2.2.2]:List Int) fun l5=>ap s2.1 l5 fun l6=>gd (0≤s2.2.2) (let v7:=(bor .i64 s2.2.1 (aEP .i64 1 s2.2.2));
  some (.bk (l6,v7,s2.2.2)))) (some (.nx (s2.1,s2.2.1,(wr (s2.2.2+1)))))) fun k4=>gd (0≤s2.2.2) (cn ((tI .i64 (vX .i64 s2.2.1 s2.2.2) 1) ==
  0) (gd (0≤s2.2.2∧s2.2.2<(8:Int)) (k4 ((qP .i64 (a1.at1 s2.2.2) s2.2.1)==0))) (k4 false))) (some (.bk (s2.1,s2.2.1,s2.2.2)))
  def nT (a0:Int) (a1:Ar 8) (s1:(List Int)×Int):Option (Ct ((List Int)×Int) (List Int)):=cn (decide ((s1.1.length:Int)<a0)) (bd (lp (nP a0 a1) FU (s1.1,s1.2,0)) fun c8=>
  smK c8 (fun s9=>some (.nx (s9.1,s9.2.1))) (fun r10=>some (.rt r10))) (some (.bk (s1.1,s1.2)))
def hU (a0:Int) (a1:Ar 8):Option (List Int):=bd (lp (nT a0 a1) FU ([],0)) fun c11=>smK c11 (fun s12=>some s12.1) (fun r13=>some r13)
def fS:List AV→AV→Prop:=fun args r=>∃ a0 a1,args=[eI a0,eAr a1]∧W (hU a0 a1) fun y=>r=((eL 1 eI default) y)
theorem aAg {T:Tbl} (hT:TOk Tryd.prog T) (hpf:cP T PF):FOk Tryd.prog 57 (aS fS):=by
 refine bJ hT hpf Tryd.func57 rfl Tryd.ntmps57 Tryd.results57 (by decide) ?_
 rintro args r ⟨a0,a1,rfl,h⟩
 refine ⟨nle rfl,?_,?_⟩
 ·exact (lsC (lsI _ _) (lsC (oT _) lsN))
 rw [hU.eq_1] at h
 refine aE dCo rfl fun K hK=>?_;conv=>whnf
 refine aU ?_;conv=>whnf
 refine hK _ _ _ ?_
 refine aE dCo rfl fun K hK=>?_;conv=>whnf
 refine hK _ _ _ ?_
 refine aL ?_
 refine aE dCo rfl fun K hK=>?_;conv=>whnf
 refine hK _ _ _ ?_
 refine aN ?_
 replace h:=bC h
 refine gQ (body:=nT _ _) rfl h [0,3] [] [3] [] (fun kl kh kr ids b s=>⟨ofL ([(5,.so (b+0) 0 s.1.length 1),(6,eI s.2)]++kl),ofH (([]++kh)++([(b+0,.cells (flE (ceE eI) s.1))]++kr)),b+128⟩) ?_;(conv=>whnf);refine And.intro ?_ (fun s m h=>dP ?_)
 ·refine bM ?_;conv=>whnf
  exact And.intro rfl (And.intro (aLc (WkR.nilso (fun _=>rfl)) (aLc wkI (aLc wkI (aLc (WkR.ptr (fun _=>rfl)) aLn)))) (aLc ⟨none,rfl,aBc⟩ (aLc ⟨some _,rfl,aY rfl rfl⟩ aLn)))
 replace h:=bC h;rw [nT.eq_1] at h
 refine aL ?_
 refine aE dCo rfl fun K hK=>?_;conv=>whnf
 refine hK _ _ _ ?_
 refine aQ fun K1 K2 hK1 hK2=>?_;conv=>whnf
 refine cLk h (fun _ h=>?_) (fun _ h=>?_)
 ·refine hK1 ?_
  refine aK ?_
  refine tHn ?_
  refine aN ?_
  refine aE dCo rfl fun K hK=>?_;conv=>whnf
  refine hK _ _ _ ?_
  refine aN ?_
  replace h:=bC h
  refine gQ (body:=nP _ _) rfl h [0,3,12] [] [3] [] (fun kl kh kr ids b s=>⟨ofL ([(5,.so (b+0) 0 s.1.length 1),(6,eI s.2.1),(13,eI s.2.2)]++kl),ofH (([]++kh)++([(b+0,.cells (flE (ceE eI) s.1))]++kr)),b+128⟩) ?_;(conv=>whnf);refine And.intro ?_ (fun s m h=>dP ?_)
  ·refine bM ?_;conv=>whnf
   exact And.intro rfl (And.intro (aLc (WkR.so (fun _=>rfl)) (aLc wkI (aLc wkI (aLc wkI (aLc (WkR.ptr (fun _=>rfl)) (aLc wkI aLn)))))) (aLc ⟨some _,rfl,fZ rfl (fun _=>(lsC (lsI _ _) lsN))⟩ (aLc ⟨some _,rfl,aY rfl rfl⟩ aLn)))
  replace h:=bC h;rw [nP.eq_1] at h
  refine aE dCo rfl fun K hK=>?_;conv=>whnf
  refine hK _ _ _ ?_
  refine aL ?_
  refine aQ fun K1 K2 hK1 hK2=>?_;conv=>whnf
  refine cLk h (fun _ h=>?_) (fun _ h=>?_)
  ·refine hK1 ?_
   refine aK ?_
   refine tHn ?_
   refine aL ?_
   refine aN ?_
   refine aE dCo rfl fun K hK=>?_;conv=>whnf
   refine hK _ _ _ ?_
   refine aE dCo rfl fun K hK=>?_;conv=>whnf
   replace h:=cL h
   refine cO h fun _ h=>?_;conv=>whnf
   refine cLk h (fun _ h=>?_) (fun _ h=>?_)<;>(conv=>whnf)
   ·refine cO h fun hx113 h=>?_;conv=>whnf
    refine nlA rfl ?_;conv=>whnf
    refine bKo rfl ?_;conv=>whnf
    refine dS rfl hx113 ?_;conv=>whnf
    refine hK _ _ _ ?_
    refine aQ fun K1 K2 hK1 hK2=>?_;conv=>whnf
    refine cLk h (fun _ h=>?_) (fun _ h=>?_)
    ·refine hK1 ?_
     refine tC dCo eZ rfl (by kernel_rfl) fun K hK=>?_;conv=>whnf
     refine cZ (enc:=eI) (d:=default) dCo h rfl rfl rfl ⟨nle rfl,nle rfl,rfl⟩ rfl ⟨⟨rfl,rfl,rfl⟩,trivial⟩ (fun h=>?_);conv=>whnf
     refine aBr (enc:=eI) (d:=default) dCo h rfl rfl rfl ⟨rfl,nle rfl,nle rfl,nle rfl,rfl⟩ (fun _=>rfl) (fun _=>rfl) (fun _=>nofun) rfl (rfl) (fun h=>?_);conv=>whnf
     refine cO h fun _ h=>?_;conv=>whnf
     refine hK _ _ _ ?_
     refine bO ?_
     refine aDk (by decide) ?_
     refine bD ?_
     refine bD ?_
     refine bA ?_
     replace h:=dT h
     replace h:=dU h
     refine iBn ?_
     refine tHn ?_
     replace h:=bU h
     refine ⟨_,h,?_⟩
     refine bM ?_;conv=>whnf
     exact And.intro rfl (And.intro (aLc (WkR.so (fun _=>rfl)) (aLc wkI (aLc wkI (aLc (WkR.ptr (fun _=>rfl)) aLn)))) (aLc ⟨some _,rfl,fZ rfl (fun _=>(lsC (lsI _ _) lsN))⟩ (aLc ⟨some _,rfl,aY rfl rfl⟩ aLn)))
    refine hK2 ?_
    refine aK ?_
    refine iBn ?_
    refine tHn ?_
    refine cR dCo rfl fun K hK=>?_;conv=>whnf
    refine hK _ _ _ ?_
    refine tHn ?_
    replace h:=bU h
    refine ⟨_,h,?_⟩
    refine bM ?_;conv=>whnf
    exact And.intro rfl (And.intro (aLc (WkR.so (fun _=>rfl)) (aLc wkI (aLc wkI (aLc wkI (aLc (WkR.ptr (fun _=>rfl)) (aLc wkI aLn)))))) (aLc ⟨some _,rfl,fZ rfl (fun _=>(lsC (lsI _ _) lsN))⟩ (aLc ⟨some _,rfl,aY rfl rfl⟩ aLn)))
   refine hK _ _ _ ?_
   refine aQ fun K1 K2 hK1 hK2=>?_;conv=>whnf
   refine hK2 ?_
   replace h:=vI h
   refine aK ?_
   refine iBn ?_
   refine tHn ?_
   refine cR dCo rfl fun K hK=>?_;conv=>whnf
   refine hK _ _ _ ?_
   refine tHn ?_
   replace h:=bU h
   refine ⟨_,h,?_⟩
   refine bM ?_;conv=>whnf
   exact And.intro rfl (And.intro (aLc (WkR.so (fun _=>rfl)) (aLc wkI (aLc wkI (aLc wkI (aLc (WkR.ptr (fun _=>rfl)) (aLc wkI aLn)))))) (aLc ⟨some _,rfl,fZ rfl (fun _=>(lsC (lsI _ _) lsN))⟩ (aLc ⟨some _,rfl,aY rfl rfl⟩ aLn)))
  refine hK2 ?_
  refine bO ?_
  refine bD ?_
  refine bD ?_
  refine bA ?_
  replace h:=dT h
  replace h:=dU h
  refine iBn ?_
  refine tHn ?_
  replace h:=bU h
  refine ⟨_,h,?_⟩
  refine bM ?_;conv=>whnf
  exact And.intro rfl (And.intro (aLc (WkR.so (fun _=>rfl)) (aLc wkI (aLc wkI (aLc (WkR.ptr (fun _=>rfl)) aLn)))) (aLc ⟨some _,rfl,fZ rfl (fun _=>(lsC (lsI _ _) lsN))⟩ (aLc ⟨some _,rfl,aY rfl rfl⟩ aLn)))
 refine hK2 ?_
 refine bO ?_
 refine bD ?_
 refine bD ?_
 refine bA ?_
 replace h:=dT h
 replace h:=dU h
 refine tHn ?_
 refine aE dCo rfl fun K hK=>?_;conv=>whnf
 refine hK _ _ _ ?_
 refine nM 4 (enc:=eI) (e:=3) default (lT dCo rfl rfl rfl (fun _=>⟨rfl,rfl⟩)) ?_;(conv=>whnf);refine ⟨_,_,rfl,rfl,rfl,?_⟩
 refine aD ?_
 replace h:=aB h
 refine aA dCo fun K hK=>?_;conv=>whnf
 refine hK _ ?_
 cases h
 exact Wk.refl _
theorem lL {T:Tbl} (hT:T 57=aS fS) {args:List AV} {hp:aX} {id:Nat} {k:AV→Prop} {a0:Int} {a1:Ar 8} {Φ:List Int→Prop} (h:W (hU a0 a1) Φ) (hw:WkL args [eI a0,eAr a1]) (hk:∀ y,Φ y→k ((eL 1 eI default) y)):cU T 57 args hp id k:=by
 obtain ⟨y,e,hy⟩:=fB h
 exact aZ hT ⟨a0,a1,rfl,kD e rfl⟩ (by exact (lsL fun _=>(lsI _ _))) hw (hk y hy)
def lS (a0:aP):Option ((List Int)×Int):=bd (bI a0) fun y1=>cn (!y1.2) (some ([],70)) (bd (hU a0.N y1.1) fun y2=>some (y2,0))
def jL:List AV→AV→Prop:=fun args r=>∃ a0,args=[bN a0]∧W (lS a0) fun y=>r=(.tup [(eL 1 eI default) y.1,eI y.2])
theorem yB {T:Tbl} (hT:TOk Tryd.prog T) (hpf:cP T PF) (h54:T 54=aS cC) (h57:T 57=aS fS):FOk Tryd.prog 19 (aS jL):=by
 refine bJ hT hpf Tryd.func19 rfl Tryd.ntmps19 Tryd.results19 (by decide) ?_
 rintro args r ⟨a0,rfl,h⟩
 refine ⟨nle rfl,?_,?_⟩
 ·exact (lsC (bZ _) lsN)
 rw [lS.eq_1] at h
 refine aE dCo rfl fun K hK=>?_;conv=>whnf
 refine hK _ _ _ ?_
 refine aE dCo rfl fun K hK=>?_;conv=>whnf
 refine nlA rfl ?_;conv=>whnf
 refine bKo rfl ?_;conv=>whnf
 refine nlA rfl ?_;conv=>whnf
 replace h:=bC h
 refine bY h54 h (WkL.refl _) (fun _ h=>?_);conv=>whnf
 refine aU ?_;conv=>whnf
 refine aU ?_;conv=>whnf
 refine aU ?_;conv=>whnf
 refine bKo rfl ?_;conv=>whnf
 refine oO rfl rfl rfl ?_;conv=>whnf
 refine hK _ _ _ ?_
 refine aL ?_
 refine aE dCo rfl fun K hK=>?_;conv=>whnf
 refine hK _ _ _ ?_
 refine aQ fun K1 K2 hK1 hK2=>?_;conv=>whnf
 refine cLk h (fun _ h=>?_) (fun _ h=>?_)
 ·refine hK1 ?_
  refine aE dCo rfl fun K hK=>?_;conv=>whnf
  refine hK _ _ _ ?_
  refine aD ?_
  refine aG ?_
  replace h:=aB h
  refine aA dCo fun K hK=>?_;conv=>whnf
  refine hK _ ?_
  cases h
  exact pD (aF kF (aF (Wk.refl _) aJ))
 refine hK2 ?_
 refine aK ?_
 refine tHn ?_
 refine aE dCo rfl fun K hK=>?_;conv=>whnf
 refine nlA rfl ?_;conv=>whnf
 refine bKo rfl ?_;conv=>whnf
 refine gKo rfl ?_;conv=>whnf
 refine nlA rfl ?_;conv=>whnf
 refine bKo rfl ?_;conv=>whnf
 refine rD rfl ?_;conv=>whnf
 refine aU ?_;conv=>whnf
 replace h:=bC h
 refine lL h57 h (WkL.refl _) (fun _ h=>?_);conv=>whnf
 refine hK _ _ _ ?_
 refine aD ?_
 replace h:=aB h
 refine aA dCo fun K hK=>?_;conv=>whnf
 refine hK _ ?_
 cases h
 exact Wk.refl _
theorem vO {T:Tbl} (hT:T 19=aS jL) {args:List AV} {hp:aX} {id:Nat} {k:AV→Prop} {a0:aP} {Φ:(List Int)×Int→Prop} (h:W (lS a0) Φ) (hw:WkL args [bN a0]) (hk:∀ y,Φ y→k (.tup [(eL 1 eI default) y.1,eI y.2])):cU T 19 args hp id k:=by
 obtain ⟨y,e,hy⟩:=fB h
 exact aZ hT ⟨a0,rfl,kD e rfl⟩ (by exact fH (lsC (lsL fun _=>(lsI _ _)) (lsC (lsI _ _) lsN))) hw (hk y hy)
def cX (a0:Int):Option Int:=cn (a0 ==
  0) (some 64) (gd (0≤(vX .u64 (IntKind.u64.wrap ((tI .u64 a0 (IntKind.u64.wrap (0-a0))) * 285870213051353865)) 58)∧(vX .u64 (IntKind.u64.wrap ((tI .u64 a0 (IntKind.u64.wrap (0-a0))) * 285870213051353865)) 58)<(64:Int)) (let v1:=(wr ((gTz 1 (vX .u64 (IntKind.u64.wrap ((tI .u64 a0 (IntKind.u64.wrap (0-a0))) * 285870213051353865)) 58))));
  some v1))
def cE:List AV→AV→Prop:=fun args r=>∃ a0,args=[(AV.int .u64) a0]∧W (cX a0) fun y=>r=(eI y)
theorem kK {T:Tbl} (hT:TOk Tryd.prog T) (hpf:cP T PF):FOk Tryd.prog 87 (aS cE):=by
 refine bJ hT hpf Tryd.func87 rfl Tryd.ntmps87 Tryd.results87 (by decide) ?_
 rintro args r ⟨a0,rfl,h⟩
 refine ⟨nle rfl,?_,?_⟩
 ·exact (lsC (lsI _ _) lsN)
 rw [cX.eq_1] at h
 refine aE dCo rfl fun K hK=>?_;conv=>whnf
 refine hK _ _ _ ?_
 refine aL ?_
 refine aE dCo rfl fun K hK=>?_;conv=>whnf
 refine hK _ _ _ ?_
 refine aQ fun K1 K2 hK1 hK2=>?_;conv=>whnf
 refine cLk h (fun _ h=>?_) (fun _ h=>?_)
 ·refine hK1 ?_
  refine aE dCo rfl fun K hK=>?_;conv=>whnf
  refine hK _ _ _ ?_
  refine aD ?_
  refine aG ?_
  replace h:=aB h
  refine aA dCo fun K hK=>?_;conv=>whnf
  refine hK _ ?_
  cases h
  exact Wk.refl _
 refine hK2 ?_
 refine aK ?_
 refine tHn ?_
 refine aE dCo rfl fun K hK=>?_;conv=>whnf
 refine And.intro (by decide) ?_;conv=>whnf
 refine cO h fun hx117 h=>?_;conv=>whnf
 refine aIf 1 64 rfl rfl hx117 ?_;conv=>whnf
 refine hK _ _ _ ?_
 refine aD ?_
 replace h:=aB h
 refine aA dCo fun K hK=>?_;conv=>whnf
 refine hK _ ?_
 cases h
 exact Wk.refl _
theorem jP {T:Tbl} (hT:T 87=aS cE) {args:List AV} {hp:aX} {id:Nat} {k:AV→Prop} {a0:Int} {Φ:Int→Prop} (h:W (cX a0) Φ) (hw:WkL args [(AV.int .u64) a0]) (hk:∀ y,Φ y→k (eI y)):cU T 87 args hp id k:=by
 obtain ⟨y,e,hy⟩:=fB h
 exact aZ hT ⟨a0,rfl,kD e rfl⟩ (by exact (lsI _ _)) hw (hk y hy)
def dH (a0:Int):Option Int:=bd (cX a0) fun y1=>some y1
def cQ:List AV→AV→Prop:=fun args r=>∃ a0,args=[(AV.int .u64) a0]∧W (dH a0) fun y=>r=(eI y)
theorem lR {T:Tbl} (hT:TOk Tryd.prog T) (hpf:cP T PF) (h87:T 87=aS cE):FOk Tryd.prog 82 (aS cQ):=by
 refine bJ hT hpf Tryd.func82 rfl Tryd.ntmps82 Tryd.results82 (by decide) ?_
 rintro args r ⟨a0,rfl,h⟩
 refine ⟨nle rfl,?_,?_⟩
 ·exact (lsC (lsI _ _) lsN)
 rw [dH.eq_1] at h
 refine aE dCo rfl fun K hK=>?_;conv=>whnf
 refine hK _ _ _ ?_
 refine aL ?_
 refine aQ fun K1 K2 hK1 hK2=>?_;conv=>whnf
 refine hK2 ?_
 refine aK ?_
 refine tHn ?_
 refine aE dCo rfl fun K hK=>?_;conv=>whnf
 replace h:=bC h
 refine jP h87 h (WkL.refl _) (fun _ h=>?_);conv=>whnf
 refine hK _ _ _ ?_
 refine aD ?_
 replace h:=aB h
 refine aA dCo fun K hK=>?_;conv=>whnf
 refine hK _ ?_
 cases h
 exact Wk.refl _
theorem kI {T:Tbl} (hT:T 82=aS cQ) {args:List AV} {hp:aX} {id:Nat} {k:AV→Prop} {a0:Int} {Φ:Int→Prop} (h:W (dH a0) Φ) (hw:WkL args [(AV.int .u64) a0]) (hk:∀ y,Φ y→k (eI y)):cU T 82 args hp id k:=by
 obtain ⟨y,e,hy⟩:=fB h
 exact aZ hT ⟨a0,rfl,kD e rfl⟩ (by exact (lsI _ _)) hw (hk y hy)
def lC (s1:Int×(List Int)):Option (Ct (Int×(List Int)) (List Int)):=cn (s1.1 != 0) (bd (dH (IntKind.u64.wrap (s1.1))) fun y2=>
  lt ([y2]:List Int) fun l3=>ap s1.2 l3 fun l4=>let v5:=(tI .i64 s1.1 (wr (s1.1-1)));some (.nx (v5,l4))) (some (.bk (s1.1,s1.2)))
def jC (a0:Int):Option (List Int):=bd (lp (lC) FU (a0,[])) fun c6=>smK c6 (fun s7=>some s7.2) (fun r8=>some r8)
def gO:List AV→AV→Prop:=fun args r=>∃ a0,args=[eI a0]∧W (jC a0) fun y=>r=((eL 1 eI default) y)
theorem uL {T:Tbl} (hT:TOk Tryd.prog T) (hpf:cP T PF) (h82:T 82=aS cQ):FOk Tryd.prog 61 (aS gO):=by
 refine bJ hT hpf Tryd.func61 rfl Tryd.ntmps61 Tryd.results61 (by decide) ?_
 rintro args r ⟨a0,rfl,h⟩
 refine ⟨nle rfl,?_,?_⟩
 ·exact (lsC (lsI _ _) lsN)
 rw [jC.eq_1] at h
 refine aE dCo rfl fun K hK=>?_;conv=>whnf
 refine hK _ _ _ ?_
 refine aL ?_
 refine aN ?_
 replace h:=bC h
 refine jR (body:=lC) rfl h [] [] [] (fun kl kh ids b s=>⟨ofL ([(0,eI s.1),(2,.lst (.tok (b+0)) 1 s.2.length (fun j=>eI (s.2.getD j default)))]++kl),ofH ([(b+0,.cells [])]++kh),b+128⟩) ?_;(conv=>whnf);refine And.intro ?_ (fun s m h=>dP ?_)
 ·refine bG ?_;conv=>whnf
  exact And.intro rfl (And.intro (aLc wkI (aLc (WkR.nil (fun _=>rfl)) aLn)) (aLc ⟨none,rfl,sG⟩ aLn))
 replace h:=bC h;rw [lC.eq_1] at h
 refine aL ?_
 refine aE dCo rfl fun K hK=>?_;conv=>whnf
 refine hK _ _ _ ?_
 refine aQ fun K1 K2 hK1 hK2=>?_;conv=>whnf
 refine cLk h (fun _ h=>?_) (fun _ h=>?_)
 ·refine hK1 ?_
  refine aK ?_
  refine tHn ?_
  refine aL ?_
  refine aN ?_
  refine cR dCo rfl fun K hK=>?_;conv=>whnf
  replace h:=bC h
  refine kI h82 h (WkL.refl _) (fun _ h=>?_);conv=>whnf
  refine cZ (enc:=eI) (d:=default) dCo h rfl rfl rfl ⟨nle rfl,nle rfl,rfl⟩ rfl ⟨⟨rfl,rfl,rfl⟩,trivial⟩ (fun h=>?_);conv=>whnf
  refine dI (enc:=eI) (d:=default) dCo h (.inl rfl) rfl rfl rfl ⟨rfl,nle rfl,nle rfl,nle rfl,rfl⟩ (fun _=>rfl) (.inr (.inr ⟨_,_,rfl,rfl,rfl⟩)) (fun h=>?_);conv=>whnf
  refine hK _ _ _ ?_
  refine iBn ?_
  refine tHn ?_
  refine cR dCo rfl fun K hK=>?_;conv=>whnf
  refine hK _ _ _ ?_
  refine tHn ?_
  replace h:=bU h
  refine ⟨_,h,?_⟩
  refine bG ?_;conv=>whnf
  exact And.intro rfl (And.intro (aLc wkI (aLc (WkR.tok (fun _=>rfl) rfl (fun _ _=>Wk.refl _) (fun _=>(lsI _ _))) aLn)) (aLc ⟨some _,rfl,bRc rfl cKn⟩ aLn))
 refine hK2 ?_
 refine bO ?_
 refine bD ?_
 refine bD ?_
 refine bA ?_
 replace h:=dT h
 replace h:=dU h
 refine tHn ?_
 refine aE dCo rfl fun K hK=>?_;conv=>whnf
 refine hK _ _ _ ?_
 refine aD ?_
 replace h:=aB h
 refine aA dCo fun K hK=>?_;conv=>whnf
 refine hK _ ?_
 cases h
 exact aW
theorem rY {T:Tbl} (hT:T 61=aS gO) {args:List AV} {hp:aX} {id:Nat} {k:AV→Prop} {a0:Int} {Φ:List Int→Prop} (h:W (jC a0) Φ) (hw:WkL args [eI a0]) (hk:∀ y,Φ y→k ((eL 1 eI default) y)):cU T 61 args hp id k:=by
 obtain ⟨y,e,hy⟩:=fB h
 exact aZ hT ⟨a0,rfl,kD e rfl⟩ (by exact (lsL fun _=>(lsI _ _))) hw (hk y hy)
end Go.Proofs.YtlmboonbfhkfnaaDoor
