import Derived.Test.YtlmboonbfhkfnaaDoorRows
import Derived.Test.YtlmboonbfhkfnaaDoorM2
import Derived.ProofKit
import Derived.LaidMore
import Derived.OpenShut
import Derived.Stop.Joined
import Derived.Test.YtlmboonbfhkfnaaDoorProg
import Derived.Test.YtlmboonbfhkfnaaDoorM3
import Derived.KernelRfl
import Derived.Laws.StructEq
import Derived.ChangeKeysEq
set_option linter.unusedVariables false
set_option linter.unusedSimpArgs false
set_option linter.unusedSectionVars false
namespace Go.Proofs.YtlmboonbfhkfnaaDoor
open Go Go.Eng Go.ChangeShapes Go.WideShapes Go.ChangeAt Go.WideMaps Go.WideElems Go.RowKit
set_option maxRecDepth 100000
abbrev aDL:List (String×DataW Unit):=[("math/bits.deBruijn32tab", Rows.laid_math_bits_deBruijn32tab),("math/bits.deBruijn64tab", Rows.laid_math_bits_deBruijn64tab)]
theorem aFw (os:Os) (args:Array Value):laidMetH Tryd.prog aDL ((World.doorLaid Tryd.prog 400 os).forCall (fun _ _=>0) ⟨#[],args,[]⟩).memory:=
 laidMetH_of_parts3 (fuel:=8) (laidMet_of_run' 8 (by kernel_rfl) (by kernel_rfl)) (by kernel_rfl) (by kernel_rfl)
theorem g32:Tryd.prog.globalNamed "math/bits.deBruijn32tab" = some 0:=by kernel_rfl
theorem g64:Tryd.prog.globalNamed "math/bits.deBruijn64tab" = some 1:=by kernel_rfl
theorem t32:(Tryd.prog.globals[0]?).map (·.type)=some 99:=by kernel_rfl
theorem t64:(Tryd.prog.globals[1]?).map (·.type)=some 100:=by kernel_rfl
theorem c5:Tryd.prog.cellsOf 5=1:=by kernel_rfl
theorem aFX {H:Type} {enc:TypeId×Value→H} {W:World} {base:Nat} {spare:Nat→Bool} {held:Bool} {fuel:Nat} {t n:Nat} {cs:Array Value} {p:List MemPlace} {L:List Nat} (ht:Tryd.prog.underlying t=some (.array n 5)) (hn:L.length=n)
  (h:DataW.trod enc Tryd.prog W base spare held fuel t cs.toList=some (.agg (L.map fun n:Nat=>.lit (.int .u8 (n:Int))),p)) {i:Nat} {v:Value} (hv:(L.map fun n:Nat=>Value.int .u8 (n:Int))[i]?=some v):cs[i]?=some v:=by
 obtain ⟨xs,m,rfl,hx,_,hl,hel⟩:=DataW.trod_array ht h
 rw [List.getElem?_map] at hv
 obtain ⟨x,hx1,rfl⟩:=Option.map_eq_some_iff.1 hv
 have hi:i<L.length:=(List.getElem?_eq_some_iff.1 hx1).1
 have h1:=hel i (by omega)
 obtain ⟨y,hy⟩:∃ y,xs[i]?=some y:=⟨xs[i]'(by omega),List.getElem?_eq_getElem (by omega)⟩
 rw [hy] at h1
 obtain ⟨k,e1,e2,_⟩:=DataW.trod_int Tryd.underlying5 h1
 simp only [Prod.mk.injEq,DataW.agg.injEq] at hx
 have e3:(xs.map (·.1))[i]?=some (.lit (.int .u8 k)):=by rw [List.getElem?_map,hy,e2];rfl
 rw [← hx.1,List.getElem?_map,hx1] at e3
 have e4:(x:Int)=k:=by simpa using e3
 rw [c5,Nat.mul_one] at e1
 have e5:(cs.toList.drop i)[0]?=some (.int .u8 k):=by
  have:((cs.toList.drop i).take 1)[0]?=some (.int .u8 k):=by rw [e1];rfl
  rwa [List.getElem?_take_of_lt (by omega)] at this
 rw [List.getElem?_drop,Nat.add_zero] at e5
 rw [← Array.getElem?_toList,e5,e4]
theorem aCv {W:World} (h:laidMetH Tryd.prog aDL W):GB (aDW W).fz:=by
 rw [MakeChecks.laidMetH_plain _ _ _ (by kernel_rfl)] at h
 obtain ⟨ps,⟨g0,t0,cs0,f0,p0,q0,hg0,ht0,hv0,hd0,⟨g1,t1,cs1,f1,p1,q1,hg1,ht1,hv1,hd1,_,_⟩,_⟩,_,_⟩:=h
 obtain rfl:=Option.some.inj (g32.symm.trans hg0)
 obtain rfl:=Option.some.inj (g64.symm.trans hg1)
 obtain rfl:=Option.some.inj (t32.symm.trans ht0)
 obtain rfl:=Option.some.inj (t64.symm.trans ht1)
 intro g i v hv
 show W.cell? ⟨g,0+i,none⟩=some v
 rw [Nat.zero_add]
 match g with
 | 0=>
  rw [World.var?_cell hg0 hv0 i]
  exact aFX Tryd.underlying99 rfl hd0 hv
 | 1=>
  rw [World.var?_cell hg1 hv1 i]
  exact aFX Tryd.underlying100 rfl hd1 hv
 | _+2=>simp [aGF,aGd] at hv
def tdL:List (Nat×TD):=[
 (3,⟨.int .i64,1,[.int .i64 0],8⟩),
 (4,⟨.bool,1,[.bool false],1⟩),
 (5,⟨.int .u8,1,[.int .u8 0],1⟩),
 (22,⟨.slice 46,1,[.nils],24⟩),
 (25,⟨.struct [(3,0),(22,1)],2,[.int .i64 0,.nils],32⟩),
 (26,⟨.slice 3,1,[.nils],24⟩),
 (30,⟨.int .i64,1,[.int .i64 0],8⟩),
 (46,⟨.array 2 3,2,[.int .i64 0,.int .i64 0],16⟩),
 (50,⟨.slice 26,1,[.nils],24⟩),
 (53,⟨.array 8 3,8,[.int .i64 0,.int .i64 0,.int .i64 0,.int .i64 0,.int .i64 0,.int .i64 0,.int .i64 0,.int .i64 0],64⟩),
 (60,⟨.array 8 4,8,[.bool false,.bool false,.bool false,.bool false,.bool false,.bool false,.bool false,.bool false],8⟩),
 (61,⟨.array 8 60,64,[.bool false,.bool false,.bool false,.bool false,.bool false,.bool false,.bool false,.bool false,.bool false,.bool false,.bool false,.bool false,.bool false,.bool false,.bool false,.bool false,.bool false,.bool false,.bool false,.bool false,.bool false,.bool false,.bool false,.bool false,.bool false,.bool false,.bool false,.bool false,.bool false,.bool false,.bool false,.bool false,.bool false,.bool false,.bool false,.bool false,.bool false,.bool false,.bool false,.bool false,.bool false,.bool false,.bool false,.bool false,.bool false,.bool false,.bool false,.bool false,.bool false,.bool false,.bool false,.bool false,.bool false,.bool false,.bool false,.bool false,.bool false,.bool false,.bool false,.bool false,.bool false,.bool false,.bool false,.bool false],64⟩),
 (62,⟨.array 8 60,64,[.bool false,.bool false,.bool false,.bool false,.bool false,.bool false,.bool false,.bool false,.bool false,.bool false,.bool false,.bool false,.bool false,.bool false,.bool false,.bool false,.bool false,.bool false,.bool false,.bool false,.bool false,.bool false,.bool false,.bool false,.bool false,.bool false,.bool false,.bool false,.bool false,.bool false,.bool false,.bool false,.bool false,.bool false,.bool false,.bool false,.bool false,.bool false,.bool false,.bool false,.bool false,.bool false,.bool false,.bool false,.bool false,.bool false,.bool false,.bool false,.bool false,.bool false,.bool false,.bool false,.bool false,.bool false,.bool false,.bool false,.bool false,.bool false,.bool false,.bool false,.bool false,.bool false,.bool false,.bool false],64⟩),
 (65,⟨.array 8 3,8,[.int .i64 0,.int .i64 0,.int .i64 0,.int .i64 0,.int .i64 0,.int .i64 0,.int .i64 0,.int .i64 0],64⟩),
 (73,⟨.map .i64 3 (.int .i64 0),1,[.nilm],8⟩),
 (75,⟨.map .i64 26 (.nils),1,[.nilm],8⟩),
 (76,⟨.other,1,[.nilf],8⟩),
 (80,⟨.other,1,[.nilf],8⟩),
 (82,⟨.other,1,[.nilf],8⟩),
 (92,⟨.int .u64,1,[.int .u64 0],8⟩),
 (96,⟨.int .u32,1,[.int .u32 0],4⟩),
 (98,⟨.int .u64,1,[.int .u64 0],8⟩),
 (99,⟨.array 32 5,32,[.int .u8 0,.int .u8 0,.int .u8 0,.int .u8 0,.int .u8 0,.int .u8 0,.int .u8 0,.int .u8 0,.int .u8 0,.int .u8 0,.int .u8 0,.int .u8 0,.int .u8 0,.int .u8 0,.int .u8 0,.int .u8 0,.int .u8 0,.int .u8 0,.int .u8 0,.int .u8 0,.int .u8 0,.int .u8 0,.int .u8 0,.int .u8 0,.int .u8 0,.int .u8 0,.int .u8 0,.int .u8 0,.int .u8 0,.int .u8 0,.int .u8 0,.int .u8 0],32⟩),
 (100,⟨.array 64 5,64,[.int .u8 0,.int .u8 0,.int .u8 0,.int .u8 0,.int .u8 0,.int .u8 0,.int .u8 0,.int .u8 0,.int .u8 0,.int .u8 0,.int .u8 0,.int .u8 0,.int .u8 0,.int .u8 0,.int .u8 0,.int .u8 0,.int .u8 0,.int .u8 0,.int .u8 0,.int .u8 0,.int .u8 0,.int .u8 0,.int .u8 0,.int .u8 0,.int .u8 0,.int .u8 0,.int .u8 0,.int .u8 0,.int .u8 0,.int .u8 0,.int .u8 0,.int .u8 0,.int .u8 0,.int .u8 0,.int .u8 0,.int .u8 0,.int .u8 0,.int .u8 0,.int .u8 0,.int .u8 0,.int .u8 0,.int .u8 0,.int .u8 0,.int .u8 0,.int .u8 0,.int .u8 0,.int .u8 0,.int .u8 0,.int .u8 0,.int .u8 0,.int .u8 0,.int .u8 0,.int .u8 0,.int .u8 0,.int .u8 0,.int .u8 0,.int .u8 0,.int .u8 0,.int .u8 0,.int .u8 0,.int .u8 0,.int .u8 0,.int .u8 0,.int .u8 0],64⟩)]
def DC:DT:=aF3 tdL
theorem td3:rU Tryd.prog 3 ⟨.int .i64,1,[.int .i64 0],8⟩:=⟨by kernel_rfl,by kernel_rfl,by kernel_rfl,Tryd.underlying3⟩
theorem td4:rU Tryd.prog 4 ⟨.bool,1,[.bool false],1⟩:=⟨by kernel_rfl,by kernel_rfl,by kernel_rfl,Tryd.underlying4⟩
theorem td5:rU Tryd.prog 5 ⟨.int .u8,1,[.int .u8 0],1⟩:=⟨by kernel_rfl,by kernel_rfl,by kernel_rfl,Tryd.underlying5⟩
theorem aK4:rU Tryd.prog 22 ⟨.slice 46,1,[.nils],24⟩:=⟨by kernel_rfl,by kernel_rfl,by kernel_rfl,Tryd.underlying22⟩
theorem aLf:rU Tryd.prog 25 ⟨.struct [(3,0),(22,1)],2,[.int .i64 0,.nils],32⟩:=⟨by kernel_rfl,by kernel_rfl,by kernel_rfl,⟨_,Tryd.underlying25,rfl⟩⟩
theorem aLd:rU Tryd.prog 26 ⟨.slice 3,1,[.nils],24⟩:=⟨by kernel_rfl,by kernel_rfl,by kernel_rfl,Tryd.underlying26⟩
theorem aLe:rU Tryd.prog 30 ⟨.int .i64,1,[.int .i64 0],8⟩:=⟨by kernel_rfl,by kernel_rfl,by kernel_rfl,Tryd.underlying30⟩
theorem aLk:rU Tryd.prog 46 ⟨.array 2 3,2,[.int .i64 0,.int .i64 0],16⟩:=⟨by kernel_rfl,by kernel_rfl,by kernel_rfl,Tryd.underlying46⟩
theorem aLo:rU Tryd.prog 50 ⟨.slice 26,1,[.nils],24⟩:=⟨by kernel_rfl,by kernel_rfl,by kernel_rfl,Tryd.underlying50⟩
theorem aKZ:rU Tryd.prog 53 ⟨.array 8 3,8,[.int .i64 0,.int .i64 0,.int .i64 0,.int .i64 0,.int .i64 0,.int .i64 0,.int .i64 0,.int .i64 0],64⟩:=⟨by kernel_rfl,by kernel_rfl,by kernel_rfl,Tryd.underlying53⟩
theorem aLm:rU Tryd.prog 60 ⟨.array 8 4,8,[.bool false,.bool false,.bool false,.bool false,.bool false,.bool false,.bool false,.bool false],8⟩:=⟨by kernel_rfl,by kernel_rfl,by kernel_rfl,Tryd.underlying60⟩
theorem aLr:rU Tryd.prog 61 ⟨.array 8 60,64,[.bool false,.bool false,.bool false,.bool false,.bool false,.bool false,.bool false,.bool false,.bool false,.bool false,.bool false,.bool false,.bool false,.bool false,.bool false,.bool false,.bool false,.bool false,.bool false,.bool false,.bool false,.bool false,.bool false,.bool false,.bool false,.bool false,.bool false,.bool false,.bool false,.bool false,.bool false,.bool false,.bool false,.bool false,.bool false,.bool false,.bool false,.bool false,.bool false,.bool false,.bool false,.bool false,.bool false,.bool false,.bool false,.bool false,.bool false,.bool false,.bool false,.bool false,.bool false,.bool false,.bool false,.bool false,.bool false,.bool false,.bool false,.bool false,.bool false,.bool false,.bool false,.bool false,.bool false,.bool false],64⟩:=⟨by kernel_rfl,by kernel_rfl,by kernel_rfl,Tryd.underlying61⟩
theorem aLl:rU Tryd.prog 62 ⟨.array 8 60,64,[.bool false,.bool false,.bool false,.bool false,.bool false,.bool false,.bool false,.bool false,.bool false,.bool false,.bool false,.bool false,.bool false,.bool false,.bool false,.bool false,.bool false,.bool false,.bool false,.bool false,.bool false,.bool false,.bool false,.bool false,.bool false,.bool false,.bool false,.bool false,.bool false,.bool false,.bool false,.bool false,.bool false,.bool false,.bool false,.bool false,.bool false,.bool false,.bool false,.bool false,.bool false,.bool false,.bool false,.bool false,.bool false,.bool false,.bool false,.bool false,.bool false,.bool false,.bool false,.bool false,.bool false,.bool false,.bool false,.bool false,.bool false,.bool false,.bool false,.bool false,.bool false,.bool false,.bool false,.bool false],64⟩:=⟨by kernel_rfl,by kernel_rfl,by kernel_rfl,Tryd.underlying62⟩
theorem aLw:rU Tryd.prog 65 ⟨.array 8 3,8,[.int .i64 0,.int .i64 0,.int .i64 0,.int .i64 0,.int .i64 0,.int .i64 0,.int .i64 0,.int .i64 0],64⟩:=⟨by kernel_rfl,by kernel_rfl,by kernel_rfl,Tryd.underlying65⟩
theorem aLu:rU Tryd.prog 73 ⟨.map .i64 3 (.int .i64 0),1,[.nilm],8⟩:=⟨by kernel_rfl,by kernel_rfl,by kernel_rfl,⟨by kernel_rfl,by kernel_rfl⟩⟩
theorem aK0:rU Tryd.prog 75 ⟨.map .i64 26 (.nils),1,[.nilm],8⟩:=⟨by kernel_rfl,by kernel_rfl,by kernel_rfl,⟨by kernel_rfl,by kernel_rfl⟩⟩
theorem aK3:rU Tryd.prog 76 ⟨.other,1,[.nilf],8⟩:=⟨by kernel_rfl,by kernel_rfl,by kernel_rfl,(by show aBh _ _=some false;kernel_rfl)⟩
theorem aLt:rU Tryd.prog 80 ⟨.other,1,[.nilf],8⟩:=⟨by kernel_rfl,by kernel_rfl,by kernel_rfl,(by show aBh _ _=some false;kernel_rfl)⟩
theorem aKY:rU Tryd.prog 82 ⟨.other,1,[.nilf],8⟩:=⟨by kernel_rfl,by kernel_rfl,by kernel_rfl,(by show aBh _ _=some false;kernel_rfl)⟩
theorem aLh:rU Tryd.prog 92 ⟨.int .u64,1,[.int .u64 0],8⟩:=⟨by kernel_rfl,by kernel_rfl,by kernel_rfl,Tryd.underlying92⟩
theorem aK9:rU Tryd.prog 96 ⟨.int .u32,1,[.int .u32 0],4⟩:=⟨by kernel_rfl,by kernel_rfl,by kernel_rfl,Tryd.underlying96⟩
theorem aK6:rU Tryd.prog 98 ⟨.int .u64,1,[.int .u64 0],8⟩:=⟨by kernel_rfl,by kernel_rfl,by kernel_rfl,Tryd.underlying98⟩
theorem aLb:rU Tryd.prog 99 ⟨.array 32 5,32,[.int .u8 0,.int .u8 0,.int .u8 0,.int .u8 0,.int .u8 0,.int .u8 0,.int .u8 0,.int .u8 0,.int .u8 0,.int .u8 0,.int .u8 0,.int .u8 0,.int .u8 0,.int .u8 0,.int .u8 0,.int .u8 0,.int .u8 0,.int .u8 0,.int .u8 0,.int .u8 0,.int .u8 0,.int .u8 0,.int .u8 0,.int .u8 0,.int .u8 0,.int .u8 0,.int .u8 0,.int .u8 0,.int .u8 0,.int .u8 0,.int .u8 0,.int .u8 0],32⟩:=⟨by kernel_rfl,by kernel_rfl,by kernel_rfl,Tryd.underlying99⟩
theorem aJG:rU Tryd.prog 100 ⟨.array 64 5,64,[.int .u8 0,.int .u8 0,.int .u8 0,.int .u8 0,.int .u8 0,.int .u8 0,.int .u8 0,.int .u8 0,.int .u8 0,.int .u8 0,.int .u8 0,.int .u8 0,.int .u8 0,.int .u8 0,.int .u8 0,.int .u8 0,.int .u8 0,.int .u8 0,.int .u8 0,.int .u8 0,.int .u8 0,.int .u8 0,.int .u8 0,.int .u8 0,.int .u8 0,.int .u8 0,.int .u8 0,.int .u8 0,.int .u8 0,.int .u8 0,.int .u8 0,.int .u8 0,.int .u8 0,.int .u8 0,.int .u8 0,.int .u8 0,.int .u8 0,.int .u8 0,.int .u8 0,.int .u8 0,.int .u8 0,.int .u8 0,.int .u8 0,.int .u8 0,.int .u8 0,.int .u8 0,.int .u8 0,.int .u8 0,.int .u8 0,.int .u8 0,.int .u8 0,.int .u8 0,.int .u8 0,.int .u8 0,.int .u8 0,.int .u8 0,.int .u8 0,.int .u8 0,.int .u8 0,.int .u8 0,.int .u8 0,.int .u8 0,.int .u8 0,.int .u8 0],64⟩:=⟨by kernel_rfl,by kernel_rfl,by kernel_rfl,Tryd.underlying100⟩
theorem dCo:DOk Tryd.prog DC:=(dI td3 (dI td4 (dI td5 (dI aK4 (dI aLf (dI aLd (dI aLe (dI aLk (dI aLo (dI aKZ (dI aLm (dI aLr (dI aLl (dI aLw (dI aLu (dI aK0 (dI aK3 (dI aLt (dI aKY (dI aLh (dI aK9 (dI aK6 (dI aLb (dI aJG (aGy _)))))))))))))))))))))))))
theorem cV:Tryd.prog.follows .mixedOrders=true:=by kernel_rfl
def cB (x:Int×Int):AV:=.agg [eI x.1,eI x.2]
theorem aO (x:Int×Int):(cB x).loose:=(uO (lsC (lsI _ _) (lsC (lsI _ _) lsN)))
structure aP where
 N:Int
 Pairs:List (Int×Int)
instance:Inhabited aP:=⟨⟨default,default⟩⟩
def bS (x:aP):AV:=.agg [eI x.N,(eL 2 cB default) x.Pairs]
theorem cO (x:aP):(bS x).loose:=(uO (lsC (lsI _ _) (lsC (lsL fun _=>(aO _)) lsN)))
theorem aFk (x:Int):∀ b vs,Vs b [eI x] vs→vs=[Value.int .i64 x]:=fun b vs h=>by simpa [Vs,V,eI] using h
theorem aFD (b:bY) (x:Int):Vs b [eI x] [Value.int .i64 x]:=⟨_,_,rfl,by simp [V,eI],rfl⟩
def PF:FuncId→Bool:=fun f=>[4,5,6,7,8,9,10,11,12,13,18,19,20,21,22,23,24,25,26,27,28,29,30,31,32,33,34,35,36,37,54,56,57,58,61,62,63,64,68,69,70,79,82,83,85,86,87,100060].contains f
theorem aIi (x0:Int) (x1:Int) (y0:Int) (y1:Int):EqV Tryd.prog 46 (.agg [eI x0,eI x1]) (.agg [eI y0,eI y1]) ((x0==y0)&&(x1==y1)):=by
 intro β w u v ox oy hu hv
 simp only [V,Vs,eI,eB] at hu hv
 obtain ⟨_,rfl,_,_,rfl,rfl,_,_,rfl,rfl,rfl⟩:=hu
 obtain ⟨_,rfl,_,_,rfl,rfl,_,_,rfl,rfl,rfl⟩:=hv
 have u3:=Tryd.underlying3
 have a3:=Tryd.isAgg3
 have z3:=Tryd.sizeOf3
 have hm:Tryd.prog.eqGuardType Tryd.prog.depth 46=false:=by kernel_rfl
 have hi:∃ i,Tryd.prog.info? 3=some i:=⟨_,rfl⟩
 obtain ⟨i,hi⟩:=hi
 have hc:Tryd.prog.cellsOf 3=1:=by kernel_rfl
 have key:(Op.equalIn 10000 46 (.agg #[.int .i64 x0,.int .i64 x1]) (.agg #[.int .i64 y0,.int .i64 y1])).run Tryd.prog w=.ok ((x0==y0)&&(x1==y1)) w:=by
  rw [show (10000:Nat)=9999+1 from rfl,run_equalIn_array w 9999 _ _ Tryd.underlying46 hi,hc,show List.range 2=[0,1] from rfl]
  simp only [Op.eqItems]
  go_simp
  by_cases h0:x0=y0<;>by_cases h1:x1=y1<;>simp [h0,h1]
 constructor
 ·simp only [Sem.run_bind,run_eqGuard_agg w _ 46 _ _ _ _ hm,Result.andThen_ok,run_eql_struct,key]
 ·simp only [Sem.run_bind,run_eqGuard_agg w _ 46 _ _ _ _ hm,Result.andThen_ok,run_neq_struct,key]
def cE (a0:Int) (a1:Int):Option Int:=jn (fun p1:Int=>gd (a1≠0) (some (Int.tmod p1 a1))) fun k2=>cn (decide (a0<0)) (k2 (wr (0-(wr (a0+1))))) (k2 a0)
def iI:List AV→AV→Prop:=fun args r=>∃ a0 a1,args=[eI a0,eI a1]∧W (cE a0 a1) fun y=>r=(eI y)
theorem aAp {T:Tbl} (hT:TOk Tryd.prog T) (hpf:dD T PF):FOk Tryd.prog 13 (aU iI):=by
 refine bO hT hpf Tryd.func13 rfl Tryd.ntmps13 Tryd.results13 (by decide) ?_
 rintro args r ⟨a0,a1,rfl,h⟩
 refine ⟨nle rfl,?_,?_⟩
 ·exact (lsC (lsI _ _) (lsC (lsI _ _) lsN))
 rw [cE.eq_1] at h
 refine aD dCo rfl fun K hK=>?_;conv=>whnf
 refine hK _ _ _ ?_
 refine aN ?_
 refine aD dCo rfl fun K hK=>?_;conv=>whnf
 refine hK _ _ _ ?_
 replace h:=dF h
 refine bA fun K1 K2 hK1 hK2=>?_;conv=>whnf
 refine cLk h (fun _ h=>?_) (fun _ h=>?_)
 ·refine hK1 ?_
  refine cX dCo rfl fun K hK=>?_;conv=>whnf
  refine hK _ _ _ ?_
  refine tHn ?_
  refine aD dCo rfl fun K hK=>?_;conv=>whnf
  refine dG h fun _ h=>?_;conv=>whnf
  refine hK _ _ _ ?_
  refine aG ?_
  replace h:=aF h
  refine aC dCo fun K hK=>?_;conv=>whnf
  refine hK _ ?_
  cases h
  exact Wk.refl _
 refine hK2 ?_
 refine aL ?_
 refine tHn ?_
 refine aD dCo rfl fun K hK=>?_;conv=>whnf
 refine dG h fun _ h=>?_;conv=>whnf
 refine hK _ _ _ ?_
 refine aG ?_
 replace h:=aF h
 refine aC dCo fun K hK=>?_;conv=>whnf
 refine hK _ ?_
 cases h
 exact Wk.refl _
theorem aV {T:Tbl} (hT:T 13=aU iI) {args:List AV} {hp:bD} {id:Nat} {k:AV→Prop} {a0:Int} {a1:Int} {Φ:Int→Prop} (h:W (cE a0 a1) Φ) (hw:WkL args [eI a0,eI a1]) (hk:∀ y,Φ y→k (eI y)):dJ T 13 args hp id k:=by
 obtain ⟨y,e,hy⟩:=fE h
 exact bF hT ⟨a0,a1,rfl,kK e rfl⟩ (by exact (lsI _ _)) hw (hk y hy)
def fG (a0:Int) (a1:Int):Option Int:=jn (fun p1:Int=>gd (a1≠0) (some (Int.tmod p1 a1))) fun k2=>cn (decide (a0<0)) (k2 (wr (0-(wr (a0+1))))) (k2 a0)
def iH:List AV→AV→Prop:=fun args r=>∃ a0 a1,args=[eI a0,eI a1]∧W (fG a0 a1) fun y=>r=(eI y)
theorem xG {T:Tbl} (hT:TOk Tryd.prog T) (hpf:dD T PF):FOk Tryd.prog 37 (aU iH):=by
 refine bO hT hpf Tryd.func37 rfl Tryd.ntmps37 Tryd.results37 (by decide) ?_
 rintro args r ⟨a0,a1,rfl,h⟩
 refine ⟨nle rfl,?_,?_⟩
 ·exact (lsC (lsI _ _) (lsC (lsI _ _) lsN))
 rw [fG.eq_1] at h
 refine aD dCo rfl fun K hK=>?_;conv=>whnf
 refine hK _ _ _ ?_
 refine aN ?_
 refine aD dCo rfl fun K hK=>?_;conv=>whnf
 refine hK _ _ _ ?_
 replace h:=dF h
 refine bA fun K1 K2 hK1 hK2=>?_;conv=>whnf
 refine cLk h (fun _ h=>?_) (fun _ h=>?_)
 ·refine hK1 ?_
  refine cX dCo rfl fun K hK=>?_;conv=>whnf
  refine hK _ _ _ ?_
  refine tHn ?_
  refine aD dCo rfl fun K hK=>?_;conv=>whnf
  refine dG h fun _ h=>?_;conv=>whnf
  refine hK _ _ _ ?_
  refine aG ?_
  replace h:=aF h
  refine aC dCo fun K hK=>?_;conv=>whnf
  refine hK _ ?_
  cases h
  exact Wk.refl _
 refine hK2 ?_
 refine aL ?_
 refine tHn ?_
 refine aD dCo rfl fun K hK=>?_;conv=>whnf
 refine dG h fun _ h=>?_;conv=>whnf
 refine hK _ _ _ ?_
 refine aG ?_
 replace h:=aF h
 refine aC dCo fun K hK=>?_;conv=>whnf
 refine hK _ ?_
 cases h
 exact Wk.refl _
theorem iW {T:Tbl} (hT:T 37=aU iH) {args:List AV} {hp:bD} {id:Nat} {k:AV→Prop} {a0:Int} {a1:Int} {Φ:Int→Prop} (h:W (fG a0 a1) Φ) (hw:WkL args [eI a0,eI a1]) (hk:∀ y,Φ y→k (eI y)):dJ T 37 args hp id k:=by
 obtain ⟨y,e,hy⟩:=fE h
 exact bF hT ⟨a0,a1,rfl,kK e rfl⟩ (by exact (lsI _ _)) hw (hk y hy)
def nR (a0:List Int) (a1:List Int) (s1:Int):Option (Ct Int Bool):=cn (decide (s1<(a0.length:Int))) (ix a0 default s1 fun e2=>ix a1 default s1 fun e3=>
  cn (e2 != e3) (some (.rt false)) (some (.nx (wr (s1+1))))) (some (.bk s1))
def eR (a0:List Int) (a1:List Int):Option Bool:=cn ((a0.length:Int) != (a1.length:Int)) (some false) (bd (lp (nR a0 a1) FU 0) fun c4=>
  smK c4 (fun s5=>some true) (fun r6=>some r6))
def jY:List AV→AV→Prop:=fun args r=>∃ a0 a1,args=[(eL 1 eI default) a0,(eL 1 eI default) a1]∧W (eR a0 a1) fun y=>r=(eB y)
theorem xJ {T:Tbl} (hT:TOk Tryd.prog T) (hpf:dD T PF):FOk Tryd.prog 36 (aU jY):=by
 refine bO hT hpf Tryd.func36 rfl Tryd.ntmps36 Tryd.results36 (by decide) ?_
 rintro args r ⟨a0,a1,rfl,h⟩
 refine ⟨nle rfl,?_,?_⟩
 ·exact (lsC (lsL fun _=>(lsI _ _)) (lsC (lsL fun _=>(lsI _ _)) lsN))
 rw [eR.eq_1] at h
 refine aD dCo rfl fun K hK=>?_;conv=>whnf
 refine hK _ _ _ ?_
 refine aN ?_
 refine aD dCo rfl fun K hK=>?_;conv=>whnf
 refine hK _ _ _ ?_
 refine bA fun K1 K2 hK1 hK2=>?_;conv=>whnf
 refine cLk h (fun _ h=>?_) (fun _ h=>?_)
 ·refine hK1 ?_
  refine aD dCo rfl fun K hK=>?_;conv=>whnf
  refine hK _ _ _ ?_
  refine aG ?_
  refine aR ?_
  replace h:=aF h
  refine aC dCo fun K hK=>?_;conv=>whnf
  refine hK _ ?_
  cases h
  exact Wk.refl _
 refine hK2 ?_
 refine aL ?_
 refine tHn ?_
 refine aN ?_
 refine aD dCo rfl fun K hK=>?_;conv=>whnf
 refine hK _ _ _ ?_
 refine aQ ?_
 replace h:=aS h
 refine fP (body:=nR _ _) rfl h [0,1] [] [] (fun kl kh ids b s=>⟨ofL ([(5,eI s)]++kl),ofH ([]++kh),b+64⟩) ?_;(conv=>whnf);refine And.intro ?_ (fun s m h=>dO ?_)
 ·refine bI ?_;conv=>whnf
  exact And.intro rfl (And.intro (aLc wkI (aLc (wkr (lsL fun _=>(lsI _ _))) (aLc (wkr (lsL fun _=>(lsI _ _))) aLn))) aLn)
 replace h:=aS h;rw [nR.eq_1] at h
 refine aN ?_
 refine aD dCo rfl fun K hK=>?_;conv=>whnf
 refine hK _ _ _ ?_
 refine bA fun K1 K2 hK1 hK2=>?_;conv=>whnf
 refine cLk h (fun _ h=>?_) (fun _ h=>?_)
 ·refine hK1 ?_
  refine aL ?_
  refine tHn ?_
  refine aN ?_
  refine aQ ?_
  refine mQ dCo cV rfl (by kernel_rfl) fun K hK=>?_;conv=>whnf
  refine eQ h fun _ h=>?_;conv=>whnf
  refine gKo rfl ?_;conv=>whnf
  refine eQ h fun _ h=>?_;conv=>whnf
  refine gKo rfl ?_;conv=>whnf
  refine hK _ _ _ ?_
  refine bA fun K1 K2 hK1 hK2=>?_;conv=>whnf
  refine cLk h (fun _ h=>?_) (fun _ h=>?_)
  ·refine hK1 ?_
   refine aD dCo rfl fun K hK=>?_;conv=>whnf
   refine hK _ _ _ ?_
   refine aG ?_
   refine bB ?_
   refine aR ?_
   refine aR ?_
   refine bB ?_
   refine aR ?_
   replace h:=iJ h
   replace h:=iK h
   replace h:=aF h
   refine aC dCo fun K hK=>?_;conv=>whnf
   refine hK _ ?_
   cases h
   exact Wk.refl _
  refine hK2 ?_
  refine aL ?_
  refine iBn ?_
  refine tHn ?_
  refine cX dCo rfl fun K hK=>?_;conv=>whnf
  refine hK _ _ _ ?_
  refine tHn ?_
  replace h:=bX h
  refine ⟨_,h,?_⟩
  refine bI ?_;conv=>whnf
  exact And.intro rfl (And.intro (aLc wkI (aLc (wkr (lsL fun _=>(lsI _ _))) (aLc (wkr (lsL fun _=>(lsI _ _))) aLn))) aLn)
 refine hK2 ?_
 refine bK ?_
 refine aY ?_
 refine aY ?_
 refine aX ?_
 replace h:=dE h
 replace h:=dB h
 refine tHn ?_
 refine aD dCo rfl fun K hK=>?_;conv=>whnf
 refine hK _ _ _ ?_
 refine aG ?_
 replace h:=aF h
 refine aC dCo fun K hK=>?_;conv=>whnf
 refine hK _ ?_
 cases h
 exact Wk.refl _
theorem fB {T:Tbl} (hT:T 36=aU jY) {args:List AV} {hp:bD} {id:Nat} {k:AV→Prop} {a0:List Int} {a1:List Int} {Φ:Bool→Prop} (h:W (eR a0 a1) Φ) (hw:WkL args [(eL 1 eI default) a0,(eL 1 eI default) a1]) (hk:∀ y,Φ y→k (eB y)):dJ T 36 args hp id k:=by
 obtain ⟨y,e,hy⟩:=fE h
 exact bF hT ⟨a0,a1,rfl,kK e rfl⟩ (by exact (lsB _)) hw (hk y hy)
def nI (a0:aP) (a1:aP) (s3:Int):Option (Ct Int Bool):=cn (decide (s3<(a0.Pairs.length:Int))) (ix a0.Pairs default s3 fun e4=>
  ix a1.Pairs default s3 fun e5=>cn (!((e4.1==e5.1)&&(e4.2==e5.2))) (some (.rt false)) (some (.nx (wr (s3+1))))) (some (.bk s3))
def jV (a0:aP) (a1:aP):Option Bool:=jn (fun p1:Bool=>cn p1 (some false) (bd (lp (nI a0 a1) FU 0) fun c6=>smK c6 (fun s7=>
  some true) (fun r8=>some r8))) fun k2=>cn (a0.N != a1.N) (k2 true) (k2 ((a0.Pairs.length:Int) != (a1.Pairs.length:Int)))
def kA:List AV→AV→Prop:=fun args r=>∃ a0 a1,args=[bS a0,bS a1]∧W (jV a0 a1) fun y=>r=(eB y)
theorem zS {T:Tbl} (hT:TOk Tryd.prog T) (hpf:dD T PF):FOk Tryd.prog 26 (aU kA):=by
 refine bO hT hpf Tryd.func26 rfl Tryd.ntmps26 Tryd.results26 (by decide) ?_
 rintro args r ⟨a0,a1,rfl,h⟩
 refine ⟨nle rfl,?_,?_⟩
 ·exact (lsC (cO _) (lsC (cO _) lsN))
 rw [jV.eq_1] at h
 refine aD dCo rfl fun K hK=>?_;conv=>whnf
 refine hK _ _ _ ?_
 refine aN ?_
 refine aD dCo rfl fun K hK=>?_;conv=>whnf
 replace h:=dF h
 refine nlA rfl ?_;conv=>whnf
 refine bKo rfl ?_;conv=>whnf
 refine gKo rfl ?_;conv=>whnf
 refine nlA rfl ?_;conv=>whnf
 refine bKo rfl ?_;conv=>whnf
 refine gKo rfl ?_;conv=>whnf
 refine cLk h (fun _ h=>?_) (fun _ h=>?_)<;>(conv=>whnf)
 ·refine hK _ _ _ ?_
  refine bA fun K1 K2 hK1 hK2=>?_;conv=>whnf
  refine hK1 ?_
  replace h:=mN h
  refine aD dCo rfl fun K hK=>?_;conv=>whnf
  refine hK _ _ _ ?_
  refine aG ?_
  refine aR ?_
  replace h:=aF h
  refine aC dCo fun K hK=>?_;conv=>whnf
  refine hK _ ?_
  cases h
  exact Wk.refl _
 refine nlA rfl ?_;conv=>whnf
 refine bKo rfl ?_;conv=>whnf
 refine gKo rfl ?_;conv=>whnf
 refine nlA rfl ?_;conv=>whnf
 refine bKo rfl ?_;conv=>whnf
 refine gKo rfl ?_;conv=>whnf
 refine hK _ _ _ ?_
 refine bA fun K1 K2 hK1 hK2=>?_;conv=>whnf
 refine cLk h (fun _ h=>?_) (fun _ h=>?_)
 ·refine hK1 ?_
  refine aD dCo rfl fun K hK=>?_;conv=>whnf
  refine hK _ _ _ ?_
  refine aG ?_
  refine aR ?_
  replace h:=aF h
  refine aC dCo fun K hK=>?_;conv=>whnf
  refine hK _ ?_
  cases h
  exact Wk.refl _
 refine hK2 ?_
 refine aL ?_
 refine tHn ?_
 refine aN ?_
 refine aD dCo rfl fun K hK=>?_;conv=>whnf
 refine hK _ _ _ ?_
 refine aQ ?_
 replace h:=aS h
 refine fP (body:=nI _ _) rfl h [2,3] [2,3] [] (fun kl kh ids b s=>⟨ofL ([(5,eI s)]++kl),ofH ([]++kh),b+64⟩) ?_;(conv=>whnf);refine And.intro ?_ (fun s m h=>dO ?_)
 ·refine bI ?_;conv=>whnf
  exact And.intro rfl (And.intro (aLc wkI (aLc (WkR.ptr (fun _=>rfl)) (aLc (WkR.ptr (fun _=>rfl)) aLn))) (aLc ⟨some _,rfl,bRc rfl (cKc wkI (cKc (wkr (lsL fun _=>(aO _))) cKn))⟩ (aLc ⟨some _,rfl,bRc rfl (cKc wkI (cKc (wkr (lsL fun _=>(aO _))) cKn))⟩ aLn)))
 replace h:=aS h;rw [nI.eq_1] at h
 refine aN ?_
 refine aD dCo rfl fun K hK=>?_;conv=>whnf
 refine nlA rfl ?_;conv=>whnf
 refine bKo rfl ?_;conv=>whnf
 refine gKo rfl ?_;conv=>whnf
 refine hK _ _ _ ?_
 refine bA fun K1 K2 hK1 hK2=>?_;conv=>whnf
 refine cLk h (fun _ h=>?_) (fun _ h=>?_)
 ·refine hK1 ?_
  refine aL ?_
  refine tHn ?_
  refine aN ?_
  refine aQ ?_
  refine mQ dCo cV rfl (by kernel_rfl) fun K hK=>?_;conv=>whnf
  refine nlA rfl ?_;conv=>whnf
  refine bKo rfl ?_;conv=>whnf
  refine gKo rfl ?_;conv=>whnf
  refine eQ h fun _ h=>?_;conv=>whnf
  refine nlA rfl ?_;conv=>whnf
  refine nlA rfl ?_;conv=>whnf
  refine bKo rfl ?_;conv=>whnf
  refine gKo rfl ?_;conv=>whnf
  refine eQ h fun _ h=>?_;conv=>whnf
  refine nlA rfl ?_;conv=>whnf
  refine aJT (aIi _ _ _ _) ?_;conv=>whnf
  refine hK _ _ _ ?_
  refine bA fun K1 K2 hK1 hK2=>?_;conv=>whnf
  refine cLk h (fun _ h=>?_) (fun _ h=>?_)
  ·refine hK1 ?_
   refine aD dCo rfl fun K hK=>?_;conv=>whnf
   refine hK _ _ _ ?_
   refine aG ?_
   refine bB ?_
   refine aR ?_
   refine aR ?_
   refine bB ?_
   refine aR ?_
   replace h:=iJ h
   replace h:=iK h
   replace h:=aF h
   refine aC dCo fun K hK=>?_;conv=>whnf
   refine hK _ ?_
   cases h
   exact Wk.refl _
  refine hK2 ?_
  refine aL ?_
  refine iBn ?_
  refine tHn ?_
  refine cX dCo rfl fun K hK=>?_;conv=>whnf
  refine hK _ _ _ ?_
  refine tHn ?_
  replace h:=bX h
  refine ⟨_,h,?_⟩
  refine bI ?_;conv=>whnf
  exact And.intro rfl (And.intro (aLc wkI (aLc (WkR.ptr (fun _=>rfl)) (aLc (WkR.ptr (fun _=>rfl)) aLn))) (aLc ⟨some _,rfl,bRc rfl (cKc wkI (cKc (wkr (lsL fun _=>(aO _))) cKn))⟩ (aLc ⟨some _,rfl,bRc rfl (cKc wkI (cKc (wkr (lsL fun _=>(aO _))) cKn))⟩ aLn)))
 refine hK2 ?_
 refine bK ?_
 refine aY ?_
 refine aY ?_
 refine aX ?_
 replace h:=dE h
 replace h:=dB h
 refine tHn ?_
 refine aD dCo rfl fun K hK=>?_;conv=>whnf
 refine hK _ _ _ ?_
 refine aG ?_
 replace h:=aF h
 refine aC dCo fun K hK=>?_;conv=>whnf
 refine hK _ ?_
 cases h
 exact Wk.refl _
theorem oP {T:Tbl} (hT:T 26=aU kA) {args:List AV} {hp:bD} {id:Nat} {k:AV→Prop} {a0:aP} {a1:aP} {Φ:Bool→Prop} (h:W (jV a0 a1) Φ) (hw:WkL args [bS a0,bS a1]) (hk:∀ y,Φ y→k (eB y)):dJ T 26 args hp id k:=by
 obtain ⟨y,e,hy⟩:=fE h
 exact bF hT ⟨a0,a1,rfl,kK e rfl⟩ (by exact (lsB _)) hw (hk y hy)
def qH (a0:List Int) (a1:Int) (s1:Int):Option (Ct Int Bool):=cn (decide (s1<(a0.length:Int))) (ix a0 default s1 fun e2=>cn (e2 ==
  a1) (some (.rt true)) (some (.nx (wr (s1+1))))) (some (.bk s1))
def mO (a0:List Int) (a1:Int):Option Bool:=bd (lp (qH a0 a1) FU 0) fun c3=>smK c3 (fun s4=>some false) (fun r5=>some r5)
def nA:List AV→AV→Prop:=fun args r=>∃ a0 a1,args=[(eL 1 eI default) a0,eI a1]∧W (mO a0 a1) fun y=>r=(eB y)
theorem aBm {T:Tbl} (hT:TOk Tryd.prog T) (hpf:dD T PF):FOk Tryd.prog 23 (aU nA):=by
 refine bO hT hpf Tryd.func23 rfl Tryd.ntmps23 Tryd.results23 (by decide) ?_
 rintro args r ⟨a0,a1,rfl,h⟩
 refine ⟨nle rfl,?_,?_⟩
 ·exact (lsC (lsL fun _=>(lsI _ _)) (lsC (lsI _ _) lsN))
 rw [mO.eq_1] at h
 refine aD dCo rfl fun K hK=>?_;conv=>whnf
 refine hK _ _ _ ?_
 refine aN ?_
 refine aD dCo rfl fun K hK=>?_;conv=>whnf
 refine hK _ _ _ ?_
 refine aQ ?_
 replace h:=aS h
 refine fP (body:=qH _ _) rfl h [0,1] [] [] (fun kl kh ids b s=>⟨ofL ([(5,eI s)]++kl),ofH ([]++kh),b+64⟩) ?_;(conv=>whnf);refine And.intro ?_ (fun s m h=>dO ?_)
 ·refine bI ?_;conv=>whnf
  exact And.intro rfl (And.intro (aLc wkI (aLc (wkr (lsL fun _=>(lsI _ _))) (aLc wkI aLn))) aLn)
 replace h:=aS h;rw [qH.eq_1] at h
 refine aN ?_
 refine aD dCo rfl fun K hK=>?_;conv=>whnf
 refine hK _ _ _ ?_
 refine bA fun K1 K2 hK1 hK2=>?_;conv=>whnf
 refine cLk h (fun _ h=>?_) (fun _ h=>?_)
 ·refine hK1 ?_
  refine aL ?_
  refine tHn ?_
  refine aN ?_
  refine aQ ?_
  refine aD dCo rfl fun K hK=>?_;conv=>whnf
  refine eQ h fun _ h=>?_;conv=>whnf
  refine gKo rfl ?_;conv=>whnf
  refine hK _ _ _ ?_
  refine bA fun K1 K2 hK1 hK2=>?_;conv=>whnf
  refine cLk h (fun _ h=>?_) (fun _ h=>?_)
  ·refine hK1 ?_
   refine aD dCo rfl fun K hK=>?_;conv=>whnf
   refine hK _ _ _ ?_
   refine aG ?_
   refine bB ?_
   refine aR ?_
   refine aR ?_
   refine bB ?_
   refine aR ?_
   replace h:=iJ h
   replace h:=iK h
   replace h:=aF h
   refine aC dCo fun K hK=>?_;conv=>whnf
   refine hK _ ?_
   cases h
   exact Wk.refl _
  refine hK2 ?_
  refine aL ?_
  refine iBn ?_
  refine tHn ?_
  refine cX dCo rfl fun K hK=>?_;conv=>whnf
  refine hK _ _ _ ?_
  refine tHn ?_
  replace h:=bX h
  refine ⟨_,h,?_⟩
  refine bI ?_;conv=>whnf
  exact And.intro rfl (And.intro (aLc wkI (aLc (wkr (lsL fun _=>(lsI _ _))) (aLc wkI aLn))) aLn)
 refine hK2 ?_
 refine bK ?_
 refine aY ?_
 refine aY ?_
 refine aX ?_
 replace h:=dE h
 replace h:=dB h
 refine tHn ?_
 refine aD dCo rfl fun K hK=>?_;conv=>whnf
 refine hK _ _ _ ?_
 refine aG ?_
 replace h:=aF h
 refine aC dCo fun K hK=>?_;conv=>whnf
 refine hK _ ?_
 cases h
 exact Wk.refl _
theorem rR {T:Tbl} (hT:T 23=aU nA) {args:List AV} {hp:bD} {id:Nat} {k:AV→Prop} {a0:List Int} {a1:Int} {Φ:Bool→Prop} (h:W (mO a0 a1) Φ) (hw:WkL args [(eL 1 eI default) a0,eI a1]) (hk:∀ y,Φ y→k (eB y)):dJ T 23 args hp id k:=by
 obtain ⟨y,e,hy⟩:=fE h
 exact bF hT ⟨a0,a1,rfl,kK e rfl⟩ (by exact (lsB _)) hw (hk y hy)
def dU (a0:aP) (a1:Int) (a2:Int) (s1:Int):Option (Ct Int Bool):=cn (decide (s1<(a0.Pairs.length:Int))) (ix a0.Pairs default s1 fun e2=>
  cn ((e2.1==a1)&&(e2.2==a2)) (some (.rt true)) (some (.nx (wr (s1+1))))) (some (.bk s1))
def fU (a0:aP) (a1:Int) (a2:Int):Option Bool:=bd (lp (dU a0 a1 a2) FU 0) fun c3=>smK c3 (fun s4=>some false) (fun r5=>some r5)
def gX:List AV→AV→Prop:=fun args r=>∃ a0 a1 a2,args=[bS a0,eI a1,eI a2]∧W (fU a0 a1 a2) fun y=>r=(eB y)
theorem tZ {T:Tbl} (hT:TOk Tryd.prog T) (hpf:dD T PF):FOk Tryd.prog 70 (aU gX):=by
 refine bO hT hpf Tryd.func70 rfl Tryd.ntmps70 Tryd.results70 (by decide) ?_
 rintro args r ⟨a0,a1,a2,rfl,h⟩
 refine ⟨nle rfl,?_,?_⟩
 ·exact (lsC (cO _) (lsC (lsI _ _) (lsC (lsI _ _) lsN)))
 rw [fU.eq_1] at h
 refine aD dCo rfl fun K hK=>?_;conv=>whnf
 refine hK _ _ _ ?_
 refine aN ?_
 refine aD dCo rfl fun K hK=>?_;conv=>whnf
 refine hK _ _ _ ?_
 refine aQ ?_
 replace h:=aS h
 refine fP (body:=dU _ _ _) rfl h [1,2,3] [3] [] (fun kl kh ids b s=>⟨ofL ([(7,eI s)]++kl),ofH ([]++kh),b+64⟩) ?_;(conv=>whnf);refine And.intro ?_ (fun s m h=>dO ?_)
 ·refine bI ?_;conv=>whnf
  exact And.intro rfl (And.intro (aLc wkI (aLc wkI (aLc wkI (aLc (WkR.ptr (fun _=>rfl)) aLn)))) (aLc ⟨some _,rfl,bRc rfl (cKc wkI (cKc (wkr (lsL fun _=>(aO _))) cKn))⟩ aLn))
 replace h:=aS h;rw [dU.eq_1] at h
 refine aN ?_
 refine aD dCo rfl fun K hK=>?_;conv=>whnf
 refine nlA rfl ?_;conv=>whnf
 refine bKo rfl ?_;conv=>whnf
 refine gKo rfl ?_;conv=>whnf
 refine hK _ _ _ ?_
 refine bA fun K1 K2 hK1 hK2=>?_;conv=>whnf
 refine cLk h (fun _ h=>?_) (fun _ h=>?_)
 ·refine hK1 ?_
  refine aL ?_
  refine tHn ?_
  refine aN ?_
  refine aQ ?_
  refine aD dCo rfl fun K hK=>?_;conv=>whnf
  refine nlA rfl ?_;conv=>whnf
  refine bKo rfl ?_;conv=>whnf
  refine gKo rfl ?_;conv=>whnf
  refine eQ h fun _ h=>?_;conv=>whnf
  refine nlA rfl ?_;conv=>whnf
  refine aHF (aIi _ _ _ _) ?_;conv=>whnf
  refine hK _ _ _ ?_
  refine bA fun K1 K2 hK1 hK2=>?_;conv=>whnf
  refine cLk h (fun _ h=>?_) (fun _ h=>?_)
  ·refine hK1 ?_
   refine aD dCo rfl fun K hK=>?_;conv=>whnf
   refine hK _ _ _ ?_
   refine aG ?_
   refine bB ?_
   refine aR ?_
   refine aR ?_
   refine bB ?_
   refine aR ?_
   replace h:=iJ h
   replace h:=iK h
   replace h:=aF h
   refine aC dCo fun K hK=>?_;conv=>whnf
   refine hK _ ?_
   cases h
   exact Wk.refl _
  refine hK2 ?_
  refine aL ?_
  refine iBn ?_
  refine tHn ?_
  refine cX dCo rfl fun K hK=>?_;conv=>whnf
  refine hK _ _ _ ?_
  refine tHn ?_
  replace h:=bX h
  refine ⟨_,h,?_⟩
  refine bI ?_;conv=>whnf
  exact And.intro rfl (And.intro (aLc wkI (aLc wkI (aLc wkI (aLc (WkR.ptr (fun _=>rfl)) aLn)))) (aLc ⟨some _,rfl,bRc rfl (cKc wkI (cKc (wkr (lsL fun _=>(aO _))) cKn))⟩ aLn))
 refine hK2 ?_
 refine bK ?_
 refine aY ?_
 refine aY ?_
 refine aX ?_
 replace h:=dE h
 replace h:=dB h
 refine tHn ?_
 refine aD dCo rfl fun K hK=>?_;conv=>whnf
 refine hK _ _ _ ?_
 refine aG ?_
 replace h:=aF h
 refine aC dCo fun K hK=>?_;conv=>whnf
 refine hK _ ?_
 cases h
 exact Wk.refl _
theorem sM {T:Tbl} (hT:T 70=aU gX) {args:List AV} {hp:bD} {id:Nat} {k:AV→Prop} {a0:aP} {a1:Int} {a2:Int} {Φ:Bool→Prop} (h:W (fU a0 a1 a2) Φ) (hw:WkL args [bS a0,eI a1,eI a2]) (hk:∀ y,Φ y→k (eB y)):dJ T 70 args hp id k:=by
 obtain ⟨y,e,hy⟩:=fE h
 exact bF hT ⟨a0,a1,a2,rfl,kK e rfl⟩ (by exact (lsB _)) hw (hk y hy)
def gD (a0:Int):Option Bool:=some (a0 != a0)
def gF:List AV→AV→Prop:=fun args r=>∃ a0,args=[eI a0]∧W (gD a0) fun y=>r=(eB y)
theorem tD {T:Tbl} (hT:TOk Tryd.prog T) (hpf:dD T PF):FOk Tryd.prog 83 (aU gF):=by
 refine bO hT hpf Tryd.func83 rfl Tryd.ntmps83 Tryd.results83 (by decide) ?_
 rintro args r ⟨a0,rfl,h⟩
 refine ⟨nle rfl,?_,?_⟩
 ·exact (lsC (lsI _ _) lsN)
 rw [gD.eq_1] at h
 refine aD dCo rfl fun K hK=>?_;conv=>whnf
 refine hK _ _ _ ?_
 refine aD dCo rfl fun K hK=>?_;conv=>whnf
 refine hK _ _ _ ?_
 refine aG ?_
 replace h:=aF h
 refine aC dCo fun K hK=>?_;conv=>whnf
 refine hK _ ?_
 cases h
 exact Wk.refl _
theorem mA {T:Tbl} (hT:T 83=aU gF) {args:List AV} {hp:bD} {id:Nat} {k:AV→Prop} {a0:Int} {Φ:Bool→Prop} (h:W (gD a0) Φ) (hw:WkL args [eI a0]) (hk:∀ y,Φ y→k (eB y)):dJ T 83 args hp id k:=by
 obtain ⟨y,e,hy⟩:=fE h
 exact bF hT ⟨a0,rfl,kK e rfl⟩ (by exact (lsB _)) hw (hk y hy)
def eK (a0:Int×Int) (c900:aP):Option Bool:=jn (fun p1:Bool=>some p1) fun k2=>
  cn (decide ((aJs a0.1 a0.2)<0)) (k2 true) (cn (decide ((aH0 a0.1 a0.2)≥c900.N)) (k2 true) (k2 (a0.1==a0.2)))
def eM:List AV→AV→Prop:=fun args r=>∃ a0 c900,args=[cB a0,.ep [eI c900.N,(eL 2 cB default) c900.Pairs] 0]∧W (eK a0 c900) fun y=>r=(eB y)
theorem sD {T:Tbl} (hT:TOk Tryd.prog T) (hpf:dD T PF):FOk Tryd.prog 69 (aU eM):=by
 refine bO hT hpf Tryd.func69 rfl Tryd.ntmps69 Tryd.results69 (by decide) ?_
 rintro args r ⟨a0,c900,rfl,h⟩
 refine ⟨nle rfl,?_,?_⟩
 ·exact (lsC (aO _) (lsC (lsE (lsC (lsI _ _) (lsC (lsL fun _=>(aO _)) lsN))) lsN))
 rw [eK.eq_1] at h
 refine aD dCo rfl fun K hK=>?_;conv=>whnf
 refine hK _ _ _ ?_
 refine aD dCo rfl fun K hK=>?_;conv=>whnf
 replace h:=dF h
 refine And.intro (by decide) ?_;conv=>whnf
 refine nlA rfl ?_;conv=>whnf
 refine bKo rfl ?_;conv=>whnf
 refine gKo rfl ?_;conv=>whnf
 refine And.intro (by decide) ?_;conv=>whnf
 refine nlA rfl ?_;conv=>whnf
 refine bKo rfl ?_;conv=>whnf
 refine gKo rfl ?_;conv=>whnf
 refine cLk h (fun _ h=>?_) (fun _ h=>?_)<;>(conv=>whnf)
 ·refine hK _ _ _ ?_
  refine aG ?_
  replace h:=aF h
  refine aC dCo fun K hK=>?_;conv=>whnf
  refine hK _ ?_
  cases h
  exact Wk.refl _
 refine And.intro (by decide) ?_;conv=>whnf
 refine nlA rfl ?_;conv=>whnf
 refine bKo rfl ?_;conv=>whnf
 refine gKo rfl ?_;conv=>whnf
 refine And.intro (by decide) ?_;conv=>whnf
 refine nlA rfl ?_;conv=>whnf
 refine bKo rfl ?_;conv=>whnf
 refine gKo rfl ?_;conv=>whnf
 refine gKo rfl ?_;conv=>whnf
 refine cLk h (fun _ h=>?_) (fun _ h=>?_)<;>(conv=>whnf)
 ·refine hK _ _ _ ?_
  refine aG ?_
  replace h:=aF h
  refine aC dCo fun K hK=>?_;conv=>whnf
  refine hK _ ?_
  cases h
  exact Wk.refl _
 refine And.intro (by decide) ?_;conv=>whnf
 refine nlA rfl ?_;conv=>whnf
 refine bKo rfl ?_;conv=>whnf
 refine gKo rfl ?_;conv=>whnf
 refine And.intro (by decide) ?_;conv=>whnf
 refine nlA rfl ?_;conv=>whnf
 refine bKo rfl ?_;conv=>whnf
 refine gKo rfl ?_;conv=>whnf
 refine hK _ _ _ ?_
 refine aG ?_
 replace h:=aF h
 refine aC dCo fun K hK=>?_;conv=>whnf
 refine hK _ ?_
 cases h
 exact Wk.refl _
theorem pQ {T:Tbl} (hT:T 69=aU eM) {args:List AV} {hp:bD} {id:Nat} {k:AV→bD→Prop} {a0:Int×Int} {c900:aP} {Φ:Bool→Prop} (h:W (eK a0 c900) Φ) (hw:WkL args [cB a0,.ep [eI c900.N,(eL 2 cB default) c900.Pairs] 0]) (hk:∀ y,Φ y→k (eB y) hp):pY T 69 args hp id k:=by
 obtain ⟨y,e,hy⟩:=fE h
 exact aBL hT ⟨a0,c900,rfl,kK e rfl⟩ (by exact (lsB _)) hw (hk y hy)
def oG (a0:List Int) (s1:Int):Option (Ct Int Int):=cn (decide (s1<(a0.length:Int))) (ix a0 default s1 fun e2=>cn (e2 !=
  0) (some (.rt e2)) (some (.nx (wr (s1+1))))) (some (.bk s1))
def mB (a0:List Int):Option Int:=bd (lp (oG a0) FU 0) fun c3=>smK c3 (fun s4=>some 0) (fun r5=>some r5)
def jX:List AV→AV→Prop:=fun args r=>∃ a0,args=[(eL 1 eI default) a0]∧W (mB a0) fun y=>r=(eI y)
theorem aAg {T:Tbl} (hT:TOk Tryd.prog T) (hpf:dD T PF):FOk Tryd.prog 62 (aU jX):=by
 refine bO hT hpf Tryd.func62 rfl Tryd.ntmps62 Tryd.results62 (by decide) ?_
 rintro args r ⟨a0,rfl,h⟩
 refine ⟨nle rfl,?_,?_⟩
 ·exact (lsC (lsL fun _=>(lsI _ _)) lsN)
 rw [mB.eq_1] at h
 refine aD dCo rfl fun K hK=>?_;conv=>whnf
 refine hK _ _ _ ?_
 refine aD dCo rfl fun K hK=>?_;conv=>whnf
 refine hK _ _ _ ?_
 refine aN ?_
 refine aD dCo rfl fun K hK=>?_;conv=>whnf
 refine hK _ _ _ ?_
 refine aQ ?_
 replace h:=aS h
 refine fP (body:=oG _) rfl h [3,6,7] [] [] (fun kl kh ids b s=>⟨ofL ([(8,eI s)]++kl),ofH ([]++kh),b+64⟩) ?_;(conv=>whnf);refine And.intro ?_ (fun s m h=>dO ?_)
 ·refine bI ?_;conv=>whnf
  exact And.intro rfl (And.intro (aLc wkI (aLc wkI (aLc (wkr (lsL fun _=>(lsI _ _))) (aLc wkI aLn)))) aLn)
 replace h:=aS h;rw [oG.eq_1] at h
 refine aD dCo rfl fun K hK=>?_;conv=>whnf
 refine hK _ _ _ ?_
 refine aN ?_
 refine bA fun K1 K2 hK1 hK2=>?_;conv=>whnf
 refine cLk h (fun _ h=>?_) (fun _ h=>?_)
 ·refine hK1 ?_
  refine aL ?_
  refine tHn ?_
  refine aN ?_
  refine aQ ?_
  refine aD dCo rfl fun K hK=>?_;conv=>whnf
  refine eQ h fun _ h=>?_;conv=>whnf
  refine gKo rfl ?_;conv=>whnf
  refine hK _ _ _ ?_
  refine aD dCo rfl fun K hK=>?_;conv=>whnf
  refine hK _ _ _ ?_
  refine bA fun K1 K2 hK1 hK2=>?_;conv=>whnf
  refine cLk h (fun _ h=>?_) (fun _ h=>?_)
  ·refine hK1 ?_
   refine aD dCo rfl fun K hK=>?_;conv=>whnf
   refine hK _ _ _ ?_
   refine aG ?_
   refine bB ?_
   refine aR ?_
   refine aR ?_
   refine bB ?_
   refine aR ?_
   replace h:=iJ h
   replace h:=iK h
   replace h:=aF h
   refine aC dCo fun K hK=>?_;conv=>whnf
   refine hK _ ?_
   cases h
   exact Wk.refl _
  refine hK2 ?_
  refine aL ?_
  refine iBn ?_
  refine tHn ?_
  refine cX dCo rfl fun K hK=>?_;conv=>whnf
  refine hK _ _ _ ?_
  refine tHn ?_
  replace h:=bX h
  refine ⟨_,h,?_⟩
  refine bI ?_;conv=>whnf
  exact And.intro rfl (And.intro (aLc wkI (aLc wkI (aLc (wkr (lsL fun _=>(lsI _ _))) (aLc wkI aLn)))) aLn)
 refine hK2 ?_
 refine bK ?_
 refine aY ?_
 refine aY ?_
 refine aX ?_
 replace h:=dE h
 replace h:=dB h
 refine tHn ?_
 refine aD dCo rfl fun K hK=>?_;conv=>whnf
 refine hK _ _ _ ?_
 refine aG ?_
 replace h:=aF h
 refine aC dCo fun K hK=>?_;conv=>whnf
 refine hK _ ?_
 cases h
 exact Wk.refl _
theorem vC {T:Tbl} (hT:T 62=aU jX) {args:List AV} {hp:bD} {id:Nat} {k:AV→Prop} {a0:List Int} {Φ:Int→Prop} (h:W (mB a0) Φ) (hw:WkL args [(eL 1 eI default) a0]) (hk:∀ y,Φ y→k (eI y)):dJ T 62 args hp id k:=by
 obtain ⟨y,e,hy⟩:=fE h
 exact bF hT ⟨a0,rfl,kK e rfl⟩ (by exact (lsI _ _)) hw (hk y hy)
  def fY (a0:aP) (s16:Int×(Ar 8)) (s18:Int×(Ar 8)):Option (Ct (Int×(Ar 8)) ((Ar 8)×Bool)):=cn (decide (s18.1<a0.N)) (gd (0≤s18.1∧s18.1<(8:Int)) (gd (0≤s18.1) (cn ((tK .i64 (vP .i64 (s16.2.at1 s18.1) s18.1) 1) ==
  1) (some (.rt (s16.2,false))) (some (.nx ((wr (s18.1+1)),s18.2)))))) (some (.bk (s18.1,s18.2)))
  def fA (a0:aP) (s7:Int×(Ar 8)) (s8:Int×(Ar 8)):Option (Ct (Int×(Ar 8)) ((Ar 8)×Bool)):=cn (decide (s8.1<a0.N)) (gd (0≤s8.1∧s8.1<(8:Int)) (gd (0≤s7.1) (jn (fun p9:(Ar 8)=>
  some (.nx ((wr (s8.1+1)),p9))) fun k10=>cn ((tK .i64 (vP .i64 (s8.2.at1 s8.1) s7.1) 1) ==
  1) (gd (0≤s8.1∧s8.1<(8:Int)) (gd (0≤s7.1∧s7.1<(8:Int)) (gd (0≤s8.1∧s8.1<(8:Int)) (let m11:=s8.2.st1 s8.1 (bor .i64 (s8.2.at1 s8.1) (s8.2.at1 s7.1));
  k10 m11)))) (k10 s8.2)))) (some (.bk (s8.1,s8.2)))
  def fC (a0:aP) (s7:Int×(Ar 8)):Option (Ct (Int×(Ar 8)) ((Ar 8)×Bool)):=cn (decide (s7.1<a0.N)) (bd (lp (fA a0 s7) FU (0,s7.2)) fun c12=>
  smK c12 (fun s13=>some (.nx ((wr (s7.1+1)),s13.2))) (fun r14=>some (.rt r14))) (some (.bk (s7.1,s7.2)))
  def eX (a0:aP) (s1:Int×(Ar 8)):Option (Ct (Int×(Ar 8)) ((Ar 8)×Bool)):=cn (decide (s1.1<(a0.Pairs.length:Int))) (ix a0.Pairs default s1.1 fun e2=>
  gd (0≤e2.2∧e2.2<(8:Int)) (gd (0≤e2.1) (gd (0≤e2.2∧e2.2<(8:Int)) (let m3:=s1.2.st1 e2.2 (bor .i64 (s1.2.at1 e2.2) (aD5 .i64 1 e2.1));
  some (.nx ((wr (s1.1+1)),m3)))))) (some (.bk (s1.1,s1.2)))
def fT (a0:aP):Option ((Ar 8)×Bool):=bd (lp (eX a0) FU (0,(Ar.zero 8))) fun c4=>smK c4 (fun s5=>
  bd (lp (fC a0) FU (0,s5.2)) fun c15=>smK c15 (fun s16=>bd (lp (fY a0 s16) FU (0,(Ar.zero 8))) fun c19=>smK c19 (fun s20=>
  some (s16.2,true)) (fun r21=>some r21)) (fun r17=>some r17)) (fun r6=>some r6)
def gV:List AV→AV→Prop:=fun args r=>∃ a0,args=[bS a0]∧W (fT a0) fun y=>r=(.tup [eAr y.1,eB y.2])
theorem tX {T:Tbl} (hT:TOk Tryd.prog T) (hpf:dD T PF):FOk Tryd.prog 79 (aU gV):=by
 refine bO hT hpf Tryd.func79 rfl Tryd.ntmps79 Tryd.results79 (by decide) ?_
 rintro args r ⟨a0,rfl,h⟩
 refine ⟨nle rfl,?_,?_⟩
 ·exact (lsC (cO _) lsN)
 rw [fT.eq_1] at h
 refine aD dCo rfl fun K hK=>?_;conv=>whnf
 refine hK _ _ _ ?_
 refine aD dCo rfl fun K hK=>?_;conv=>whnf
 refine hK _ _ _ ?_
 refine aN ?_
 refine aD dCo rfl fun K hK=>?_;conv=>whnf
 refine nlA rfl ?_;conv=>whnf
 refine bKo rfl ?_;conv=>whnf
 refine gKo rfl ?_;conv=>whnf
 refine hK _ _ _ ?_
 refine aQ ?_
 replace h:=aS h
 refine hU (body:=eX _) rfl h [1,2,4,11,12] [1] [2] [4] (fun kl kh kr ids b s=>⟨ofL ([(13,eI s.1)]++kl),ofH (([]++kh)++([(aAq ids 0,.cells (cA s.2))]++kr)),b+128⟩) ?_;(conv=>whnf);refine And.intro ?_ (fun s m h=>dO ?_)
 ·refine bR ?_;conv=>whnf
  exact And.intro rfl (And.intro (aLc wkI (aLc (WkR.ptr (fun _=>rfl)) (aLc (WkR.ptr (fun _=>rfl)) (aLc (WkR.ptr (fun _=>rfl)) (aLc (wkr (lsL fun _=>(aO _))) (aLc wkI aLn)))))) (aLc ⟨some _,rfl,bRc rfl (cKc wkI (cKc (wkr (lsL fun _=>(aO _))) cKn))⟩ (aLc ⟨some _,rfl,bE (x:=(Ar.zero 8)) rfl rfl⟩ (aLc ⟨some _,rfl,bE (x:=(Ar.zero 8)) rfl rfl⟩ aLn))))
 replace h:=aS h;rw [eX.eq_1] at h
 refine aD dCo rfl fun K hK=>?_;conv=>whnf
 refine hK _ _ _ ?_
 refine aN ?_
 refine bA fun K1 K2 hK1 hK2=>?_;conv=>whnf
 refine cLk h (fun _ h=>?_) (fun _ h=>?_)
 ·refine hK1 ?_
  refine aL ?_
  refine tHn ?_
  refine aN ?_
  refine aQ ?_
  refine aD dCo rfl fun K hK=>?_;conv=>whnf
  refine eQ h fun _ h=>?_;conv=>whnf
  refine nlA rfl ?_;conv=>whnf
  refine bKo rfl ?_;conv=>whnf
  refine And.intro rfl (And.intro (nle rfl) (And.intro rfl ?_));conv=>whnf
  refine hK _ _ _ ?_
  refine aAs dCo cV rfl (by kernel_rfl) fun K hK=>?_;conv=>whnf
  refine And.intro (by decide) ?_;conv=>whnf
  refine nlA rfl ?_;conv=>whnf
  refine bKo rfl ?_;conv=>whnf
  refine gKo rfl ?_;conv=>whnf
  refine dG h fun hx215 h=>?_;conv=>whnf
  refine nlA rfl ?_;conv=>whnf
  refine bKo rfl ?_;conv=>whnf
  refine eJ rfl hx215 ?_;conv=>whnf
  refine And.intro (by decide) ?_;conv=>whnf
  refine nlA rfl ?_;conv=>whnf
  refine bKo rfl ?_;conv=>whnf
  refine gKo rfl ?_;conv=>whnf
  refine dG h fun _ h=>?_;conv=>whnf
  refine dG h fun hx216 h=>?_;conv=>whnf
  refine bKo rfl ?_;conv=>whnf
  refine wJ rfl hx216 rfl rfl ?_;conv=>whnf
  refine hK _ _ _ ?_
  refine iBn ?_
  refine tHn ?_
  refine cX dCo rfl fun K hK=>?_;conv=>whnf
  refine hK _ _ _ ?_
  refine tHn ?_
  replace h:=bX h
  refine ⟨_,h,?_⟩
  refine bR ?_;conv=>whnf
  exact And.intro rfl (And.intro (aLc wkI (aLc (WkR.ptr (fun _=>rfl)) (aLc (WkR.ptr (fun _=>rfl)) (aLc (WkR.ptr (fun _=>rfl)) (aLc (wkr (lsL fun _=>(aO _))) (aLc wkI aLn)))))) (aLc ⟨some _,rfl,bRc rfl (cKc wkI (cKc (wkr (lsL fun _=>(aO _))) cKn))⟩ (aLc ⟨some _,rfl,bE rfl rfl⟩ (aLc ⟨some _,rfl,bE (x:=(Ar.zero 8)) rfl rfl⟩ aLn))))
 refine hK2 ?_
 refine bK ?_
 refine aY ?_
 refine aY ?_
 refine aX ?_
 replace h:=dE h
 replace h:=dB h
 refine tHn ?_
 refine aN ?_
 refine aD dCo rfl fun K hK=>?_;conv=>whnf
 refine nlA rfl ?_;conv=>whnf
 refine bKo rfl ?_;conv=>whnf
 refine gKo rfl ?_;conv=>whnf
 refine hK _ _ _ ?_
 refine aQ ?_
 replace h:=aS h
 refine hU (body:=fC _) rfl h [1,2,4,28] [1] [2] [4] (fun kl kh kr ids b s=>⟨ofL ([(29,eI s.1)]++kl),ofH (([]++kh)++([(aAq ids 0,.cells (cA s.2))]++kr)),b+128⟩) ?_;(conv=>whnf);refine And.intro ?_ (fun s m h=>dO ?_)
 ·refine bR ?_;conv=>whnf
  exact And.intro rfl (And.intro (aLc wkI (aLc (WkR.ptr (fun _=>rfl)) (aLc (WkR.ptr (fun _=>rfl)) (aLc (WkR.ptr (fun _=>rfl)) (aLc wkI aLn))))) (aLc ⟨some _,rfl,bRc rfl (cKc wkI (cKc (wkr (lsL fun _=>(aO _))) cKn))⟩ (aLc ⟨some _,rfl,bE rfl rfl⟩ (aLc ⟨some _,rfl,bE (x:=(Ar.zero 8)) rfl rfl⟩ aLn))))
 replace h:=aS h;rw [fC.eq_1] at h
 refine aD dCo rfl fun K hK=>?_;conv=>whnf
 refine hK _ _ _ ?_
 refine aN ?_
 refine bA fun K1 K2 hK1 hK2=>?_;conv=>whnf
 refine cLk h (fun _ h=>?_) (fun _ h=>?_)
 ·refine hK1 ?_
  refine aL ?_
  refine tHn ?_
  refine aN ?_
  refine aQ ?_
  refine aD dCo rfl fun K hK=>?_;conv=>whnf
  refine hK _ _ _ ?_
  refine aD dCo rfl fun K hK=>?_;conv=>whnf
  refine nlA rfl ?_;conv=>whnf
  refine bKo rfl ?_;conv=>whnf
  refine gKo rfl ?_;conv=>whnf
  refine hK _ _ _ ?_
  refine aQ ?_
  replace h:=aS h
  refine hU (body:=fA _ _) rfl h [1,2,4,7,28,29,33] [1] [2] [4] (fun kl kh kr ids b s=>⟨ofL ([(34,eI s.1)]++kl),ofH (([]++kh)++([(aAq ids 0,.cells (cA s.2))]++kr)),b+128⟩) ?_;(conv=>whnf);refine And.intro ?_ (fun s m h=>dO ?_)
  ·refine bR ?_;conv=>whnf
   exact And.intro rfl (And.intro (aLc wkI (aLc (WkR.ptr (fun _=>rfl)) (aLc (WkR.ptr (fun _=>rfl)) (aLc (WkR.ptr (fun _=>rfl)) (aLc wkI (aLc wkI (aLc wkI (aLc wkI aLn)))))))) (aLc ⟨some _,rfl,bRc rfl (cKc wkI (cKc (wkr (lsL fun _=>(aO _))) cKn))⟩ (aLc ⟨some _,rfl,bE rfl rfl⟩ (aLc ⟨some _,rfl,bE (x:=(Ar.zero 8)) rfl rfl⟩ aLn))))
  replace h:=aS h;rw [fA.eq_1] at h
  refine aD dCo rfl fun K hK=>?_;conv=>whnf
  refine hK _ _ _ ?_
  refine aN ?_
  refine bA fun K1 K2 hK1 hK2=>?_;conv=>whnf
  refine cLk h (fun _ h=>?_) (fun _ h=>?_)
  ·refine hK1 ?_
   refine aL ?_
   refine tHn ?_
   refine aN ?_
   refine aQ ?_
   refine aD dCo rfl fun K hK=>?_;conv=>whnf
   refine hK _ _ _ ?_
   refine aD dCo rfl fun K hK=>?_;conv=>whnf
   refine dG h fun hx469 h=>?_;conv=>whnf
   refine nlA rfl ?_;conv=>whnf
   refine bKo rfl ?_;conv=>whnf
   refine eJ rfl hx469 ?_;conv=>whnf
   refine dG h fun _ h=>?_;conv=>whnf
   refine hK _ _ _ ?_
   replace h:=dF h
   refine bA fun K1 K2 hK1 hK2=>?_;conv=>whnf
   refine cLk h (fun _ h=>?_) (fun _ h=>?_)
   ·refine hK1 ?_
    refine aAs dCo cV rfl (by kernel_rfl) fun K hK=>?_;conv=>whnf
    refine dG h fun hx473 h=>?_;conv=>whnf
    refine nlA rfl ?_;conv=>whnf
    refine bKo rfl ?_;conv=>whnf
    refine eJ rfl hx473 ?_;conv=>whnf
    refine dG h fun hx474 h=>?_;conv=>whnf
    refine nlA rfl ?_;conv=>whnf
    refine bKo rfl ?_;conv=>whnf
    refine eJ rfl hx474 ?_;conv=>whnf
    refine dG h fun hx475 h=>?_;conv=>whnf
    refine bKo rfl ?_;conv=>whnf
    refine wJ rfl hx475 rfl rfl ?_;conv=>whnf
    refine hK _ _ _ ?_
    refine iBn ?_
    refine tHn ?_
    refine cX dCo rfl fun K hK=>?_;conv=>whnf
    refine hK _ _ _ ?_
    refine tHn ?_
    replace h:=bX h
    refine ⟨_,h,?_⟩
    refine bR ?_;conv=>whnf
    exact And.intro rfl (And.intro (aLc wkI (aLc (WkR.ptr (fun _=>rfl)) (aLc (WkR.ptr (fun _=>rfl)) (aLc (WkR.ptr (fun _=>rfl)) (aLc wkI (aLc wkI (aLc wkI (aLc wkI aLn)))))))) (aLc ⟨some _,rfl,bRc rfl (cKc wkI (cKc (wkr (lsL fun _=>(aO _))) cKn))⟩ (aLc ⟨some _,rfl,bE rfl rfl⟩ (aLc ⟨some _,rfl,bE (x:=(Ar.zero 8)) rfl rfl⟩ aLn))))
   refine hK2 ?_
   refine aL ?_
   refine iBn ?_
   refine tHn ?_
   refine cX dCo rfl fun K hK=>?_;conv=>whnf
   refine hK _ _ _ ?_
   refine tHn ?_
   replace h:=bX h
   refine ⟨_,h,?_⟩
   refine bR ?_;conv=>whnf
   exact And.intro rfl (And.intro (aLc wkI (aLc (WkR.ptr (fun _=>rfl)) (aLc (WkR.ptr (fun _=>rfl)) (aLc (WkR.ptr (fun _=>rfl)) (aLc wkI (aLc wkI (aLc wkI (aLc wkI aLn)))))))) (aLc ⟨some _,rfl,bRc rfl (cKc wkI (cKc (wkr (lsL fun _=>(aO _))) cKn))⟩ (aLc ⟨some _,rfl,bE rfl rfl⟩ (aLc ⟨some _,rfl,bE (x:=(Ar.zero 8)) rfl rfl⟩ aLn))))
  refine hK2 ?_
  refine bK ?_
  refine aY ?_
  refine aY ?_
  refine aX ?_
  replace h:=dE h
  replace h:=dB h
  refine iBn ?_
  refine tHn ?_
  refine cX dCo rfl fun K hK=>?_;conv=>whnf
  refine hK _ _ _ ?_
  refine tHn ?_
  replace h:=bX h
  refine ⟨_,h,?_⟩
  refine bR ?_;conv=>whnf
  exact And.intro rfl (And.intro (aLc wkI (aLc (WkR.ptr (fun _=>rfl)) (aLc (WkR.ptr (fun _=>rfl)) (aLc (WkR.ptr (fun _=>rfl)) (aLc wkI aLn))))) (aLc ⟨some _,rfl,bRc rfl (cKc wkI (cKc (wkr (lsL fun _=>(aO _))) cKn))⟩ (aLc ⟨some _,rfl,bE rfl rfl⟩ (aLc ⟨some _,rfl,bE (x:=(Ar.zero 8)) rfl rfl⟩ aLn))))
 refine hK2 ?_
 refine bK ?_
 refine aY ?_
 refine aY ?_
 refine aX ?_
 replace h:=dE h
 replace h:=dB h
 refine tHn ?_
 refine aN ?_
 refine aD dCo rfl fun K hK=>?_;conv=>whnf
 refine nlA rfl ?_;conv=>whnf
 refine bKo rfl ?_;conv=>whnf
 refine gKo rfl ?_;conv=>whnf
 refine hK _ _ _ ?_
 refine aQ ?_
 replace h:=aS h
 refine hU (body:=fY _ _) rfl h [2,4,55] [] [4] [2] (fun kl kh kr ids b s=>⟨ofL ([(56,eI s.1)]++kl),ofH (([]++kh)++([(aAq ids 0,.cells (cA s.2))]++kr)),b+128⟩) ?_;(conv=>whnf);refine And.intro ?_ (fun s m h=>dO ?_)
 ·refine bR ?_;conv=>whnf
  exact And.intro rfl (And.intro (aLc wkI (aLc (WkR.ptr (fun _=>rfl)) (aLc (WkR.ptr (fun _=>rfl)) (aLc wkI aLn)))) (aLc ⟨some _,rfl,bE (x:=(Ar.zero 8)) rfl rfl⟩ (aLc ⟨some _,rfl,bE rfl rfl⟩ aLn)))
 replace h:=aS h;rw [fY.eq_1] at h
 refine aD dCo rfl fun K hK=>?_;conv=>whnf
 refine hK _ _ _ ?_
 refine aN ?_
 refine bA fun K1 K2 hK1 hK2=>?_;conv=>whnf
 refine cLk h (fun _ h=>?_) (fun _ h=>?_)
 ·refine hK1 ?_
  refine aL ?_
  refine tHn ?_
  refine aN ?_
  refine aQ ?_
  refine aD dCo rfl fun K hK=>?_;conv=>whnf
  refine hK _ _ _ ?_
  refine aD dCo rfl fun K hK=>?_;conv=>whnf
  refine dG h fun hx483 h=>?_;conv=>whnf
  refine nlA rfl ?_;conv=>whnf
  refine bKo rfl ?_;conv=>whnf
  refine eJ rfl hx483 ?_;conv=>whnf
  refine dG h fun _ h=>?_;conv=>whnf
  refine hK _ _ _ ?_
  refine bA fun K1 K2 hK1 hK2=>?_;conv=>whnf
  refine cLk h (fun _ h=>?_) (fun _ h=>?_)
  ·refine hK1 ?_
   refine aD dCo rfl fun K hK=>?_;conv=>whnf
   refine nlA rfl ?_;conv=>whnf
   refine bKo rfl ?_;conv=>whnf
   refine rE rfl ?_;conv=>whnf
   refine bKo rfl ?_;conv=>whnf
   refine pC (uG _) rfl rfl ?_;conv=>whnf
   refine hK _ _ _ ?_
   refine aG ?_
   refine bB ?_
   refine aR ?_
   refine aR ?_
   refine bB ?_
   refine aR ?_
   replace h:=iJ h
   replace h:=iK h
   replace h:=aF h
   refine aC dCo fun K hK=>?_;conv=>whnf
   refine nlA rfl ?_;conv=>whnf
   refine bKo rfl ?_;conv=>whnf
   refine rE rfl ?_;conv=>whnf
   refine hK _ ?_
   cases h
   exact Wk.refl _
  refine hK2 ?_
  refine aL ?_
  refine iBn ?_
  refine tHn ?_
  refine cX dCo rfl fun K hK=>?_;conv=>whnf
  refine hK _ _ _ ?_
  refine tHn ?_
  replace h:=bX h
  refine ⟨_,h,?_⟩
  refine bR ?_;conv=>whnf
  exact And.intro rfl (And.intro (aLc wkI (aLc (WkR.ptr (fun _=>rfl)) (aLc (WkR.ptr (fun _=>rfl)) (aLc wkI aLn)))) (aLc ⟨some _,rfl,bE rfl rfl⟩ (aLc ⟨some _,rfl,bE rfl rfl⟩ aLn)))
 refine hK2 ?_
 refine bK ?_
 refine aY ?_
 refine aY ?_
 refine aX ?_
 replace h:=dE h
 replace h:=dB h
 refine tHn ?_
 refine aD dCo rfl fun K hK=>?_;conv=>whnf
 refine nlA rfl ?_;conv=>whnf
 refine bKo rfl ?_;conv=>whnf
 refine rE rfl ?_;conv=>whnf
 refine bKo rfl ?_;conv=>whnf
 refine pC (uG _) rfl rfl ?_;conv=>whnf
 refine hK _ _ _ ?_
 refine aG ?_
 replace h:=aF h
 refine aC dCo fun K hK=>?_;conv=>whnf
 refine nlA rfl ?_;conv=>whnf
 refine bKo rfl ?_;conv=>whnf
 refine rE rfl ?_;conv=>whnf
 refine hK _ ?_
 cases h
 exact Wk.refl _
theorem sA {T:Tbl} (hT:T 79=aU gV) {args:List AV} {hp:bD} {id:Nat} {k:AV→Prop} {a0:aP} {Φ:(Ar 8)×Bool→Prop} (h:W (fT a0) Φ) (hw:WkL args [bS a0]) (hk:∀ y,Φ y→k (.tup [eAr y.1,eB y.2])):dJ T 79 args hp id k:=by
 obtain ⟨y,e,hy⟩:=fE h
 exact bF hT ⟨a0,rfl,kK e rfl⟩ (by exact fQ (lsC (pG _) (lsC (lsB _) lsN))) hw (hk y hy)
def fD (a0:Int) (a1:Int):Option Int:=bd (gD a0) fun y1=>bd (gD a1) fun y2=>
  cn y1 (cn y2 (some 0) (some (-1))) (cn y2 (some 1) (cn (decide (a0<a1)) (some (-1)) (cn (decide (a0>a1)) (some 1) (some 0))))
def eE:List AV→AV→Prop:=fun args r=>∃ a0 a1,args=[eI a0,eI a1]∧W (fD a0 a1) fun y=>r=(eI y)
theorem rF {T:Tbl} (hT:TOk Tryd.prog T) (hpf:dD T PF) (h83:T 83=aU gF):FOk Tryd.prog 63 (aU eE):=by
 refine bO hT hpf Tryd.func63 rfl Tryd.ntmps63 Tryd.results63 (by decide) ?_
 rintro args r ⟨a0,a1,rfl,h⟩
 refine ⟨nle rfl,?_,?_⟩
 ·exact (lsC (lsI _ _) (lsC (lsI _ _) lsN))
 rw [fD.eq_1] at h
 refine aD dCo rfl fun K hK=>?_;conv=>whnf
 refine hK _ _ _ ?_
 refine aD dCo rfl fun K hK=>?_;conv=>whnf
 replace h:=aS h
 refine mA h83 h (WkL.refl _) (fun _ h=>?_);conv=>whnf
 refine hK _ _ _ ?_
 refine aD dCo rfl fun K hK=>?_;conv=>whnf
 replace h:=aS h
 refine mA h83 h (WkL.refl _) (fun _ h=>?_);conv=>whnf
 refine hK _ _ _ ?_
 refine aN ?_
 refine aD dCo rfl fun K hK=>?_;conv=>whnf
 refine hK _ _ _ ?_
 refine bA fun K1 K2 hK1 hK2=>?_;conv=>whnf
 refine cLk h (fun _ h=>?_) (fun _ h=>?_)
 ·refine hK1 ?_
  refine aN ?_
  refine aD dCo rfl fun K hK=>?_;conv=>whnf
  refine hK _ _ _ ?_
  refine bA fun K1 K2 hK1 hK2=>?_;conv=>whnf
  refine cLk h (fun _ h=>?_) (fun _ h=>?_)
  ·refine hK1 ?_
   refine aD dCo rfl fun K hK=>?_;conv=>whnf
   refine hK _ _ _ ?_
   refine aG ?_
   refine aR ?_
   refine aR ?_
   replace h:=aF h
   refine aC dCo fun K hK=>?_;conv=>whnf
   refine hK _ ?_
   cases h
   exact Wk.refl _
  refine hK2 ?_
  refine aL ?_
  refine tHn ?_
  refine aD dCo rfl fun K hK=>?_;conv=>whnf
  refine hK _ _ _ ?_
  refine aG ?_
  refine aR ?_
  replace h:=aF h
  refine aC dCo fun K hK=>?_;conv=>whnf
  refine hK _ ?_
  cases h
  exact Wk.refl _
 refine hK2 ?_
 refine aL ?_
 refine tHn ?_
 refine aN ?_
 refine aD dCo rfl fun K hK=>?_;conv=>whnf
 refine hK _ _ _ ?_
 refine bA fun K1 K2 hK1 hK2=>?_;conv=>whnf
 refine cLk h (fun _ h=>?_) (fun _ h=>?_)
 ·refine hK1 ?_
  refine aD dCo rfl fun K hK=>?_;conv=>whnf
  refine hK _ _ _ ?_
  refine aG ?_
  refine aR ?_
  replace h:=aF h
  refine aC dCo fun K hK=>?_;conv=>whnf
  refine hK _ ?_
  cases h
  exact Wk.refl _
 refine hK2 ?_
 refine aL ?_
 refine tHn ?_
 refine aN ?_
 refine aD dCo rfl fun K hK=>?_;conv=>whnf
 refine hK _ _ _ ?_
 refine bA fun K1 K2 hK1 hK2=>?_;conv=>whnf
 refine cLk h (fun _ h=>?_) (fun _ h=>?_)
 ·refine hK1 ?_
  refine aD dCo rfl fun K hK=>?_;conv=>whnf
  refine hK _ _ _ ?_
  refine aG ?_
  refine aR ?_
  replace h:=aF h
  refine aC dCo fun K hK=>?_;conv=>whnf
  refine hK _ ?_
  cases h
  exact Wk.refl _
 refine hK2 ?_
 refine aL ?_
 refine tHn ?_
 refine aN ?_
 refine aD dCo rfl fun K hK=>?_;conv=>whnf
 refine hK _ _ _ ?_
 refine bA fun K1 K2 hK1 hK2=>?_;conv=>whnf
 refine cLk h (fun _ h=>?_) (fun _ h=>?_)
 ·refine hK1 ?_
  refine aD dCo rfl fun K hK=>?_;conv=>whnf
  refine hK _ _ _ ?_
  refine aG ?_
  refine aR ?_
  replace h:=aF h
  refine aC dCo fun K hK=>?_;conv=>whnf
  refine hK _ ?_
  cases h
  exact Wk.refl _
 refine hK2 ?_
 refine aL ?_
 refine tHn ?_
 refine aD dCo rfl fun K hK=>?_;conv=>whnf
 refine hK _ _ _ ?_
 refine aG ?_
 replace h:=aF h
 refine aC dCo fun K hK=>?_;conv=>whnf
 refine hK _ ?_
 cases h
 exact Wk.refl _
theorem kL {T:Tbl} (hT:T 63=aU eE) {args:List AV} {hp:bD} {id:Nat} {k:AV→Prop} {a0:Int} {a1:Int} {Φ:Int→Prop} (h:W (fD a0 a1) Φ) (hw:WkL args [eI a0,eI a1]) (hk:∀ y,Φ y→k (eI y)):dJ T 63 args hp id k:=by
 obtain ⟨y,e,hy⟩:=fE h
 exact bF hT ⟨a0,a1,rfl,kK e rfl⟩ (by exact (lsI _ _)) hw (hk y hy)
def gE (a0:List Int) (a1:List Int) (s1:Int):Option (Ct Int Int):=cn (decide (s1<(a0.length:Int))) (ix a0 default s1 fun e2=>
  cn (decide (s1≥(a1.length:Int))) (some (.rt 1)) (ix a1 default s1 fun e3=>bd (fD e2 e3) fun y4=>cn (y4 !=
  0) (some (.rt y4)) (some (.nx (wr (s1+1)))))) (some (.bk s1))
def eV (a0:List Int) (a1:List Int):Option Int:=bd (lp (gE a0 a1) FU 0) fun c5=>smK c5 (fun s6=>
  cn (decide ((a0.length:Int)<(a1.length:Int))) (some (-1)) (some 0)) (fun r7=>some r7)
def dX:List AV→AV→Prop:=fun args r=>∃ a0 a1,args=[(eL 1 eI default) a0,(eL 1 eI default) a1]∧W (eV a0 a1) fun y=>r=(eI y)
theorem pH {T:Tbl} (hT:TOk Tryd.prog T) (hpf:dD T PF) (h63:T 63=aU eE):FOk Tryd.prog 64 (aU dX):=by
 refine bO hT hpf Tryd.func64 rfl Tryd.ntmps64 Tryd.results64 (by decide) ?_
 rintro args r ⟨a0,a1,rfl,h⟩
 refine ⟨nle rfl,?_,?_⟩
 ·exact (lsC (lsL fun _=>(lsI _ _)) (lsC (lsL fun _=>(lsI _ _)) lsN))
 rw [eV.eq_1] at h
 refine aD dCo rfl fun K hK=>?_;conv=>whnf
 refine hK _ _ _ ?_
 refine aN ?_
 refine aD dCo rfl fun K hK=>?_;conv=>whnf
 refine hK _ _ _ ?_
 refine aQ ?_
 replace h:=aS h
 refine fP (body:=gE _ _) rfl h [0,1,9,10] [] [] (fun kl kh ids b s=>⟨ofL ([(11,eI s)]++kl),ofH ([]++kh),b+64⟩) ?_;(conv=>whnf);refine And.intro ?_ (fun s m h=>dO ?_)
 ·refine bI ?_;conv=>whnf
  exact And.intro rfl (And.intro (aLc wkI (aLc (wkr (lsL fun _=>(lsI _ _))) (aLc (wkr (lsL fun _=>(lsI _ _))) (aLc (wkr (lsL fun _=>(lsI _ _))) (aLc wkI aLn))))) aLn)
 replace h:=aS h;rw [gE.eq_1] at h
 refine aD dCo rfl fun K hK=>?_;conv=>whnf
 refine hK _ _ _ ?_
 refine aN ?_
 refine bA fun K1 K2 hK1 hK2=>?_;conv=>whnf
 refine cLk h (fun _ h=>?_) (fun _ h=>?_)
 ·refine hK1 ?_
  refine aL ?_
  refine tHn ?_
  refine aN ?_
  refine aQ ?_
  refine aD dCo rfl fun K hK=>?_;conv=>whnf
  refine eQ h fun _ h=>?_;conv=>whnf
  refine gKo rfl ?_;conv=>whnf
  refine hK _ _ _ ?_
  refine aN ?_
  refine aD dCo rfl fun K hK=>?_;conv=>whnf
  refine hK _ _ _ ?_
  refine bA fun K1 K2 hK1 hK2=>?_;conv=>whnf
  refine cLk h (fun _ h=>?_) (fun _ h=>?_)
  ·refine hK1 ?_
   refine aD dCo rfl fun K hK=>?_;conv=>whnf
   refine hK _ _ _ ?_
   refine aG ?_
   refine aR ?_
   refine bB ?_
   refine aR ?_
   refine aR ?_
   refine bB ?_
   refine aR ?_
   replace h:=iJ h
   replace h:=iK h
   replace h:=aF h
   refine aC dCo fun K hK=>?_;conv=>whnf
   refine hK _ ?_
   cases h
   exact Wk.refl _
  refine hK2 ?_
  refine aL ?_
  refine tHn ?_
  refine aD dCo rfl fun K hK=>?_;conv=>whnf
  refine eQ h fun _ h=>?_;conv=>whnf
  refine gKo rfl ?_;conv=>whnf
  refine hK _ _ _ ?_
  refine aD dCo rfl fun K hK=>?_;conv=>whnf
  replace h:=aS h
  refine kL h63 h (WkL.refl _) (fun _ h=>?_);conv=>whnf
  refine hK _ _ _ ?_
  refine aD dCo rfl fun K hK=>?_;conv=>whnf
  refine hK _ _ _ ?_
  refine bA fun K1 K2 hK1 hK2=>?_;conv=>whnf
  refine cLk h (fun _ h=>?_) (fun _ h=>?_)
  ·refine hK1 ?_
   refine aD dCo rfl fun K hK=>?_;conv=>whnf
   refine hK _ _ _ ?_
   refine aG ?_
   refine bB ?_
   refine aR ?_
   refine aR ?_
   refine bB ?_
   refine aR ?_
   replace h:=iJ h
   replace h:=iK h
   replace h:=aF h
   refine aC dCo fun K hK=>?_;conv=>whnf
   refine hK _ ?_
   cases h
   exact Wk.refl _
  refine hK2 ?_
  refine aL ?_
  refine iBn ?_
  refine tHn ?_
  refine cX dCo rfl fun K hK=>?_;conv=>whnf
  refine hK _ _ _ ?_
  refine tHn ?_
  replace h:=bX h
  refine ⟨_,h,?_⟩
  refine bI ?_;conv=>whnf
  exact And.intro rfl (And.intro (aLc wkI (aLc (wkr (lsL fun _=>(lsI _ _))) (aLc (wkr (lsL fun _=>(lsI _ _))) (aLc (wkr (lsL fun _=>(lsI _ _))) (aLc wkI aLn))))) aLn)
 refine hK2 ?_
 refine bK ?_
 refine aY ?_
 refine aY ?_
 refine aX ?_
 replace h:=dE h
 replace h:=dB h
 refine tHn ?_
 refine aN ?_
 refine aD dCo rfl fun K hK=>?_;conv=>whnf
 refine hK _ _ _ ?_
 refine bA fun K1 K2 hK1 hK2=>?_;conv=>whnf
 refine cLk h (fun _ h=>?_) (fun _ h=>?_)
 ·refine hK1 ?_
  refine aD dCo rfl fun K hK=>?_;conv=>whnf
  refine hK _ _ _ ?_
  refine aG ?_
  refine aR ?_
  replace h:=aF h
  refine aC dCo fun K hK=>?_;conv=>whnf
  refine hK _ ?_
  cases h
  exact Wk.refl _
 refine hK2 ?_
 refine aL ?_
 refine tHn ?_
 refine aD dCo rfl fun K hK=>?_;conv=>whnf
 refine hK _ _ _ ?_
 refine aG ?_
 replace h:=aF h
 refine aC dCo fun K hK=>?_;conv=>whnf
 refine hK _ ?_
 cases h
 exact Wk.refl _
theorem nP {T:Tbl} (hT:T 64=aU dX) {args:List AV} {hp:bD} {id:Nat} {k:AV→Prop} {a0:List Int} {a1:List Int} {Φ:Int→Prop} (h:W (eV a0 a1) Φ) (hw:WkL args [(eL 1 eI default) a0,(eL 1 eI default) a1]) (hk:∀ y,Φ y→k (eI y)):dJ T 64 args hp id k:=by
 obtain ⟨y,e,hy⟩:=fE h
 exact bF hT ⟨a0,a1,rfl,kK e rfl⟩ (by exact (lsI _ _)) hw (hk y hy)
def cR (a0:List (Int×Int)) (c910:aP) (s1:Int):Option (Ct Int Int):=cn (decide (s1<(a0.length:Int))) (ix a0 default s1 fun e2=>
  bd (eK e2 c910) fun y3=>cn y3 (some (.rt s1)) (some (.nx (wr (s1+1))))) (some (.bk s1))
def cH (a0:List (Int×Int)) (c910:aP):Option Int:=bd (lp (cR a0 c910) FU 0) fun c4=>smK c4 (fun s5=>
  some (-1)) (fun r6=>some r6)
def gO:List AV→AV→Prop:=fun args r=>∃ a0 c910,args=[(eL 2 cB default) a0,.fn 69 [] [.ep [eI c910.N,(eL 2 cB default) c910.Pairs] 0]]∧W (cH a0 c910) fun y=>r=(eI y)
theorem lU {T:Tbl} (hT:TOk Tryd.prog T) (hpf:dD T PF) (h69:T 69=aU eM):FOk Tryd.prog 85 (aU gO):=by
 refine bO hT hpf Tryd.func85 rfl Tryd.ntmps85 Tryd.results85 (by decide) ?_
 rintro args r ⟨a0,c910,rfl,h⟩
 refine ⟨nle rfl,?_,?_⟩
 ·exact (lsC (lsL fun _=>(aO _)) (lsC (pP lsN (lsC (lsE (lsC (lsI _ _) (lsC (lsL fun _=>(aO _)) lsN))) lsN)) lsN))
 rw [cH.eq_1] at h
 refine aD dCo rfl fun K hK=>?_;conv=>whnf
 refine hK _ _ _ ?_
 refine aN ?_
 refine aD dCo rfl fun K hK=>?_;conv=>whnf
 refine hK _ _ _ ?_
 refine aQ ?_
 replace h:=aS h
 refine fP (body:=cR _ _) rfl h [0,1,7] [] [] (fun kl kh ids b s=>⟨ofL ([(8,eI s)]++kl),ofH ([]++kh),b+64⟩) ?_;(conv=>whnf);refine And.intro ?_ (fun s m h=>dO ?_)
 ·refine bI ?_;conv=>whnf
  exact And.intro rfl (And.intro (aLc wkI (aLc (wkr (lsL fun _=>(aO _))) (aLc (eZ bL (aM (wkr (lsE (lsC (lsI _ _) (lsC (lsL fun _=>(aO _)) lsN)))) bL)) (aLc wkI aLn)))) aLn)
 replace h:=aS h;rw [cR.eq_1] at h
 refine aD dCo rfl fun K hK=>?_;conv=>whnf
 refine hK _ _ _ ?_
 refine aN ?_
 refine bA fun K1 K2 hK1 hK2=>?_;conv=>whnf
 refine cLk h (fun _ h=>?_) (fun _ h=>?_)
 ·refine hK1 ?_
  refine aL ?_
  refine tHn ?_
  refine aN ?_
  refine aQ ?_
  refine aD dCo rfl fun K hK=>?_;conv=>whnf
  refine hK _ _ _ ?_
  refine aD dCo rfl fun K hK=>?_;conv=>whnf
  refine eQ h fun _ h=>?_;conv=>whnf
  refine nlA rfl ?_;conv=>whnf
  replace h:=aS h
  refine pQ h69 h (WkL.refl _) (fun _ h=>?_);conv=>whnf
  refine hK _ _ _ ?_
  refine bA fun K1 K2 hK1 hK2=>?_;conv=>whnf
  refine cLk h (fun _ h=>?_) (fun _ h=>?_)
  ·refine hK1 ?_
   refine aD dCo rfl fun K hK=>?_;conv=>whnf
   refine hK _ _ _ ?_
   refine aG ?_
   refine bB ?_
   refine aR ?_
   refine aR ?_
   refine bB ?_
   refine aR ?_
   replace h:=iJ h
   replace h:=iK h
   replace h:=aF h
   refine aC dCo fun K hK=>?_;conv=>whnf
   refine hK _ ?_
   cases h
   exact Wk.refl _
  refine hK2 ?_
  refine aL ?_
  refine iBn ?_
  refine tHn ?_
  refine cX dCo rfl fun K hK=>?_;conv=>whnf
  refine hK _ _ _ ?_
  refine tHn ?_
  replace h:=bX h
  refine ⟨_,h,?_⟩
  refine bI ?_;conv=>whnf
  exact And.intro rfl (And.intro (aLc wkI (aLc (wkr (lsL fun _=>(aO _))) (aLc (eZ bL (aM (wkr (lsE (lsC (lsI _ _) (lsC (lsL fun _=>(aO _)) lsN)))) bL)) (aLc wkI aLn)))) aLn)
 refine hK2 ?_
 refine bK ?_
 refine aY ?_
 refine aY ?_
 refine aX ?_
 replace h:=dE h
 replace h:=dB h
 refine tHn ?_
 refine aD dCo rfl fun K hK=>?_;conv=>whnf
 refine hK _ _ _ ?_
 refine aG ?_
 replace h:=aF h
 refine aC dCo fun K hK=>?_;conv=>whnf
 refine hK _ ?_
 cases h
 exact Wk.refl _
def cU:List AV→AV→Prop:=fun args r=>gO args r
theorem kE {T:Tbl} (hT:T 85=aU cU) {args:List AV} {hp:bD} {id:Nat} {k:AV→Prop} {a0:List (Int×Int)} {c910:aP} {Φ:Int→Prop} (h:W (cH a0 c910) Φ) (hw:WkL args [(eL 2 cB default) a0,.fn 69 [] [.ep [eI c910.N,(eL 2 cB default) c910.Pairs] 0]]) (hk:∀ y,Φ y→k (eI y)):dJ T 85 args hp id k:=by
 obtain ⟨y,e,hy⟩:=fE h
 exact bF hT ⟨a0,c910,rfl,kK e rfl⟩ (by exact (lsI _ _)) hw (hk y hy)
theorem mY {T:Tbl} (hT:TOk Tryd.prog T) (hpf:dD T PF) (h69:T 69=aU eM):FOk Tryd.prog 85 (aU cU):=(lU hT hpf h69)
def cJ (a0:List (Int×Int)) (c910:aP):Option Bool:=bd (cH a0 c910) fun y1=>some (decide (y1≥0))
def fM:List AV→AV→Prop:=fun args r=>∃ a0 c910,args=[(eL 2 cB default) a0,.fn 69 [] [.ep [eI c910.N,(eL 2 cB default) c910.Pairs] 0]]∧W (cJ a0 c910) fun y=>r=(eB y)
theorem jS {T:Tbl} (hT:TOk Tryd.prog T) (hpf:dD T PF) (h85:T 85=aU cU):FOk Tryd.prog 68 (aU fM):=by
 refine bO hT hpf Tryd.func68 rfl Tryd.ntmps68 Tryd.results68 (by decide) ?_
 rintro args r ⟨a0,c910,rfl,h⟩
 refine ⟨nle rfl,?_,?_⟩
 ·exact (lsC (lsL fun _=>(aO _)) (lsC (pP lsN (lsC (lsE (lsC (lsI _ _) (lsC (lsL fun _=>(aO _)) lsN))) lsN)) lsN))
 rw [cJ.eq_1] at h
 refine aD dCo rfl fun K hK=>?_;conv=>whnf
 refine hK _ _ _ ?_
 refine aD dCo rfl fun K hK=>?_;conv=>whnf
 replace h:=aS h
 refine kE h85 h (WkL.refl _) (fun _ h=>?_);conv=>whnf
 refine hK _ _ _ ?_
 refine aG ?_
 replace h:=aF h
 refine aC dCo fun K hK=>?_;conv=>whnf
 refine hK _ ?_
 cases h
 exact Wk.refl _
def cW:List AV→AV→Prop:=fun args r=>fM args r
theorem jA {T:Tbl} (hT:T 68=aU cW) {args:List AV} {hp:bD} {id:Nat} {k:AV→Prop} {a0:List (Int×Int)} {c910:aP} {Φ:Bool→Prop} (h:W (cJ a0 c910) Φ) (hw:WkL args [(eL 2 cB default) a0,.fn 69 [] [.ep [eI c910.N,(eL 2 cB default) c910.Pairs] 0]]) (hk:∀ y,Φ y→k (eB y)):dJ T 68 args hp id k:=by
 obtain ⟨y,e,hy⟩:=fE h
 exact bF hT ⟨a0,c910,rfl,kK e rfl⟩ (by exact (lsB _)) hw (hk y hy)
theorem lL {T:Tbl} (hT:TOk Tryd.prog T) (hpf:dD T PF) (h85:T 85=aU cU):FOk Tryd.prog 68 (aU cW):=(jS hT hpf h85)
def eA (a0:aP) (a1:List Int) (s1:Int):Option (Ct Int Bool):=cn (decide (s1<(a1.length:Int))) (ix a1 default s1 fun e2=>
  gd ((a1.length:Int)≠0) (ix a1 default (Int.tmod (wr (s1+1)) (a1.length:Int)) fun e3=>bd (fU a0 e2 e3) fun y4=>
  cn (!y4) (some (.rt false)) (some (.nx (wr (s1+1)))))) (some (.bk s1))
def eN (a0:aP) (a1:List Int):Option Bool:=bd (lp (eA a0 a1) FU 0) fun c5=>smK c5 (fun s6=>let v8:=(decide ((a1.length:Int)≥2));
  some v8) (fun r7=>some r7)
def iP:List AV→AV→Prop:=fun args r=>∃ a0 a1,args=[bS a0,(eL 1 eI default) a1]∧W (eN a0 a1) fun y=>r=(eB y)
theorem vX {T:Tbl} (hT:TOk Tryd.prog T) (hpf:dD T PF) (h70:T 70=aU gX):FOk Tryd.prog 35 (aU iP):=by
 refine bO hT hpf Tryd.func35 rfl Tryd.ntmps35 Tryd.results35 (by decide) ?_
 rintro args r ⟨a0,a1,rfl,h⟩
 refine ⟨nle rfl,?_,?_⟩
 ·exact (lsC (cO _) (lsC (lsL fun _=>(lsI _ _)) lsN))
 rw [eN.eq_1] at h
 refine aD dCo rfl fun K hK=>?_;conv=>whnf
 refine hK _ _ _ ?_
 refine aN ?_
 refine aD dCo rfl fun K hK=>?_;conv=>whnf
 refine hK _ _ _ ?_
 refine aQ ?_
 replace h:=aS h
 refine fP (body:=eA _ _) rfl h [1,2] [2] [] (fun kl kh ids b s=>⟨ofL ([(5,eI s)]++kl),ofH ([]++kh),b+64⟩) ?_;(conv=>whnf);refine And.intro ?_ (fun s m h=>dO ?_)
 ·refine bI ?_;conv=>whnf
  exact And.intro rfl (And.intro (aLc wkI (aLc (wkr (lsL fun _=>(lsI _ _))) (aLc (WkR.ptr (fun _=>rfl)) aLn))) (aLc ⟨some _,rfl,bRc rfl (cKc wkI (cKc (wkr (lsL fun _=>(aO _))) cKn))⟩ aLn))
 replace h:=aS h;rw [eA.eq_1] at h
 refine aN ?_
 refine aD dCo rfl fun K hK=>?_;conv=>whnf
 refine hK _ _ _ ?_
 refine bA fun K1 K2 hK1 hK2=>?_;conv=>whnf
 refine cLk h (fun _ h=>?_) (fun _ h=>?_)
 ·refine hK1 ?_
  refine aL ?_
  refine tHn ?_
  refine aN ?_
  refine aQ ?_
  refine mQ dCo cV rfl (by kernel_rfl) fun K hK=>?_;conv=>whnf
  refine nlA rfl ?_;conv=>whnf
  refine bKo rfl ?_;conv=>whnf
  refine nlA rfl ?_;conv=>whnf
  refine eQ h fun _ h=>?_;conv=>whnf
  refine gKo rfl ?_;conv=>whnf
  refine dG h fun _ h=>?_;conv=>whnf
  refine eQ h fun _ h=>?_;conv=>whnf
  refine gKo rfl ?_;conv=>whnf
  replace h:=aS h
  refine sM h70 h (WkL.refl _) (fun _ h=>?_);conv=>whnf
  refine hK _ _ _ ?_
  refine bA fun K1 K2 hK1 hK2=>?_;conv=>whnf
  refine cLk h (fun _ h=>?_) (fun _ h=>?_)
  ·refine hK1 ?_
   refine aD dCo rfl fun K hK=>?_;conv=>whnf
   refine hK _ _ _ ?_
   refine aG ?_
   refine bB ?_
   refine aR ?_
   refine aR ?_
   refine bB ?_
   refine aR ?_
   replace h:=iJ h
   replace h:=iK h
   replace h:=aF h
   refine aC dCo fun K hK=>?_;conv=>whnf
   refine hK _ ?_
   cases h
   exact Wk.refl _
  refine hK2 ?_
  refine aL ?_
  refine iBn ?_
  refine tHn ?_
  refine cX dCo rfl fun K hK=>?_;conv=>whnf
  refine hK _ _ _ ?_
  refine tHn ?_
  replace h:=bX h
  refine ⟨_,h,?_⟩
  refine bI ?_;conv=>whnf
  exact And.intro rfl (And.intro (aLc wkI (aLc (wkr (lsL fun _=>(lsI _ _))) (aLc (WkR.ptr (fun _=>rfl)) aLn))) (aLc ⟨some _,rfl,bRc rfl (cKc wkI (cKc (wkr (lsL fun _=>(aO _))) cKn))⟩ aLn))
 refine hK2 ?_
 refine bK ?_
 refine aY ?_
 refine aY ?_
 refine aX ?_
 replace h:=dE h
 replace h:=dB h
 refine tHn ?_
 refine aD dCo rfl fun K hK=>?_;conv=>whnf
 refine hK _ _ _ ?_
 refine aG ?_
 replace h:=aF h
 refine aC dCo fun K hK=>?_;conv=>whnf
 refine hK _ ?_
 cases h
 exact Wk.refl _
theorem fN {T:Tbl} (hT:T 35=aU iP) {args:List AV} {hp:bD} {id:Nat} {k:AV→Prop} {a0:aP} {a1:List Int} {Φ:Bool→Prop} (h:W (eN a0 a1) Φ) (hw:WkL args [bS a0,(eL 1 eI default) a1]) (hk:∀ y,Φ y→k (eB y)):dJ T 35 args hp id k:=by
 obtain ⟨y,e,hy⟩:=fE h
 exact bF hT ⟨a0,a1,rfl,kK e rfl⟩ (by exact (lsB _)) hw (hk y hy)
  def lK (a0:Int) (a1:Ar 8) (s1:Int×aP) (s2:Int×aP):Option (Ct (Int×aP) aP):=cn (decide (s2.1<a0)) (gd (0≤s2.1∧s2.1<(8:Int)) (gd (0≤s1.1) (jn (fun p3:aP=>
  some (.nx ((wr (s2.1+1)),p3))) fun k4=>cn ((tK .i64 (vP .i64 (a1.at1 s2.1) s1.1) 1)==1) (lt ([(s1.1,s2.1)]:List (Int×Int)) fun l5=>ap s2.2.Pairs l5 fun l6=>
  k4 (⟨s2.2.N,l6⟩:aP)) (k4 s2.2)))) (some (.bk (s2.1,s2.2)))
  def lA (a0:Int) (a1:Ar 8) (s1:Int×aP):Option (Ct (Int×aP) aP):=cn (decide (s1.1<a0)) (bd (lp (lK a0 a1 s1) FU (0,s1.2)) fun c7=>
  smK c7 (fun s8=>some (.nx ((wr (s1.1+1)),s8.2))) (fun r9=>some (.rt r9))) (some (.bk (s1.1,s1.2)))
def hO (a0:Int) (a1:Ar 8):Option aP:=bd (lp (lA a0 a1) FU (0,(⟨a0,[]⟩:aP))) fun c10=>smK c10 (fun s11=>some s11.2) (fun r12=>
  some r12)
def fR:List AV→AV→Prop:=fun args r=>∃ a0 a1,args=[eI a0,eAr a1]∧W (hO a0 a1) fun y=>r=(bS y)
theorem vK {T:Tbl} (hT:TOk Tryd.prog T) (hpf:dD T PF):FOk Tryd.prog 58 (aU fR):=by
 refine bO hT hpf Tryd.func58 rfl Tryd.ntmps58 Tryd.results58 (by decide) ?_
 rintro args r ⟨a0,a1,rfl,h⟩
 refine ⟨nle rfl,?_,?_⟩
 ·exact (lsC (lsI _ _) (lsC (pG _) lsN))
 rw [hO.eq_1] at h
 refine aD dCo rfl fun K hK=>?_;conv=>whnf
 refine aZ ?_;conv=>whnf
 refine hK _ _ _ ?_
 refine aD dCo rfl fun K hK=>?_;conv=>whnf
 refine bKo rfl ?_;conv=>whnf
 refine And.intro rfl (And.intro (nle rfl) (And.intro rfl ?_));conv=>whnf
 refine hK _ _ _ ?_
 refine aN ?_
 refine aD dCo rfl fun K hK=>?_;conv=>whnf
 refine hK _ _ _ ?_
 refine aQ ?_
 replace h:=aS h
 refine hU (body:=lA _ _) rfl h [0,3,4,5,10] [4] [3] [5] (fun kl kh kr ids b s=>⟨ofL ([(11,eI s.1)]++kl),ofH (([(aAq ids 0,.cells [eI s.2.N,.lst (.tok (b+0)) 2 s.2.Pairs.length (fun j=>cB (s.2.Pairs.getD j default))]),(b+0,.cells [])]++kh)++([]++kr)),b+128⟩) ?_;(conv=>whnf);refine And.intro ?_ (fun s m h=>dO ?_)
 ·refine bR ?_;conv=>whnf
  exact And.intro rfl (And.intro (aLc wkI (aLc wkI (aLc (WkR.ptr (fun _=>rfl)) (aLc (WkR.ptr (fun _=>rfl)) (aLc (WkR.ptr (fun _=>rfl)) (aLc wkI aLn)))))) (aLc ⟨some _,rfl,bRc rfl (cKc wkI (cKc (WkR.nil (fun _=>rfl)) cKn))⟩ (aLc ⟨none,rfl,qL⟩ (aLc ⟨some _,rfl,bRc rfl (cKc wkI (cKc (wkr cG) cKn))⟩ (aLc ⟨some _,rfl,bE rfl rfl⟩ aLn)))))
 replace h:=aS h;rw [lA.eq_1] at h
 refine aD dCo rfl fun K hK=>?_;conv=>whnf
 refine hK _ _ _ ?_
 refine aN ?_
 refine bA fun K1 K2 hK1 hK2=>?_;conv=>whnf
 refine cLk h (fun _ h=>?_) (fun _ h=>?_)
 ·refine hK1 ?_
  refine aL ?_
  refine tHn ?_
  refine aN ?_
  refine aQ ?_
  refine aD dCo rfl fun K hK=>?_;conv=>whnf
  refine hK _ _ _ ?_
  refine aD dCo rfl fun K hK=>?_;conv=>whnf
  refine hK _ _ _ ?_
  refine aQ ?_
  replace h:=aS h
  refine hU (body:=lK _ _ _) rfl h [0,3,4,5,6,10,11,14] [4] [3] [5] (fun kl kh kr ids b s=>⟨ofL ([(15,eI s.1)]++kl),ofH (([(aAq ids 0,.cells [eI s.2.N,.lst (.tok (b+0)) 2 s.2.Pairs.length (fun j=>cB (s.2.Pairs.getD j default))]),(b+0,.cells [])]++kh)++([]++kr)),b+128⟩) ?_;(conv=>whnf);refine And.intro ?_ (fun s m h=>dO ?_)
  ·refine bR ?_;conv=>whnf
   exact And.intro rfl (And.intro (aLc wkI (aLc wkI (aLc (WkR.ptr (fun _=>rfl)) (aLc (WkR.ptr (fun _=>rfl)) (aLc (WkR.ptr (fun _=>rfl)) (aLc wkI (aLc wkI (aLc wkI (aLc wkI aLn))))))))) (aLc ⟨some _,rfl,bRc rfl (cKc wkI (cKc (WkR.tok (fun _=>rfl) rfl (fun _ _=>Wk.refl _) (fun _=>(aO _))) cKn))⟩ (aLc ⟨some _,rfl,bRc rfl cKn⟩ (aLc ⟨some _,rfl,bRc rfl (cKc wkI (cKc (wkr cG) cKn))⟩ (aLc ⟨some _,rfl,bE rfl rfl⟩ aLn)))))
  replace h:=aS h;rw [lK.eq_1] at h
  refine aD dCo rfl fun K hK=>?_;conv=>whnf
  refine hK _ _ _ ?_
  refine aN ?_
  refine bA fun K1 K2 hK1 hK2=>?_;conv=>whnf
  refine cLk h (fun _ h=>?_) (fun _ h=>?_)
  ·refine hK1 ?_
   refine aL ?_
   refine tHn ?_
   refine aN ?_
   refine aQ ?_
   refine aD dCo rfl fun K hK=>?_;conv=>whnf
   refine hK _ _ _ ?_
   refine aD dCo rfl fun K hK=>?_;conv=>whnf
   refine dG h fun hx195 h=>?_;conv=>whnf
   refine nlA rfl ?_;conv=>whnf
   refine bKo rfl ?_;conv=>whnf
   refine eJ rfl hx195 ?_;conv=>whnf
   refine dG h fun _ h=>?_;conv=>whnf
   refine hK _ _ _ ?_
   replace h:=dF h
   refine bA fun K1 K2 hK1 hK2=>?_;conv=>whnf
   refine cLk h (fun _ h=>?_) (fun _ h=>?_)
   ·refine hK1 ?_
    refine cX dCo rfl fun K hK=>?_;conv=>whnf
    refine nlA rfl ?_;conv=>whnf
    refine bKo rfl ?_;conv=>whnf
    refine gKo rfl ?_;conv=>whnf
    refine cI (enc:=cB) (d:=default) dCo h rfl rfl rfl ⟨nle rfl,nle rfl,rfl⟩ rfl ⟨⟨rfl,nle rfl⟩,trivial⟩ (fun h=>?_);conv=>whnf
    refine bN (enc:=cB) (d:=default) dCo h (.inl rfl) rfl rfl rfl ⟨rfl,nle rfl,nle rfl,nle rfl,rfl⟩ (fun _=>rfl) (.inr (.inr ⟨_,_,rfl,rfl,rfl⟩)) (fun h=>?_);conv=>whnf
    refine bKo rfl ?_;conv=>whnf
    refine And.intro rfl (And.intro (nle rfl) (And.intro rfl ?_));conv=>whnf
    refine hK _ _ _ ?_
    refine iBn ?_
    refine tHn ?_
    refine cX dCo rfl fun K hK=>?_;conv=>whnf
    refine hK _ _ _ ?_
    refine tHn ?_
    replace h:=bX h
    refine ⟨_,h,?_⟩
    refine bR ?_;conv=>whnf
    exact And.intro rfl (And.intro (aLc wkI (aLc wkI (aLc (WkR.ptr (fun _=>rfl)) (aLc (WkR.ptr (fun _=>rfl)) (aLc (WkR.ptr (fun _=>rfl)) (aLc wkI (aLc wkI (aLc wkI (aLc wkI aLn))))))))) (aLc ⟨some _,rfl,bRc rfl (cKc wkI (cKc (WkR.tok (fun _=>rfl) rfl (fun _ _=>Wk.refl _) (fun _=>(aO _))) cKn))⟩ (aLc ⟨some _,rfl,bRc rfl cKn⟩ (aLc ⟨some _,rfl,bRc rfl (cKc wkI (cKc (wkr cG) cKn))⟩ (aLc ⟨some _,rfl,bE rfl rfl⟩ aLn)))))
   refine hK2 ?_
   refine aL ?_
   refine iBn ?_
   refine tHn ?_
   refine cX dCo rfl fun K hK=>?_;conv=>whnf
   refine hK _ _ _ ?_
   refine tHn ?_
   replace h:=bX h
   refine ⟨_,h,?_⟩
   refine bR ?_;conv=>whnf
   exact And.intro rfl (And.intro (aLc wkI (aLc wkI (aLc (WkR.ptr (fun _=>rfl)) (aLc (WkR.ptr (fun _=>rfl)) (aLc (WkR.ptr (fun _=>rfl)) (aLc wkI (aLc wkI (aLc wkI (aLc wkI aLn))))))))) (aLc ⟨some _,rfl,bRc rfl (cKc wkI (cKc (WkR.tok (fun _=>rfl) rfl (fun _ _=>Wk.refl _) (fun _=>(aO _))) cKn))⟩ (aLc ⟨some _,rfl,bRc rfl cKn⟩ (aLc ⟨some _,rfl,bRc rfl (cKc wkI (cKc (wkr cG) cKn))⟩ (aLc ⟨some _,rfl,bE rfl rfl⟩ aLn)))))
  refine hK2 ?_
  refine bK ?_
  refine aY ?_
  refine aY ?_
  refine aX ?_
  replace h:=dE h
  replace h:=dB h
  refine iBn ?_
  refine tHn ?_
  refine cX dCo rfl fun K hK=>?_;conv=>whnf
  refine hK _ _ _ ?_
  refine tHn ?_
  replace h:=bX h
  refine ⟨_,h,?_⟩
  refine bR ?_;conv=>whnf
  exact And.intro rfl (And.intro (aLc wkI (aLc wkI (aLc (WkR.ptr (fun _=>rfl)) (aLc (WkR.ptr (fun _=>rfl)) (aLc (WkR.ptr (fun _=>rfl)) (aLc wkI aLn)))))) (aLc ⟨some _,rfl,bRc rfl (cKc wkI (cKc (WkR.tok (fun _=>rfl) rfl (fun _ _=>Wk.refl _) (fun _=>(aO _))) cKn))⟩ (aLc ⟨some _,rfl,bRc rfl cKn⟩ (aLc ⟨some _,rfl,bRc rfl (cKc wkI (cKc (wkr cG) cKn))⟩ (aLc ⟨some _,rfl,bE rfl rfl⟩ aLn)))))
 refine hK2 ?_
 refine bK ?_
 refine aY ?_
 refine aY ?_
 refine aX ?_
 replace h:=dE h
 replace h:=dB h
 refine tHn ?_
 refine aD dCo rfl fun K hK=>?_;conv=>whnf
 refine nlA rfl ?_;conv=>whnf
 refine bKo rfl ?_;conv=>whnf
 refine nlA rfl ?_;conv=>whnf
 refine bKo rfl ?_;conv=>whnf
 refine And.intro rfl (And.intro (nle rfl) (And.intro rfl ?_));conv=>whnf
 refine hK _ _ _ ?_
 refine aG ?_
 replace h:=aF h
 refine aC dCo fun K hK=>?_;conv=>whnf
 refine nlA rfl ?_;conv=>whnf
 refine bKo rfl ?_;conv=>whnf
 refine nlA rfl ?_;conv=>whnf
 refine hK _ ?_
 cases h
 exact (aK (aA (Wk.refl _) (aA aH aB)))
theorem mW {T:Tbl} (hT:T 58=aU fR) {args:List AV} {hp:bD} {id:Nat} {k:AV→Prop} {a0:Int} {a1:Ar 8} {Φ:aP→Prop} (h:W (hO a0 a1) Φ) (hw:WkL args [eI a0,eAr a1]) (hk:∀ y,Φ y→k (bS y)):dJ T 58 args hp id k:=by
 obtain ⟨y,e,hy⟩:=fE h
 exact bF hT ⟨a0,a1,rfl,kK e rfl⟩ (by exact (cO _)) hw (hk y hy)
def cD (a0:aP):Option Bool:=jn (fun p1:Bool=>cn p1 (some false) (bd (cJ a0.Pairs a0) fun y3=>some (!y3))) fun k2=>
  cn (decide (a0.N<0)) (k2 true) (cn (decide (a0.N>8)) (k2 true) (k2 (decide ((a0.Pairs.length:Int)>28))))
def eC:List AV→AV→Prop:=fun args r=>∃ a0,args=[bS a0]∧W (cD a0) fun y=>r=(eB y)
theorem uV {T:Tbl} (hT:TOk Tryd.prog T) (hpf:dD T PF) (h68:T 68=aU cW):FOk Tryd.prog 33 (aU eC):=by
 refine bO hT hpf Tryd.func33 rfl Tryd.ntmps33 Tryd.results33 (by decide) ?_
 rintro args r ⟨a0,rfl,h⟩
 refine ⟨nle rfl,?_,?_⟩
 ·exact (lsC (cO _) lsN)
 rw [cD.eq_1] at h
 refine aD dCo rfl fun K hK=>?_;conv=>whnf
 refine hK _ _ _ ?_
 refine aN ?_
 refine aD dCo rfl fun K hK=>?_;conv=>whnf
 replace h:=dF h
 refine nlA rfl ?_;conv=>whnf
 refine bKo rfl ?_;conv=>whnf
 refine gKo rfl ?_;conv=>whnf
 refine cLk h (fun _ h=>?_) (fun _ h=>?_)<;>(conv=>whnf)
 ·refine hK _ _ _ ?_
  refine bA fun K1 K2 hK1 hK2=>?_;conv=>whnf
  refine hK1 ?_
  replace h:=mN h
  refine aD dCo rfl fun K hK=>?_;conv=>whnf
  refine hK _ _ _ ?_
  refine aG ?_
  refine aR ?_
  replace h:=aF h
  refine aC dCo fun K hK=>?_;conv=>whnf
  refine hK _ ?_
  cases h
  exact Wk.refl _
 refine nlA rfl ?_;conv=>whnf
 refine bKo rfl ?_;conv=>whnf
 refine gKo rfl ?_;conv=>whnf
 refine cLk h (fun _ h=>?_) (fun _ h=>?_)<;>(conv=>whnf)
 ·refine hK _ _ _ ?_
  refine bA fun K1 K2 hK1 hK2=>?_;conv=>whnf
  refine hK1 ?_
  replace h:=mN h
  refine aD dCo rfl fun K hK=>?_;conv=>whnf
  refine hK _ _ _ ?_
  refine aG ?_
  refine aR ?_
  replace h:=aF h
  refine aC dCo fun K hK=>?_;conv=>whnf
  refine hK _ ?_
  cases h
  exact Wk.refl _
 refine nlA rfl ?_;conv=>whnf
 refine bKo rfl ?_;conv=>whnf
 refine gKo rfl ?_;conv=>whnf
 refine hK _ _ _ ?_
 refine bA fun K1 K2 hK1 hK2=>?_;conv=>whnf
 refine cLk h (fun _ h=>?_) (fun _ h=>?_)
 ·refine hK1 ?_
  refine aD dCo rfl fun K hK=>?_;conv=>whnf
  refine hK _ _ _ ?_
  refine aG ?_
  refine aR ?_
  replace h:=aF h
  refine aC dCo fun K hK=>?_;conv=>whnf
  refine hK _ ?_
  cases h
  exact Wk.refl _
 refine hK2 ?_
 refine aL ?_
 refine tHn ?_
 refine lH 1 ?_;(conv=>whnf);refine ⟨_,rfl,?_⟩
 refine aD dCo rfl fun K hK=>?_;conv=>whnf
 refine gKo rfl ?_;conv=>whnf
 replace h:=aS h
 refine jA h68 h (WkL.refl _) (fun _ h=>?_);conv=>whnf
 refine hK _ _ _ ?_
 refine aG ?_
 replace h:=aF h
 refine aC dCo fun K hK=>?_;conv=>whnf
 refine hK _ ?_
 cases h
 exact Wk.refl _
theorem aE {T:Tbl} (hT:T 33=aU eC) {args:List AV} {hp:bD} {id:Nat} {k:AV→Prop} {a0:aP} {Φ:Bool→Prop} (h:W (cD a0) Φ) (hw:WkL args [bS a0]) (hk:∀ y,Φ y→k (eB y)):dJ T 33 args hp id k:=by
 obtain ⟨y,e,hy⟩:=fE h
 exact bF hT ⟨a0,rfl,kK e rfl⟩ (by exact (lsB _)) hw (hk y hy)
def bT (a0:aP):Option ((Ar 8)×Bool):=bd (cD a0) fun y1=>cn (!y1) (some ((Ar.zero 8),false)) (bd (fT a0) fun y2=>some (y2.1,y2.2))
def cL:List AV→AV→Prop:=fun args r=>∃ a0,args=[bS a0]∧W (bT a0) fun y=>r=(.tup [eAr y.1,eB y.2])
theorem yC {T:Tbl} (hT:TOk Tryd.prog T) (hpf:dD T PF) (h33:T 33=aU eC) (h79:T 79=aU gV):FOk Tryd.prog 54 (aU cL):=by
 refine bO hT hpf Tryd.func54 rfl Tryd.ntmps54 Tryd.results54 (by decide) ?_
 rintro args r ⟨a0,rfl,h⟩
 refine ⟨nle rfl,?_,?_⟩
 ·exact (lsC (cO _) lsN)
 rw [bT.eq_1] at h
 refine aD dCo rfl fun K hK=>?_;conv=>whnf
 refine hK _ _ _ ?_
 refine aN ?_
 refine aD dCo rfl fun K hK=>?_;conv=>whnf
 refine nlA rfl ?_;conv=>whnf
 refine bKo rfl ?_;conv=>whnf
 refine nlA rfl ?_;conv=>whnf
 replace h:=aS h
 refine aE h33 h (WkL.refl _) (fun _ h=>?_);conv=>whnf
 refine hK _ _ _ ?_
 refine bA fun K1 K2 hK1 hK2=>?_;conv=>whnf
 refine cLk h (fun _ h=>?_) (fun _ h=>?_)
 ·refine hK1 ?_
  refine aD dCo rfl fun K hK=>?_;conv=>whnf
  refine bKo rfl ?_;conv=>whnf
  refine pC (x:=(Ar.zero 8)) rfl rfl rfl ?_;conv=>whnf
  refine hK _ _ _ ?_
  refine aG ?_
  refine aR ?_
  replace h:=aF h
  refine aC dCo fun K hK=>?_;conv=>whnf
  refine nlA rfl ?_;conv=>whnf
  refine bKo rfl ?_;conv=>whnf
  refine rE (x:=(Ar.zero 8)) rfl ?_;conv=>whnf
  refine hK _ ?_
  cases h
  exact Wk.refl _
 refine hK2 ?_
 refine aL ?_
 refine tHn ?_
 refine aD dCo rfl fun K hK=>?_;conv=>whnf
 refine nlA rfl ?_;conv=>whnf
 refine bKo rfl ?_;conv=>whnf
 refine nlA rfl ?_;conv=>whnf
 replace h:=aS h
 refine sA h79 h (WkL.refl _) (fun _ h=>?_);conv=>whnf
 refine aZ ?_;conv=>whnf
 refine aZ ?_;conv=>whnf
 refine bKo rfl ?_;conv=>whnf
 refine pC rfl rfl rfl ?_;conv=>whnf
 refine hK _ _ _ ?_
 refine aG ?_
 replace h:=aF h
 refine aC dCo fun K hK=>?_;conv=>whnf
 refine nlA rfl ?_;conv=>whnf
 refine bKo rfl ?_;conv=>whnf
 refine rE rfl ?_;conv=>whnf
 refine hK _ ?_
 cases h
 exact Wk.refl _
theorem cK {T:Tbl} (hT:T 54=aU cL) {args:List AV} {hp:bD} {id:Nat} {k:AV→Prop} {a0:aP} {Φ:(Ar 8)×Bool→Prop} (h:W (bT a0) Φ) (hw:WkL args [bS a0]) (hk:∀ y,Φ y→k (.tup [eAr y.1,eB y.2])):dJ T 54 args hp id k:=by
 obtain ⟨y,e,hy⟩:=fE h
 exact bF hT ⟨a0,rfl,kK e rfl⟩ (by exact fQ (lsC (pG _) (lsC (lsB _) lsN))) hw (hk y hy)
  def lG (a0:aP) (a1:List Int) (y1:(Ar 8)×Bool) (s4:Int×Int):Option (Ct (Int×Int) Bool):=cn (decide (s4.2<(a1.length:Int))) (ix a1 default s4.2 fun e5=>
  jn (fun p6:Bool=>cn p6 (some (.rt false)) (gd (0≤e5) (let v8:=(bor .i64 s4.1 (aD5 .i64 1 e5));some (.nx (v8,(wr (s4.2+1))))))) fun k7=>
  cn (decide (e5<0)) (k7 true) (cn (decide (e5≥a0.N)) (k7 true) (gd (0≤e5) (cn ((tK .i64 (vP .i64 s4.1 e5) 1) ==
  1) (k7 true) (gd (0≤e5∧e5<(8:Int)) (k7 ((uX .i64 (y1.1.at1 e5) s4.1) != 0))))))) (some (.bk (s4.1,s4.2)))
def gZ (a0:aP) (a1:List Int):Option Bool:=bd (bT a0) fun y1=>jn (fun p2:Bool=>
  cn p2 (some false) (bd (lp (lG a0 a1 y1) FU (0,0)) fun c9=>smK c9 (fun s10=>some true) (fun r11=>some r11))) fun k3=>
  cn (!y1.2) (k3 true) (k3 ((a1.length:Int) != a0.N))
def gR:List AV→AV→Prop:=fun args r=>∃ a0 a1,args=[bS a0,(eL 1 eI default) a1]∧W (gZ a0 a1) fun y=>r=(eB y)
theorem tW {T:Tbl} (hT:TOk Tryd.prog T) (hpf:dD T PF) (h54:T 54=aU cL):FOk Tryd.prog 22 (aU gR):=by
 refine bO hT hpf Tryd.func22 rfl Tryd.ntmps22 Tryd.results22 (by decide) ?_
 rintro args r ⟨a0,a1,rfl,h⟩
 refine ⟨nle rfl,?_,?_⟩
 ·exact (lsC (cO _) (lsC (lsL fun _=>(lsI _ _)) lsN))
 rw [gZ.eq_1] at h
 refine aD dCo rfl fun K hK=>?_;conv=>whnf
 refine hK _ _ _ ?_
 refine aD dCo rfl fun K hK=>?_;conv=>whnf
 refine nlA rfl ?_;conv=>whnf
 refine bKo rfl ?_;conv=>whnf
 refine nlA rfl ?_;conv=>whnf
 replace h:=aS h
 refine cK h54 h (WkL.refl _) (fun _ h=>?_);conv=>whnf
 refine aZ ?_;conv=>whnf
 refine aZ ?_;conv=>whnf
 refine aZ ?_;conv=>whnf
 refine bKo rfl ?_;conv=>whnf
 refine pC rfl rfl rfl ?_;conv=>whnf
 refine hK _ _ _ ?_
 refine aN ?_
 refine aD dCo rfl fun K hK=>?_;conv=>whnf
 replace h:=dF h
 refine cLk h (fun _ h=>?_) (fun _ h=>?_)<;>(conv=>whnf)
 ·refine hK _ _ _ ?_
  refine bA fun K1 K2 hK1 hK2=>?_;conv=>whnf
  refine hK1 ?_
  replace h:=mN h
  refine aD dCo rfl fun K hK=>?_;conv=>whnf
  refine hK _ _ _ ?_
  refine aG ?_
  refine aR ?_
  replace h:=aF h
  refine aC dCo fun K hK=>?_;conv=>whnf
  refine hK _ ?_
  cases h
  exact Wk.refl _
 refine nlA rfl ?_;conv=>whnf
 refine bKo rfl ?_;conv=>whnf
 refine gKo rfl ?_;conv=>whnf
 refine hK _ _ _ ?_
 refine bA fun K1 K2 hK1 hK2=>?_;conv=>whnf
 refine cLk h (fun _ h=>?_) (fun _ h=>?_)
 ·refine hK1 ?_
  refine aD dCo rfl fun K hK=>?_;conv=>whnf
  refine hK _ _ _ ?_
  refine aG ?_
  refine aR ?_
  replace h:=aF h
  refine aC dCo fun K hK=>?_;conv=>whnf
  refine hK _ ?_
  cases h
  exact Wk.refl _
 refine hK2 ?_
 refine aL ?_
 refine tHn ?_
 refine aD dCo rfl fun K hK=>?_;conv=>whnf
 refine hK _ _ _ ?_
 refine aN ?_
 refine aD dCo rfl fun K hK=>?_;conv=>whnf
 refine hK _ _ _ ?_
 refine aQ ?_
 replace h:=aS h
 refine hU (body:=lG _ _ _) rfl h [2,5,24,25] [2] [5] [] (fun kl kh kr ids b s=>⟨ofL ([(7,eI s.1),(26,eI s.2)]++kl),ofH (([]++kh)++([]++kr)),b+64⟩) ?_;(conv=>whnf);refine And.intro ?_ (fun s m h=>dO ?_)
 ·refine bR ?_;conv=>whnf
  exact And.intro rfl (And.intro (aLc wkI (aLc wkI (aLc (WkR.ptr (fun _=>rfl)) (aLc (WkR.ptr (fun _=>rfl)) (aLc (wkr (lsL fun _=>(lsI _ _))) (aLc wkI aLn)))))) (aLc ⟨some _,rfl,bRc rfl (cKc wkI (cKc (wkr (lsL fun _=>(aO _))) cKn))⟩ (aLc ⟨some _,rfl,bE rfl rfl⟩ aLn)))
 replace h:=aS h;rw [lG.eq_1] at h
 refine aD dCo rfl fun K hK=>?_;conv=>whnf
 refine hK _ _ _ ?_
 refine aN ?_
 refine bA fun K1 K2 hK1 hK2=>?_;conv=>whnf
 refine cLk h (fun _ h=>?_) (fun _ h=>?_)
 ·refine hK1 ?_
  refine aL ?_
  refine tHn ?_
  refine aN ?_
  refine aQ ?_
  refine aD dCo rfl fun K hK=>?_;conv=>whnf
  refine eQ h fun _ h=>?_;conv=>whnf
  refine gKo rfl ?_;conv=>whnf
  refine hK _ _ _ ?_
  refine aN ?_
  refine aD dCo rfl fun K hK=>?_;conv=>whnf
  replace h:=dF h
  refine cLk h (fun _ h=>?_) (fun _ h=>?_)<;>(conv=>whnf)
  ·refine hK _ _ _ ?_
   refine bA fun K1 K2 hK1 hK2=>?_;conv=>whnf
   refine hK1 ?_
   replace h:=mN h
   refine aD dCo rfl fun K hK=>?_;conv=>whnf
   refine hK _ _ _ ?_
   refine aG ?_
   refine aR ?_
   refine bB ?_
   refine aR ?_
   refine aR ?_
   refine bB ?_
   refine aR ?_
   replace h:=iJ h
   replace h:=iK h
   replace h:=aF h
   refine aC dCo fun K hK=>?_;conv=>whnf
   refine hK _ ?_
   cases h
   exact Wk.refl _
  refine nlA rfl ?_;conv=>whnf
  refine bKo rfl ?_;conv=>whnf
  refine gKo rfl ?_;conv=>whnf
  refine cLk h (fun _ h=>?_) (fun _ h=>?_)<;>(conv=>whnf)
  ·refine hK _ _ _ ?_
   refine bA fun K1 K2 hK1 hK2=>?_;conv=>whnf
   refine hK1 ?_
   replace h:=mN h
   refine aD dCo rfl fun K hK=>?_;conv=>whnf
   refine hK _ _ _ ?_
   refine aG ?_
   refine aR ?_
   refine bB ?_
   refine aR ?_
   refine aR ?_
   refine bB ?_
   refine aR ?_
   replace h:=iJ h
   replace h:=iK h
   replace h:=aF h
   refine aC dCo fun K hK=>?_;conv=>whnf
   refine hK _ ?_
   cases h
   exact Wk.refl _
  refine dG h fun _ h=>?_;conv=>whnf
  refine cLk h (fun _ h=>?_) (fun _ h=>?_)<;>(conv=>whnf)
  ·refine hK _ _ _ ?_
   refine bA fun K1 K2 hK1 hK2=>?_;conv=>whnf
   refine hK1 ?_
   replace h:=mN h
   refine aD dCo rfl fun K hK=>?_;conv=>whnf
   refine hK _ _ _ ?_
   refine aG ?_
   refine aR ?_
   refine bB ?_
   refine aR ?_
   refine aR ?_
   refine bB ?_
   refine aR ?_
   replace h:=iJ h
   replace h:=iK h
   replace h:=aF h
   refine aC dCo fun K hK=>?_;conv=>whnf
   refine hK _ ?_
   cases h
   exact Wk.refl _
  refine dG h fun hx30 h=>?_;conv=>whnf
  refine nlA rfl ?_;conv=>whnf
  refine bKo rfl ?_;conv=>whnf
  refine eJ rfl hx30 ?_;conv=>whnf
  refine hK _ _ _ ?_
  refine bA fun K1 K2 hK1 hK2=>?_;conv=>whnf
  refine cLk h (fun _ h=>?_) (fun _ h=>?_)
  ·refine hK1 ?_
   refine aD dCo rfl fun K hK=>?_;conv=>whnf
   refine hK _ _ _ ?_
   refine aG ?_
   refine aR ?_
   refine bB ?_
   refine aR ?_
   refine aR ?_
   refine bB ?_
   refine aR ?_
   replace h:=iJ h
   replace h:=iK h
   replace h:=aF h
   refine aC dCo fun K hK=>?_;conv=>whnf
   refine hK _ ?_
   cases h
   exact Wk.refl _
  refine hK2 ?_
  refine aL ?_
  refine tHn ?_
  refine cX dCo rfl fun K hK=>?_;conv=>whnf
  refine dG h fun _ h=>?_;conv=>whnf
  refine hK _ _ _ ?_
  refine iBn ?_
  refine tHn ?_
  refine cX dCo rfl fun K hK=>?_;conv=>whnf
  refine hK _ _ _ ?_
  refine tHn ?_
  replace h:=bX h
  refine ⟨_,h,?_⟩
  refine bR ?_;conv=>whnf
  exact And.intro rfl (And.intro (aLc wkI (aLc wkI (aLc (WkR.ptr (fun _=>rfl)) (aLc (WkR.ptr (fun _=>rfl)) (aLc (wkr (lsL fun _=>(lsI _ _))) (aLc wkI aLn)))))) (aLc ⟨some _,rfl,bRc rfl (cKc wkI (cKc (wkr (lsL fun _=>(aO _))) cKn))⟩ (aLc ⟨some _,rfl,bE rfl rfl⟩ aLn)))
 refine hK2 ?_
 refine bK ?_
 refine aY ?_
 refine aY ?_
 refine aX ?_
 replace h:=dE h
 replace h:=dB h
 refine tHn ?_
 refine aD dCo rfl fun K hK=>?_;conv=>whnf
 refine hK _ _ _ ?_
 refine aG ?_
 replace h:=aF h
 refine aC dCo fun K hK=>?_;conv=>whnf
 refine hK _ ?_
 cases h
 exact Wk.refl _
theorem mU {T:Tbl} (hT:T 22=aU gR) {args:List AV} {hp:bD} {id:Nat} {k:AV→Prop} {a0:aP} {a1:List Int} {Φ:Bool→Prop} (h:W (gZ a0 a1) Φ) (hw:WkL args [bS a0,(eL 1 eI default) a1]) (hk:∀ y,Φ y→k (eB y)):dJ T 22 args hp id k:=by
 obtain ⟨y,e,hy⟩:=fE h
 exact bF hT ⟨a0,a1,rfl,kK e rfl⟩ (by exact (lsB _)) hw (hk y hy)
def kT (a0:aP):Option (aP×Int):=bd (bT a0) fun y1=>cn (!y1.2) (some ((⟨0,[]⟩:aP),70)) (bd (hO a0.N y1.1) fun y2=>
  some (y2,0))
def iM:List AV→AV→Prop:=fun args r=>∃ a0,args=[bS a0]∧W (kT a0) fun y=>r=(.tup [bS y.1,eI y.2])
theorem vZ {T:Tbl} (hT:TOk Tryd.prog T) (hpf:dD T PF) (h54:T 54=aU cL) (h58:T 58=aU fR):FOk Tryd.prog 24 (aU iM):=by
 refine bO hT hpf Tryd.func24 rfl Tryd.ntmps24 Tryd.results24 (by decide) ?_
 rintro args r ⟨a0,rfl,h⟩
 refine ⟨nle rfl,?_,?_⟩
 ·exact (lsC (cO _) lsN)
 rw [kT.eq_1] at h
 refine aD dCo rfl fun K hK=>?_;conv=>whnf
 refine hK _ _ _ ?_
 refine aD dCo rfl fun K hK=>?_;conv=>whnf
 refine nlA rfl ?_;conv=>whnf
 refine bKo rfl ?_;conv=>whnf
 refine nlA rfl ?_;conv=>whnf
 replace h:=aS h
 refine cK h54 h (WkL.refl _) (fun _ h=>?_);conv=>whnf
 refine aZ ?_;conv=>whnf
 refine aZ ?_;conv=>whnf
 refine aZ ?_;conv=>whnf
 refine bKo rfl ?_;conv=>whnf
 refine pC rfl rfl rfl ?_;conv=>whnf
 refine hK _ _ _ ?_
 refine aN ?_
 refine aD dCo rfl fun K hK=>?_;conv=>whnf
 refine hK _ _ _ ?_
 refine bA fun K1 K2 hK1 hK2=>?_;conv=>whnf
 refine cLk h (fun _ h=>?_) (fun _ h=>?_)
 ·refine hK1 ?_
  refine aD dCo rfl fun K hK=>?_;conv=>whnf
  refine bKo rfl ?_;conv=>whnf
  refine And.intro rfl (And.intro (nle rfl) (And.intro rfl ?_));conv=>whnf
  refine hK _ _ _ ?_
  refine aG ?_
  refine aR ?_
  replace h:=aF h
  refine aC dCo fun K hK=>?_;conv=>whnf
  refine nlA rfl ?_;conv=>whnf
  refine bKo rfl ?_;conv=>whnf
  refine nlA rfl ?_;conv=>whnf
  refine hK _ ?_
  cases h
  exact oM (aA (aK (aA (Wk.refl _) (aA kI aB))) (aA (Wk.refl _) aB))
 refine hK2 ?_
 refine aL ?_
 refine tHn ?_
 refine aD dCo rfl fun K hK=>?_;conv=>whnf
 refine nlA rfl ?_;conv=>whnf
 refine bKo rfl ?_;conv=>whnf
 refine gKo rfl ?_;conv=>whnf
 refine nlA rfl ?_;conv=>whnf
 refine bKo rfl ?_;conv=>whnf
 refine rE rfl ?_;conv=>whnf
 refine aZ ?_;conv=>whnf
 replace h:=aS h
 refine mW h58 h (WkL.refl _) (fun _ h=>?_);conv=>whnf
 refine bKo rfl ?_;conv=>whnf
 refine And.intro rfl (And.intro (nle rfl) (And.intro rfl ?_));conv=>whnf
 refine hK _ _ _ ?_
 refine aG ?_
 replace h:=aF h
 refine aC dCo fun K hK=>?_;conv=>whnf
 refine nlA rfl ?_;conv=>whnf
 refine bKo rfl ?_;conv=>whnf
 refine nlA rfl ?_;conv=>whnf
 refine hK _ ?_
 cases h
 exact Wk.refl _
theorem tC {T:Tbl} (hT:T 24=aU iM) {args:List AV} {hp:bD} {id:Nat} {k:AV→Prop} {a0:aP} {Φ:aP×Int→Prop} (h:W (kT a0) Φ) (hw:WkL args [bS a0]) (hk:∀ y,Φ y→k (.tup [bS y.1,eI y.2])):dJ T 24 args hp id k:=by
 obtain ⟨y,e,hy⟩:=fE h
 exact bF hT ⟨a0,rfl,kK e rfl⟩ (by exact fQ (lsC (cO _) (lsC (lsI _ _) lsN))) hw (hk y hy)
  def lO (a0:aP) (s2:Int×(Ar 8)) (y1:(Ar 8)×Bool) (s3:Int×(Ar 8)):Option (Ct (Int×(Ar 8)) (aP×Int)):=cn (decide (s3.1<a0.N)) (gd (0≤s2.1∧s2.1<(8:Int)) (gd (0≤s3.1) (jn (fun p4:(Ar 8)=>
  some (.nx ((wr (s3.1+1)),p4))) fun k5=>cn ((tK .i64 (vP .i64 (y1.1.at1 s2.1) s3.1) 1) ==
  1) (gd (0≤s2.1∧s2.1<(8:Int)) (gd (0≤s3.1∧s3.1<(8:Int)) (gd (0≤s2.1∧s2.1<(8:Int)) (let m6:=s3.2.st1 s2.1 (uX .i64 (s3.2.at1 s2.1) (y1.1.at1 s3.1));
  k5 m6)))) (k5 s3.2)))) (some (.bk (s3.1,s3.2)))
  def lB (a0:aP) (y1:(Ar 8)×Bool) (s2:Int×(Ar 8)):Option (Ct (Int×(Ar 8)) (aP×Int)):=cn (decide (s2.1<a0.N)) (bd (lp (lO a0 s2 y1) FU (0,s2.2)) fun c7=>
  smK c7 (fun s8=>some (.nx ((wr (s2.1+1)),s8.2))) (fun r9=>some (.rt r9))) (some (.bk (s2.1,s2.2)))
def jL (a0:aP):Option (aP×Int):=bd (bT a0) fun y1=>
  cn (!y1.2) (some ((⟨0,[]⟩:aP),70)) (bd (lp (lB a0 y1) FU (0,y1.1)) fun c10=>smK c10 (fun s11=>bd (hO a0.N s11.2) fun y13=>
  some (y13,0)) (fun r12=>some r12))
def gT:List AV→AV→Prop:=fun args r=>∃ a0,args=[bS a0]∧W (jL a0) fun y=>r=(.tup [bS y.1,eI y.2])
theorem uR {T:Tbl} (hT:TOk Tryd.prog T) (hpf:dD T PF) (h54:T 54=aU cL) (h58:T 58=aU fR):FOk Tryd.prog 25 (aU gT):=by
 refine bO hT hpf Tryd.func25 rfl Tryd.ntmps25 Tryd.results25 (by decide) ?_
 rintro args r ⟨a0,rfl,h⟩
 refine ⟨nle rfl,?_,?_⟩
 ·exact (lsC (cO _) lsN)
 rw [jL.eq_1] at h
 refine aD dCo rfl fun K hK=>?_;conv=>whnf
 refine hK _ _ _ ?_
 refine aD dCo rfl fun K hK=>?_;conv=>whnf
 refine nlA rfl ?_;conv=>whnf
 refine bKo rfl ?_;conv=>whnf
 refine nlA rfl ?_;conv=>whnf
 replace h:=aS h
 refine cK h54 h (WkL.refl _) (fun _ h=>?_);conv=>whnf
 refine aZ ?_;conv=>whnf
 refine aZ ?_;conv=>whnf
 refine aZ ?_;conv=>whnf
 refine bKo rfl ?_;conv=>whnf
 refine pC rfl rfl rfl ?_;conv=>whnf
 refine hK _ _ _ ?_
 refine aN ?_
 refine aD dCo rfl fun K hK=>?_;conv=>whnf
 refine hK _ _ _ ?_
 refine bA fun K1 K2 hK1 hK2=>?_;conv=>whnf
 refine cLk h (fun _ h=>?_) (fun _ h=>?_)
 ·refine hK1 ?_
  refine aD dCo rfl fun K hK=>?_;conv=>whnf
  refine bKo rfl ?_;conv=>whnf
  refine And.intro rfl (And.intro (nle rfl) (And.intro rfl ?_));conv=>whnf
  refine hK _ _ _ ?_
  refine aG ?_
  refine aR ?_
  replace h:=aF h
  refine aC dCo fun K hK=>?_;conv=>whnf
  refine nlA rfl ?_;conv=>whnf
  refine bKo rfl ?_;conv=>whnf
  refine nlA rfl ?_;conv=>whnf
  refine hK _ ?_
  cases h
  exact oM (aA (aK (aA (Wk.refl _) (aA kI aB))) (aA (Wk.refl _) aB))
 refine hK2 ?_
 refine aL ?_
 refine tHn ?_
 refine aD dCo rfl fun K hK=>?_;conv=>whnf
 refine nlA rfl ?_;conv=>whnf
 refine bKo rfl ?_;conv=>whnf
 refine rE rfl ?_;conv=>whnf
 refine bKo rfl ?_;conv=>whnf
 refine pC rfl rfl rfl ?_;conv=>whnf
 refine hK _ _ _ ?_
 refine aN ?_
 refine aD dCo rfl fun K hK=>?_;conv=>whnf
 refine nlA rfl ?_;conv=>whnf
 refine bKo rfl ?_;conv=>whnf
 refine gKo rfl ?_;conv=>whnf
 refine hK _ _ _ ?_
 refine aQ ?_
 replace h:=aS h
 refine hU (body:=lB _ _) rfl h [1,2,4,6,19] [1,2] [4] [6] (fun kl kh kr ids b s=>⟨ofL ([(20,eI s.1)]++kl),ofH (([]++kh)++([(aAq ids 0,.cells (cA s.2))]++kr)),b+128⟩) ?_;(conv=>whnf);refine And.intro ?_ (fun s m h=>dO ?_)
 ·refine bR ?_;conv=>whnf
  exact And.intro rfl (And.intro (aLc wkI (aLc (WkR.ptr (fun _=>rfl)) (aLc (WkR.ptr (fun _=>rfl)) (aLc (WkR.ptr (fun _=>rfl)) (aLc (WkR.ptr (fun _=>rfl)) (aLc wkI aLn)))))) (aLc ⟨some _,rfl,bRc rfl (cKc wkI (cKc (wkr (lsL fun _=>(aO _))) cKn))⟩ (aLc ⟨some _,rfl,bRc rfl (cKc wkI (cKc (wkr cG) cKn))⟩ (aLc ⟨some _,rfl,bE rfl rfl⟩ (aLc ⟨some _,rfl,bE rfl rfl⟩ aLn)))))
 replace h:=aS h;rw [lB.eq_1] at h
 refine aD dCo rfl fun K hK=>?_;conv=>whnf
 refine hK _ _ _ ?_
 refine aN ?_
 refine bA fun K1 K2 hK1 hK2=>?_;conv=>whnf
 refine cLk h (fun _ h=>?_) (fun _ h=>?_)
 ·refine hK1 ?_
  refine aL ?_
  refine tHn ?_
  refine aN ?_
  refine aQ ?_
  refine aD dCo rfl fun K hK=>?_;conv=>whnf
  refine hK _ _ _ ?_
  refine aD dCo rfl fun K hK=>?_;conv=>whnf
  refine nlA rfl ?_;conv=>whnf
  refine bKo rfl ?_;conv=>whnf
  refine gKo rfl ?_;conv=>whnf
  refine hK _ _ _ ?_
  refine aQ ?_
  replace h:=aS h
  refine hU (body:=lO _ _ _) rfl h [1,2,4,6,7,19,20,24] [1,2] [4] [6] (fun kl kh kr ids b s=>⟨ofL ([(25,eI s.1)]++kl),ofH (([]++kh)++([(aAq ids 0,.cells (cA s.2))]++kr)),b+128⟩) ?_;(conv=>whnf);refine And.intro ?_ (fun s m h=>dO ?_)
  ·refine bR ?_;conv=>whnf
   exact And.intro rfl (And.intro (aLc wkI (aLc (WkR.ptr (fun _=>rfl)) (aLc (WkR.ptr (fun _=>rfl)) (aLc (WkR.ptr (fun _=>rfl)) (aLc (WkR.ptr (fun _=>rfl)) (aLc wkI (aLc wkI (aLc wkI (aLc wkI aLn))))))))) (aLc ⟨some _,rfl,bRc rfl (cKc wkI (cKc (wkr (lsL fun _=>(aO _))) cKn))⟩ (aLc ⟨some _,rfl,bRc rfl (cKc wkI (cKc (wkr cG) cKn))⟩ (aLc ⟨some _,rfl,bE rfl rfl⟩ (aLc ⟨some _,rfl,bE rfl rfl⟩ aLn)))))
  replace h:=aS h;rw [lO.eq_1] at h
  refine aD dCo rfl fun K hK=>?_;conv=>whnf
  refine hK _ _ _ ?_
  refine aN ?_
  refine bA fun K1 K2 hK1 hK2=>?_;conv=>whnf
  refine cLk h (fun _ h=>?_) (fun _ h=>?_)
  ·refine hK1 ?_
   refine aL ?_
   refine tHn ?_
   refine aN ?_
   refine aQ ?_
   refine aD dCo rfl fun K hK=>?_;conv=>whnf
   refine hK _ _ _ ?_
   refine aD dCo rfl fun K hK=>?_;conv=>whnf
   refine dG h fun hx465 h=>?_;conv=>whnf
   refine nlA rfl ?_;conv=>whnf
   refine bKo rfl ?_;conv=>whnf
   refine eJ rfl hx465 ?_;conv=>whnf
   refine dG h fun _ h=>?_;conv=>whnf
   refine hK _ _ _ ?_
   replace h:=dF h
   refine bA fun K1 K2 hK1 hK2=>?_;conv=>whnf
   refine cLk h (fun _ h=>?_) (fun _ h=>?_)
   ·refine hK1 ?_
    refine aAs dCo cV rfl (by kernel_rfl) fun K hK=>?_;conv=>whnf
    refine dG h fun hx469 h=>?_;conv=>whnf
    refine nlA rfl ?_;conv=>whnf
    refine bKo rfl ?_;conv=>whnf
    refine eJ rfl hx469 ?_;conv=>whnf
    refine dG h fun hx470 h=>?_;conv=>whnf
    refine nlA rfl ?_;conv=>whnf
    refine bKo rfl ?_;conv=>whnf
    refine eJ rfl hx470 ?_;conv=>whnf
    refine dG h fun hx471 h=>?_;conv=>whnf
    refine bKo rfl ?_;conv=>whnf
    refine wJ rfl hx471 rfl rfl ?_;conv=>whnf
    refine hK _ _ _ ?_
    refine iBn ?_
    refine tHn ?_
    refine cX dCo rfl fun K hK=>?_;conv=>whnf
    refine hK _ _ _ ?_
    refine tHn ?_
    replace h:=bX h
    refine ⟨_,h,?_⟩
    refine bR ?_;conv=>whnf
    exact And.intro rfl (And.intro (aLc wkI (aLc (WkR.ptr (fun _=>rfl)) (aLc (WkR.ptr (fun _=>rfl)) (aLc (WkR.ptr (fun _=>rfl)) (aLc (WkR.ptr (fun _=>rfl)) (aLc wkI (aLc wkI (aLc wkI (aLc wkI aLn))))))))) (aLc ⟨some _,rfl,bRc rfl (cKc wkI (cKc (wkr (lsL fun _=>(aO _))) cKn))⟩ (aLc ⟨some _,rfl,bRc rfl (cKc wkI (cKc (wkr cG) cKn))⟩ (aLc ⟨some _,rfl,bE rfl rfl⟩ (aLc ⟨some _,rfl,bE rfl rfl⟩ aLn)))))
   refine hK2 ?_
   refine aL ?_
   refine iBn ?_
   refine tHn ?_
   refine cX dCo rfl fun K hK=>?_;conv=>whnf
   refine hK _ _ _ ?_
   refine tHn ?_
   replace h:=bX h
   refine ⟨_,h,?_⟩
   refine bR ?_;conv=>whnf
   exact And.intro rfl (And.intro (aLc wkI (aLc (WkR.ptr (fun _=>rfl)) (aLc (WkR.ptr (fun _=>rfl)) (aLc (WkR.ptr (fun _=>rfl)) (aLc (WkR.ptr (fun _=>rfl)) (aLc wkI (aLc wkI (aLc wkI (aLc wkI aLn))))))))) (aLc ⟨some _,rfl,bRc rfl (cKc wkI (cKc (wkr (lsL fun _=>(aO _))) cKn))⟩ (aLc ⟨some _,rfl,bRc rfl (cKc wkI (cKc (wkr cG) cKn))⟩ (aLc ⟨some _,rfl,bE rfl rfl⟩ (aLc ⟨some _,rfl,bE rfl rfl⟩ aLn)))))
  refine hK2 ?_
  refine bK ?_
  refine aY ?_
  refine aY ?_
  refine aX ?_
  replace h:=dE h
  replace h:=dB h
  refine iBn ?_
  refine tHn ?_
  refine cX dCo rfl fun K hK=>?_;conv=>whnf
  refine hK _ _ _ ?_
  refine tHn ?_
  replace h:=bX h
  refine ⟨_,h,?_⟩
  refine bR ?_;conv=>whnf
  exact And.intro rfl (And.intro (aLc wkI (aLc (WkR.ptr (fun _=>rfl)) (aLc (WkR.ptr (fun _=>rfl)) (aLc (WkR.ptr (fun _=>rfl)) (aLc (WkR.ptr (fun _=>rfl)) (aLc wkI aLn)))))) (aLc ⟨some _,rfl,bRc rfl (cKc wkI (cKc (wkr (lsL fun _=>(aO _))) cKn))⟩ (aLc ⟨some _,rfl,bRc rfl (cKc wkI (cKc (wkr cG) cKn))⟩ (aLc ⟨some _,rfl,bE rfl rfl⟩ (aLc ⟨some _,rfl,bE rfl rfl⟩ aLn)))))
 refine hK2 ?_
 refine bK ?_
 refine aY ?_
 refine aY ?_
 refine aX ?_
 replace h:=dE h
 replace h:=dB h
 refine tHn ?_
 refine aD dCo rfl fun K hK=>?_;conv=>whnf
 refine nlA rfl ?_;conv=>whnf
 refine bKo rfl ?_;conv=>whnf
 refine gKo rfl ?_;conv=>whnf
 refine nlA rfl ?_;conv=>whnf
 refine bKo rfl ?_;conv=>whnf
 refine rE rfl ?_;conv=>whnf
 refine aZ ?_;conv=>whnf
 replace h:=aS h
 refine mW h58 h (WkL.refl _) (fun _ h=>?_);conv=>whnf
 refine bKo rfl ?_;conv=>whnf
 refine And.intro rfl (And.intro (nle rfl) (And.intro rfl ?_));conv=>whnf
 refine hK _ _ _ ?_
 refine aG ?_
 replace h:=aF h
 refine aC dCo fun K hK=>?_;conv=>whnf
 refine nlA rfl ?_;conv=>whnf
 refine bKo rfl ?_;conv=>whnf
 refine nlA rfl ?_;conv=>whnf
 refine hK _ ?_
 cases h
 exact Wk.refl _
theorem sG {T:Tbl} (hT:T 25=aU gT) {args:List AV} {hp:bD} {id:Nat} {k:AV→Prop} {a0:aP} {Φ:aP×Int→Prop} (h:W (jL a0) Φ) (hw:WkL args [bS a0]) (hk:∀ y,Φ y→k (.tup [bS y.1,eI y.2])):dJ T 25 args hp id k:=by
 obtain ⟨y,e,hy⟩:=fE h
 exact bF hT ⟨a0,rfl,kK e rfl⟩ (by exact fQ (lsC (cO _) (lsC (lsI _ _) lsN))) hw (hk y hy)
def bU (a0:aP) (a1:Int) (a2:Int):Option Bool:=bd (bT a0) fun y1=>jn (fun p2:Bool=>some p2) fun k3=>
  cn y1.2 (cn (decide ((aJs a1 a2)≥0)) (cn (decide ((aH0 a1 a2)<a0.N)) (gd (0≤a2∧a2<(8:Int)) (gd (0≤a1) (let v4:=((tK .i64 (vP .i64 (y1.1.at1 a2) a1) 1) ==
  1);k3 v4))) (k3 false)) (k3 false)) (k3 false)
def eT:List AV→AV→Prop:=fun args r=>∃ a0 a1 a2,args=[bS a0,eI a1,eI a2]∧W (bU a0 a1 a2) fun y=>r=(eB y)
theorem uW {T:Tbl} (hT:TOk Tryd.prog T) (hpf:dD T PF) (h54:T 54=aU cL):FOk Tryd.prog 27 (aU eT):=by
 refine bO hT hpf Tryd.func27 rfl Tryd.ntmps27 Tryd.results27 (by decide) ?_
 rintro args r ⟨a0,a1,a2,rfl,h⟩
 refine ⟨nle rfl,?_,?_⟩
 ·exact (lsC (cO _) (lsC (lsI _ _) (lsC (lsI _ _) lsN)))
 rw [bU.eq_1] at h
 refine aD dCo rfl fun K hK=>?_;conv=>whnf
 refine hK _ _ _ ?_
 refine aD dCo rfl fun K hK=>?_;conv=>whnf
 refine nlA rfl ?_;conv=>whnf
 refine bKo rfl ?_;conv=>whnf
 refine nlA rfl ?_;conv=>whnf
 replace h:=aS h
 refine cK h54 h (WkL.refl _) (fun _ h=>?_);conv=>whnf
 refine aZ ?_;conv=>whnf
 refine aZ ?_;conv=>whnf
 refine aZ ?_;conv=>whnf
 refine bKo rfl ?_;conv=>whnf
 refine pC rfl rfl rfl ?_;conv=>whnf
 refine hK _ _ _ ?_
 refine aD dCo rfl fun K hK=>?_;conv=>whnf
 replace h:=dF h
 refine cLk h (fun _ h=>?_) (fun _ h=>?_)<;>(conv=>whnf)
 ·refine cLk h (fun _ h=>?_) (fun _ h=>?_)<;>(conv=>whnf)
  ·refine nlA rfl ?_;conv=>whnf
   refine bKo rfl ?_;conv=>whnf
   refine gKo rfl ?_;conv=>whnf
   refine cLk h (fun _ h=>?_) (fun _ h=>?_)<;>(conv=>whnf)
   ·refine dG h fun hx476 h=>?_;conv=>whnf
    refine nlA rfl ?_;conv=>whnf
    refine bKo rfl ?_;conv=>whnf
    refine eJ rfl hx476 ?_;conv=>whnf
    refine dG h fun _ h=>?_;conv=>whnf
    refine hK _ _ _ ?_
    refine aG ?_
    replace h:=aF h
    refine aC dCo fun K hK=>?_;conv=>whnf
    refine hK _ ?_
    cases h
    exact Wk.refl _
   refine hK _ _ _ ?_
   refine aG ?_
   replace h:=aF h
   refine aC dCo fun K hK=>?_;conv=>whnf
   refine hK _ ?_
   cases h
   exact Wk.refl _
  refine hK _ _ _ ?_
  refine aG ?_
  replace h:=aF h
  refine aC dCo fun K hK=>?_;conv=>whnf
  refine hK _ ?_
  cases h
  exact Wk.refl _
 refine hK _ _ _ ?_
 refine aG ?_
 replace h:=aF h
 refine aC dCo fun K hK=>?_;conv=>whnf
 refine hK _ ?_
 cases h
 exact Wk.refl _
theorem bH {T:Tbl} (hT:T 27=aU eT) {args:List AV} {hp:bD} {id:Nat} {k:AV→Prop} {a0:aP} {a1:Int} {a2:Int} {Φ:Bool→Prop} (h:W (bU a0 a1 a2) Φ) (hw:WkL args [bS a0,eI a1,eI a2]) (hk:∀ y,Φ y→k (eB y)):dJ T 27 args hp id k:=by
 obtain ⟨y,e,hy⟩:=fE h
 exact bF hT ⟨a0,a1,a2,rfl,kK e rfl⟩ (by exact (lsB _)) hw (hk y hy)
def cT (a0:aP):Option Bool:=bd (bT a0) fun y1=>some y1.2
def gJ:List AV→AV→Prop:=fun args r=>∃ a0,args=[bS a0]∧W (cT a0) fun y=>r=(eB y)
theorem vS {T:Tbl} (hT:TOk Tryd.prog T) (hpf:dD T PF) (h54:T 54=aU cL):FOk Tryd.prog 34 (aU gJ):=by
 refine bO hT hpf Tryd.func34 rfl Tryd.ntmps34 Tryd.results34 (by decide) ?_
 rintro args r ⟨a0,rfl,h⟩
 refine ⟨nle rfl,?_,?_⟩
 ·exact (lsC (cO _) lsN)
 rw [cT.eq_1] at h
 refine aD dCo rfl fun K hK=>?_;conv=>whnf
 refine hK _ _ _ ?_
 refine aD dCo rfl fun K hK=>?_;conv=>whnf
 refine nlA rfl ?_;conv=>whnf
 refine bKo rfl ?_;conv=>whnf
 refine nlA rfl ?_;conv=>whnf
 replace h:=aS h
 refine cK h54 h (WkL.refl _) (fun _ h=>?_);conv=>whnf
 refine aZ ?_;conv=>whnf
 refine aZ ?_;conv=>whnf
 refine aZ ?_;conv=>whnf
 refine bKo rfl ?_;conv=>whnf
 refine pC rfl rfl rfl ?_;conv=>whnf
 refine hK _ _ _ ?_
 refine aD dCo rfl fun K hK=>?_;conv=>whnf
 refine hK _ _ _ ?_
 refine aG ?_
 replace h:=aF h
 refine aC dCo fun K hK=>?_;conv=>whnf
 refine hK _ ?_
 cases h
 exact Wk.refl _
theorem aI {T:Tbl} (hT:T 34=aU gJ) {args:List AV} {hp:bD} {id:Nat} {k:AV→Prop} {a0:aP} {Φ:Bool→Prop} (h:W (cT a0) Φ) (hw:WkL args [bS a0]) (hk:∀ y,Φ y→k (eB y)):dJ T 34 args hp id k:=by
 obtain ⟨y,e,hy⟩:=fE h
 exact bF hT ⟨a0,rfl,kK e rfl⟩ (by exact (lsB _)) hw (hk y hy)
def dW:List AV→AV→Prop:=fun args r=>∃ (a0:Int) (a1:Ar 8),args=[eI a0,eAr a1]∧r=.fn 81 [] [.ep [eI a0] 0,.ep (cA a1) 0]
theorem sC {T:Tbl} (hT:TOk Tryd.prog T) (hpf:dD T PF):FOk Tryd.prog 56 (aU dW):=by
 refine bO hT hpf Tryd.func56 rfl Tryd.ntmps56 Tryd.results56 (by decide) ?_
 rintro args r ⟨a0,a1,rfl,rfl⟩
 refine ⟨nle rfl,?_,?_⟩
 ·exact (lsC (lsI _ _) (lsC (pG _) lsN))
 refine aD dCo rfl fun K hK=>?_;conv=>whnf
 refine aZ ?_;conv=>whnf
 refine hK _ _ _ ?_
 refine lH 2 ?_;(conv=>whnf);refine ⟨_,rfl,?_⟩
 refine lH 3 ?_;(conv=>whnf);refine ⟨_,rfl,?_⟩
 refine aD dCo rfl fun K hK=>?_;conv=>whnf
 refine hK _ _ _ ?_
 refine aG ?_
 refine aC dCo fun K hK=>?_;conv=>whnf
 refine hK _ ?_
 exact Wk.refl _
  def iC (a9000:Type) (c900:Int) (c901:Ar 8) (s1:Int×a9000) (s2:Int×Int):Option (Ct (Int×Int) a9000):=cn (decide (s2.2<c900)) (gd (0≤s2.2) (jn (fun p3:Int=>
  some (.nx (p3,(wr (s2.2+1))))) fun k4=>cn ((tK .i64 (vP .i64 s1.1 s2.2) 1)==1) (gd (0≤s2.2∧s2.2<(8:Int)) (let v5:=(bor .i64 s2.1 (c901.at1 s2.2));
  k4 v5)) (k4 s2.1))) (some (.bk (s2.1,s2.2)))
  def iD (a9000:Type) (c900:Int) (c901:Ar 8) (f9001:Int→a9000→Option a9000) (s1:Int×a9000):Option (Ct (Int×a9000) a9000):=cn (decide (s1.1<(aD5 .i64 1 c900))) (bd (lp (iC a9000 c900 c901 s1) FU (0,0)) fun c6=>
  smK c6 (fun s7=>jn (fun p9:a9000=>some (.nx ((wr (s1.1+1)),p9))) fun k10=>cn ((uX .i64 s7.1 s1.1)==0) (bd (f9001 s1.1 s1.2) fun g11=>
  k10 g11) (k10 s1.2)) (fun r8=>some (.rt r8))) (some (.bk (s1.1,s1.2)))
  def dV (c900:Int) (c901:Ar 8) (a9000:Type) (f9001:Int→a9000→Option a9000) (g9002:a9000):Option a9000:=gd (0≤c900) (bd (lp (iD a9000 c900 c901 f9001) FU (0,g9002)) fun c12=>
  smK c12 (fun s13=>some s13.2) (fun r14=>some r14))
def eO:List AV→(∀ σ:Type,(Int→σ→Option σ)→σ→Option σ)→Prop:=fun caps F=>∃ (c900:Int) (c901:Ar 8),caps=[.ep [eI c900] 0,.ep (cA c901) 0]∧F=dV c900 c901
theorem qT {T:Tbl} (hT:TOk Tryd.prog T) (hpf:dD T PF):FOk Tryd.prog 81 (itR Tryd.prog (fun x=>[Value.int .i64 x]) eO):=by
 refine aIF hT hpf Tryd.func81 rfl Tryd.ntmps81 Tryd.results81 (by decide) ?_
 rintro caps F ⟨c900,c901,rfl,rfl⟩
 refine ⟨(lsC (lsE (lsC (lsI _ _) lsN)) (lsC (lsE (aW _)) lsN)),nle rfl,fun gS gG a9000 gi f9001 g9002 gfin hP hY h=>?_⟩
 rw [dV.eq_1] at h
 refine aD dCo rfl fun K hK=>?_;conv=>whnf
 refine gKo rfl ?_;conv=>whnf
 refine dG h fun _ h=>?_;conv=>whnf
 refine hK _ _ _ ?_
 refine aQ ?_
 replace h:=aS h
 refine fP (body:=iD _ _ _ _) rfl h [0,1,2,8] [] [] (fun kl kh ids b s=>⟨ofL ([(9,eI s.1)]++kl),ofH ([(0,.gh gS gG (gi s.2))]++kh),b+64⟩) ?_;(conv=>whnf);refine And.intro ?_ (fun s m h=>dO ?_)
 ·refine bI ?_;conv=>whnf
  exact And.intro rfl (And.intro (aLc wkI (aLc (sN (fun _=>rfl)) (aLc (wkr (lsE (lsC (lsI _ _) lsN))) (aLc (wkr (lsE (aW _))) (aLc wkI aLn))))) (aLc ⟨some _,rfl,aCN rfl⟩ aLn))
 replace h:=aS h;rw [iD.eq_1] at h
 refine aD dCo rfl fun K hK=>?_;conv=>whnf
 refine hK _ _ _ ?_
 refine aN ?_
 refine bA fun K1 K2 hK1 hK2=>?_;conv=>whnf
 refine cLk h (fun _ h=>?_) (fun _ h=>?_)
 ·refine hK1 ?_
  refine aL ?_
  refine tHn ?_
  refine aN ?_
  refine aQ ?_
  refine aD dCo rfl fun K hK=>?_;conv=>whnf
  refine hK _ _ _ ?_
  refine aD dCo rfl fun K hK=>?_;conv=>whnf
  refine hK _ _ _ ?_
  refine aN ?_
  refine aD dCo rfl fun K hK=>?_;conv=>whnf
  refine gKo rfl ?_;conv=>whnf
  refine hK _ _ _ ?_
  refine aQ ?_
  replace h:=aS h
  refine aFS (body:=iC _ _ _ _) rfl h [0,1,2,4,8,9,12] (fun σ=>aKf σ++oJ σ []++rS σ []) [] (fun kl kh ids b s=>⟨ofL ([(5,eI s.1),(13,eI s.2)]++kl),ofH ([]++kh),b+64⟩) ?_;(conv=>whnf);refine And.intro ?_ (fun s m h=>dO ?_)
  ·refine bI ?_;conv=>whnf
   exact And.intro rfl (And.intro (aLc wkI (aLc wkI (aLc (sN (fun _=>rfl)) (aLc (wkr (lsE (lsC (lsI _ _) lsN))) (aLc (wkr (lsE (aW _))) (aLc wkI (aLc wkI (aLc wkI (aLc wkI aLn))))))))) (aLc ⟨some _,rfl,aCN rfl⟩ aLn))
  replace h:=aS h;rw [iC.eq_1] at h
  refine aD dCo rfl fun K hK=>?_;conv=>whnf
  refine hK _ _ _ ?_
  refine aN ?_
  refine bA fun K1 K2 hK1 hK2=>?_;conv=>whnf
  refine cLk h (fun _ h=>?_) (fun _ h=>?_)
  ·refine hK1 ?_
   refine aL ?_
   refine tHn ?_
   refine aN ?_
   refine aQ ?_
   refine aD dCo rfl fun K hK=>?_;conv=>whnf
   refine hK _ _ _ ?_
   refine aD dCo rfl fun K hK=>?_;conv=>whnf
   refine dG h fun _ h=>?_;conv=>whnf
   refine hK _ _ _ ?_
   replace h:=dF h
   refine bA fun K1 K2 hK1 hK2=>?_;conv=>whnf
   refine cLk h (fun _ h=>?_) (fun _ h=>?_)
   ·refine hK1 ?_
    refine cX dCo rfl fun K hK=>?_;conv=>whnf
    refine dG h fun hx200 h=>?_;conv=>whnf
    refine eJ rfl hx200 ?_;conv=>whnf
    refine hK _ _ _ ?_
    refine iBn ?_
    refine tHn ?_
    refine cX dCo rfl fun K hK=>?_;conv=>whnf
    refine hK _ _ _ ?_
    refine tHn ?_
    replace h:=bX h
    refine ⟨_,h,?_⟩
    refine bI ?_;conv=>whnf
    exact And.intro rfl (And.intro (aLc wkI (aLc wkI (aLc (sN (fun _=>rfl)) (aLc (wkr (lsE (lsC (lsI _ _) lsN))) (aLc (wkr (lsE (aW _))) (aLc wkI (aLc wkI (aLc wkI (aLc wkI aLn))))))))) (aLc ⟨some _,rfl,aCN rfl⟩ aLn))
   refine hK2 ?_
   refine aL ?_
   refine iBn ?_
   refine tHn ?_
   refine cX dCo rfl fun K hK=>?_;conv=>whnf
   refine hK _ _ _ ?_
   refine tHn ?_
   replace h:=bX h
   refine ⟨_,h,?_⟩
   refine bI ?_;conv=>whnf
   exact And.intro rfl (And.intro (aLc wkI (aLc wkI (aLc (sN (fun _=>rfl)) (aLc (wkr (lsE (lsC (lsI _ _) lsN))) (aLc (wkr (lsE (aW _))) (aLc wkI (aLc wkI (aLc wkI (aLc wkI aLn))))))))) (aLc ⟨some _,rfl,aCN rfl⟩ aLn))
  refine hK2 ?_
  refine bK ?_
  refine aY ?_
  refine aY ?_
  refine aX ?_
  replace h:=dE h
  replace h:=dB h
  refine tHn ?_
  refine aD dCo rfl fun K hK=>?_;conv=>whnf
  replace h:=dF h
  refine cLk h (fun _ h=>?_) (fun _ h=>?_)<;>(conv=>whnf)
  ·refine aIt hY hP h rfl (aFk _) (fun _ h=>?_);conv=>whnf
   refine hK _ _ _ ?_
   refine bA fun K1 K2 hK1 hK2=>?_;conv=>whnf
   refine hK2 ?_
   refine aL ?_
   refine iBn ?_
   refine tHn ?_
   refine cX dCo rfl fun K hK=>?_;conv=>whnf
   refine hK _ _ _ ?_
   refine tHn ?_
   replace h:=bX h
   refine ⟨_,h,?_⟩
   refine bI ?_;conv=>whnf
   exact And.intro rfl (And.intro (aLc wkI (aLc (sN (fun _=>rfl)) (aLc (wkr (lsE (lsC (lsI _ _) lsN))) (aLc (wkr (lsE (aW _))) (aLc wkI aLn))))) (aLc ⟨some _,rfl,aCN rfl⟩ aLn))
  refine hK _ _ _ ?_
  refine bA fun K1 K2 hK1 hK2=>?_;conv=>whnf
  refine hK2 ?_
  refine aL ?_
  refine iBn ?_
  refine tHn ?_
  refine cX dCo rfl fun K hK=>?_;conv=>whnf
  refine hK _ _ _ ?_
  refine tHn ?_
  replace h:=bX h
  refine ⟨_,h,?_⟩
  refine bI ?_;conv=>whnf
  exact And.intro rfl (And.intro (aLc wkI (aLc (sN (fun _=>rfl)) (aLc (wkr (lsE (lsC (lsI _ _) lsN))) (aLc (wkr (lsE (aW _))) (aLc wkI aLn))))) (aLc ⟨some _,rfl,aCN rfl⟩ aLn))
 refine hK2 ?_
 refine bK ?_
 refine aY ?_
 refine aY ?_
 refine aX ?_
 replace h:=dE h
 replace h:=dB h
 replace h:=aF h
 cases h
 exact ⟨rfl,rfl⟩
def aGS (x:Int) (l:List Int):Option (List Int):=ap l [x] some
def oW (y:List Int) (b:Nat):AV:=.so b 0 y.length 1
def kG (y:List Int):List AB:=[.cells (flE (ceE eI) y)]
def eW (a0:Int) (a1:Ar 8):Option (List Int):=dV a0 a1 (List Int) aGS []
def dP:List AV→List Int→Prop:=fun args y=>∃ (a0:Int) (a1:Ar 8),args=[.nils,.fn 81 [] [.ep [eI a0] 0,.ep (cA a1) 0]]∧eW a0 a1=some y
def dY:List AV→List Int→Prop:=fun args y=>∃ (a0:Int) (a1:Ar 8),args=[.fn 81 [] [.ep [eI a0] 0,.ep (cA a1) 0]]∧eW a0 a1=some y
theorem nZ {T:Tbl} (hT:TOk Tryd.prog T) (hpf:dD T PF) (h81:T 81=itR Tryd.prog (fun x=>[Value.int .i64 x]) eO):FOk Tryd.prog 80 (aBo oW kG dP):=by
 refine aBG hT hpf Tryd.func80 rfl Tryd.ntmps80 Tryd.results80 (by decide) (fun y=>⟨by simp [kG],by simp [kG,tJ]⟩) ?_
 rintro args y ⟨a0,a1,rfl,hF⟩
 have lofn:(AV.fn 81 [] [.ep [eI a0] 0,.ep (cA a1) 0]).loose:=(pP lsN (lsC (lsE (lsC (lsI _ _) lsN)) (lsC (lsE (aW _)) lsN)))
 refine ⟨nle rfl,(lsC cG (lsC lofn lsN)),fun base=>?_⟩
 refine aD dCo rfl fun K hK=>?_;conv=>whnf
 refine hK _ _ _ ?_
 refine aN ?_
 refine aD dCo rfl fun K hK=>?_;conv=>whnf
 refine hK _ _ _ ?_
 refine aQ ?_
 refine yL rfl rfl (n:=32) (Nat.le_refl _) (σ':=⟨ofL [(2,.ptr 32 0),(6,.fn 81 [] [.ep [eI a0] 0,.ep (cA a1) 0])],ofH [(32,.cells [.so 48 0 ([]:List Int).length 1]),(48,.cells (flE (ceE eI) ([]:List Int)))],1024⟩)
  (wON (by decide) [(32,some 64),(48,none)] ⟨WkR.ptr (fun _=>rfl),wkr lofn,trivial⟩ ⟨⟨_,rfl,bRc rfl (cKc (WkR.nilso (fun _=>rfl)) cKn)⟩,⟨_,rfl,aAu⟩,trivial⟩ rfl) ?_
 refine aE8 48 (by decide) (by decide) rfl rfl (fun x=>[eI x]) aFD (fun _=>rfl) (by decide) h81 rfl (F:=dV _ _) (y:=aGS) hF ⟨_,_,rfl,rfl⟩ (nle rfl)
  (aFT (aLc (aJf (by decide)) (aLc (aCl lofn) aLn))) (fun l:List Int=>[(32,.cells [.so 48 0 l.length 1]),(48,.cells (flE (ceE eI) l))]) (fun s=>(aLc rfl (aLc rfl aLn))) (fun x s gfin h=>?_) ?_
 ·rw [aGS.eq_1] at h
  refine cX dCo rfl fun K hK=>?_;conv=>whnf
  refine hK _ _ _ ?_
  refine tHn ?_
  refine aQ ?_
  refine cX dCo rfl fun K hK=>?_;conv=>whnf
  refine nlA rfl ?_;conv=>whnf
  refine bKo rfl ?_;conv=>whnf
  refine gKo rfl ?_;conv=>whnf
  refine cI (enc:=eI) (d:=default) (l:=[x]) (f:=some) (Φ:=fun _=>True) dCo (kK (a:=[x]) (by unfold lt;rfl) trivial) rfl rfl rfl ⟨nle rfl,nle rfl,rfl⟩ rfl ⟨⟨rfl,rfl,rfl⟩,trivial⟩ (fun _=>?_);conv=>whnf
  refine aAY (enc:=eI) (d:=default) dCo h rfl rfl rfl ⟨rfl,nle rfl,nle rfl,nle rfl,rfl⟩ (fun _=>rfl) (fun _=>rfl) (fun _=>nofun) rfl rfl (fun h=>?_);conv=>whnf
  refine bKo rfl ?_;conv=>whnf
  refine And.intro rfl (And.intro (nle rfl) (And.intro rfl ?_));conv=>whnf
  refine hK _ _ _ ?_
  refine iBn ?_
  replace h:=aF h
  cases h
  refine ⟨rfl,_,wON (by decide) [(48,some 1344)] trivial ⟨⟨_,rfl,bRc rfl (cKc (WkR.so (fun _=>rfl)) cKn)⟩,⟨_,rfl,gL rfl (fun _=>(lsC (lsI _ _) lsN))⟩,trivial⟩ rfl⟩
 refine iBn ?_
 refine tHn ?_
 refine yL rfl rfl (n:=32) (Nat.le_refl _) (σ':=⟨ofL [(2,.ptr 32 0)],ofH [(32,.cells [.so 64 0 y.length 1]),(64,.cells (flE (ceE eI) y))],2048⟩)
  (aGb (by decide) ⟨WkR.ptr (fun _=>rfl),trivial⟩ ⟨⟨_,rfl,bRc rfl (cKc (WkR.so (fun _=>rfl)) cKn)⟩,⟨_,rfl,gL rfl (fun _=>(lsC (lsI _ _) lsN))⟩,trivial⟩) ?_
 refine aD dCo rfl fun K hK=>?_;conv=>whnf
 refine nlA rfl ?_;conv=>whnf
 refine bKo rfl ?_;conv=>whnf
 refine gKo rfl ?_;conv=>whnf
 refine hK _ _ _ ?_
 refine aG ?_
 refine uE dCo fun K hK=>?_;conv=>whnf
 refine hK _ ?_
 refine ⟨rfl,rfl,rfl,vL (aDa (k:=0) rfl) rfl,fun k n x h1 h2=>?_⟩
 exact match k,n,x,h1,h2 with | 0,n,x,h1,h2=>by cases h1;cases h2;exact ⟨_,rfl,wK (fun _=>(lsC (lsI _ _) lsN)) _⟩ | k+1,n,x,h1,h2=>by cases h1
theorem oV {T:Tbl} (hT:TOk Tryd.prog T) (hpf:dD T PF) (h80:T 80=aBo oW kG dP):FOk Tryd.prog 55 (aBo oW kG dY):=by
 refine aBG hT hpf Tryd.func55 rfl Tryd.ntmps55 Tryd.results55 (by decide) (fun y=>⟨by simp [kG],by simp [kG,tJ]⟩) ?_
 rintro args y ⟨a0,a1,rfl,hF⟩
 have lofn:(AV.fn 81 [] [.ep [eI a0] 0,.ep (cA a1) 0]).loose:=(pP lsN (lsC (lsE (lsC (lsI _ _) lsN)) (lsC (lsE (aW _)) lsN)))
 refine ⟨nle rfl,(lsC lofn lsN),fun base=>?_⟩
 have h:W (bd (eW a0 a1) some) (fun z=>z=y):=kK (a:=y) (by rw [hF];unfold bd;rfl) rfl
 refine aD dCo rfl fun K hK=>?_;conv=>whnf
 refine hK _ _ _ ?_
 refine aD dCo rfl fun K hK=>?_;conv=>whnf
 refine pN h80 h (fun y e=>(⟨_,_,rfl,e⟩:dP _ _)) (WkL.refl _) (fun _ h=>?_);conv=>whnf
 refine hK _ _ _ ?_
 refine aG ?_
 replace h:=aF h
 refine uE dCo fun K hK=>?_;conv=>whnf
 refine hK _ ?_
 cases h
 refine ⟨rfl,rfl,rfl,vL (aDa (k:=0) rfl) rfl,fun k n x h1 h2=>?_⟩
 exact match k,n,x,h1,h2 with | 0,n,x,h1,h2=>by cases h1;cases h2;exact ⟨_,rfl,wK (fun _=>(lsC (lsI _ _) lsN)) _⟩ | k+1,n,x,h1,h2=>by cases h1
def iB (a0:aP):Option ((List Int)×Int):=bd (bT a0) fun y1=>cn (!y1.2) (some ([],70)) (bd (eW a0.N y1.1) fun y2=>
  some (y2,0))
def fO:List AV→AV→Prop:=fun args r=>∃ a0,args=[bS a0]∧W (iB a0) fun y=>r=(.tup [(eL 1 eI default) y.1,eI y.2])
theorem sB {T:Tbl} (hT:TOk Tryd.prog T) (hpf:dD T PF) (h54:T 54=aU cL) (h55:T 55=aBo oW kG dY) (h56:T 56=aU dW):FOk Tryd.prog 18 (aU fO):=by
 refine bO hT hpf Tryd.func18 rfl Tryd.ntmps18 Tryd.results18 (by decide) ?_
 rintro args r ⟨a0,rfl,h⟩
 refine ⟨nle rfl,?_,?_⟩
 ·exact (lsC (cO _) lsN)
 rw [iB.eq_1] at h
 refine aD dCo rfl fun K hK=>?_;conv=>whnf
 refine hK _ _ _ ?_
 refine aD dCo rfl fun K hK=>?_;conv=>whnf
 refine nlA rfl ?_;conv=>whnf
 refine bKo rfl ?_;conv=>whnf
 refine nlA rfl ?_;conv=>whnf
 replace h:=aS h
 refine cK h54 h (WkL.refl _) (fun _ h=>?_);conv=>whnf
 refine aZ ?_;conv=>whnf
 refine aZ ?_;conv=>whnf
 refine aZ ?_;conv=>whnf
 refine bKo rfl ?_;conv=>whnf
 refine pC rfl rfl rfl ?_;conv=>whnf
 refine hK _ _ _ ?_
 refine aN ?_
 refine aD dCo rfl fun K hK=>?_;conv=>whnf
 refine hK _ _ _ ?_
 refine bA fun K1 K2 hK1 hK2=>?_;conv=>whnf
 refine cLk h (fun _ h=>?_) (fun _ h=>?_)
 ·refine hK1 ?_
  refine aD dCo rfl fun K hK=>?_;conv=>whnf
  refine hK _ _ _ ?_
  refine aG ?_
  refine aR ?_
  replace h:=aF h
  refine aC dCo fun K hK=>?_;conv=>whnf
  refine hK _ ?_
  cases h
  exact oM (aA kI (aA (Wk.refl _) aB))
 refine hK2 ?_
 refine aL ?_
 refine tHn ?_
 refine aD dCo rfl fun K hK=>?_;conv=>whnf
 refine nlA rfl ?_;conv=>whnf
 refine bKo rfl ?_;conv=>whnf
 refine gKo rfl ?_;conv=>whnf
 refine nlA rfl ?_;conv=>whnf
 refine bKo rfl ?_;conv=>whnf
 refine rE rfl ?_;conv=>whnf
 refine aZ ?_;conv=>whnf
 refine bF h56 (S:=dW) ⟨_,_,rfl,rfl⟩ (pP lsN (lsC (lsE (lsC (lsI _ _) lsN)) (lsC (lsE (aW _)) lsN))) (WkL.refl _) ?_;conv=>whnf
 refine pN h55 h (fun y e=>(⟨_,_,rfl,e⟩:dY _ _)) (WkL.refl _) (fun _ h=>?_);conv=>whnf
 refine hK _ _ _ ?_
 refine oA 2 (enc:=eI) (e:=3) default (lZ dCo rfl rfl rfl (fun _=>⟨rfl,rfl⟩)) ?_;(conv=>whnf);refine ⟨_,_,rfl,rfl,rfl,?_⟩
 refine aG ?_
 replace h:=aF h
 refine aC dCo fun K hK=>?_;conv=>whnf
 refine hK _ ?_
 cases h
 exact Wk.refl _
theorem qO {T:Tbl} (hT:T 18=aU fO) {args:List AV} {hp:bD} {id:Nat} {k:AV→Prop} {a0:aP} {Φ:(List Int)×Int→Prop} (h:W (iB a0) Φ) (hw:WkL args [bS a0]) (hk:∀ y,Φ y→k (.tup [(eL 1 eI default) y.1,eI y.2])):dJ T 18 args hp id k:=by
 obtain ⟨y,e,hy⟩:=fE h
 exact bF hT ⟨a0,rfl,kK e rfl⟩ (by exact fQ (lsC (lsL fun _=>(lsI _ _)) (lsC (lsI _ _) lsN))) hw (hk y hy)
def mH (a0:aP) (x3:Int) (s6:Int×(GM Int)):Option (Ct (Int×(GM Int)) ((GM Int))):=cn (decide (s6.1<a0.N)) (gd (0≤s6.1) (jn (fun p7:(GM Int)=>
  some (.nx ((wr (s6.1+1)),p7))) fun k8=>cn ((tK .i64 (vP .i64 x3 s6.1) 1) ==
  1) (gd (0≤s6.1) (let m9:=s6.2.put x3 (wr ((s6.2.get x3 0)+(s6.2.get (uX .i64 x3 (aD5 .i64 1 s6.1)) 0)));k8 m9)) (k8 s6.2))) (some (.bk (s6.1,s6.2)))
def pZ (a0:aP) (x3:Int) (s4:(GM Int)):Option ((GM Int)):=bd (lp (mH a0 x3) FU (0,s4)) fun c10=>smK c10 (fun s11=>some s11.2) (fun r12=>
  some r12)
def iT (a0:aP):Option (Int×Int):=bd (bT a0) fun y1=>cn (!y1.2) (some (0,70)) (let m2:=(GM.mt Int).put 0 1;
  bd (dV a0.N y1.1 ((GM Int)) (pZ a0) m2) fun s5=>gd (0≤a0.N) (let v13:=(s5.get (wr ((aD5 .i64 1 a0.N)-1)) 0);some (v13,0)))
def iY:List AV→AV→Prop:=fun args r=>∃ a0,args=[bS a0]∧W (iT a0) fun y=>r=(.tup [eI y.1,eI y.2])
theorem wA {T:Tbl} (hT:TOk Tryd.prog T) (hpf:dD T PF) (h54:T 54=aU cL) (h56:T 56=aU dW) (h81:T 81=itR Tryd.prog (fun x=>[Value.int .i64 x]) eO):FOk Tryd.prog 20 (aU iY):=by
 refine bO hT hpf Tryd.func20 rfl Tryd.ntmps20 Tryd.results20 (by decide) ?_
 rintro args r ⟨a0,rfl,h⟩
 refine ⟨nle rfl,?_,?_⟩
 ·exact (lsC (cO _) lsN)
 rw [iT.eq_1] at h
 refine aD dCo rfl fun K hK=>?_;conv=>whnf
 refine hK _ _ _ ?_
 refine aD dCo rfl fun K hK=>?_;conv=>whnf
 refine nlA rfl ?_;conv=>whnf
 refine bKo rfl ?_;conv=>whnf
 refine nlA rfl ?_;conv=>whnf
 replace h:=aS h
 refine cK h54 h (WkL.refl _) (fun _ h=>?_);conv=>whnf
 refine aZ ?_;conv=>whnf
 refine aZ ?_;conv=>whnf
 refine aZ ?_;conv=>whnf
 refine bKo rfl ?_;conv=>whnf
 refine pC rfl rfl rfl ?_;conv=>whnf
 refine hK _ _ _ ?_
 refine aN ?_
 refine aD dCo rfl fun K hK=>?_;conv=>whnf
 refine hK _ _ _ ?_
 refine bA fun K1 K2 hK1 hK2=>?_;conv=>whnf
 refine cLk h (fun _ h=>?_) (fun _ h=>?_)
 ·refine hK1 ?_
  refine aD dCo rfl fun K hK=>?_;conv=>whnf
  refine hK _ _ _ ?_
  refine aG ?_
  refine aR ?_
  replace h:=aF h
  refine aC dCo fun K hK=>?_;conv=>whnf
  refine hK _ ?_
  cases h
  exact Wk.refl _
 refine hK2 ?_
 refine aL ?_
 refine tHn ?_
 refine aD dCo rfl fun K hK=>?_;conv=>whnf
 refine fH (enc:=eI) (m:=(GM.mt Int)) dCo rfl rfl ?_;conv=>whnf
 refine bKo rfl ?_;conv=>whnf
 refine And.intro rfl (And.intro (nle rfl) (And.intro rfl ?_));conv=>whnf
 refine hK _ _ _ ?_
 refine aN ?_
 refine aD dCo rfl fun K hK=>?_;conv=>whnf
 refine nlA rfl ?_;conv=>whnf
 refine bKo rfl ?_;conv=>whnf
 refine gKo rfl ?_;conv=>whnf
 refine nlA rfl ?_;conv=>whnf
 refine bKo rfl ?_;conv=>whnf
 refine rE rfl ?_;conv=>whnf
 refine aZ ?_;conv=>whnf
 refine bF h56 (S:=dW) ⟨_,_,rfl,rfl⟩ (pP lsN (lsC (lsE (lsC (lsI _ _) lsN)) (lsC (lsE (aW _)) lsN))) (WkL.refl _) ?_;conv=>whnf
 refine hK _ _ _ ?_
 refine aQ ?_
 refine aEY rfl rfl [1,6,17,21] [(1,32),(6,33),(17,34)] 33 34 ?_;conv=>whnf
 refine And.intro ?_ ?_
 ·refine aGY ?_;conv=>whnf
  exact And.intro rfl (And.intro (aLc (WkR.ptr (fun _=>rfl)) (aLc (WkR.ptr (fun _=>rfl)) (aLc (WkR.mp (fun _=>rfl)) (aLc (eZ bL (aM (wkr (lsE (lsC (lsI _ _) lsN))) (aM (wkr (lsE (aW _))) bL))) aLn)))) (aLc ⟨some _,rfl,bRc rfl (cKc wkI (cKc (wkr (lsL fun _=>(aO _))) cKn))⟩ (aLc ⟨some _,rfl,bRc rfl (cKc (WkR.mp (fun _=>rfl)) cKn)⟩ (aLc ⟨some _,rfl,iO (enc:=eI) rfl (fun _=>(lsI _ _))⟩ aLn))))
 obtain ⟨gfin,hfin,h⟩:=fE (aS h)
 refine aF1 rfl rfl (fun x=>[eI x]) aFD (fun _=>rfl) (by decide) h81 rfl (F:=dV _ _) hfin ⟨_,_,rfl,rfl⟩ (nle rfl) (aLc (aDf (by decide)) (aLc (aDf (by decide)) (aLc (aHS (by decide)) (aLc (aHt aBA (aAo (aJp (aAo (uN (lsI _ _)) aBA)) (aAo (uN (lsE (aW _))) aBA))) aLn)))) (fun s=>[(32,.cells [eI a0.N,(eL 2 cB default) a0.Pairs]),(33,.cells [.mp 34]),(34,abM eI s)]) (fun s=>(aLc rfl (aLc rfl (aLc rfl aLn)))) (fun x s gfin h=>?_) ?_
 ·clear hfin
  rw [pZ.eq_1] at h
  refine cX dCo rfl fun K hK=>?_;conv=>whnf
  refine hK _ _ _ ?_
  refine tHn ?_
  refine aQ ?_
  refine aD dCo rfl fun K hK=>?_;conv=>whnf
  refine nlA rfl ?_;conv=>whnf
  refine bKo rfl ?_;conv=>whnf
  refine gKo rfl ?_;conv=>whnf
  refine hK _ _ _ ?_
  refine aQ ?_
  replace h:=aS h
  refine fP (body:=mH _ _) rfl h [1,6,7,17,24] [1,6] [17] (fun kl kh ids b s=>⟨ofL ([(25,eI s.1)]++kl),ofH ([(aAq ids 0,abM eI s.2)]++kh),b+64⟩) ?_;(conv=>whnf);refine And.intro ?_ (fun s m h=>dO ?_)
  ·refine bI ?_;conv=>whnf
   exact And.intro rfl (And.intro (aLc wkI (aLc (WkR.ptr (fun _=>rfl)) (aLc (WkR.ptr (fun _=>rfl)) (aLc wkI (aLc (WkR.mp (fun _=>rfl)) (aLc wkI aLn)))))) (aLc ⟨some _,rfl,iO (enc:=eI) rfl (fun _=>(lsI _ _))⟩ (aLc ⟨some _,rfl,bRc rfl (cKc wkI (cKc (wkr (lsL fun _=>(aO _))) cKn))⟩ (aLc ⟨some _,rfl,bRc rfl (cKc (WkR.mp (fun _=>rfl)) cKn)⟩ aLn))))
  replace h:=aS h;rw [mH.eq_1] at h
  refine aD dCo rfl fun K hK=>?_;conv=>whnf
  refine hK _ _ _ ?_
  refine aN ?_
  refine bA fun K1 K2 hK1 hK2=>?_;conv=>whnf
  refine cLk h (fun _ h=>?_) (fun _ h=>?_)
  ·refine hK1 ?_
   refine aL ?_
   refine tHn ?_
   refine aN ?_
   refine aQ ?_
   refine aD dCo rfl fun K hK=>?_;conv=>whnf
   refine hK _ _ _ ?_
   refine aD dCo rfl fun K hK=>?_;conv=>whnf
   refine dG h fun _ h=>?_;conv=>whnf
   refine hK _ _ _ ?_
   replace h:=dF h
   refine bA fun K1 K2 hK1 hK2=>?_;conv=>whnf
   refine cLk h (fun _ h=>?_) (fun _ h=>?_)
   ·refine hK1 ?_
    refine aAs dCo cV rfl (by kernel_rfl) fun K hK=>?_;conv=>whnf
    refine nlA rfl ?_;conv=>whnf
    refine bKo rfl ?_;conv=>whnf
    refine gKo rfl ?_;conv=>whnf
    refine aBE (enc:=eI) dCo rfl (0:Int) rfl rfl (nle rfl) ?_;conv=>whnf
    refine nlA rfl ?_;conv=>whnf
    refine bKo rfl ?_;conv=>whnf
    refine gKo rfl ?_;conv=>whnf
    refine dG h fun _ h=>?_;conv=>whnf
    refine aBE (enc:=eI) dCo rfl (0:Int) rfl rfl (nle rfl) ?_;conv=>whnf
    refine fH (enc:=eI) dCo rfl rfl ?_;conv=>whnf
    refine hK _ _ _ ?_
    refine iBn ?_
    refine tHn ?_
    refine cX dCo rfl fun K hK=>?_;conv=>whnf
    refine hK _ _ _ ?_
    refine tHn ?_
    replace h:=bX h
    refine ⟨_,h,?_⟩
    refine bI ?_;conv=>whnf
    exact And.intro rfl (And.intro (aLc wkI (aLc (WkR.ptr (fun _=>rfl)) (aLc (WkR.ptr (fun _=>rfl)) (aLc wkI (aLc (WkR.mp (fun _=>rfl)) (aLc wkI aLn)))))) (aLc ⟨some _,rfl,iO (enc:=eI) rfl (fun _=>(lsI _ _))⟩ (aLc ⟨some _,rfl,bRc rfl (cKc wkI (cKc (wkr (lsL fun _=>(aO _))) cKn))⟩ (aLc ⟨some _,rfl,bRc rfl (cKc (WkR.mp (fun _=>rfl)) cKn)⟩ aLn))))
   refine hK2 ?_
   refine aL ?_
   refine iBn ?_
   refine tHn ?_
   refine cX dCo rfl fun K hK=>?_;conv=>whnf
   refine hK _ _ _ ?_
   refine tHn ?_
   replace h:=bX h
   refine ⟨_,h,?_⟩
   refine bI ?_;conv=>whnf
   exact And.intro rfl (And.intro (aLc wkI (aLc (WkR.ptr (fun _=>rfl)) (aLc (WkR.ptr (fun _=>rfl)) (aLc wkI (aLc (WkR.mp (fun _=>rfl)) (aLc wkI aLn)))))) (aLc ⟨some _,rfl,iO (enc:=eI) rfl (fun _=>(lsI _ _))⟩ (aLc ⟨some _,rfl,bRc rfl (cKc wkI (cKc (wkr (lsL fun _=>(aO _))) cKn))⟩ (aLc ⟨some _,rfl,bRc rfl (cKc (WkR.mp (fun _=>rfl)) cKn)⟩ aLn))))
  refine hK2 ?_
  refine bK ?_
  refine aY ?_
  refine aY ?_
  refine aX ?_
  replace h:=dE h
  replace h:=dB h
  refine iBn ?_
  replace h:=aF h
  cases h
  refine ⟨rfl,?_⟩
  refine bI (l:=[]) ?_;conv=>whnf
  exact And.intro rfl (And.intro aLn (aLc ⟨some _,rfl,bRc rfl (cKc wkI (cKc (wkr (lsL fun _=>(aO _))) cKn))⟩ (aLc ⟨some _,rfl,bRc rfl (cKc (WkR.mp (fun _=>rfl)) cKn)⟩ (aLc ⟨some _,rfl,iO (enc:=eI) rfl (fun _=>(lsI _ _))⟩ aLn))))
 clear hfin
 refine iBn ?_
 refine tHn ?_
 refine mQ dCo cV rfl (by kernel_rfl) fun K hK=>?_;conv=>whnf
 refine nlA rfl ?_;conv=>whnf
 refine bKo rfl ?_;conv=>whnf
 refine gKo rfl ?_;conv=>whnf
 refine nlA rfl ?_;conv=>whnf
 refine bKo rfl ?_;conv=>whnf
 refine gKo rfl ?_;conv=>whnf
 refine dG h fun _ h=>?_;conv=>whnf
 refine aBE (enc:=eI) dCo rfl (0:Int) rfl rfl (nle rfl) ?_;conv=>whnf
 refine hK _ _ _ ?_
 refine aG ?_
 replace h:=aF h
 refine aC dCo fun K hK=>?_;conv=>whnf
 refine hK _ ?_
 cases h
 exact Wk.refl _
theorem oH {T:Tbl} (hT:T 20=aU iY) {args:List AV} {hp:bD} {id:Nat} {k:AV→Prop} {a0:aP} {Φ:Int×Int→Prop} (h:W (iT a0) Φ) (hw:WkL args [bS a0]) (hk:∀ y,Φ y→k (.tup [eI y.1,eI y.2])):dJ T 20 args hp id k:=by
 obtain ⟨y,e,hy⟩:=fE h
 exact bF hT ⟨a0,rfl,kK e rfl⟩ (by exact fQ (lsC (lsI _ _) (lsC (lsI _ _) lsN))) hw (hk y hy)
  def uB (a0:Int) (c1:aP) (c2:Ar 8) (f9002:Int→aP→(Ar 8)→(Ar 8)→Int→Option (Bool×(Ar 8)×Int)) (s1:Int×Int×(Ar 8)):Option (Ct (Int×Int×(Ar 8)) (Bool×(Ar 8)×Int)):=cn (decide (s1.1<c1.N)) (jn (fun p2:(Ar 8)×Int=>
  some (.nx ((wr (s1.1+1)),p2.2,p2.1))) fun k3=>jn (fun p4:Bool=>cn p4 (k3 (s1.2.2,s1.2.1)) (gd (0≤s1.1) (jn (fun p6:Bool×(Ar 8)×Int=>
  cn p6.1 (gd (0≤s1.1∧s1.1<(8:Int)) (let m9:=p6.2.1.st1 s1.1 (wr (a0+1));some (.rt (true,m9,p6.2.2)))) (k3 (p6.2.1,p6.2.2))) fun k7=>
  gd (0≤s1.1∧s1.1<(8:Int)) (cn ((s1.2.2.at1 s1.1) ==
  0) (k7 (true,s1.2.2,(bor .i64 s1.2.1 (aD5 .i64 1 s1.1)))) (gd (0≤s1.1∧s1.1<(8:Int)) (bd (f9002 (wr ((s1.2.2.at1 s1.1)-1)) c1 c2 s1.2.2 (bor .i64 s1.2.1 (aD5 .i64 1 s1.1))) fun y8=>
  k7 (y8.1,y8.2.1,y8.2.2))))))) fun k5=>gd (0≤s1.1∧s1.1<(8:Int)) (gd (0≤a0) (cn ((tK .i64 (vP .i64 (c2.at1 s1.1) a0) 1) ==
  0) (k5 true) (gd (0≤s1.1) (k5 ((tK .i64 (vP .i64 s1.2.1 s1.1) 1)==1)))))) (some (.bk (s1.1,s1.2.1,s1.2.2)))
  def zB (f9002:Int→aP→(Ar 8)→(Ar 8)→Int→Option (Bool×(Ar 8)×Int)) (a0:Int) (c1:aP) (c2:Ar 8) (m0:Ar 8) (x1:Int):Option (Bool×(Ar 8)×Int):=bd (lp (uB a0 c1 c2 f9002) FU (0,x1,m0)) fun c10=>
  smK c10 (fun s11=>some (false,s11.2.2,s11.2.1)) (fun r12=>some r12)
def tP:Nat→Int→aP→(Ar 8)→(Ar 8)→Int→Option (Bool×(Ar 8)×Int)
 | 0=>fun _ _ _ _ _=>none
 | k+1=>zB (tP k)
def kW (k:Nat):List AV→List BD→AV→List BD→Prop:=fun args bs r bs'=>∃ a0 c1 c2 m0 x1 y,args=[eI a0,.ep [eI c1.N,(eL 2 cB default) c1.Pairs] 0,.ep (cA c2) 0,.ptr 1 0,.ptr 0 0,.ptr 2 0]∧bs=[.ab (.cells (cA m0)),.ab (.cells ([eI x1])),.fn 65 [.v (.ep [eI c1.N,(eL 2 cB default) c1.Pairs] 0),.v (.ep (cA c2) 0),.p 1,.p 0,.p 2]]∧tP k a0 c1 c2 m0 x1=some y∧r=eB y.1∧bs'=[.ab (.cells (cA y.2.1)),.ab (.cells ([eI y.2.2])),.fn 65 [.v (.ep [eI c1.N,(eL 2 cB default) c1.Pairs] 0),.v (.ep (cA c2) 0),.p 1,.p 0,.p 2]]
theorem aDB (k:Nat) {T:Tbl} (hT:TOk Tryd.prog T) (hpf:dD T PF) (h65:T 65=pX (kW k)):FOk Tryd.prog 65 (pX (kW (k+1))):=by
 refine rL hT hpf Tryd.func65 rfl Tryd.ntmps65 Tryd.results65 (by decide) ?_
 rintro args bs r bs' ⟨a0,c1,c2,m0,x1,y,rfl,rfl,hF,rfl,rfl⟩
 refine ⟨nle rfl,Nat.le_refl _,(lsB _),⟨(aW _),⟨(aDx _),⟨⟨(lsE (lsC (lsI _ _) (lsC (lsL fun _=>(aO _)) lsN))),⟨(lsE (aW _)),⟨nle rfl,⟨nle rfl,⟨nle rfl,trivial⟩⟩⟩⟩⟩,trivial⟩⟩⟩,⟨(aW _),⟨(aDx _),⟨⟨(lsE (lsC (lsI _ _) (lsC (lsL fun _=>(aO _)) lsN))),⟨(lsE (aW _)),⟨nle rfl,⟨nle rfl,⟨nle rfl,trivial⟩⟩⟩⟩⟩,trivial⟩⟩⟩,?_⟩
 have h:W (zB (tP k) a0 c1 c2 m0 x1) (fun z=>z=y):=kK hF rfl
 rw [zB.eq_1] at h
 refine aD dCo rfl fun K hK=>?_;conv=>whnf
 refine hK _ _ _ ?_
 refine aN ?_
 refine aD dCo rfl fun K hK=>?_;conv=>whnf
 refine gKo rfl ?_;conv=>whnf
 refine hK _ _ _ ?_
 refine aQ ?_
 replace h:=aS h
 refine aCd (body:=uB _ _ _ _) rfl h [0,2,3,4,5,10] (fun σ=>aBq σ [2]++oJ σ []++rS σ []) (fun σ=>rS σ []++oJ σ []++aBq σ []) [] (fun kl kh kr ids b s=>⟨ofL ([(11,eI s.1)]++kl),ofH (([(1,.cells ([eI s.2.1]))]++kh)++([(0,.cells (cA s.2.2))]++kr)),b+128⟩) ?_;(conv=>whnf);refine And.intro ?_ (fun s m h=>dO ?_)
 ·refine bR ?_;conv=>whnf
  exact And.intro rfl (And.intro (aLc wkI (aLc wkI (aLc (wkr (lsE (aW _))) (aLc (WkR.ptr (fun _=>rfl)) (aLc (WkR.ptr (fun _=>rfl)) (aLc (WkR.ptr (fun _=>rfl)) (aLc wkI aLn))))))) (aLc ⟨some _,rfl,bRc rfl (cKc wkI cKn)⟩ (aLc ⟨some _,rfl,bRc rfl (cKc (eZ bL (aM (wkr (lsE (lsC (lsI _ _) (lsC (lsL fun _=>(aO _)) lsN)))) (aM (wkr (lsE (aW _))) (aM (WkR.ptr (fun _=>rfl)) (aM (WkR.ptr (fun _=>rfl)) (aM (WkR.ptr (fun _=>rfl)) bL)))))) cKn)⟩ (aLc ⟨some _,rfl,bE rfl rfl⟩ aLn))))
 replace h:=aS h;rw [uB.eq_1] at h
 refine aD dCo rfl fun K hK=>?_;conv=>whnf
 refine hK _ _ _ ?_
 refine aN ?_
 refine bA fun K1 K2 hK1 hK2=>?_;conv=>whnf
 refine cLk h (fun _ h=>?_) (fun _ h=>?_)
 ·refine hK1 ?_
  refine aL ?_
  refine tHn ?_
  refine aN ?_
  replace h:=dF h
  refine aQ ?_
  refine aD dCo rfl fun K hK=>?_;conv=>whnf
  refine hK _ _ _ ?_
  refine aN ?_
  refine aD dCo rfl fun K hK=>?_;conv=>whnf
  replace h:=dF h
  refine dG h fun hx112 h=>?_;conv=>whnf
  refine eJ rfl hx112 ?_;conv=>whnf
  refine dG h fun _ h=>?_;conv=>whnf
  refine cLk h (fun _ h=>?_) (fun _ h=>?_)<;>(conv=>whnf)
  ·refine hK _ _ _ ?_
   refine bA fun K1 K2 hK1 hK2=>?_;conv=>whnf
   refine hK1 ?_
   replace h:=mN h
   refine bK ?_
   refine aY ?_
   refine aX ?_
   refine tHn ?_
   refine cX dCo rfl fun K hK=>?_;conv=>whnf
   refine hK _ _ _ ?_
   refine tHn ?_
   replace h:=bX h
   refine ⟨_,h,?_⟩
   refine bR ?_;conv=>whnf
   exact And.intro rfl (And.intro (aLc wkI (aLc wkI (aLc (wkr (lsE (aW _))) (aLc (WkR.ptr (fun _=>rfl)) (aLc (WkR.ptr (fun _=>rfl)) (aLc (WkR.ptr (fun _=>rfl)) (aLc wkI aLn))))))) (aLc ⟨some _,rfl,bRc rfl (cKc wkI cKn)⟩ (aLc ⟨some _,rfl,bRc rfl (cKc (eZ bL (aM (wkr (lsE (lsC (lsI _ _) (lsC (lsL fun _=>(aO _)) lsN)))) (aM (wkr (lsE (aW _))) (aM (WkR.ptr (fun _=>rfl)) (aM (WkR.ptr (fun _=>rfl)) (aM (WkR.ptr (fun _=>rfl)) bL)))))) cKn)⟩ (aLc ⟨some _,rfl,bE rfl rfl⟩ aLn))))
  refine nlA rfl ?_;conv=>whnf
  refine bKo rfl ?_;conv=>whnf
  refine gKo rfl ?_;conv=>whnf
  refine dG h fun _ h=>?_;conv=>whnf
  refine hK _ _ _ ?_
  refine bA fun K1 K2 hK1 hK2=>?_;conv=>whnf
  refine cLk h (fun _ h=>?_) (fun _ h=>?_)
  ·refine hK1 ?_
   refine bK ?_
   refine aY ?_
   refine aX ?_
   refine tHn ?_
   refine cX dCo rfl fun K hK=>?_;conv=>whnf
   refine hK _ _ _ ?_
   refine tHn ?_
   replace h:=bX h
   refine ⟨_,h,?_⟩
   refine bR ?_;conv=>whnf
   exact And.intro rfl (And.intro (aLc wkI (aLc wkI (aLc (wkr (lsE (aW _))) (aLc (WkR.ptr (fun _=>rfl)) (aLc (WkR.ptr (fun _=>rfl)) (aLc (WkR.ptr (fun _=>rfl)) (aLc wkI aLn))))))) (aLc ⟨some _,rfl,bRc rfl (cKc wkI cKn)⟩ (aLc ⟨some _,rfl,bRc rfl (cKc (eZ bL (aM (wkr (lsE (lsC (lsI _ _) (lsC (lsL fun _=>(aO _)) lsN)))) (aM (wkr (lsE (aW _))) (aM (WkR.ptr (fun _=>rfl)) (aM (WkR.ptr (fun _=>rfl)) (aM (WkR.ptr (fun _=>rfl)) bL)))))) cKn)⟩ (aLc ⟨some _,rfl,bE rfl rfl⟩ aLn))))
  refine hK2 ?_
  refine aL ?_
  refine tHn ?_
  refine mQ dCo cV rfl (by kernel_rfl) fun K hK=>?_;conv=>whnf
  refine nlA rfl ?_;conv=>whnf
  refine bKo rfl ?_;conv=>whnf
  refine gKo rfl ?_;conv=>whnf
  refine dG h fun _ h=>?_;conv=>whnf
  refine bKo rfl ?_;conv=>whnf
  refine And.intro rfl (And.intro (nle rfl) (And.intro rfl ?_));conv=>whnf
  refine hK _ _ _ ?_
  refine mQ dCo cV rfl (by kernel_rfl) fun K hK=>?_;conv=>whnf
  replace h:=dF h
  refine dG h fun hx117 h=>?_;conv=>whnf
  refine nlA rfl ?_;conv=>whnf
  refine bKo rfl ?_;conv=>whnf
  refine eJ rfl hx117 ?_;conv=>whnf
  refine cLk h (fun _ h=>?_) (fun _ h=>?_)<;>(conv=>whnf)
  ·refine hK _ _ _ ?_
   refine bA fun K1 K2 hK1 hK2=>?_;conv=>whnf
   refine hK1 ?_
   replace h:=mN h
   refine aD dCo rfl fun K hK=>?_;conv=>whnf
   refine dG h fun hx119 h=>?_;conv=>whnf
   refine bKo rfl ?_;conv=>whnf
   refine wJ rfl hx119 rfl rfl ?_;conv=>whnf
   refine hK _ _ _ ?_
   refine aD dCo rfl fun K hK=>?_;conv=>whnf
   refine hK _ _ _ ?_
   refine aG ?_
   refine bB ?_
   refine aR ?_
   refine aR ?_
   refine bB ?_
   refine aR ?_
   replace h:=iJ h
   replace h:=iK h
   replace h:=aF h
   refine iE dCo fun K hK=>?_;conv=>whnf
   refine hK _ ?_
   cases h
   exact ⟨Wk.refl _,⟨_,rfl,bkW _⟩,⟨_,rfl,bkW _⟩,rfl,trivial⟩
  refine nlA rfl ?_;conv=>whnf
  refine bKo rfl ?_;conv=>whnf
  refine gKo rfl ?_;conv=>whnf
  refine dG h fun hx120 h=>?_;conv=>whnf
  refine nlA rfl ?_;conv=>whnf
  refine bKo rfl ?_;conv=>whnf
  refine eJ rfl hx120 ?_;conv=>whnf
  refine dQ (bs:=[.ab _,.ab _,.fn 65 [.v _,.v _,.p 1,.p 0,.p 2]]) (args0:=[_,_,_,.ptr 1 0,.ptr 0 0,.ptr 2 0]) h65 [_,_,_] h (.cons (rG (Wk.refl _) (lsI _ _)) (.cons (bW (lsE (lsC (lsI _ _) (lsC (lsL fun _=>(aO _)) lsN)))) (.cons (bW (lsE (aW _))) (.cons (eS rfl) (.cons (eS rfl) (.cons (eS rfl) .nil)))))) ⟨⟨_,rfl,bkW _⟩,⟨_,rfl,bkW _⟩,rfl,trivial⟩ rfl (nle rfl) (fun y e=>(⟨_,_,_,_,_,_,rfl,rfl,e,rfl,rfl⟩:kW _ _ _ _ _)) (fun _ h=>?_);conv=>whnf
  refine hK _ _ _ ?_
  refine bA fun K1 K2 hK1 hK2=>?_;conv=>whnf
  refine cLk h (fun _ h=>?_) (fun _ h=>?_)
  ·refine hK1 ?_
   refine aD dCo rfl fun K hK=>?_;conv=>whnf
   refine dG h fun hx122 h=>?_;conv=>whnf
   refine bKo rfl ?_;conv=>whnf
   refine wJ rfl hx122 rfl rfl ?_;conv=>whnf
   refine hK _ _ _ ?_
   refine aD dCo rfl fun K hK=>?_;conv=>whnf
   refine hK _ _ _ ?_
   refine aG ?_
   refine bB ?_
   refine aR ?_
   refine aR ?_
   refine bB ?_
   refine aR ?_
   replace h:=iJ h
   replace h:=iK h
   replace h:=aF h
   refine iE dCo fun K hK=>?_;conv=>whnf
   refine hK _ ?_
   cases h
   exact ⟨Wk.refl _,⟨_,rfl,bkW _⟩,⟨_,rfl,bkW _⟩,rfl,trivial⟩
  refine hK2 ?_
  refine aL ?_
  refine iBn ?_
  refine tHn ?_
  refine cX dCo rfl fun K hK=>?_;conv=>whnf
  refine hK _ _ _ ?_
  refine tHn ?_
  replace h:=bX h
  refine ⟨_,h,?_⟩
  refine bR ?_;conv=>whnf
  exact And.intro rfl (And.intro (aLc wkI (aLc wkI (aLc (wkr (lsE (aW _))) (aLc (WkR.ptr (fun _=>rfl)) (aLc (WkR.ptr (fun _=>rfl)) (aLc (WkR.ptr (fun _=>rfl)) (aLc wkI aLn))))))) (aLc ⟨some _,rfl,bRc rfl (cKc wkI cKn)⟩ (aLc ⟨some _,rfl,bRc rfl (cKc (eZ bL (aM (wkr (lsE (lsC (lsI _ _) (lsC (lsL fun _=>(aO _)) lsN)))) (aM (wkr (lsE (aW _))) (aM (WkR.ptr (fun _=>rfl)) (aM (WkR.ptr (fun _=>rfl)) (aM (WkR.ptr (fun _=>rfl)) bL)))))) cKn)⟩ (aLc ⟨some _,rfl,bE rfl rfl⟩ aLn))))
 refine hK2 ?_
 refine bK ?_
 refine aY ?_
 refine aY ?_
 refine aX ?_
 replace h:=dE h
 replace h:=dB h
 refine tHn ?_
 refine aD dCo rfl fun K hK=>?_;conv=>whnf
 refine hK _ _ _ ?_
 refine aG ?_
 replace h:=aF h
 refine iE dCo fun K hK=>?_;conv=>whnf
 refine hK _ ?_
 cases h
 exact ⟨Wk.refl _,⟨_,rfl,bkW _⟩,⟨_,rfl,bkW _⟩,rfl,trivial⟩
theorem aDe {T:Tbl} (hT:TOk Tryd.prog T) (hpf:dD T PF):FOk Tryd.prog 65 (pX (kW 10)):=
 tQ (S:=kW) hT hpf (by decide) Tryd.func65 rfl (by decide) (by rintro a b c d ⟨a0,c1,c2,m0,x1,y,-,-,h,-⟩;cases h) (fun k T' hT' hpf' hne h=>aDB k hT' hpf' h) 10
  def aBz (a0:Int) (c1:aP) (c2:Ar 8) (f9002:Int→aP→(Ar 8)→(GM (List Int))→Option ((List Int)×(GM (List Int)))) (s1:(List Int)×Int×(GM (List Int))):Option (Ct ((List Int)×Int×(GM (List Int))) ((List Int)×(GM (List Int)))):=cn (decide (s1.2.1<c1.N)) (jn (fun p2:Bool×(GM (List Int))=>
  jn (fun p5:(List Int)×(GM (List Int))=>some (.nx (p5.1,(wr (s1.2.1+1)),p5.2))) fun k6=>cn p2.1 (bd (f9002 s1.2.1 c1 c2 p2.2) fun y7=>
  k6 (y7.1,y7.2)) (k6 (s1.1,p2.2))) fun k3=>gd (0≤s1.2.1∧s1.2.1<(8:Int)) (gd (0≤a0) (cn ((tK .i64 (vP .i64 (c2.at1 s1.2.1) a0) 1) ==
  1) (bd (f9002 s1.2.1 c1 c2 s1.2.2) fun y4=>k3 ((decide ((y4.1.length:Int)>(s1.1.length:Int))),y4.2)) (k3 (false,s1.2.2))))) (some (.bk (s1.1,s1.2.1,s1.2.2)))
  def aEb (f9002:Int→aP→(Ar 8)→(GM (List Int))→Option ((List Int)×(GM (List Int)))) (a0:Int) (c1:aP) (c2:Ar 8) (m0:GM (List Int)):Option ((List Int)×(GM (List Int))):=cn (m0.has a0) (some ((m0.get a0 []),m0)) (bd (lp (aBz a0 c1 c2 f9002) FU ([],0,m0)) fun c8=>
  smK c8 (fun s9=>lt ([a0]:List Int) fun l11=>ap l11 s9.1 fun l12=>let m13:=s9.2.2.put a0 l12;some ((m13.get a0 []),m13)) (fun r10=>some r10))
def aAG:Nat→Int→aP→(Ar 8)→(GM (List Int))→Option ((List Int)×(GM (List Int)))
 | 0=>fun _ _ _ _=>none
 | k+1=>aEb (aAG k)
def oO (k:Nat):List AV→List BD→AV→List BD→Prop:=fun args bs r bs'=>∃ a0 c1 c2 m0 y,args=[eI a0,.ep [.mp 0] 0,.ep [eI c1.N,(eL 2 cB default) c1.Pairs] 0,.ep (cA c2) 0,.ptr 1 0]∧bs=[.ab (abM (eL 1 eI default) m0),.fn 59 [.m 0,.v (.ep [eI c1.N,(eL 2 cB default) c1.Pairs] 0),.v (.ep (cA c2) 0),.p 1]]∧aAG k a0 c1 c2 m0=some y∧r=(eL 1 eI default) y.1∧bs'=[.ab (abM (eL 1 eI default) y.2),.fn 59 [.m 0,.v (.ep [eI c1.N,(eL 2 cB default) c1.Pairs] 0),.v (.ep (cA c2) 0),.p 1]]
theorem aHa (k:Nat) {T:Tbl} (hT:TOk Tryd.prog T) (hpf:dD T PF) (h59:T 59=pX (oO k)):FOk Tryd.prog 59 (pX (oO (k+1))):=by
 refine rL hT hpf Tryd.func59 rfl Tryd.ntmps59 Tryd.results59 (by decide) ?_
 rintro args bs r bs' ⟨a0,c1,c2,m0,y,rfl,rfl,hF,rfl,rfl⟩
 refine ⟨nle rfl,Nat.le_refl _,(lsL fun _=>(lsI _ _)),⟨(aHs (fun _=>(lsL fun _=>(lsI _ _))) _),⟨⟨nle rfl,⟨(lsE (lsC (lsI _ _) (lsC (lsL fun _=>(aO _)) lsN))),⟨(lsE (aW _)),⟨nle rfl,trivial⟩⟩⟩⟩,trivial⟩⟩,⟨(aHs (fun _=>(lsL fun _=>(lsI _ _))) _),⟨⟨nle rfl,⟨(lsE (lsC (lsI _ _) (lsC (lsL fun _=>(aO _)) lsN))),⟨(lsE (aW _)),⟨nle rfl,trivial⟩⟩⟩⟩,trivial⟩⟩,?_⟩
 have h:W (aEb (aAG k) a0 c1 c2 m0) (fun z=>z=y):=kK hF rfl
 rw [aEb.eq_1] at h
 refine aD dCo rfl fun K hK=>?_;conv=>whnf
 refine hK _ _ _ ?_
 refine aN ?_
 refine aD dCo rfl fun K hK=>?_;conv=>whnf
 refine gKo rfl ?_;conv=>whnf
 refine aDD (enc:=(eL 1 eI default)) dCo rfl [] kI rfl (nle rfl) ?_;conv=>whnf
 refine hK _ _ _ ?_
 refine aD dCo rfl fun K hK=>?_;conv=>whnf
 refine hK _ _ _ ?_
 refine bA fun K1 K2 hK1 hK2=>?_;conv=>whnf
 refine cLk h (fun _ h=>?_) (fun _ h=>?_)
 ·refine hK1 ?_
  refine aD dCo rfl fun K hK=>?_;conv=>whnf
  refine hK _ _ _ ?_
  refine aG ?_
  refine aR ?_
  replace h:=aF h
  refine iE dCo fun K hK=>?_;conv=>whnf
  refine hK _ ?_
  cases h
  exact ⟨Wk.refl _,⟨_,rfl,bkW _⟩,rfl,trivial⟩
 refine hK2 ?_
 refine aL ?_
 refine tHn ?_
 refine aD dCo rfl fun K hK=>?_;conv=>whnf
 refine hK _ _ _ ?_
 refine aN ?_
 refine aD dCo rfl fun K hK=>?_;conv=>whnf
 refine gKo rfl ?_;conv=>whnf
 refine hK _ _ _ ?_
 refine aQ ?_
 replace h:=aS h
 refine aFS (body:=aBz _ _ _ _) rfl h [0,1,3,4,20] (fun σ=>aBq σ [1]++oJ σ []++rS σ []) [] (fun kl kh ids b s=>⟨ofL ([(9,(eL 1 eI default) s.1),(21,eI s.2.1)]++kl),ofH ([(0,abM (eL 1 eI default) s.2.2)]++kh),b+64⟩) ?_;(conv=>whnf);refine And.intro ?_ (fun s m h=>dO ?_)
 ·refine bI ?_;conv=>whnf
  exact And.intro rfl (And.intro (aLc (WkR.wk kI (lsL fun _=>(lsI _ _))) (aLc wkI (aLc wkI (aLc (pE (aM (WkR.mp (fun _=>rfl)) bL)) (aLc (wkr (lsE (aW _))) (aLc (WkR.ptr (fun _=>rfl)) (aLc wkI aLn))))))) (aLc ⟨some _,rfl,iO (enc:=(eL 1 eI default)) rfl (fun _=>(lsL fun _=>(lsI _ _)))⟩ (aLc ⟨some _,rfl,bRc rfl (cKc (eZ bL (aM (pE (aM (WkR.mp (fun _=>rfl)) bL)) (aM (wkr (lsE (lsC (lsI _ _) (lsC (lsL fun _=>(aO _)) lsN)))) (aM (wkr (lsE (aW _))) (aM (WkR.ptr (fun _=>rfl)) bL))))) cKn)⟩ aLn)))
 replace h:=aS h;rw [aBz.eq_1] at h
 refine aD dCo rfl fun K hK=>?_;conv=>whnf
 refine hK _ _ _ ?_
 refine aN ?_
 refine bA fun K1 K2 hK1 hK2=>?_;conv=>whnf
 refine cLk h (fun _ h=>?_) (fun _ h=>?_)
 ·refine hK1 ?_
  refine aL ?_
  refine tHn ?_
  refine aN ?_
  refine aQ ?_
  refine aD dCo rfl fun K hK=>?_;conv=>whnf
  refine hK _ _ _ ?_
  refine aD dCo rfl fun K hK=>?_;conv=>whnf
  replace h:=dF h
  refine dG h fun hx49 h=>?_;conv=>whnf
  refine eJ rfl hx49 ?_;conv=>whnf
  refine dG h fun _ h=>?_;conv=>whnf
  refine cLk h (fun _ h=>?_) (fun _ h=>?_)<;>(conv=>whnf)
  ·refine nlA rfl ?_;conv=>whnf
   refine bKo rfl ?_;conv=>whnf
   refine gKo rfl ?_;conv=>whnf
   refine dQ (bs:=[.ab (abM (eL 1 eI default) _),.fn 59 [.m 0,.v _,.v _,.p 1]]) (args0:=[_,.ep [.mp 0] 0,_,_,.ptr 1 0]) h59 [_,_] h (.cons (rG (Wk.refl _) (lsI _ _)) (.cons (aAH (pM (aAV rfl) qG)) (.cons (bW (lsE (lsC (lsI _ _) (lsC (lsL fun _=>(aO _)) lsN)))) (.cons (bW (lsE (aW _))) (.cons (eS rfl) .nil))))) ⟨⟨_,rfl,bkW _⟩,rfl,trivial⟩ rfl (nle rfl) (fun y e=>(⟨_,_,_,_,_,rfl,rfl,e,rfl,rfl⟩:oO _ _ _ _ _)) (fun _ h=>?_);conv=>whnf
   refine hK _ _ _ ?_
   replace h:=dF h
   refine bA fun K1 K2 hK1 hK2=>?_;conv=>whnf
   refine cLk h (fun _ h=>?_) (fun _ h=>?_)
   ·refine hK1 ?_
    refine cX dCo rfl fun K hK=>?_;conv=>whnf
    refine nlA rfl ?_;conv=>whnf
    refine bKo rfl ?_;conv=>whnf
    refine gKo rfl ?_;conv=>whnf
    refine dQ (bs:=[.ab (abM (eL 1 eI default) _),.fn 59 [.m 0,.v _,.v _,.p 1]]) (args0:=[_,.ep [.mp 0] 0,_,_,.ptr 1 0]) h59 [_,_] h (.cons (rG (Wk.refl _) (lsI _ _)) (.cons (aAH (pM (aAV rfl) qG)) (.cons (bW (lsE (lsC (lsI _ _) (lsC (lsL fun _=>(aO _)) lsN)))) (.cons (bW (lsE (aW _))) (.cons (eS rfl) .nil))))) ⟨⟨_,rfl,bkW _⟩,rfl,trivial⟩ rfl (nle rfl) (fun y e=>(⟨_,_,_,_,_,rfl,rfl,e,rfl,rfl⟩:oO _ _ _ _ _)) (fun _ h=>?_);conv=>whnf
    refine hK _ _ _ ?_
    refine iBn ?_
    refine tHn ?_
    refine cX dCo rfl fun K hK=>?_;conv=>whnf
    refine hK _ _ _ ?_
    refine tHn ?_
    replace h:=bX h
    refine ⟨_,h,?_⟩
    refine bI ?_;conv=>whnf
    exact And.intro rfl (And.intro (aLc (wkr (lsL fun _=>(lsI _ _))) (aLc wkI (aLc wkI (aLc (pE (aM (WkR.mp (fun _=>rfl)) bL)) (aLc (wkr (lsE (aW _))) (aLc (WkR.ptr (fun _=>rfl)) (aLc wkI aLn))))))) (aLc ⟨some _,rfl,iO (enc:=(eL 1 eI default)) rfl (fun _=>(lsL fun _=>(lsI _ _)))⟩ (aLc ⟨some _,rfl,bRc rfl (cKc (eZ bL (aM (pE (aM (WkR.mp (fun _=>rfl)) bL)) (aM (wkr (lsE (lsC (lsI _ _) (lsC (lsL fun _=>(aO _)) lsN)))) (aM (wkr (lsE (aW _))) (aM (WkR.ptr (fun _=>rfl)) bL))))) cKn)⟩ aLn)))
   refine hK2 ?_
   refine aL ?_
   refine iBn ?_
   refine tHn ?_
   refine cX dCo rfl fun K hK=>?_;conv=>whnf
   refine hK _ _ _ ?_
   refine tHn ?_
   replace h:=bX h
   refine ⟨_,h,?_⟩
   refine bI ?_;conv=>whnf
   exact And.intro rfl (And.intro (aLc (wkr (lsL fun _=>(lsI _ _))) (aLc wkI (aLc wkI (aLc (pE (aM (WkR.mp (fun _=>rfl)) bL)) (aLc (wkr (lsE (aW _))) (aLc (WkR.ptr (fun _=>rfl)) (aLc wkI aLn))))))) (aLc ⟨some _,rfl,iO (enc:=(eL 1 eI default)) rfl (fun _=>(lsL fun _=>(lsI _ _)))⟩ (aLc ⟨some _,rfl,bRc rfl (cKc (eZ bL (aM (pE (aM (WkR.mp (fun _=>rfl)) bL)) (aM (wkr (lsE (lsC (lsI _ _) (lsC (lsL fun _=>(aO _)) lsN)))) (aM (wkr (lsE (aW _))) (aM (WkR.ptr (fun _=>rfl)) bL))))) cKn)⟩ aLn)))
  refine hK _ _ _ ?_
  replace h:=dF h
  refine bA fun K1 K2 hK1 hK2=>?_;conv=>whnf
  refine hK2 ?_
  replace h:=pI h
  refine aL ?_
  refine iBn ?_
  refine tHn ?_
  refine cX dCo rfl fun K hK=>?_;conv=>whnf
  refine hK _ _ _ ?_
  refine tHn ?_
  replace h:=bX h
  refine ⟨_,h,?_⟩
  refine bI ?_;conv=>whnf
  exact And.intro rfl (And.intro (aLc (wkr (lsL fun _=>(lsI _ _))) (aLc wkI (aLc wkI (aLc (pE (aM (WkR.mp (fun _=>rfl)) bL)) (aLc (wkr (lsE (aW _))) (aLc (WkR.ptr (fun _=>rfl)) (aLc wkI aLn))))))) (aLc ⟨some _,rfl,iO (enc:=(eL 1 eI default)) rfl (fun _=>(lsL fun _=>(lsI _ _)))⟩ (aLc ⟨some _,rfl,bRc rfl (cKc (eZ bL (aM (pE (aM (WkR.mp (fun _=>rfl)) bL)) (aM (wkr (lsE (lsC (lsI _ _) (lsC (lsL fun _=>(aO _)) lsN)))) (aM (wkr (lsE (aW _))) (aM (WkR.ptr (fun _=>rfl)) bL))))) cKn)⟩ aLn)))
 refine hK2 ?_
 refine bK ?_
 refine aY ?_
 refine aY ?_
 refine aX ?_
 replace h:=dE h
 replace h:=dB h
 refine tHn ?_
 refine mQ dCo cV rfl (by kernel_rfl) fun K hK=>?_;conv=>whnf
 refine gKo rfl ?_;conv=>whnf
 refine cI (enc:=eI) (d:=default) dCo h rfl rfl rfl ⟨nle rfl,nle rfl,rfl⟩ rfl ⟨⟨rfl,rfl,rfl⟩,trivial⟩ (fun h=>?_);conv=>whnf
 refine aGB (enc:=eI) (d:=default) dCo h rfl rfl rfl ⟨rfl,nle rfl,nle rfl,nle rfl,rfl⟩ (fun _=>rfl) (fun h=>?_);conv=>whnf
 refine fH (enc:=(eL 1 eI default)) dCo rfl rfl ?_;conv=>whnf
 refine hK _ _ _ ?_
 refine aD dCo rfl fun K hK=>?_;conv=>whnf
 refine gKo rfl ?_;conv=>whnf
 refine aE3 (enc:=(eL 1 eI default)) dCo rfl [] kI rfl (nle rfl) ?_;conv=>whnf
 refine hK _ _ _ ?_
 refine aG ?_
 replace h:=aF h
 refine iE dCo fun K hK=>?_;conv=>whnf
 refine hK _ ?_
 cases h
 exact ⟨Wk.refl _,⟨_,rfl,bkW _⟩,rfl,trivial⟩
theorem aGG {T:Tbl} (hT:TOk Tryd.prog T) (hpf:dD T PF):FOk Tryd.prog 59 (pX (oO 10)):=
 tQ (S:=oO) hT hpf (by decide) Tryd.func59 rfl (by decide) (by rintro a b c d ⟨a0,c1,c2,m0,y,-,-,h,-⟩;cases h) (fun k T' hT' hpf' hne h=>aHa k hT' hpf' h) 10
  def mG (a0:aP) (y1:(Ar 8)×Bool) (s2:(List Int)×Int×(GM (List Int))):Option (Ct ((List Int)×Int×(GM (List Int))) ((List Int)×Int)):=cn (decide (s2.2.1<a0.N)) (bd (aAG 10 s2.2.1 a0 y1.1 s2.2.2) fun y3=>
  jn (fun p4:(List Int)×(GM (List Int))=>some (.nx (p4.1,(wr (s2.2.1+1)),p4.2))) fun k5=>cn (decide ((y3.1.length:Int) >
  (s2.1.length:Int))) (bd (aAG 10 s2.2.1 a0 y1.1 y3.2) fun y6=>k5 (y6.1,y6.2)) (k5 (s2.1,y3.2))) (some (.bk (s2.1,s2.2.1,s2.2.2)))
def kS (a0:aP):Option ((List Int)×Int):=bd (bT a0) fun y1=>
  cn (!y1.2) (some ([],70)) (bd (lp (mG a0 y1) FU ([],0,(GM.mt (List Int)))) fun c7=>smK c7 (fun s8=>gd (s8.1.length≤1048576) (lt s8.1 fun m10=>
  some (m10,0))) (fun r9=>some r9))
def iU:List AV→AV→Prop:=fun args r=>∃ a0,args=[bS a0]∧W (kS a0) fun y=>r=(.tup [(eL 1 eI default) y.1,eI y.2])
theorem vU {T:Tbl} (hT:TOk Tryd.prog T) (hpf:dD T PF) (h54:T 54=aU cL) (h59:T 59=pX (oO 10)) (h60:T 60=wU 1 eI default):FOk Tryd.prog 29 (aU iU):=by
 refine bO hT hpf Tryd.func29 rfl Tryd.ntmps29 Tryd.results29 (by decide) ?_
 rintro args r ⟨a0,rfl,h⟩
 refine ⟨nle rfl,?_,?_⟩
 ·exact (lsC (cO _) lsN)
 rw [kS.eq_1] at h
 refine aD dCo rfl fun K hK=>?_;conv=>whnf
 refine hK _ _ _ ?_
 refine aD dCo rfl fun K hK=>?_;conv=>whnf
 refine nlA rfl ?_;conv=>whnf
 refine bKo rfl ?_;conv=>whnf
 refine nlA rfl ?_;conv=>whnf
 replace h:=aS h
 refine cK h54 h (WkL.refl _) (fun _ h=>?_);conv=>whnf
 refine aZ ?_;conv=>whnf
 refine aZ ?_;conv=>whnf
 refine aZ ?_;conv=>whnf
 refine bKo rfl ?_;conv=>whnf
 refine pC rfl rfl rfl ?_;conv=>whnf
 refine hK _ _ _ ?_
 refine aN ?_
 refine aD dCo rfl fun K hK=>?_;conv=>whnf
 refine hK _ _ _ ?_
 refine bA fun K1 K2 hK1 hK2=>?_;conv=>whnf
 refine cLk h (fun _ h=>?_) (fun _ h=>?_)
 ·refine hK1 ?_
  refine aD dCo rfl fun K hK=>?_;conv=>whnf
  refine hK _ _ _ ?_
  refine aG ?_
  refine aR ?_
  replace h:=aF h
  refine aC dCo fun K hK=>?_;conv=>whnf
  refine hK _ ?_
  cases h
  exact oM (aA kI (aA (Wk.refl _) aB))
 refine hK2 ?_
 refine aL ?_
 refine tHn ?_
 refine aD dCo rfl fun K hK=>?_;conv=>whnf
 refine bKo rfl ?_;conv=>whnf
 refine And.intro rfl (And.intro (nle rfl) (And.intro rfl ?_));conv=>whnf
 refine hK _ _ _ ?_
 refine aD dCo rfl fun K hK=>?_;conv=>whnf
 refine hK _ _ _ ?_
 refine lH 6 ?_;(conv=>whnf);refine ⟨_,rfl,?_⟩
 refine lH 1 ?_;(conv=>whnf);refine ⟨_,rfl,?_⟩
 refine lH 4 ?_;(conv=>whnf);refine ⟨_,rfl,?_⟩
 refine aD dCo rfl fun K hK=>?_;conv=>whnf
 refine bKo rfl ?_;conv=>whnf
 refine And.intro rfl (And.intro (nle rfl) (And.intro rfl ?_));conv=>whnf
 refine hK _ _ _ ?_
 refine aD dCo rfl fun K hK=>?_;conv=>whnf
 refine hK _ _ _ ?_
 refine aN ?_
 refine aD dCo rfl fun K hK=>?_;conv=>whnf
 refine gKo rfl ?_;conv=>whnf
 refine hK _ _ _ ?_
 refine aQ ?_
 replace h:=aS h
 refine fP (body:=mG _ _) rfl h [7,17,20] [7] [17] (fun kl kh ids b s=>⟨ofL ([(8,(eL 1 eI default) s.1),(21,eI s.2.1)]++kl),ofH ([(aAq ids 0,abM (eL 1 eI default) s.2.2)]++kh),b+64⟩) ?_;(conv=>whnf);refine And.intro ?_ (fun s m h=>dO ?_)
 ·refine bI ?_;conv=>whnf
  exact And.intro rfl (And.intro (aLc (WkR.wk kI (lsL fun _=>(lsI _ _))) (aLc wkI (aLc (WkR.ptr (fun _=>rfl)) (aLc (WkR.mp (fun _=>rfl)) (aLc wkI aLn))))) (aLc ⟨some _,rfl,iO (enc:=(eL 1 eI default)) (m:=(GM.mt (List Int))) rfl (fun _=>(lsL fun _=>(lsI _ _)))⟩ (aLc ⟨some _,rfl,bRc rfl (cKc (eZ bL (aM (pE (aM (WkR.mp (fun _=>rfl)) bL)) (aM (wkr (lsE (lsC (lsI _ _) (lsC (lsL fun _=>(aO _)) lsN)))) (aM (wkr (lsE (aW _))) (aM (WkR.ptr (fun _=>rfl)) bL))))) cKn)⟩ aLn)))
 replace h:=aS h;rw [mG.eq_1] at h
 refine aD dCo rfl fun K hK=>?_;conv=>whnf
 refine hK _ _ _ ?_
 refine aN ?_
 refine bA fun K1 K2 hK1 hK2=>?_;conv=>whnf
 refine cLk h (fun _ h=>?_) (fun _ h=>?_)
 ·refine hK1 ?_
  refine aL ?_
  refine tHn ?_
  refine aN ?_
  refine aQ ?_
  refine aD dCo rfl fun K hK=>?_;conv=>whnf
  refine hK _ _ _ ?_
  refine aD dCo rfl fun K hK=>?_;conv=>whnf
  refine nlA rfl ?_;conv=>whnf
  refine bKo rfl ?_;conv=>whnf
  refine gKo rfl ?_;conv=>whnf
  refine dQ (bs:=[.ab (abM (eL 1 eI default) _),.fn 59 [.m 0,.v _,.v _,.p 1]]) (args0:=[_,.ep [.mp 0] 0,_,_,.ptr 1 0]) h59 [_,_] h (.cons (rG (Wk.refl _) (lsI _ _)) (.cons (aAH (pM (aAV rfl) qG)) (.cons (bW (lsE (lsC (lsI _ _) (lsC (lsL fun _=>(aO _)) lsN)))) (.cons (bW (lsE (aW _))) (.cons (eS rfl) .nil))))) ⟨⟨_,rfl,bkW _⟩,rfl,trivial⟩ rfl (nle rfl) (fun y e=>(⟨_,_,_,_,_,rfl,rfl,e,rfl,rfl⟩:oO 10 _ _ _ _)) (fun _ h=>?_);conv=>whnf
  refine hK _ _ _ ?_
  replace h:=dF h
  refine bA fun K1 K2 hK1 hK2=>?_;conv=>whnf
  refine cLk h (fun _ h=>?_) (fun _ h=>?_)
  ·refine hK1 ?_
   refine cX dCo rfl fun K hK=>?_;conv=>whnf
   refine nlA rfl ?_;conv=>whnf
   refine bKo rfl ?_;conv=>whnf
   refine gKo rfl ?_;conv=>whnf
   refine dQ (bs:=[.ab (abM (eL 1 eI default) _),.fn 59 [.m 0,.v _,.v _,.p 1]]) (args0:=[_,.ep [.mp 0] 0,_,_,.ptr 1 0]) h59 [_,_] h (.cons (rG (Wk.refl _) (lsI _ _)) (.cons (aAH (pM (aAV rfl) qG)) (.cons (bW (lsE (lsC (lsI _ _) (lsC (lsL fun _=>(aO _)) lsN)))) (.cons (bW (lsE (aW _))) (.cons (eS rfl) .nil))))) ⟨⟨_,rfl,bkW _⟩,rfl,trivial⟩ rfl (nle rfl) (fun y e=>(⟨_,_,_,_,_,rfl,rfl,e,rfl,rfl⟩:oO 10 _ _ _ _)) (fun _ h=>?_);conv=>whnf
   refine hK _ _ _ ?_
   refine iBn ?_
   refine tHn ?_
   refine cX dCo rfl fun K hK=>?_;conv=>whnf
   refine hK _ _ _ ?_
   refine tHn ?_
   replace h:=bX h
   refine ⟨_,h,?_⟩
   refine bI ?_;conv=>whnf
   exact And.intro rfl (And.intro (aLc (wkr (lsL fun _=>(lsI _ _))) (aLc wkI (aLc (WkR.ptr (fun _=>rfl)) (aLc (WkR.mp (fun _=>rfl)) (aLc wkI aLn))))) (aLc ⟨some _,rfl,iO (enc:=(eL 1 eI default)) rfl (fun _=>(lsL fun _=>(lsI _ _)))⟩ (aLc ⟨some _,rfl,bRc rfl (cKc (eZ bL (aM (pE (aM (WkR.mp (fun _=>rfl)) bL)) (aM (wkr (lsE (lsC (lsI _ _) (lsC (lsL fun _=>(aO _)) lsN)))) (aM (wkr (lsE (aW _))) (aM (WkR.ptr (fun _=>rfl)) bL))))) cKn)⟩ aLn)))
  refine hK2 ?_
  refine aL ?_
  refine iBn ?_
  refine tHn ?_
  refine cX dCo rfl fun K hK=>?_;conv=>whnf
  refine hK _ _ _ ?_
  refine tHn ?_
  replace h:=bX h
  refine ⟨_,h,?_⟩
  refine bI ?_;conv=>whnf
  exact And.intro rfl (And.intro (aLc (wkr (lsL fun _=>(lsI _ _))) (aLc wkI (aLc (WkR.ptr (fun _=>rfl)) (aLc (WkR.mp (fun _=>rfl)) (aLc wkI aLn))))) (aLc ⟨some _,rfl,iO (enc:=(eL 1 eI default)) rfl (fun _=>(lsL fun _=>(lsI _ _)))⟩ (aLc ⟨some _,rfl,bRc rfl (cKc (eZ bL (aM (pE (aM (WkR.mp (fun _=>rfl)) bL)) (aM (wkr (lsE (lsC (lsI _ _) (lsC (lsL fun _=>(aO _)) lsN)))) (aM (wkr (lsE (aW _))) (aM (WkR.ptr (fun _=>rfl)) bL))))) cKn)⟩ aLn)))
 refine hK2 ?_
 refine bK ?_
 refine aY ?_
 refine aY ?_
 refine aX ?_
 replace h:=dE h
 replace h:=dB h
 refine tHn ?_
 refine aD dCo rfl fun K hK=>?_;conv=>whnf
 refine aDY h fun hg h=>?_
 replace h:=aKx h
 refine sS h60 (aA (Wk.refl _) aB) hg (fun _=>(lsC (lsI _ _) lsN)) ?_;conv=>whnf
 refine hK _ _ _ ?_
 refine oA 2 (enc:=eI) (e:=3) default (lZ dCo rfl rfl rfl (fun _=>⟨rfl,rfl⟩)) ?_;(conv=>whnf);refine ⟨_,_,rfl,rfl,rfl,?_⟩
 refine aG ?_
 replace h:=aF h
 refine aC dCo fun K hK=>?_;conv=>whnf
 refine hK _ ?_
 cases h
 exact Wk.refl _
theorem tB {T:Tbl} (hT:T 29=aU iU) {args:List AV} {hp:bD} {id:Nat} {k:AV→Prop} {a0:aP} {Φ:(List Int)×Int→Prop} (h:W (kS a0) Φ) (hw:WkL args [bS a0]) (hk:∀ y,Φ y→k (.tup [(eL 1 eI default) y.1,eI y.2])):dJ T 29 args hp id k:=by
 obtain ⟨y,e,hy⟩:=fE h
 exact bF hT ⟨a0,rfl,kK e rfl⟩ (by exact fQ (lsC (lsL fun _=>(lsI _ _)) (lsC (lsI _ _) lsN))) hw (hk y hy)
def nX (a0:Int) (a1:Ar 8) (s2:(List Int)×Int×Int):Option (Ct ((List Int)×Int×Int) (List Int)):=cn (decide (s2.2.2<a0)) (jn (fun p3:Bool=>
  cn p3 (lt ([s2.2.2]:List Int) fun l5=>ap s2.1 l5 fun l6=>gd (0≤s2.2.2) (let v7:=(bor .i64 s2.2.1 (aD5 .i64 1 s2.2.2));
  some (.bk (l6,v7,s2.2.2)))) (some (.nx (s2.1,s2.2.1,(wr (s2.2.2+1)))))) fun k4=>gd (0≤s2.2.2) (cn ((tK .i64 (vP .i64 s2.2.1 s2.2.2) 1) ==
  0) (gd (0≤s2.2.2∧s2.2.2<(8:Int)) (k4 ((uX .i64 (a1.at1 s2.2.2) s2.2.1)==0))) (k4 false))) (some (.bk (s2.1,s2.2.1,s2.2.2)))
  def oE (a0:Int) (a1:Ar 8) (s1:(List Int)×Int):Option (Ct ((List Int)×Int) (List Int)):=cn (decide ((s1.1.length:Int)<a0)) (bd (lp (nX a0 a1) FU (s1.1,s1.2,0)) fun c8=>
  smK c8 (fun s9=>some (.nx (s9.1,s9.2.1))) (fun r10=>some (.rt r10))) (some (.bk (s1.1,s1.2)))
def iF (a0:Int) (a1:Ar 8):Option (List Int):=bd (lp (oE a0 a1) FU ([],0)) fun c11=>smK c11 (fun s12=>some s12.1) (fun r13=>some r13)
def gC:List AV→AV→Prop:=fun args r=>∃ a0 a1,args=[eI a0,eAr a1]∧W (iF a0 a1) fun y=>r=((eL 1 eI default) y)
theorem aAk {T:Tbl} (hT:TOk Tryd.prog T) (hpf:dD T PF):FOk Tryd.prog 57 (aU gC):=by
 refine bO hT hpf Tryd.func57 rfl Tryd.ntmps57 Tryd.results57 (by decide) ?_
 rintro args r ⟨a0,a1,rfl,h⟩
 refine ⟨nle rfl,?_,?_⟩
 ·exact (lsC (lsI _ _) (lsC (pG _) lsN))
 rw [iF.eq_1] at h
 refine aD dCo rfl fun K hK=>?_;conv=>whnf
 refine aZ ?_;conv=>whnf
 refine hK _ _ _ ?_
 refine aD dCo rfl fun K hK=>?_;conv=>whnf
 refine hK _ _ _ ?_
 refine aN ?_
 refine aD dCo rfl fun K hK=>?_;conv=>whnf
 refine hK _ _ _ ?_
 refine aQ ?_
 replace h:=aS h
 refine hU (body:=oE _ _) rfl h [0,3] [] [3] [] (fun kl kh kr ids b s=>⟨ofL ([(5,.so (b+0) 0 s.1.length 1),(6,eI s.2)]++kl),ofH (([]++kh)++([(b+0,.cells (flE (ceE eI) s.1))]++kr)),b+128⟩) ?_;(conv=>whnf);refine And.intro ?_ (fun s m h=>dO ?_)
 ·refine bR ?_;conv=>whnf
  exact And.intro rfl (And.intro (aLc (WkR.nilso (fun _=>rfl)) (aLc wkI (aLc wkI (aLc (WkR.ptr (fun _=>rfl)) aLn)))) (aLc ⟨none,rfl,aAu⟩ (aLc ⟨some _,rfl,bE rfl rfl⟩ aLn)))
 replace h:=aS h;rw [oE.eq_1] at h
 refine aN ?_
 refine aD dCo rfl fun K hK=>?_;conv=>whnf
 refine hK _ _ _ ?_
 refine bA fun K1 K2 hK1 hK2=>?_;conv=>whnf
 refine cLk h (fun _ h=>?_) (fun _ h=>?_)
 ·refine hK1 ?_
  refine aL ?_
  refine tHn ?_
  refine aQ ?_
  refine aD dCo rfl fun K hK=>?_;conv=>whnf
  refine hK _ _ _ ?_
  refine aQ ?_
  replace h:=aS h
  refine hU (body:=nX _ _) rfl h [0,3,12] [] [3] [] (fun kl kh kr ids b s=>⟨ofL ([(5,.so (b+0) 0 s.1.length 1),(6,eI s.2.1),(13,eI s.2.2)]++kl),ofH (([]++kh)++([(b+0,.cells (flE (ceE eI) s.1))]++kr)),b+128⟩) ?_;(conv=>whnf);refine And.intro ?_ (fun s m h=>dO ?_)
  ·refine bR ?_;conv=>whnf
   exact And.intro rfl (And.intro (aLc (WkR.so (fun _=>rfl)) (aLc wkI (aLc wkI (aLc wkI (aLc (WkR.ptr (fun _=>rfl)) (aLc wkI aLn)))))) (aLc ⟨some _,rfl,gL rfl (fun _=>(lsC (lsI _ _) lsN))⟩ (aLc ⟨some _,rfl,bE rfl rfl⟩ aLn)))
  replace h:=aS h;rw [nX.eq_1] at h
  refine aD dCo rfl fun K hK=>?_;conv=>whnf
  refine hK _ _ _ ?_
  refine aN ?_
  refine bA fun K1 K2 hK1 hK2=>?_;conv=>whnf
  refine cLk h (fun _ h=>?_) (fun _ h=>?_)
  ·refine hK1 ?_
   refine aL ?_
   refine tHn ?_
   refine aN ?_
   refine aQ ?_
   refine aD dCo rfl fun K hK=>?_;conv=>whnf
   refine hK _ _ _ ?_
   refine aD dCo rfl fun K hK=>?_;conv=>whnf
   replace h:=dF h
   refine dG h fun _ h=>?_;conv=>whnf
   refine cLk h (fun _ h=>?_) (fun _ h=>?_)<;>(conv=>whnf)
   ·refine dG h fun hx113 h=>?_;conv=>whnf
    refine nlA rfl ?_;conv=>whnf
    refine bKo rfl ?_;conv=>whnf
    refine eJ rfl hx113 ?_;conv=>whnf
    refine hK _ _ _ ?_
    refine bA fun K1 K2 hK1 hK2=>?_;conv=>whnf
    refine cLk h (fun _ h=>?_) (fun _ h=>?_)
    ·refine hK1 ?_
     refine mQ dCo cV rfl (by kernel_rfl) fun K hK=>?_;conv=>whnf
     refine cI (enc:=eI) (d:=default) dCo h rfl rfl rfl ⟨nle rfl,nle rfl,rfl⟩ rfl ⟨⟨rfl,rfl,rfl⟩,trivial⟩ (fun h=>?_);conv=>whnf
     refine aAY (enc:=eI) (d:=default) dCo h rfl rfl rfl ⟨rfl,nle rfl,nle rfl,nle rfl,rfl⟩ (fun _=>rfl) (fun _=>rfl) (fun _=>nofun) rfl (rfl) (fun h=>?_);conv=>whnf
     refine dG h fun _ h=>?_;conv=>whnf
     refine hK _ _ _ ?_
     refine bK ?_
     refine oN (by decide) ?_
     refine aY ?_
     refine aY ?_
     refine aX ?_
     replace h:=dE h
     replace h:=dB h
     refine iBn ?_
     refine tHn ?_
     replace h:=bX h
     refine ⟨_,h,?_⟩
     refine bR ?_;conv=>whnf
     exact And.intro rfl (And.intro (aLc (WkR.so (fun _=>rfl)) (aLc wkI (aLc wkI (aLc (WkR.ptr (fun _=>rfl)) aLn)))) (aLc ⟨some _,rfl,gL rfl (fun _=>(lsC (lsI _ _) lsN))⟩ (aLc ⟨some _,rfl,bE rfl rfl⟩ aLn)))
    refine hK2 ?_
    refine aL ?_
    refine iBn ?_
    refine tHn ?_
    refine cX dCo rfl fun K hK=>?_;conv=>whnf
    refine hK _ _ _ ?_
    refine tHn ?_
    replace h:=bX h
    refine ⟨_,h,?_⟩
    refine bR ?_;conv=>whnf
    exact And.intro rfl (And.intro (aLc (WkR.so (fun _=>rfl)) (aLc wkI (aLc wkI (aLc wkI (aLc (WkR.ptr (fun _=>rfl)) (aLc wkI aLn)))))) (aLc ⟨some _,rfl,gL rfl (fun _=>(lsC (lsI _ _) lsN))⟩ (aLc ⟨some _,rfl,bE rfl rfl⟩ aLn)))
   refine hK _ _ _ ?_
   refine bA fun K1 K2 hK1 hK2=>?_;conv=>whnf
   refine hK2 ?_
   replace h:=pI h
   refine aL ?_
   refine iBn ?_
   refine tHn ?_
   refine cX dCo rfl fun K hK=>?_;conv=>whnf
   refine hK _ _ _ ?_
   refine tHn ?_
   replace h:=bX h
   refine ⟨_,h,?_⟩
   refine bR ?_;conv=>whnf
   exact And.intro rfl (And.intro (aLc (WkR.so (fun _=>rfl)) (aLc wkI (aLc wkI (aLc wkI (aLc (WkR.ptr (fun _=>rfl)) (aLc wkI aLn)))))) (aLc ⟨some _,rfl,gL rfl (fun _=>(lsC (lsI _ _) lsN))⟩ (aLc ⟨some _,rfl,bE rfl rfl⟩ aLn)))
  refine hK2 ?_
  refine bK ?_
  refine aY ?_
  refine aY ?_
  refine aX ?_
  replace h:=dE h
  replace h:=dB h
  refine iBn ?_
  refine tHn ?_
  replace h:=bX h
  refine ⟨_,h,?_⟩
  refine bR ?_;conv=>whnf
  exact And.intro rfl (And.intro (aLc (WkR.so (fun _=>rfl)) (aLc wkI (aLc wkI (aLc (WkR.ptr (fun _=>rfl)) aLn)))) (aLc ⟨some _,rfl,gL rfl (fun _=>(lsC (lsI _ _) lsN))⟩ (aLc ⟨some _,rfl,bE rfl rfl⟩ aLn)))
 refine hK2 ?_
 refine bK ?_
 refine aY ?_
 refine aY ?_
 refine aX ?_
 replace h:=dE h
 replace h:=dB h
 refine tHn ?_
 refine aD dCo rfl fun K hK=>?_;conv=>whnf
 refine hK _ _ _ ?_
 refine oA 4 (enc:=eI) (e:=3) default (lZ dCo rfl rfl rfl (fun _=>⟨rfl,rfl⟩)) ?_;(conv=>whnf);refine ⟨_,_,rfl,rfl,rfl,?_⟩
 refine aG ?_
 replace h:=aF h
 refine aC dCo fun K hK=>?_;conv=>whnf
 refine hK _ ?_
 cases h
 exact Wk.refl _
theorem lI {T:Tbl} (hT:T 57=aU gC) {args:List AV} {hp:bD} {id:Nat} {k:AV→Prop} {a0:Int} {a1:Ar 8} {Φ:List Int→Prop} (h:W (iF a0 a1) Φ) (hw:WkL args [eI a0,eAr a1]) (hk:∀ y,Φ y→k ((eL 1 eI default) y)):dJ T 57 args hp id k:=by
 obtain ⟨y,e,hy⟩:=fE h
 exact bF hT ⟨a0,a1,rfl,kK e rfl⟩ (by exact (lsL fun _=>(lsI _ _))) hw (hk y hy)
def lW (a0:aP):Option ((List Int)×Int):=bd (bT a0) fun y1=>cn (!y1.2) (some ([],70)) (bd (iF a0.N y1.1) fun y2=>some (y2,0))
def jO:List AV→AV→Prop:=fun args r=>∃ a0,args=[bS a0]∧W (lW a0) fun y=>r=(.tup [(eL 1 eI default) y.1,eI y.2])
theorem yA {T:Tbl} (hT:TOk Tryd.prog T) (hpf:dD T PF) (h54:T 54=aU cL) (h57:T 57=aU gC):FOk Tryd.prog 19 (aU jO):=by
 refine bO hT hpf Tryd.func19 rfl Tryd.ntmps19 Tryd.results19 (by decide) ?_
 rintro args r ⟨a0,rfl,h⟩
 refine ⟨nle rfl,?_,?_⟩
 ·exact (lsC (cO _) lsN)
 rw [lW.eq_1] at h
 refine aD dCo rfl fun K hK=>?_;conv=>whnf
 refine hK _ _ _ ?_
 refine aD dCo rfl fun K hK=>?_;conv=>whnf
 refine nlA rfl ?_;conv=>whnf
 refine bKo rfl ?_;conv=>whnf
 refine nlA rfl ?_;conv=>whnf
 replace h:=aS h
 refine cK h54 h (WkL.refl _) (fun _ h=>?_);conv=>whnf
 refine aZ ?_;conv=>whnf
 refine aZ ?_;conv=>whnf
 refine aZ ?_;conv=>whnf
 refine bKo rfl ?_;conv=>whnf
 refine pC rfl rfl rfl ?_;conv=>whnf
 refine hK _ _ _ ?_
 refine aN ?_
 refine aD dCo rfl fun K hK=>?_;conv=>whnf
 refine hK _ _ _ ?_
 refine bA fun K1 K2 hK1 hK2=>?_;conv=>whnf
 refine cLk h (fun _ h=>?_) (fun _ h=>?_)
 ·refine hK1 ?_
  refine aD dCo rfl fun K hK=>?_;conv=>whnf
  refine hK _ _ _ ?_
  refine aG ?_
  refine aR ?_
  replace h:=aF h
  refine aC dCo fun K hK=>?_;conv=>whnf
  refine hK _ ?_
  cases h
  exact oM (aA kI (aA (Wk.refl _) aB))
 refine hK2 ?_
 refine aL ?_
 refine tHn ?_
 refine aD dCo rfl fun K hK=>?_;conv=>whnf
 refine nlA rfl ?_;conv=>whnf
 refine bKo rfl ?_;conv=>whnf
 refine gKo rfl ?_;conv=>whnf
 refine nlA rfl ?_;conv=>whnf
 refine bKo rfl ?_;conv=>whnf
 refine rE rfl ?_;conv=>whnf
 refine aZ ?_;conv=>whnf
 replace h:=aS h
 refine lI h57 h (WkL.refl _) (fun _ h=>?_);conv=>whnf
 refine hK _ _ _ ?_
 refine aG ?_
 replace h:=aF h
 refine aC dCo fun K hK=>?_;conv=>whnf
 refine hK _ ?_
 cases h
 exact Wk.refl _
theorem vD {T:Tbl} (hT:T 19=aU jO) {args:List AV} {hp:bD} {id:Nat} {k:AV→Prop} {a0:aP} {Φ:(List Int)×Int→Prop} (h:W (lW a0) Φ) (hw:WkL args [bS a0]) (hk:∀ y,Φ y→k (.tup [(eL 1 eI default) y.1,eI y.2])):dJ T 19 args hp id k:=by
 obtain ⟨y,e,hy⟩:=fE h
 exact bF hT ⟨a0,rfl,kK e rfl⟩ (by exact fQ (lsC (lsL fun _=>(lsI _ _)) (lsC (lsI _ _) lsN))) hw (hk y hy)
def dM (a0:Int):Option Int:=cn (a0 ==
  0) (some 64) (gd (0≤(vP .u64 (IntKind.u64.wrap ((tK .u64 a0 (IntKind.u64.wrap (0-a0))) * 285870213051353865)) 58)∧(vP .u64 (IntKind.u64.wrap ((tK .u64 a0 (IntKind.u64.wrap (0-a0))) * 285870213051353865)) 58)<(64:Int)) (let v1:=(wr ((gTz 1 (vP .u64 (IntKind.u64.wrap ((tK .u64 a0 (IntKind.u64.wrap (0-a0))) * 285870213051353865)) 58))));
  some v1))
def cP:List AV→AV→Prop:=fun args r=>∃ a0,args=[(AV.int .u64) a0]∧W (dM a0) fun y=>r=(eI y)
theorem kU {T:Tbl} (hT:TOk Tryd.prog T) (hpf:dD T PF):FOk Tryd.prog 87 (aU cP):=by
 refine bO hT hpf Tryd.func87 rfl Tryd.ntmps87 Tryd.results87 (by decide) ?_
 rintro args r ⟨a0,rfl,h⟩
 refine ⟨nle rfl,?_,?_⟩
 ·exact (lsC (lsI _ _) lsN)
 rw [dM.eq_1] at h
 refine aD dCo rfl fun K hK=>?_;conv=>whnf
 refine hK _ _ _ ?_
 refine aN ?_
 refine aD dCo rfl fun K hK=>?_;conv=>whnf
 refine hK _ _ _ ?_
 refine bA fun K1 K2 hK1 hK2=>?_;conv=>whnf
 refine cLk h (fun _ h=>?_) (fun _ h=>?_)
 ·refine hK1 ?_
  refine aD dCo rfl fun K hK=>?_;conv=>whnf
  refine hK _ _ _ ?_
  refine aG ?_
  refine aR ?_
  replace h:=aF h
  refine aC dCo fun K hK=>?_;conv=>whnf
  refine hK _ ?_
  cases h
  exact Wk.refl _
 refine hK2 ?_
 refine aL ?_
 refine tHn ?_
 refine aD dCo rfl fun K hK=>?_;conv=>whnf
 refine And.intro (by decide) ?_;conv=>whnf
 refine dG h fun hx117 h=>?_;conv=>whnf
 refine aH5 1 64 rfl rfl hx117 ?_;conv=>whnf
 refine hK _ _ _ ?_
 refine aG ?_
 replace h:=aF h
 refine aC dCo fun K hK=>?_;conv=>whnf
 refine hK _ ?_
 cases h
 exact Wk.refl _
theorem jP {T:Tbl} (hT:T 87=aU cP) {args:List AV} {hp:bD} {id:Nat} {k:AV→Prop} {a0:Int} {Φ:Int→Prop} (h:W (dM a0) Φ) (hw:WkL args [(AV.int .u64) a0]) (hk:∀ y,Φ y→k (eI y)):dJ T 87 args hp id k:=by
 obtain ⟨y,e,hy⟩:=fE h
 exact bF hT ⟨a0,rfl,kK e rfl⟩ (by exact (lsI _ _)) hw (hk y hy)
def dT (a0:Int):Option Int:=bd (dM a0) fun y1=>some y1
def dC:List AV→AV→Prop:=fun args r=>∃ a0,args=[(AV.int .u64) a0]∧W (dT a0) fun y=>r=(eI y)
theorem lV {T:Tbl} (hT:TOk Tryd.prog T) (hpf:dD T PF) (h87:T 87=aU cP):FOk Tryd.prog 82 (aU dC):=by
 refine bO hT hpf Tryd.func82 rfl Tryd.ntmps82 Tryd.results82 (by decide) ?_
 rintro args r ⟨a0,rfl,h⟩
 refine ⟨nle rfl,?_,?_⟩
 ·exact (lsC (lsI _ _) lsN)
 rw [dT.eq_1] at h
 refine aD dCo rfl fun K hK=>?_;conv=>whnf
 refine hK _ _ _ ?_
 refine aN ?_
 refine bA fun K1 K2 hK1 hK2=>?_;conv=>whnf
 refine hK2 ?_
 refine aL ?_
 refine tHn ?_
 refine aD dCo rfl fun K hK=>?_;conv=>whnf
 replace h:=aS h
 refine jP h87 h (WkL.refl _) (fun _ h=>?_);conv=>whnf
 refine hK _ _ _ ?_
 refine aG ?_
 replace h:=aF h
 refine aC dCo fun K hK=>?_;conv=>whnf
 refine hK _ ?_
 cases h
 exact Wk.refl _
theorem kV {T:Tbl} (hT:T 82=aU dC) {args:List AV} {hp:bD} {id:Nat} {k:AV→Prop} {a0:Int} {Φ:Int→Prop} (h:W (dT a0) Φ) (hw:WkL args [(AV.int .u64) a0]) (hk:∀ y,Φ y→k (eI y)):dJ T 82 args hp id k:=by
 obtain ⟨y,e,hy⟩:=fE h
 exact bF hT ⟨a0,rfl,kK e rfl⟩ (by exact (lsI _ _)) hw (hk y hy)
def lJ (s1:Int×(List Int)):Option (Ct (Int×(List Int)) (List Int)):=cn (s1.1 != 0) (bd (dT (IntKind.u64.wrap (s1.1))) fun y2=>
  lt ([y2]:List Int) fun l3=>ap s1.2 l3 fun l4=>let v5:=(tK .i64 s1.1 (wr (s1.1-1)));some (.nx (v5,l4))) (some (.bk (s1.1,s1.2)))
def jK (a0:Int):Option (List Int):=bd (lp (lJ) FU (a0,[])) fun c6=>smK c6 (fun s7=>some s7.2) (fun r8=>some r8)
def hG:List AV→AV→Prop:=fun args r=>∃ a0,args=[eI a0]∧W (jK a0) fun y=>r=((eL 1 eI default) y)
theorem uH {T:Tbl} (hT:TOk Tryd.prog T) (hpf:dD T PF) (h82:T 82=aU dC):FOk Tryd.prog 61 (aU hG):=by
 refine bO hT hpf Tryd.func61 rfl Tryd.ntmps61 Tryd.results61 (by decide) ?_
 rintro args r ⟨a0,rfl,h⟩
 refine ⟨nle rfl,?_,?_⟩
 ·exact (lsC (lsI _ _) lsN)
 rw [jK.eq_1] at h
 refine aD dCo rfl fun K hK=>?_;conv=>whnf
 refine hK _ _ _ ?_
 refine aN ?_
 refine aQ ?_
 replace h:=aS h
 refine fP (body:=lJ) rfl h [] [] [] (fun kl kh ids b s=>⟨ofL ([(0,eI s.1),(2,.lst (.tok (b+0)) 1 s.2.length (fun j=>eI (s.2.getD j default)))]++kl),ofH ([(b+0,.cells [])]++kh),b+128⟩) ?_;(conv=>whnf);refine And.intro ?_ (fun s m h=>dO ?_)
 ·refine bI ?_;conv=>whnf
  exact And.intro rfl (And.intro (aLc wkI (aLc (WkR.nil (fun _=>rfl)) aLn)) (aLc ⟨none,rfl,qL⟩ aLn))
 replace h:=aS h;rw [lJ.eq_1] at h
 refine aN ?_
 refine aD dCo rfl fun K hK=>?_;conv=>whnf
 refine hK _ _ _ ?_
 refine bA fun K1 K2 hK1 hK2=>?_;conv=>whnf
 refine cLk h (fun _ h=>?_) (fun _ h=>?_)
 ·refine hK1 ?_
  refine aL ?_
  refine tHn ?_
  refine aN ?_
  refine aQ ?_
  refine cX dCo rfl fun K hK=>?_;conv=>whnf
  replace h:=aS h
  refine kV h82 h (WkL.refl _) (fun _ h=>?_);conv=>whnf
  refine cI (enc:=eI) (d:=default) dCo h rfl rfl rfl ⟨nle rfl,nle rfl,rfl⟩ rfl ⟨⟨rfl,rfl,rfl⟩,trivial⟩ (fun h=>?_);conv=>whnf
  refine bN (enc:=eI) (d:=default) dCo h (.inl rfl) rfl rfl rfl ⟨rfl,nle rfl,nle rfl,nle rfl,rfl⟩ (fun _=>rfl) (.inr (.inr ⟨_,_,rfl,rfl,rfl⟩)) (fun h=>?_);conv=>whnf
  refine hK _ _ _ ?_
  refine iBn ?_
  refine tHn ?_
  refine cX dCo rfl fun K hK=>?_;conv=>whnf
  refine hK _ _ _ ?_
  refine tHn ?_
  replace h:=bX h
  refine ⟨_,h,?_⟩
  refine bI ?_;conv=>whnf
  exact And.intro rfl (And.intro (aLc wkI (aLc (WkR.tok (fun _=>rfl) rfl (fun _ _=>Wk.refl _) (fun _=>(lsI _ _))) aLn)) (aLc ⟨some _,rfl,bRc rfl cKn⟩ aLn))
 refine hK2 ?_
 refine bK ?_
 refine aY ?_
 refine aY ?_
 refine aX ?_
 replace h:=dE h
 replace h:=dB h
 refine tHn ?_
 refine aD dCo rfl fun K hK=>?_;conv=>whnf
 refine hK _ _ _ ?_
 refine aG ?_
 replace h:=aF h
 refine aC dCo fun K hK=>?_;conv=>whnf
 refine hK _ ?_
 cases h
 exact aH
theorem rW {T:Tbl} (hT:T 61=aU hG) {args:List AV} {hp:bD} {id:Nat} {k:AV→Prop} {a0:Int} {Φ:List Int→Prop} (h:W (jK a0) Φ) (hw:WkL args [eI a0]) (hk:∀ y,Φ y→k ((eL 1 eI default) y)):dJ T 61 args hp id k:=by
 obtain ⟨y,e,hy⟩:=fE h
 exact bF hT ⟨a0,rfl,kK e rfl⟩ (by exact (lsL fun _=>(lsI _ _))) hw (hk y hy)
end Go.Proofs.YtlmboonbfhkfnaaDoor
