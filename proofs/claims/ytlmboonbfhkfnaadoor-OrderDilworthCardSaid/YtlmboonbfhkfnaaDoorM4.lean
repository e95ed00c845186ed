import Derived.Test.YtlmboonbfhkfnaaDoorRows
import Derived.Test.YtlmboonbfhkfnaaDoorM2
import Derived.ProofKit
import Derived.LaidMore
import Derived.OpenShut
import Derived.Stop.Joined
import Derived.Test.YtlmboonbfhkfnaaDoorProg
import Derived.Test.YtlmboonbfhkfnaaDoorM3
import Derived.KernelRfl
import Derived.Laws.StructEq
import Derived.ChangeKeysEq
set_option linter.unusedVariables false
set_option linter.unusedSimpArgs false
set_option linter.unusedSectionVars false
namespace Go.Proofs.YtlmboonbfhkfnaaDoor
open Go Go.Eng Go.ChangeShapes Go.WideShapes Go.ChangeAt Go.WideMaps Go.WideElems Go.RowKit
set_option maxRecDepth 100000
abbrev aEt:List (String×DataW Unit):=[("math/bits.deBruijn32tab", Rows.laid_math_bits_deBruijn32tab),("math/bits.deBruijn64tab", Rows.laid_math_bits_deBruijn64tab)]
theorem aGp (os:Os) (args:Array Value):laidMetH Tryd.prog aEt ((World.doorLaid Tryd.prog 400 os).forCall (fun _ _=>0) ⟨#[],args,[]⟩).memory:=
 laidMetH_of_parts3 (fuel:=8) (laidMet_of_run' 8 (by kernel_rfl) (by kernel_rfl)) (by kernel_rfl) (by kernel_rfl)
theorem g32:Tryd.prog.globalNamed "math/bits.deBruijn32tab" = some 0:=by kernel_rfl
theorem g64:Tryd.prog.globalNamed "math/bits.deBruijn64tab" = some 1:=by kernel_rfl
theorem t32:(Tryd.prog.globals[0]?).map (·.type)=some 99:=by kernel_rfl
theorem t64:(Tryd.prog.globals[1]?).map (·.type)=some 100:=by kernel_rfl
theorem c5:Tryd.prog.cellsOf 5=1:=by kernel_rfl
theorem aGN {H:Type} {enc:TypeId×Value→H} {W:World} {base:Nat} {spare:Nat→Bool} {held:Bool} {fuel:Nat} {t n:Nat} {cs:Array Value} {p:List MemPlace} {L:List Nat} (ht:Tryd.prog.underlying t=some (.array n 5)) (hn:L.length=n)
  (h:DataW.trod enc Tryd.prog W base spare held fuel t cs.toList=some (.agg (L.map fun n:Nat=>.lit (.int .u8 (n:Int))),p)) {i:Nat} {v:Value} (hv:(L.map fun n:Nat=>Value.int .u8 (n:Int))[i]?=some v):cs[i]?=some v:=by
 obtain ⟨xs,m,rfl,hx,_,hl,hel⟩:=DataW.trod_array ht h
 rw [List.getElem?_map] at hv
 obtain ⟨x,hx1,rfl⟩:=Option.map_eq_some_iff.1 hv
 have hi:i<L.length:=(List.getElem?_eq_some_iff.1 hx1).1
 have h1:=hel i (by omega)
 obtain ⟨y,hy⟩:∃ y,xs[i]?=some y:=⟨xs[i]'(by omega),List.getElem?_eq_getElem (by omega)⟩
 rw [hy] at h1
 obtain ⟨k,e1,e2,_⟩:=DataW.trod_int Tryd.underlying5 h1
 simp only [Prod.mk.injEq,DataW.agg.injEq] at hx
 have e3:(xs.map (·.1))[i]?=some (.lit (.int .u8 k)):=by rw [List.getElem?_map,hy,e2];rfl
 rw [← hx.1,List.getElem?_map,hx1] at e3
 have e4:(x:Int)=k:=by simpa using e3
 rw [c5,Nat.mul_one] at e1
 have e5:(cs.toList.drop i)[0]?=some (.int .u8 k):=by
  have:((cs.toList.drop i).take 1)[0]?=some (.int .u8 k):=by rw [e1];rfl
  rwa [List.getElem?_take_of_lt (by omega)] at this
 rw [List.getElem?_drop,Nat.add_zero] at e5
 rw [← Array.getElem?_toList,e5,e4]
theorem aDi {W:World} (h:laidMetH Tryd.prog aEt W):GB (aFn W).fz:=by
 rw [MakeChecks.laidMetH_plain _ _ _ (by kernel_rfl)] at h
 obtain ⟨ps,⟨g0,t0,cs0,f0,p0,q0,hg0,ht0,hv0,hd0,⟨g1,t1,cs1,f1,p1,q1,hg1,ht1,hv1,hd1,_,_⟩,_⟩,_,_⟩:=h
 obtain rfl:=Option.some.inj (g32.symm.trans hg0)
 obtain rfl:=Option.some.inj (g64.symm.trans hg1)
 obtain rfl:=Option.some.inj (t32.symm.trans ht0)
 obtain rfl:=Option.some.inj (t64.symm.trans ht1)
 intro g i v hv
 show W.cell? ⟨g,0+i,none⟩=some v
 rw [Nat.zero_add]
 match g with
 | 0=>
  rw [World.var?_cell hg0 hv0 i]
  exact aGN Tryd.underlying99 rfl hd0 hv
 | 1=>
  rw [World.var?_cell hg1 hv1 i]
  exact aGN Tryd.underlying100 rfl hd1 hv
 | _+2=>simp [aHN,aH5] at hv
def tdL:List (Nat×TD):=[
 (3,⟨.int .i64,1,[.int .i64 0],8⟩),
 (4,⟨.bool,1,[.bool false],1⟩),
 (5,⟨.int .u8,1,[.int .u8 0],1⟩),
 (22,⟨.slice 46,1,[.nils],24⟩),
 (25,⟨.struct [(3,0),(22,1)],2,[.int .i64 0,.nils],32⟩),
 (26,⟨.slice 3,1,[.nils],24⟩),
 (30,⟨.int .i64,1,[.int .i64 0],8⟩),
 (46,⟨.array 2 3,2,[.int .i64 0,.int .i64 0],16⟩),
 (50,⟨.slice 26,1,[.nils],24⟩),
 (53,⟨.array 8 3,8,[.int .i64 0,.int .i64 0,.int .i64 0,.int .i64 0,.int .i64 0,.int .i64 0,.int .i64 0,.int .i64 0],64⟩),
 (60,⟨.array 8 4,8,[.bool false,.bool false,.bool false,.bool false,.bool false,.bool false,.bool false,.bool false],8⟩),
 (61,⟨.array 8 60,64,[.bool false,.bool false,.bool false,.bool false,.bool false,.bool false,.bool false,.bool false,.bool false,.bool false,.bool false,.bool false,.bool false,.bool false,.bool false,.bool false,.bool false,.bool false,.bool false,.bool false,.bool false,.bool false,.bool false,.bool false,.bool false,.bool false,.bool false,.bool false,.bool false,.bool false,.bool false,.bool false,.bool false,.bool false,.bool false,.bool false,.bool false,.bool false,.bool false,.bool false,.bool false,.bool false,.bool false,.bool false,.bool false,.bool false,.bool false,.bool false,.bool false,.bool false,.bool false,.bool false,.bool false,.bool false,.bool false,.bool false,.bool false,.bool false,.bool false,.bool false,.bool false,.bool false,.bool false,.bool false],64⟩),
 (62,⟨.array 8 60,64,[.bool false,.bool false,.bool false,.bool false,.bool false,.bool false,.bool false,.bool false,.bool false,.bool false,.bool false,.bool false,.bool false,.bool false,.bool false,.bool false,.bool false,.bool false,.bool false,.bool false,.bool false,.bool false,.bool false,.bool false,.bool false,.bool false,.bool false,.bool false,.bool false,.bool false,.bool false,.bool false,.bool false,.bool false,.bool false,.bool false,.bool false,.bool false,.bool false,.bool false,.bool false,.bool false,.bool false,.bool false,.bool false,.bool false,.bool false,.bool false,.bool false,.bool false,.bool false,.bool false,.bool false,.bool false,.bool false,.bool false,.bool false,.bool false,.bool false,.bool false,.bool false,.bool false,.bool false,.bool false],64⟩),
 (65,⟨.array 8 3,8,[.int .i64 0,.int .i64 0,.int .i64 0,.int .i64 0,.int .i64 0,.int .i64 0,.int .i64 0,.int .i64 0],64⟩),
 (73,⟨.map .i64 3 (.int .i64 0),1,[.nilm],8⟩),
 (75,⟨.map .i64 26 (.nils),1,[.nilm],8⟩),
 (76,⟨.other,1,[.nilf],8⟩),
 (80,⟨.other,1,[.nilf],8⟩),
 (82,⟨.other,1,[.nilf],8⟩),
 (92,⟨.int .u64,1,[.int .u64 0],8⟩),
 (96,⟨.int .u32,1,[.int .u32 0],4⟩),
 (98,⟨.int .u64,1,[.int .u64 0],8⟩),
 (99,⟨.array 32 5,32,[.int .u8 0,.int .u8 0,.int .u8 0,.int .u8 0,.int .u8 0,.int .u8 0,.int .u8 0,.int .u8 0,.int .u8 0,.int .u8 0,.int .u8 0,.int .u8 0,.int .u8 0,.int .u8 0,.int .u8 0,.int .u8 0,.int .u8 0,.int .u8 0,.int .u8 0,.int .u8 0,.int .u8 0,.int .u8 0,.int .u8 0,.int .u8 0,.int .u8 0,.int .u8 0,.int .u8 0,.int .u8 0,.int .u8 0,.int .u8 0,.int .u8 0,.int .u8 0],32⟩),
 (100,⟨.array 64 5,64,[.int .u8 0,.int .u8 0,.int .u8 0,.int .u8 0,.int .u8 0,.int .u8 0,.int .u8 0,.int .u8 0,.int .u8 0,.int .u8 0,.int .u8 0,.int .u8 0,.int .u8 0,.int .u8 0,.int .u8 0,.int .u8 0,.int .u8 0,.int .u8 0,.int .u8 0,.int .u8 0,.int .u8 0,.int .u8 0,.int .u8 0,.int .u8 0,.int .u8 0,.int .u8 0,.int .u8 0,.int .u8 0,.int .u8 0,.int .u8 0,.int .u8 0,.int .u8 0,.int .u8 0,.int .u8 0,.int .u8 0,.int .u8 0,.int .u8 0,.int .u8 0,.int .u8 0,.int .u8 0,.int .u8 0,.int .u8 0,.int .u8 0,.int .u8 0,.int .u8 0,.int .u8 0,.int .u8 0,.int .u8 0,.int .u8 0,.int .u8 0,.int .u8 0,.int .u8 0,.int .u8 0,.int .u8 0,.int .u8 0,.int .u8 0,.int .u8 0,.int .u8 0,.int .u8 0,.int .u8 0,.int .u8 0,.int .u8 0,.int .u8 0,.int .u8 0],64⟩)]
def DC:DT:=aIb tdL
theorem td3:sG Tryd.prog 3 ⟨.int .i64,1,[.int .i64 0],8⟩:=⟨by kernel_rfl,by kernel_rfl,by kernel_rfl,Tryd.underlying3⟩
theorem td4:sG Tryd.prog 4 ⟨.bool,1,[.bool false],1⟩:=⟨by kernel_rfl,by kernel_rfl,by kernel_rfl,Tryd.underlying4⟩
theorem td5:sG Tryd.prog 5 ⟨.int .u8,1,[.int .u8 0],1⟩:=⟨by kernel_rfl,by kernel_rfl,by kernel_rfl,Tryd.underlying5⟩
theorem aMQ:sG Tryd.prog 22 ⟨.slice 46,1,[.nils],24⟩:=⟨by kernel_rfl,by kernel_rfl,by kernel_rfl,Tryd.underlying22⟩
theorem aMT:sG Tryd.prog 25 ⟨.struct [(3,0),(22,1)],2,[.int .i64 0,.nils],32⟩:=⟨by kernel_rfl,by kernel_rfl,by kernel_rfl,⟨_,Tryd.underlying25,rfl⟩⟩
theorem aMy:sG Tryd.prog 26 ⟨.slice 3,1,[.nils],24⟩:=⟨by kernel_rfl,by kernel_rfl,by kernel_rfl,Tryd.underlying26⟩
theorem aMH:sG Tryd.prog 30 ⟨.int .i64,1,[.int .i64 0],8⟩:=⟨by kernel_rfl,by kernel_rfl,by kernel_rfl,Tryd.underlying30⟩
theorem aMO:sG Tryd.prog 46 ⟨.array 2 3,2,[.int .i64 0,.int .i64 0],16⟩:=⟨by kernel_rfl,by kernel_rfl,by kernel_rfl,Tryd.underlying46⟩
theorem aMN:sG Tryd.prog 50 ⟨.slice 26,1,[.nils],24⟩:=⟨by kernel_rfl,by kernel_rfl,by kernel_rfl,Tryd.underlying50⟩
theorem aMW:sG Tryd.prog 53 ⟨.array 8 3,8,[.int .i64 0,.int .i64 0,.int .i64 0,.int .i64 0,.int .i64 0,.int .i64 0,.int .i64 0,.int .i64 0],64⟩:=⟨by kernel_rfl,by kernel_rfl,by kernel_rfl,Tryd.underlying53⟩
theorem aMX:sG Tryd.prog 60 ⟨.array 8 4,8,[.bool false,.bool false,.bool false,.bool false,.bool false,.bool false,.bool false,.bool false],8⟩:=⟨by kernel_rfl,by kernel_rfl,by kernel_rfl,Tryd.underlying60⟩
theorem aME:sG Tryd.prog 61 ⟨.array 8 60,64,[.bool false,.bool false,.bool false,.bool false,.bool false,.bool false,.bool false,.bool false,.bool false,.bool false,.bool false,.bool false,.bool false,.bool false,.bool false,.bool false,.bool false,.bool false,.bool false,.bool false,.bool false,.bool false,.bool false,.bool false,.bool false,.bool false,.bool false,.bool false,.bool false,.bool false,.bool false,.bool false,.bool false,.bool false,.bool false,.bool false,.bool false,.bool false,.bool false,.bool false,.bool false,.bool false,.bool false,.bool false,.bool false,.bool false,.bool false,.bool false,.bool false,.bool false,.bool false,.bool false,.bool false,.bool false,.bool false,.bool false,.bool false,.bool false,.bool false,.bool false,.bool false,.bool false,.bool false,.bool false],64⟩:=⟨by kernel_rfl,by kernel_rfl,by kernel_rfl,Tryd.underlying61⟩
theorem aMB:sG Tryd.prog 62 ⟨.array 8 60,64,[.bool false,.bool false,.bool false,.bool false,.bool false,.bool false,.bool false,.bool false,.bool false,.bool false,.bool false,.bool false,.bool false,.bool false,.bool false,.bool false,.bool false,.bool false,.bool false,.bool false,.bool false,.bool false,.bool false,.bool false,.bool false,.bool false,.bool false,.bool false,.bool false,.bool false,.bool false,.bool false,.bool false,.bool false,.bool false,.bool false,.bool false,.bool false,.bool false,.bool false,.bool false,.bool false,.bool false,.bool false,.bool false,.bool false,.bool false,.bool false,.bool false,.bool false,.bool false,.bool false,.bool false,.bool false,.bool false,.bool false,.bool false,.bool false,.bool false,.bool false,.bool false,.bool false,.bool false,.bool false],64⟩:=⟨by kernel_rfl,by kernel_rfl,by kernel_rfl,Tryd.underlying62⟩
theorem aMR:sG Tryd.prog 65 ⟨.array 8 3,8,[.int .i64 0,.int .i64 0,.int .i64 0,.int .i64 0,.int .i64 0,.int .i64 0,.int .i64 0,.int .i64 0],64⟩:=⟨by kernel_rfl,by kernel_rfl,by kernel_rfl,Tryd.underlying65⟩
theorem aM3:sG Tryd.prog 73 ⟨.map .i64 3 (.int .i64 0),1,[.nilm],8⟩:=⟨by kernel_rfl,by kernel_rfl,by kernel_rfl,⟨by kernel_rfl,by kernel_rfl⟩⟩
theorem aMJ:sG Tryd.prog 75 ⟨.map .i64 26 (.nils),1,[.nilm],8⟩:=⟨by kernel_rfl,by kernel_rfl,by kernel_rfl,⟨by kernel_rfl,by kernel_rfl⟩⟩
theorem aMG:sG Tryd.prog 76 ⟨.other,1,[.nilf],8⟩:=⟨by kernel_rfl,by kernel_rfl,by kernel_rfl,(by show aBH _ _=some false;kernel_rfl)⟩
theorem aMU:sG Tryd.prog 80 ⟨.other,1,[.nilf],8⟩:=⟨by kernel_rfl,by kernel_rfl,by kernel_rfl,(by show aBH _ _=some false;kernel_rfl)⟩
theorem aMY:sG Tryd.prog 82 ⟨.other,1,[.nilf],8⟩:=⟨by kernel_rfl,by kernel_rfl,by kernel_rfl,(by show aBH _ _=some false;kernel_rfl)⟩
theorem aMC:sG Tryd.prog 92 ⟨.int .u64,1,[.int .u64 0],8⟩:=⟨by kernel_rfl,by kernel_rfl,by kernel_rfl,Tryd.underlying92⟩
theorem aMz:sG Tryd.prog 96 ⟨.int .u32,1,[.int .u32 0],4⟩:=⟨by kernel_rfl,by kernel_rfl,by kernel_rfl,Tryd.underlying96⟩
theorem aMZ:sG Tryd.prog 98 ⟨.int .u64,1,[.int .u64 0],8⟩:=⟨by kernel_rfl,by kernel_rfl,by kernel_rfl,Tryd.underlying98⟩
theorem aMF:sG Tryd.prog 99 ⟨.array 32 5,32,[.int .u8 0,.int .u8 0,.int .u8 0,.int .u8 0,.int .u8 0,.int .u8 0,.int .u8 0,.int .u8 0,.int .u8 0,.int .u8 0,.int .u8 0,.int .u8 0,.int .u8 0,.int .u8 0,.int .u8 0,.int .u8 0,.int .u8 0,.int .u8 0,.int .u8 0,.int .u8 0,.int .u8 0,.int .u8 0,.int .u8 0,.int .u8 0,.int .u8 0,.int .u8 0,.int .u8 0,.int .u8 0,.int .u8 0,.int .u8 0,.int .u8 0,.int .u8 0],32⟩:=⟨by kernel_rfl,by kernel_rfl,by kernel_rfl,Tryd.underlying99⟩
theorem aLF:sG Tryd.prog 100 ⟨.array 64 5,64,[.int .u8 0,.int .u8 0,.int .u8 0,.int .u8 0,.int .u8 0,.int .u8 0,.int .u8 0,.int .u8 0,.int .u8 0,.int .u8 0,.int .u8 0,.int .u8 0,.int .u8 0,.int .u8 0,.int .u8 0,.int .u8 0,.int .u8 0,.int .u8 0,.int .u8 0,.int .u8 0,.int .u8 0,.int .u8 0,.int .u8 0,.int .u8 0,.int .u8 0,.int .u8 0,.int .u8 0,.int .u8 0,.int .u8 0,.int .u8 0,.int .u8 0,.int .u8 0,.int .u8 0,.int .u8 0,.int .u8 0,.int .u8 0,.int .u8 0,.int .u8 0,.int .u8 0,.int .u8 0,.int .u8 0,.int .u8 0,.int .u8 0,.int .u8 0,.int .u8 0,.int .u8 0,.int .u8 0,.int .u8 0,.int .u8 0,.int .u8 0,.int .u8 0,.int .u8 0,.int .u8 0,.int .u8 0,.int .u8 0,.int .u8 0,.int .u8 0,.int .u8 0,.int .u8 0,.int .u8 0,.int .u8 0,.int .u8 0,.int .u8 0,.int .u8 0],64⟩:=⟨by kernel_rfl,by kernel_rfl,by kernel_rfl,Tryd.underlying100⟩
theorem dCo:DOk Tryd.prog DC:=(dB td3 (dB td4 (dB td5 (dB aMQ (dB aMT (dB aMy (dB aMH (dB aMO (dB aMN (dB aMW (dB aMX (dB aME (dB aMB (dB aMR (dB aM3 (dB aMJ (dB aMG (dB aMU (dB aMY (dB aMC (dB aMz (dB aMZ (dB aMF (dB aLF (aIu _)))))))))))))))))))))))))
theorem gD:Tryd.prog.follows .mixedOrders=true:=by kernel_rfl
def jW (x:Int×Int):AV:=.agg [eI x.1,eI x.2]
theorem aD (x:Int×Int):(jW x).loose:=(vY (lsC (lsI _ _) (lsC (lsI _ _) lsN)))
structure aG where
 N:Int
 Pairs:List (Int×Int)
instance:Inhabited aG:=⟨⟨default,default⟩⟩
def bJ (x:aG):AV:=.agg [eI x.N,(eL 2 jW default) x.Pairs]
theorem cB (x:aG):(bJ x).loose:=(vY (lsC (lsI _ _) (lsC (lsL fun _=>(aD _)) lsN)))
theorem aFG (x:Int):∀ b vs,Vs b [eI x] vs→vs=[Value.int .i64 x]:=fun b vs h=>by simpa [Vs,V,eI] using h
theorem aG0 (b:bQ) (x:Int):Vs b [eI x] [Value.int .i64 x]:=⟨_,_,rfl,by simp [V,eI],rfl⟩
def PF:FuncId→Bool:=fun f=>[4,5,6,7,8,9,10,11,12,13,18,19,20,21,22,23,24,25,26,27,28,29,30,31,32,33,34,35,36,37,54,56,57,58,61,62,63,64,68,69,70,79,82,83,85,86,87,100060].contains f
theorem aKq (x0:Int) (x1:Int) (y0:Int) (y1:Int):EqV Tryd.prog 46 (.agg [eI x0,eI x1]) (.agg [eI y0,eI y1]) ((x0==y0)&&(x1==y1)):=by
 intro β w u v ox oy hu hv
 simp only [V,Vs,eI,eB] at hu hv
 obtain ⟨_,rfl,_,_,rfl,rfl,_,_,rfl,rfl,rfl⟩:=hu
 obtain ⟨_,rfl,_,_,rfl,rfl,_,_,rfl,rfl,rfl⟩:=hv
 have u3:=Tryd.underlying3
 have a3:=Tryd.isAgg3
 have z3:=Tryd.sizeOf3
 have hm:Tryd.prog.eqGuardType Tryd.prog.depth 46=false:=by kernel_rfl
 have hi:∃ i,Tryd.prog.info? 3=some i:=⟨_,rfl⟩
 obtain ⟨i,hi⟩:=hi
 have hc:Tryd.prog.cellsOf 3=1:=by kernel_rfl
 have key:(Op.equalIn 10000 46 (.agg #[.int .i64 x0,.int .i64 x1]) (.agg #[.int .i64 y0,.int .i64 y1])).run Tryd.prog w=.ok ((x0==y0)&&(x1==y1)) w:=by
  rw [show (10000:Nat)=9999+1 from rfl,run_equalIn_array w 9999 _ _ Tryd.underlying46 hi,hc,show List.range 2=[0,1] from rfl]
  simp only [Op.eqItems]
  go_simp
  by_cases h0:x0=y0<;>by_cases h1:x1=y1<;>simp [h0,h1]
 constructor
 ·simp only [Sem.run_bind,run_eqGuard_agg w _ 46 _ _ _ _ hm,Result.andThen_ok,run_eql_struct,key]
 ·simp only [Sem.run_bind,run_eqGuard_agg w _ 46 _ _ _ _ hm,Result.andThen_ok,run_neq_struct,key]
def fH (a0:Int) (a1:Int):Option Int:=jn (fun p1:Int=>gd (a1≠0) (some (Int.tmod p1 a1))) fun k2=>cn (decide (a0<0)) (k2 (wr (0-(wr (a0+1))))) (k2 a0)
def iO:List AV→AV→Prop:=fun args r=>∃ a0 a1,args=[eI a0,eI a1]∧W (fH a0 a1) fun y=>r=(eI y)
theorem yF {T:Tbl} (hT:TOk Tryd.prog T) (hpf:cY T PF):FOk Tryd.prog 13 (aK iO):=by
 refine bG hT hpf Tryd.func13 rfl Tryd.ntmps13 Tryd.results13 (by decide) ?_
 rintro args r ⟨a0,a1,rfl,h⟩
 refine ⟨nle rfl,?_,?_⟩
 ·exact (lsC (lsI _ _) (lsC (lsI _ _) lsN))
 rw [fH.eq_1] at h
 refine aA dCo rfl fun K hK=>?_;conv=>whnf
 refine hK _ _ _ ?_
 refine aE ?_
 refine aA dCo rfl fun K hK=>?_;conv=>whnf
 refine hK _ _ _ ?_
 replace h:=nL h
 refine aW fun K1 K2 hK1 hK2=>?_;conv=>whnf
 refine cLk h (fun _ h=>?_) (fun _ h=>?_)
 ·refine hK1 ?_
  refine cK dCo rfl fun K hK=>?_;conv=>whnf
  refine hK _ _ _ ?_
  refine tHn ?_
  refine aA dCo rfl fun K hK=>?_;conv=>whnf
  refine cH h fun _ h=>?_;conv=>whnf
  refine hK _ _ _ ?_
  refine aP ?_
  replace h:=aO h
  refine aM dCo fun K hK=>?_;conv=>whnf
  refine hK _ ?_
  cases h
  exact Wk.refl _
 refine hK2 ?_
 refine aH ?_
 refine tHn ?_
 refine aA dCo rfl fun K hK=>?_;conv=>whnf
 refine cH h fun _ h=>?_;conv=>whnf
 refine hK _ _ _ ?_
 refine aP ?_
 replace h:=aO h
 refine aM dCo fun K hK=>?_;conv=>whnf
 refine hK _ ?_
 cases h
 exact Wk.refl _
theorem pG {T:Tbl} (hT:T 13=aK iO) {args:List AV} {hp:aU} {id:Nat} {k:AV→Prop} {a0:Int} {a1:Int} {Φ:Int→Prop} (h:W (fH a0 a1) Φ) (hw:WkL args [eI a0,eI a1]) (hk:∀ y,Φ y→k (eI y)):dC T 13 args hp id k:=by
 obtain ⟨y,e,hy⟩:=fG h
 exact aX hT ⟨a0,a1,rfl,kY e rfl⟩ (by exact (lsI _ _)) hw (hk y hy)
def fI (a0:Int) (a1:Int):Option Int:=jn (fun p1:Int=>gd (a1≠0) (some (Int.tmod p1 a1))) fun k2=>cn (decide (a0<0)) (k2 (wr (0-(wr (a0+1))))) (k2 a0)
def iR:List AV→AV→Prop:=fun args r=>∃ a0 a1,args=[eI a0,eI a1]∧W (fI a0 a1) fun y=>r=(eI y)
theorem yB {T:Tbl} (hT:TOk Tryd.prog T) (hpf:cY T PF):FOk Tryd.prog 37 (aK iR):=by
 refine bG hT hpf Tryd.func37 rfl Tryd.ntmps37 Tryd.results37 (by decide) ?_
 rintro args r ⟨a0,a1,rfl,h⟩
 refine ⟨nle rfl,?_,?_⟩
 ·exact (lsC (lsI _ _) (lsC (lsI _ _) lsN))
 rw [fI.eq_1] at h
 refine aA dCo rfl fun K hK=>?_;conv=>whnf
 refine hK _ _ _ ?_
 refine aE ?_
 refine aA dCo rfl fun K hK=>?_;conv=>whnf
 refine hK _ _ _ ?_
 replace h:=nL h
 refine aW fun K1 K2 hK1 hK2=>?_;conv=>whnf
 refine cLk h (fun _ h=>?_) (fun _ h=>?_)
 ·refine hK1 ?_
  refine cK dCo rfl fun K hK=>?_;conv=>whnf
  refine hK _ _ _ ?_
  refine tHn ?_
  refine aA dCo rfl fun K hK=>?_;conv=>whnf
  refine cH h fun _ h=>?_;conv=>whnf
  refine hK _ _ _ ?_
  refine aP ?_
  replace h:=aO h
  refine aM dCo fun K hK=>?_;conv=>whnf
  refine hK _ ?_
  cases h
  exact Wk.refl _
 refine hK2 ?_
 refine aH ?_
 refine tHn ?_
 refine aA dCo rfl fun K hK=>?_;conv=>whnf
 refine cH h fun _ h=>?_;conv=>whnf
 refine hK _ _ _ ?_
 refine aP ?_
 replace h:=aO h
 refine aM dCo fun K hK=>?_;conv=>whnf
 refine hK _ ?_
 cases h
 exact Wk.refl _
theorem iV {T:Tbl} (hT:T 37=aK iR) {args:List AV} {hp:aU} {id:Nat} {k:AV→Prop} {a0:Int} {a1:Int} {Φ:Int→Prop} (h:W (fI a0 a1) Φ) (hw:WkL args [eI a0,eI a1]) (hk:∀ y,Φ y→k (eI y)):dC T 37 args hp id k:=by
 obtain ⟨y,e,hy⟩:=fG h
 exact aX hT ⟨a0,a1,rfl,kY e rfl⟩ (by exact (lsI _ _)) hw (hk y hy)
def oO (a0:List Int) (a1:List Int) (s1:Int):Option (Ct Int Bool):=cn (decide (s1<(a0.length:Int))) (ix a0 default s1 fun e2=>ix a1 default s1 fun e3=>
  cn (e2 != e3) (some (.rt false)) (some (.nx (wr (s1+1))))) (some (.bk s1))
def eN (a0:List Int) (a1:List Int):Option Bool:=cn ((a0.length:Int) != (a1.length:Int)) (some false) (bd (lp (oO a0 a1) FU 0) fun c4=>
  smK c4 (fun s5=>some true) (fun r6=>some r6))
def kI:List AV→AV→Prop:=fun args r=>∃ a0 a1,args=[(eL 1 eI default) a0,(eL 1 eI default) a1]∧W (eN a0 a1) fun y=>r=(eB y)
theorem aAs {T:Tbl} (hT:TOk Tryd.prog T) (hpf:cY T PF):FOk Tryd.prog 36 (aK kI):=by
 refine bG hT hpf Tryd.func36 rfl Tryd.ntmps36 Tryd.results36 (by decide) ?_
 rintro args r ⟨a0,a1,rfl,h⟩
 refine ⟨nle rfl,?_,?_⟩
 ·exact (lsC (lsL fun _=>(lsI _ _)) (lsC (lsL fun _=>(lsI _ _)) lsN))
 rw [eN.eq_1] at h
 refine aA dCo rfl fun K hK=>?_;conv=>whnf
 refine hK _ _ _ ?_
 refine aE ?_
 refine aA dCo rfl fun K hK=>?_;conv=>whnf
 refine hK _ _ _ ?_
 refine aW fun K1 K2 hK1 hK2=>?_;conv=>whnf
 refine cLk h (fun _ h=>?_) (fun _ h=>?_)
 ·refine hK1 ?_
  refine aA dCo rfl fun K hK=>?_;conv=>whnf
  refine hK _ _ _ ?_
  refine aP ?_
  refine aJ ?_
  replace h:=aO h
  refine aM dCo fun K hK=>?_;conv=>whnf
  refine hK _ ?_
  cases h
  exact Wk.refl _
 refine hK2 ?_
 refine aH ?_
 refine tHn ?_
 refine aE ?_
 refine aA dCo rfl fun K hK=>?_;conv=>whnf
 refine hK _ _ _ ?_
 refine aF ?_
 replace h:=bM h
 refine gJ (body:=oO _ _) rfl h [0,1] [] [] (fun kl kh ids b s=>⟨ofL ([(5,eI s)]++kl),ofH ([]++kh),b+64⟩) ?_;(conv=>whnf);refine And.intro ?_ (fun s m h=>dG ?_)
 ·refine aY ?_;conv=>whnf
  exact And.intro rfl (And.intro (aLc wkI (aLc (wkr (lsL fun _=>(lsI _ _))) (aLc (wkr (lsL fun _=>(lsI _ _))) aLn))) aLn)
 replace h:=bM h;rw [oO.eq_1] at h
 refine aE ?_
 refine aA dCo rfl fun K hK=>?_;conv=>whnf
 refine hK _ _ _ ?_
 refine aW fun K1 K2 hK1 hK2=>?_;conv=>whnf
 refine cLk h (fun _ h=>?_) (fun _ h=>?_)
 ·refine hK1 ?_
  refine aH ?_
  refine tHn ?_
  refine aE ?_
  refine aF ?_
  refine rB dCo gD rfl (by kernel_rfl) fun K hK=>?_;conv=>whnf
  refine gE h fun _ h=>?_;conv=>whnf
  refine gKo rfl ?_;conv=>whnf
  refine gE h fun _ h=>?_;conv=>whnf
  refine gKo rfl ?_;conv=>whnf
  refine hK _ _ _ ?_
  refine aW fun K1 K2 hK1 hK2=>?_;conv=>whnf
  refine cLk h (fun _ h=>?_) (fun _ h=>?_)
  ·refine hK1 ?_
   refine aA dCo rfl fun K hK=>?_;conv=>whnf
   refine hK _ _ _ ?_
   refine aP ?_
   refine aL ?_
   refine aJ ?_
   refine aJ ?_
   refine aL ?_
   refine aJ ?_
   replace h:=gA h
   replace h:=gB h
   replace h:=aO h
   refine aM dCo fun K hK=>?_;conv=>whnf
   refine hK _ ?_
   cases h
   exact Wk.refl _
  refine hK2 ?_
  refine aH ?_
  refine iBn ?_
  refine tHn ?_
  refine cK dCo rfl fun K hK=>?_;conv=>whnf
  refine hK _ _ _ ?_
  refine tHn ?_
  replace h:=bF h
  refine ⟨_,h,?_⟩
  refine aY ?_;conv=>whnf
  exact And.intro rfl (And.intro (aLc wkI (aLc (wkr (lsL fun _=>(lsI _ _))) (aLc (wkr (lsL fun _=>(lsI _ _))) aLn))) aLn)
 refine hK2 ?_
 refine bD ?_
 refine aT ?_
 refine aT ?_
 refine aS ?_
 replace h:=dI h
 replace h:=dK h
 refine tHn ?_
 refine aA dCo rfl fun K hK=>?_;conv=>whnf
 refine hK _ _ _ ?_
 refine aP ?_
 replace h:=aO h
 refine aM dCo fun K hK=>?_;conv=>whnf
 refine hK _ ?_
 cases h
 exact Wk.refl _
theorem fD {T:Tbl} (hT:T 36=aK kI) {args:List AV} {hp:aU} {id:Nat} {k:AV→Prop} {a0:List Int} {a1:List Int} {Φ:Bool→Prop} (h:W (eN a0 a1) Φ) (hw:WkL args [(eL 1 eI default) a0,(eL 1 eI default) a1]) (hk:∀ y,Φ y→k (eB y)):dC T 36 args hp id k:=by
 obtain ⟨y,e,hy⟩:=fG h
 exact aX hT ⟨a0,a1,rfl,kY e rfl⟩ (by exact (lsB _)) hw (hk y hy)
def oK (a0:aG) (a1:aG) (s3:Int):Option (Ct Int Bool):=cn (decide (s3<(a0.Pairs.length:Int))) (ix a0.Pairs default s3 fun e4=>
  ix a1.Pairs default s3 fun e5=>cn (!((e4.1==e5.1)&&(e4.2==e5.2))) (some (.rt false)) (some (.nx (wr (s3+1))))) (some (.bk s3))
def kJ (a0:aG) (a1:aG):Option Bool:=jn (fun p1:Bool=>cn p1 (some false) (bd (lp (oK a0 a1) FU 0) fun c6=>smK c6 (fun s7=>
  some true) (fun r8=>some r8))) fun k2=>cn (a0.N != a1.N) (k2 true) (k2 ((a0.Pairs.length:Int) != (a1.Pairs.length:Int)))
def kL:List AV→AV→Prop:=fun args r=>∃ a0 a1,args=[bJ a0,bJ a1]∧W (kJ a0 a1) fun y=>r=(eB y)
theorem zW {T:Tbl} (hT:TOk Tryd.prog T) (hpf:cY T PF):FOk Tryd.prog 26 (aK kL):=by
 refine bG hT hpf Tryd.func26 rfl Tryd.ntmps26 Tryd.results26 (by decide) ?_
 rintro args r ⟨a0,a1,rfl,h⟩
 refine ⟨nle rfl,?_,?_⟩
 ·exact (lsC (cB _) (lsC (cB _) lsN))
 rw [kJ.eq_1] at h
 refine aA dCo rfl fun K hK=>?_;conv=>whnf
 refine hK _ _ _ ?_
 refine aE ?_
 refine aA dCo rfl fun K hK=>?_;conv=>whnf
 replace h:=nL h
 refine nlA rfl ?_;conv=>whnf
 refine bKo rfl ?_;conv=>whnf
 refine gKo rfl ?_;conv=>whnf
 refine nlA rfl ?_;conv=>whnf
 refine bKo rfl ?_;conv=>whnf
 refine gKo rfl ?_;conv=>whnf
 refine cLk h (fun _ h=>?_) (fun _ h=>?_)<;>(conv=>whnf)
 ·refine hK _ _ _ ?_
  refine aW fun K1 K2 hK1 hK2=>?_;conv=>whnf
  refine hK1 ?_
  replace h:=oB h
  refine aA dCo rfl fun K hK=>?_;conv=>whnf
  refine hK _ _ _ ?_
  refine aP ?_
  refine aJ ?_
  replace h:=aO h
  refine aM dCo fun K hK=>?_;conv=>whnf
  refine hK _ ?_
  cases h
  exact Wk.refl _
 refine nlA rfl ?_;conv=>whnf
 refine bKo rfl ?_;conv=>whnf
 refine gKo rfl ?_;conv=>whnf
 refine nlA rfl ?_;conv=>whnf
 refine bKo rfl ?_;conv=>whnf
 refine gKo rfl ?_;conv=>whnf
 refine hK _ _ _ ?_
 refine aW fun K1 K2 hK1 hK2=>?_;conv=>whnf
 refine cLk h (fun _ h=>?_) (fun _ h=>?_)
 ·refine hK1 ?_
  refine aA dCo rfl fun K hK=>?_;conv=>whnf
  refine hK _ _ _ ?_
  refine aP ?_
  refine aJ ?_
  replace h:=aO h
  refine aM dCo fun K hK=>?_;conv=>whnf
  refine hK _ ?_
  cases h
  exact Wk.refl _
 refine hK2 ?_
 refine aH ?_
 refine tHn ?_
 refine aE ?_
 refine aA dCo rfl fun K hK=>?_;conv=>whnf
 refine hK _ _ _ ?_
 refine aF ?_
 replace h:=bM h
 refine gJ (body:=oK _ _) rfl h [2,3] [2,3] [] (fun kl kh ids b s=>⟨ofL ([(5,eI s)]++kl),ofH ([]++kh),b+64⟩) ?_;(conv=>whnf);refine And.intro ?_ (fun s m h=>dG ?_)
 ·refine aY ?_;conv=>whnf
  exact And.intro rfl (And.intro (aLc wkI (aLc (WkR.ptr (fun _=>rfl)) (aLc (WkR.ptr (fun _=>rfl)) aLn))) (aLc ⟨some _,rfl,bRc rfl (cKc wkI (cKc (wkr (lsL fun _=>(aD _))) cKn))⟩ (aLc ⟨some _,rfl,bRc rfl (cKc wkI (cKc (wkr (lsL fun _=>(aD _))) cKn))⟩ aLn)))
 replace h:=bM h;rw [oK.eq_1] at h
 refine aE ?_
 refine aA dCo rfl fun K hK=>?_;conv=>whnf
 refine nlA rfl ?_;conv=>whnf
 refine bKo rfl ?_;conv=>whnf
 refine gKo rfl ?_;conv=>whnf
 refine hK _ _ _ ?_
 refine aW fun K1 K2 hK1 hK2=>?_;conv=>whnf
 refine cLk h (fun _ h=>?_) (fun _ h=>?_)
 ·refine hK1 ?_
  refine aH ?_
  refine tHn ?_
  refine aE ?_
  refine aF ?_
  refine rB dCo gD rfl (by kernel_rfl) fun K hK=>?_;conv=>whnf
  refine nlA rfl ?_;conv=>whnf
  refine bKo rfl ?_;conv=>whnf
  refine gKo rfl ?_;conv=>whnf
  refine gE h fun _ h=>?_;conv=>whnf
  refine nlA rfl ?_;conv=>whnf
  refine nlA rfl ?_;conv=>whnf
  refine bKo rfl ?_;conv=>whnf
  refine gKo rfl ?_;conv=>whnf
  refine gE h fun _ h=>?_;conv=>whnf
  refine nlA rfl ?_;conv=>whnf
  refine aL8 (aKq _ _ _ _) ?_;conv=>whnf
  refine hK _ _ _ ?_
  refine aW fun K1 K2 hK1 hK2=>?_;conv=>whnf
  refine cLk h (fun _ h=>?_) (fun _ h=>?_)
  ·refine hK1 ?_
   refine aA dCo rfl fun K hK=>?_;conv=>whnf
   refine hK _ _ _ ?_
   refine aP ?_
   refine aL ?_
   refine aJ ?_
   refine aJ ?_
   refine aL ?_
   refine aJ ?_
   replace h:=gA h
   replace h:=gB h
   replace h:=aO h
   refine aM dCo fun K hK=>?_;conv=>whnf
   refine hK _ ?_
   cases h
   exact Wk.refl _
  refine hK2 ?_
  refine aH ?_
  refine iBn ?_
  refine tHn ?_
  refine cK dCo rfl fun K hK=>?_;conv=>whnf
  refine hK _ _ _ ?_
  refine tHn ?_
  replace h:=bF h
  refine ⟨_,h,?_⟩
  refine aY ?_;conv=>whnf
  exact And.intro rfl (And.intro (aLc wkI (aLc (WkR.ptr (fun _=>rfl)) (aLc (WkR.ptr (fun _=>rfl)) aLn))) (aLc ⟨some _,rfl,bRc rfl (cKc wkI (cKc (wkr (lsL fun _=>(aD _))) cKn))⟩ (aLc ⟨some _,rfl,bRc rfl (cKc wkI (cKc (wkr (lsL fun _=>(aD _))) cKn))⟩ aLn)))
 refine hK2 ?_
 refine bD ?_
 refine aT ?_
 refine aT ?_
 refine aS ?_
 replace h:=dI h
 replace h:=dK h
 refine tHn ?_
 refine aA dCo rfl fun K hK=>?_;conv=>whnf
 refine hK _ _ _ ?_
 refine aP ?_
 replace h:=aO h
 refine aM dCo fun K hK=>?_;conv=>whnf
 refine hK _ ?_
 cases h
 exact Wk.refl _
theorem pI {T:Tbl} (hT:T 26=aK kL) {args:List AV} {hp:aU} {id:Nat} {k:AV→Prop} {a0:aG} {a1:aG} {Φ:Bool→Prop} (h:W (kJ a0 a1) Φ) (hw:WkL args [bJ a0,bJ a1]) (hk:∀ y,Φ y→k (eB y)):dC T 26 args hp id k:=by
 obtain ⟨y,e,hy⟩:=fG h
 exact aX hT ⟨a0,a1,rfl,kY e rfl⟩ (by exact (lsB _)) hw (hk y hy)
def qW (a0:List Int) (a1:Int) (s1:Int):Option (Ct Int Bool):=cn (decide (s1<(a0.length:Int))) (ix a0 default s1 fun e2=>cn (e2 ==
  a1) (some (.rt true)) (some (.nx (wr (s1+1))))) (some (.bk s1))
def nI (a0:List Int) (a1:Int):Option Bool:=bd (lp (qW a0 a1) FU 0) fun c3=>smK c3 (fun s4=>some false) (fun r5=>some r5)
def nG:List AV→AV→Prop:=fun args r=>∃ a0 a1,args=[(eL 1 eI default) a0,eI a1]∧W (nI a0 a1) fun y=>r=(eB y)
theorem aCc {T:Tbl} (hT:TOk Tryd.prog T) (hpf:cY T PF):FOk Tryd.prog 23 (aK nG):=by
 refine bG hT hpf Tryd.func23 rfl Tryd.ntmps23 Tryd.results23 (by decide) ?_
 rintro args r ⟨a0,a1,rfl,h⟩
 refine ⟨nle rfl,?_,?_⟩
 ·exact (lsC (lsL fun _=>(lsI _ _)) (lsC (lsI _ _) lsN))
 rw [nI.eq_1] at h
 refine aA dCo rfl fun K hK=>?_;conv=>whnf
 refine hK _ _ _ ?_
 refine aE ?_
 refine aA dCo rfl fun K hK=>?_;conv=>whnf
 refine hK _ _ _ ?_
 refine aF ?_
 replace h:=bM h
 refine gJ (body:=qW _ _) rfl h [0,1] [] [] (fun kl kh ids b s=>⟨ofL ([(5,eI s)]++kl),ofH ([]++kh),b+64⟩) ?_;(conv=>whnf);refine And.intro ?_ (fun s m h=>dG ?_)
 ·refine aY ?_;conv=>whnf
  exact And.intro rfl (And.intro (aLc wkI (aLc (wkr (lsL fun _=>(lsI _ _))) (aLc wkI aLn))) aLn)
 replace h:=bM h;rw [qW.eq_1] at h
 refine aE ?_
 refine aA dCo rfl fun K hK=>?_;conv=>whnf
 refine hK _ _ _ ?_
 refine aW fun K1 K2 hK1 hK2=>?_;conv=>whnf
 refine cLk h (fun _ h=>?_) (fun _ h=>?_)
 ·refine hK1 ?_
  refine aH ?_
  refine tHn ?_
  refine aE ?_
  refine aF ?_
  refine aA dCo rfl fun K hK=>?_;conv=>whnf
  refine gE h fun _ h=>?_;conv=>whnf
  refine gKo rfl ?_;conv=>whnf
  refine hK _ _ _ ?_
  refine aW fun K1 K2 hK1 hK2=>?_;conv=>whnf
  refine cLk h (fun _ h=>?_) (fun _ h=>?_)
  ·refine hK1 ?_
   refine aA dCo rfl fun K hK=>?_;conv=>whnf
   refine hK _ _ _ ?_
   refine aP ?_
   refine aL ?_
   refine aJ ?_
   refine aJ ?_
   refine aL ?_
   refine aJ ?_
   replace h:=gA h
   replace h:=gB h
   replace h:=aO h
   refine aM dCo fun K hK=>?_;conv=>whnf
   refine hK _ ?_
   cases h
   exact Wk.refl _
  refine hK2 ?_
  refine aH ?_
  refine iBn ?_
  refine tHn ?_
  refine cK dCo rfl fun K hK=>?_;conv=>whnf
  refine hK _ _ _ ?_
  refine tHn ?_
  replace h:=bF h
  refine ⟨_,h,?_⟩
  refine aY ?_;conv=>whnf
  exact And.intro rfl (And.intro (aLc wkI (aLc (wkr (lsL fun _=>(lsI _ _))) (aLc wkI aLn))) aLn)
 refine hK2 ?_
 refine bD ?_
 refine aT ?_
 refine aT ?_
 refine aS ?_
 replace h:=dI h
 replace h:=dK h
 refine tHn ?_
 refine aA dCo rfl fun K hK=>?_;conv=>whnf
 refine hK _ _ _ ?_
 refine aP ?_
 replace h:=aO h
 refine aM dCo fun K hK=>?_;conv=>whnf
 refine hK _ ?_
 cases h
 exact Wk.refl _
theorem rK {T:Tbl} (hT:T 23=aK nG) {args:List AV} {hp:aU} {id:Nat} {k:AV→Prop} {a0:List Int} {a1:Int} {Φ:Bool→Prop} (h:W (nI a0 a1) Φ) (hw:WkL args [(eL 1 eI default) a0,eI a1]) (hk:∀ y,Φ y→k (eB y)):dC T 23 args hp id k:=by
 obtain ⟨y,e,hy⟩:=fG h
 exact aX hT ⟨a0,a1,rfl,kY e rfl⟩ (by exact (lsB _)) hw (hk y hy)
def lY (a0:aG) (a1:Int) (a2:Int) (s1:Int):Option (Ct Int Bool):=cn (decide (s1<(a0.Pairs.length:Int))) (ix a0.Pairs default s1 fun e2=>
  cn ((e2.1==a1)&&(e2.2==a2)) (some (.rt true)) (some (.nx (wr (s1+1))))) (some (.bk s1))
def jX (a0:aG) (a1:Int) (a2:Int):Option Bool:=bd (lp (lY a0 a1 a2) FU 0) fun c3=>smK c3 (fun s4=>some false) (fun r5=>some r5)
def iH:List AV→AV→Prop:=fun args r=>∃ a0 a1 a2,args=[bJ a0,eI a1,eI a2]∧W (jX a0 a1 a2) fun y=>r=(eB y)
theorem vO {T:Tbl} (hT:TOk Tryd.prog T) (hpf:cY T PF):FOk Tryd.prog 70 (aK iH):=by
 refine bG hT hpf Tryd.func70 rfl Tryd.ntmps70 Tryd.results70 (by decide) ?_
 rintro args r ⟨a0,a1,a2,rfl,h⟩
 refine ⟨nle rfl,?_,?_⟩
 ·exact (lsC (cB _) (lsC (lsI _ _) (lsC (lsI _ _) lsN)))
 rw [jX.eq_1] at h
 refine aA dCo rfl fun K hK=>?_;conv=>whnf
 refine hK _ _ _ ?_
 refine aE ?_
 refine aA dCo rfl fun K hK=>?_;conv=>whnf
 refine hK _ _ _ ?_
 refine aF ?_
 replace h:=bM h
 refine gJ (body:=lY _ _ _) rfl h [1,2,3] [3] [] (fun kl kh ids b s=>⟨ofL ([(7,eI s)]++kl),ofH ([]++kh),b+64⟩) ?_;(conv=>whnf);refine And.intro ?_ (fun s m h=>dG ?_)
 ·refine aY ?_;conv=>whnf
  exact And.intro rfl (And.intro (aLc wkI (aLc wkI (aLc wkI (aLc (WkR.ptr (fun _=>rfl)) aLn)))) (aLc ⟨some _,rfl,bRc rfl (cKc wkI (cKc (wkr (lsL fun _=>(aD _))) cKn))⟩ aLn))
 replace h:=bM h;rw [lY.eq_1] at h
 refine aE ?_
 refine aA dCo rfl fun K hK=>?_;conv=>whnf
 refine nlA rfl ?_;conv=>whnf
 refine bKo rfl ?_;conv=>whnf
 refine gKo rfl ?_;conv=>whnf
 refine hK _ _ _ ?_
 refine aW fun K1 K2 hK1 hK2=>?_;conv=>whnf
 refine cLk h (fun _ h=>?_) (fun _ h=>?_)
 ·refine hK1 ?_
  refine aH ?_
  refine tHn ?_
  refine aE ?_
  refine aF ?_
  refine aA dCo rfl fun K hK=>?_;conv=>whnf
  refine nlA rfl ?_;conv=>whnf
  refine bKo rfl ?_;conv=>whnf
  refine gKo rfl ?_;conv=>whnf
  refine gE h fun _ h=>?_;conv=>whnf
  refine nlA rfl ?_;conv=>whnf
  refine aL5 (aKq _ _ _ _) ?_;conv=>whnf
  refine hK _ _ _ ?_
  refine aW fun K1 K2 hK1 hK2=>?_;conv=>whnf
  refine cLk h (fun _ h=>?_) (fun _ h=>?_)
  ·refine hK1 ?_
   refine aA dCo rfl fun K hK=>?_;conv=>whnf
   refine hK _ _ _ ?_
   refine aP ?_
   refine aL ?_
   refine aJ ?_
   refine aJ ?_
   refine aL ?_
   refine aJ ?_
   replace h:=gA h
   replace h:=gB h
   replace h:=aO h
   refine aM dCo fun K hK=>?_;conv=>whnf
   refine hK _ ?_
   cases h
   exact Wk.refl _
  refine hK2 ?_
  refine aH ?_
  refine iBn ?_
  refine tHn ?_
  refine cK dCo rfl fun K hK=>?_;conv=>whnf
  refine hK _ _ _ ?_
  refine tHn ?_
  replace h:=bF h
  refine ⟨_,h,?_⟩
  refine aY ?_;conv=>whnf
  exact And.intro rfl (And.intro (aLc wkI (aLc wkI (aLc wkI (aLc (WkR.ptr (fun _=>rfl)) aLn)))) (aLc ⟨some _,rfl,bRc rfl (cKc wkI (cKc (wkr (lsL fun _=>(aD _))) cKn))⟩ aLn))
 refine hK2 ?_
 refine bD ?_
 refine aT ?_
 refine aT ?_
 refine aS ?_
 replace h:=dI h
 replace h:=dK h
 refine tHn ?_
 refine aA dCo rfl fun K hK=>?_;conv=>whnf
 refine hK _ _ _ ?_
 refine aP ?_
 replace h:=aO h
 refine aM dCo fun K hK=>?_;conv=>whnf
 refine hK _ ?_
 cases h
 exact Wk.refl _
theorem sT {T:Tbl} (hT:T 70=aK iH) {args:List AV} {hp:aU} {id:Nat} {k:AV→Prop} {a0:aG} {a1:Int} {a2:Int} {Φ:Bool→Prop} (h:W (jX a0 a1 a2) Φ) (hw:WkL args [bJ a0,eI a1,eI a2]) (hk:∀ y,Φ y→k (eB y)):dC T 70 args hp id k:=by
 obtain ⟨y,e,hy⟩:=fG h
 exact aX hT ⟨a0,a1,a2,rfl,kY e rfl⟩ (by exact (lsB _)) hw (hk y hy)
def fE (a0:Int):Option Bool:=some (a0 != a0)
def gI:List AV→AV→Prop:=fun args r=>∃ a0,args=[eI a0]∧W (fE a0) fun y=>r=(eB y)
theorem tU {T:Tbl} (hT:TOk Tryd.prog T) (hpf:cY T PF):FOk Tryd.prog 83 (aK gI):=by
 refine bG hT hpf Tryd.func83 rfl Tryd.ntmps83 Tryd.results83 (by decide) ?_
 rintro args r ⟨a0,rfl,h⟩
 refine ⟨nle rfl,?_,?_⟩
 ·exact (lsC (lsI _ _) lsN)
 rw [fE.eq_1] at h
 refine aA dCo rfl fun K hK=>?_;conv=>whnf
 refine hK _ _ _ ?_
 refine aA dCo rfl fun K hK=>?_;conv=>whnf
 refine hK _ _ _ ?_
 refine aP ?_
 replace h:=aO h
 refine aM dCo fun K hK=>?_;conv=>whnf
 refine hK _ ?_
 cases h
 exact Wk.refl _
theorem mJ {T:Tbl} (hT:T 83=aK gI) {args:List AV} {hp:aU} {id:Nat} {k:AV→Prop} {a0:Int} {Φ:Bool→Prop} (h:W (fE a0) Φ) (hw:WkL args [eI a0]) (hk:∀ y,Φ y→k (eB y)):dC T 83 args hp id k:=by
 obtain ⟨y,e,hy⟩:=fG h
 exact aX hT ⟨a0,rfl,kY e rfl⟩ (by exact (lsB _)) hw (hk y hy)
def eJ (a0:Int×Int) (c900:aG):Option Bool:=jn (fun p1:Bool=>some p1) fun k2=>
  cn (decide ((aKY a0.1 a0.2)<0)) (k2 true) (cn (decide ((aEf a0.1 a0.2)≥c900.N)) (k2 true) (k2 (a0.1==a0.2)))
def eG:List AV→AV→Prop:=fun args r=>∃ a0 c900,args=[jW a0,.ep [eI c900.N,(eL 2 jW default) c900.Pairs] 0]∧W (eJ a0 c900) fun y=>r=(eB y)
theorem sP {T:Tbl} (hT:TOk Tryd.prog T) (hpf:cY T PF):FOk Tryd.prog 69 (aK eG):=by
 refine bG hT hpf Tryd.func69 rfl Tryd.ntmps69 Tryd.results69 (by decide) ?_
 rintro args r ⟨a0,c900,rfl,h⟩
 refine ⟨nle rfl,?_,?_⟩
 ·exact (lsC (aD _) (lsC (lsE (lsC (lsI _ _) (lsC (lsL fun _=>(aD _)) lsN))) lsN))
 rw [eJ.eq_1] at h
 refine aA dCo rfl fun K hK=>?_;conv=>whnf
 refine hK _ _ _ ?_
 refine aA dCo rfl fun K hK=>?_;conv=>whnf
 replace h:=nL h
 refine And.intro (by decide) ?_;conv=>whnf
 refine nlA rfl ?_;conv=>whnf
 refine bKo rfl ?_;conv=>whnf
 refine gKo rfl ?_;conv=>whnf
 refine And.intro (by decide) ?_;conv=>whnf
 refine nlA rfl ?_;conv=>whnf
 refine bKo rfl ?_;conv=>whnf
 refine gKo rfl ?_;conv=>whnf
 refine cLk h (fun _ h=>?_) (fun _ h=>?_)<;>(conv=>whnf)
 ·refine hK _ _ _ ?_
  refine aP ?_
  replace h:=aO h
  refine aM dCo fun K hK=>?_;conv=>whnf
  refine hK _ ?_
  cases h
  exact Wk.refl _
 refine And.intro (by decide) ?_;conv=>whnf
 refine nlA rfl ?_;conv=>whnf
 refine bKo rfl ?_;conv=>whnf
 refine gKo rfl ?_;conv=>whnf
 refine And.intro (by decide) ?_;conv=>whnf
 refine nlA rfl ?_;conv=>whnf
 refine bKo rfl ?_;conv=>whnf
 refine gKo rfl ?_;conv=>whnf
 refine gKo rfl ?_;conv=>whnf
 refine cLk h (fun _ h=>?_) (fun _ h=>?_)<;>(conv=>whnf)
 ·refine hK _ _ _ ?_
  refine aP ?_
  replace h:=aO h
  refine aM dCo fun K hK=>?_;conv=>whnf
  refine hK _ ?_
  cases h
  exact Wk.refl _
 refine And.intro (by decide) ?_;conv=>whnf
 refine nlA rfl ?_;conv=>whnf
 refine bKo rfl ?_;conv=>whnf
 refine gKo rfl ?_;conv=>whnf
 refine And.intro (by decide) ?_;conv=>whnf
 refine nlA rfl ?_;conv=>whnf
 refine bKo rfl ?_;conv=>whnf
 refine gKo rfl ?_;conv=>whnf
 refine hK _ _ _ ?_
 refine aP ?_
 replace h:=aO h
 refine aM dCo fun K hK=>?_;conv=>whnf
 refine hK _ ?_
 cases h
 exact Wk.refl _
theorem qF {T:Tbl} (hT:T 69=aK eG) {args:List AV} {hp:aU} {id:Nat} {k:AV→aU→Prop} {a0:Int×Int} {c900:aG} {Φ:Bool→Prop} (h:W (eJ a0 c900) Φ) (hw:WkL args [jW a0,.ep [eI c900.N,(eL 2 jW default) c900.Pairs] 0]) (hk:∀ y,Φ y→k (eB y) hp):qQ T 69 args hp id k:=by
 obtain ⟨y,e,hy⟩:=fG h
 exact aB0 hT ⟨a0,c900,rfl,kY e rfl⟩ (by exact (lsB _)) hw (hk y hy)
def cZ (a0:List Int) (s1:Int):Option (Ct Int Int):=cn (decide (s1<(a0.length:Int))) (ix a0 default s1 fun e2=>cn (e2 !=
  0) (some (.rt e2)) (some (.nx (wr (s1+1))))) (some (.bk s1))
def iQ (a0:List Int):Option Int:=bd (lp (cZ a0) FU 0) fun c3=>smK c3 (fun s4=>some 0) (fun r5=>some r5)
def kF:List AV→AV→Prop:=fun args r=>∃ a0,args=[(eL 1 eI default) a0]∧W (iQ a0) fun y=>r=(eI y)
theorem aAF {T:Tbl} (hT:TOk Tryd.prog T) (hpf:cY T PF):FOk Tryd.prog 62 (aK kF):=by
 refine bG hT hpf Tryd.func62 rfl Tryd.ntmps62 Tryd.results62 (by decide) ?_
 rintro args r ⟨a0,rfl,h⟩
 refine ⟨nle rfl,?_,?_⟩
 ·exact (lsC (lsL fun _=>(lsI _ _)) lsN)
 rw [iQ.eq_1] at h
 refine aA dCo rfl fun K hK=>?_;conv=>whnf
 refine hK _ _ _ ?_
 refine aA dCo rfl fun K hK=>?_;conv=>whnf
 refine hK _ _ _ ?_
 refine aE ?_
 refine aA dCo rfl fun K hK=>?_;conv=>whnf
 refine hK _ _ _ ?_
 refine aF ?_
 replace h:=bM h
 refine gJ (body:=cZ _) rfl h [3,6,7] [] [] (fun kl kh ids b s=>⟨ofL ([(8,eI s)]++kl),ofH ([]++kh),b+64⟩) ?_;(conv=>whnf);refine And.intro ?_ (fun s m h=>dG ?_)
 ·refine aY ?_;conv=>whnf
  exact And.intro rfl (And.intro (aLc wkI (aLc wkI (aLc (wkr (lsL fun _=>(lsI _ _))) (aLc wkI aLn)))) aLn)
 replace h:=bM h;rw [cZ.eq_1] at h
 refine aA dCo rfl fun K hK=>?_;conv=>whnf
 refine hK _ _ _ ?_
 refine aE ?_
 refine aW fun K1 K2 hK1 hK2=>?_;conv=>whnf
 refine cLk h (fun _ h=>?_) (fun _ h=>?_)
 ·refine hK1 ?_
  refine aH ?_
  refine tHn ?_
  refine aE ?_
  refine aF ?_
  refine aA dCo rfl fun K hK=>?_;conv=>whnf
  refine gE h fun _ h=>?_;conv=>whnf
  refine gKo rfl ?_;conv=>whnf
  refine hK _ _ _ ?_
  refine aA dCo rfl fun K hK=>?_;conv=>whnf
  refine hK _ _ _ ?_
  refine aW fun K1 K2 hK1 hK2=>?_;conv=>whnf
  refine cLk h (fun _ h=>?_) (fun _ h=>?_)
  ·refine hK1 ?_
   refine aA dCo rfl fun K hK=>?_;conv=>whnf
   refine hK _ _ _ ?_
   refine aP ?_
   refine aL ?_
   refine aJ ?_
   refine aJ ?_
   refine aL ?_
   refine aJ ?_
   replace h:=gA h
   replace h:=gB h
   replace h:=aO h
   refine aM dCo fun K hK=>?_;conv=>whnf
   refine hK _ ?_
   cases h
   exact Wk.refl _
  refine hK2 ?_
  refine aH ?_
  refine iBn ?_
  refine tHn ?_
  refine cK dCo rfl fun K hK=>?_;conv=>whnf
  refine hK _ _ _ ?_
  refine tHn ?_
  replace h:=bF h
  refine ⟨_,h,?_⟩
  refine aY ?_;conv=>whnf
  exact And.intro rfl (And.intro (aLc wkI (aLc wkI (aLc (wkr (lsL fun _=>(lsI _ _))) (aLc wkI aLn)))) aLn)
 refine hK2 ?_
 refine bD ?_
 refine aT ?_
 refine aT ?_
 refine aS ?_
 replace h:=dI h
 replace h:=dK h
 refine tHn ?_
 refine aA dCo rfl fun K hK=>?_;conv=>whnf
 refine hK _ _ _ ?_
 refine aP ?_
 replace h:=aO h
 refine aM dCo fun K hK=>?_;conv=>whnf
 refine hK _ ?_
 cases h
 exact Wk.refl _
theorem uT {T:Tbl} (hT:T 62=aK kF) {args:List AV} {hp:aU} {id:Nat} {k:AV→Prop} {a0:List Int} {Φ:Int→Prop} (h:W (iQ a0) Φ) (hw:WkL args [(eL 1 eI default) a0]) (hk:∀ y,Φ y→k (eI y)):dC T 62 args hp id k:=by
 obtain ⟨y,e,hy⟩:=fG h
 exact aX hT ⟨a0,rfl,kY e rfl⟩ (by exact (lsI _ _)) hw (hk y hy)
  def gO (a0:aG) (s16:Int×(Ar 8)) (s18:Int×(Ar 8)):Option (Ct (Int×(Ar 8)) ((Ar 8)×Bool)):=cn (decide (s18.1<a0.N)) (gd (0≤s18.1∧s18.1<(8:Int)) (gd (0≤s18.1) (cn ((tL .i64 (rR .i64 (s16.2.at1 s18.1) s18.1) 1) ==
  1) (some (.rt (s16.2,false))) (some (.nx ((wr (s18.1+1)),s18.2)))))) (some (.bk (s18.1,s18.2)))
  def fF (a0:aG) (s7:Int×(Ar 8)) (s8:Int×(Ar 8)):Option (Ct (Int×(Ar 8)) ((Ar 8)×Bool)):=cn (decide (s8.1<a0.N)) (gd (0≤s8.1∧s8.1<(8:Int)) (gd (0≤s7.1) (jn (fun p9:(Ar 8)=>
  some (.nx ((wr (s8.1+1)),p9))) fun k10=>cn ((tL .i64 (rR .i64 (s8.2.at1 s8.1) s7.1) 1) ==
  1) (gd (0≤s8.1∧s8.1<(8:Int)) (gd (0≤s7.1∧s7.1<(8:Int)) (gd (0≤s8.1∧s8.1<(8:Int)) (let m11:=s8.2.st1 s8.1 (bor .i64 (s8.2.at1 s8.1) (s8.2.at1 s7.1));
  k10 m11)))) (k10 s8.2)))) (some (.bk (s8.1,s8.2)))
  def eY (a0:aG) (s7:Int×(Ar 8)):Option (Ct (Int×(Ar 8)) ((Ar 8)×Bool)):=cn (decide (s7.1<a0.N)) (bd (lp (fF a0 s7) FU (0,s7.2)) fun c12=>
  smK c12 (fun s13=>some (.nx ((wr (s7.1+1)),s13.2))) (fun r14=>some (.rt r14))) (some (.bk (s7.1,s7.2)))
  def fB (a0:aG) (s1:Int×(Ar 8)):Option (Ct (Int×(Ar 8)) ((Ar 8)×Bool)):=cn (decide (s1.1<(a0.Pairs.length:Int))) (ix a0.Pairs default s1.1 fun e2=>
  gd (0≤e2.2∧e2.2<(8:Int)) (gd (0≤e2.1) (gd (0≤e2.2∧e2.2<(8:Int)) (let m3:=s1.2.st1 e2.2 (bor .i64 (s1.2.at1 e2.2) (aDz .i64 1 e2.1));
  some (.nx ((wr (s1.1+1)),m3)))))) (some (.bk (s1.1,s1.2)))
def fY (a0:aG):Option ((Ar 8)×Bool):=bd (lp (fB a0) FU (0,(Ar.zero 8))) fun c4=>smK c4 (fun s5=>
  bd (lp (eY a0) FU (0,s5.2)) fun c15=>smK c15 (fun s16=>bd (lp (gO a0 s16) FU (0,(Ar.zero 8))) fun c19=>smK c19 (fun s20=>
  some (s16.2,true)) (fun r21=>some r21)) (fun r17=>some r17)) (fun r6=>some r6)
def hO:List AV→AV→Prop:=fun args r=>∃ a0,args=[bJ a0]∧W (fY a0) fun y=>r=(.tup [eAr y.1,eB y.2])
theorem wB {T:Tbl} (hT:TOk Tryd.prog T) (hpf:cY T PF):FOk Tryd.prog 79 (aK hO):=by
 refine bG hT hpf Tryd.func79 rfl Tryd.ntmps79 Tryd.results79 (by decide) ?_
 rintro args r ⟨a0,rfl,h⟩
 refine ⟨nle rfl,?_,?_⟩
 ·exact (lsC (cB _) lsN)
 rw [fY.eq_1] at h
 refine aA dCo rfl fun K hK=>?_;conv=>whnf
 refine hK _ _ _ ?_
 refine aA dCo rfl fun K hK=>?_;conv=>whnf
 refine hK _ _ _ ?_
 refine aE ?_
 refine aA dCo rfl fun K hK=>?_;conv=>whnf
 refine nlA rfl ?_;conv=>whnf
 refine bKo rfl ?_;conv=>whnf
 refine gKo rfl ?_;conv=>whnf
 refine hK _ _ _ ?_
 refine aF ?_
 replace h:=bM h
 refine gC (body:=fB _) rfl h [1,2,4,11,12] [1] [2] [4] (fun kl kh kr ids b s=>⟨ofL ([(13,eI s.1)]++kl),ofH (([]++kh)++([(wW ids 0,.cells (cA s.2))]++kr)),b+128⟩) ?_;(conv=>whnf);refine And.intro ?_ (fun s m h=>dG ?_)
 ·refine bE ?_;conv=>whnf
  exact And.intro rfl (And.intro (aLc wkI (aLc (WkR.ptr (fun _=>rfl)) (aLc (WkR.ptr (fun _=>rfl)) (aLc (WkR.ptr (fun _=>rfl)) (aLc (wkr (lsL fun _=>(aD _))) (aLc wkI aLn)))))) (aLc ⟨some _,rfl,bRc rfl (cKc wkI (cKc (wkr (lsL fun _=>(aD _))) cKn))⟩ (aLc ⟨some _,rfl,aV (x:=(Ar.zero 8)) rfl rfl⟩ (aLc ⟨some _,rfl,aV (x:=(Ar.zero 8)) rfl rfl⟩ aLn))))
 replace h:=bM h;rw [fB.eq_1] at h
 refine aA dCo rfl fun K hK=>?_;conv=>whnf
 refine hK _ _ _ ?_
 refine aE ?_
 refine aW fun K1 K2 hK1 hK2=>?_;conv=>whnf
 refine cLk h (fun _ h=>?_) (fun _ h=>?_)
 ·refine hK1 ?_
  refine aH ?_
  refine tHn ?_
  refine aE ?_
  refine aF ?_
  refine aA dCo rfl fun K hK=>?_;conv=>whnf
  refine gE h fun _ h=>?_;conv=>whnf
  refine nlA rfl ?_;conv=>whnf
  refine bKo rfl ?_;conv=>whnf
  refine And.intro rfl (And.intro (nle rfl) (And.intro rfl ?_));conv=>whnf
  refine hK _ _ _ ?_
  refine aBw dCo gD rfl (by kernel_rfl) fun K hK=>?_;conv=>whnf
  refine And.intro (by decide) ?_;conv=>whnf
  refine nlA rfl ?_;conv=>whnf
  refine bKo rfl ?_;conv=>whnf
  refine gKo rfl ?_;conv=>whnf
  refine cH h fun hx215 h=>?_;conv=>whnf
  refine nlA rfl ?_;conv=>whnf
  refine bKo rfl ?_;conv=>whnf
  refine dS rfl hx215 ?_;conv=>whnf
  refine And.intro (by decide) ?_;conv=>whnf
  refine nlA rfl ?_;conv=>whnf
  refine bKo rfl ?_;conv=>whnf
  refine gKo rfl ?_;conv=>whnf
  refine cH h fun _ h=>?_;conv=>whnf
  refine cH h fun hx216 h=>?_;conv=>whnf
  refine bKo rfl ?_;conv=>whnf
  refine tT rfl hx216 rfl rfl ?_;conv=>whnf
  refine hK _ _ _ ?_
  refine iBn ?_
  refine tHn ?_
  refine cK dCo rfl fun K hK=>?_;conv=>whnf
  refine hK _ _ _ ?_
  refine tHn ?_
  replace h:=bF h
  refine ⟨_,h,?_⟩
  refine bE ?_;conv=>whnf
  exact And.intro rfl (And.intro (aLc wkI (aLc (WkR.ptr (fun _=>rfl)) (aLc (WkR.ptr (fun _=>rfl)) (aLc (WkR.ptr (fun _=>rfl)) (aLc (wkr (lsL fun _=>(aD _))) (aLc wkI aLn)))))) (aLc ⟨some _,rfl,bRc rfl (cKc wkI (cKc (wkr (lsL fun _=>(aD _))) cKn))⟩ (aLc ⟨some _,rfl,aV rfl rfl⟩ (aLc ⟨some _,rfl,aV (x:=(Ar.zero 8)) rfl rfl⟩ aLn))))
 refine hK2 ?_
 refine bD ?_
 refine aT ?_
 refine aT ?_
 refine aS ?_
 replace h:=dI h
 replace h:=dK h
 refine tHn ?_
 refine aE ?_
 refine aA dCo rfl fun K hK=>?_;conv=>whnf
 refine nlA rfl ?_;conv=>whnf
 refine bKo rfl ?_;conv=>whnf
 refine gKo rfl ?_;conv=>whnf
 refine hK _ _ _ ?_
 refine aF ?_
 replace h:=bM h
 refine gC (body:=eY _) rfl h [1,2,4,28] [1] [2] [4] (fun kl kh kr ids b s=>⟨ofL ([(29,eI s.1)]++kl),ofH (([]++kh)++([(wW ids 0,.cells (cA s.2))]++kr)),b+128⟩) ?_;(conv=>whnf);refine And.intro ?_ (fun s m h=>dG ?_)
 ·refine bE ?_;conv=>whnf
  exact And.intro rfl (And.intro (aLc wkI (aLc (WkR.ptr (fun _=>rfl)) (aLc (WkR.ptr (fun _=>rfl)) (aLc (WkR.ptr (fun _=>rfl)) (aLc wkI aLn))))) (aLc ⟨some _,rfl,bRc rfl (cKc wkI (cKc (wkr (lsL fun _=>(aD _))) cKn))⟩ (aLc ⟨some _,rfl,aV rfl rfl⟩ (aLc ⟨some _,rfl,aV (x:=(Ar.zero 8)) rfl rfl⟩ aLn))))
 replace h:=bM h;rw [eY.eq_1] at h
 refine aA dCo rfl fun K hK=>?_;conv=>whnf
 refine hK _ _ _ ?_
 refine aE ?_
 refine aW fun K1 K2 hK1 hK2=>?_;conv=>whnf
 refine cLk h (fun _ h=>?_) (fun _ h=>?_)
 ·refine hK1 ?_
  refine aH ?_
  refine tHn ?_
  refine aE ?_
  refine aF ?_
  refine aA dCo rfl fun K hK=>?_;conv=>whnf
  refine hK _ _ _ ?_
  refine aA dCo rfl fun K hK=>?_;conv=>whnf
  refine nlA rfl ?_;conv=>whnf
  refine bKo rfl ?_;conv=>whnf
  refine gKo rfl ?_;conv=>whnf
  refine hK _ _ _ ?_
  refine aF ?_
  replace h:=bM h
  refine gC (body:=fF _ _) rfl h [1,2,4,7,28,29,33] [1] [2] [4] (fun kl kh kr ids b s=>⟨ofL ([(34,eI s.1)]++kl),ofH (([]++kh)++([(wW ids 0,.cells (cA s.2))]++kr)),b+128⟩) ?_;(conv=>whnf);refine And.intro ?_ (fun s m h=>dG ?_)
  ·refine bE ?_;conv=>whnf
   exact And.intro rfl (And.intro (aLc wkI (aLc (WkR.ptr (fun _=>rfl)) (aLc (WkR.ptr (fun _=>rfl)) (aLc (WkR.ptr (fun _=>rfl)) (aLc wkI (aLc wkI (aLc wkI (aLc wkI aLn)))))))) (aLc ⟨some _,rfl,bRc rfl (cKc wkI (cKc (wkr (lsL fun _=>(aD _))) cKn))⟩ (aLc ⟨some _,rfl,aV rfl rfl⟩ (aLc ⟨some _,rfl,aV (x:=(Ar.zero 8)) rfl rfl⟩ aLn))))
  replace h:=bM h;rw [fF.eq_1] at h
  refine aA dCo rfl fun K hK=>?_;conv=>whnf
  refine hK _ _ _ ?_
  refine aE ?_
  refine aW fun K1 K2 hK1 hK2=>?_;conv=>whnf
  refine cLk h (fun _ h=>?_) (fun _ h=>?_)
  ·refine hK1 ?_
   refine aH ?_
   refine tHn ?_
   refine aE ?_
   refine aF ?_
   refine aA dCo rfl fun K hK=>?_;conv=>whnf
   refine hK _ _ _ ?_
   refine aA dCo rfl fun K hK=>?_;conv=>whnf
   refine cH h fun hx469 h=>?_;conv=>whnf
   refine nlA rfl ?_;conv=>whnf
   refine bKo rfl ?_;conv=>whnf
   refine dS rfl hx469 ?_;conv=>whnf
   refine cH h fun _ h=>?_;conv=>whnf
   refine hK _ _ _ ?_
   replace h:=nL h
   refine aW fun K1 K2 hK1 hK2=>?_;conv=>whnf
   refine cLk h (fun _ h=>?_) (fun _ h=>?_)
   ·refine hK1 ?_
    refine aBw dCo gD rfl (by kernel_rfl) fun K hK=>?_;conv=>whnf
    refine cH h fun hx473 h=>?_;conv=>whnf
    refine nlA rfl ?_;conv=>whnf
    refine bKo rfl ?_;conv=>whnf
    refine dS rfl hx473 ?_;conv=>whnf
    refine cH h fun hx474 h=>?_;conv=>whnf
    refine nlA rfl ?_;conv=>whnf
    refine bKo rfl ?_;conv=>whnf
    refine dS rfl hx474 ?_;conv=>whnf
    refine cH h fun hx475 h=>?_;conv=>whnf
    refine bKo rfl ?_;conv=>whnf
    refine tT rfl hx475 rfl rfl ?_;conv=>whnf
    refine hK _ _ _ ?_
    refine iBn ?_
    refine tHn ?_
    refine cK dCo rfl fun K hK=>?_;conv=>whnf
    refine hK _ _ _ ?_
    refine tHn ?_
    replace h:=bF h
    refine ⟨_,h,?_⟩
    refine bE ?_;conv=>whnf
    exact And.intro rfl (And.intro (aLc wkI (aLc (WkR.ptr (fun _=>rfl)) (aLc (WkR.ptr (fun _=>rfl)) (aLc (WkR.ptr (fun _=>rfl)) (aLc wkI (aLc wkI (aLc wkI (aLc wkI aLn)))))))) (aLc ⟨some _,rfl,bRc rfl (cKc wkI (cKc (wkr (lsL fun _=>(aD _))) cKn))⟩ (aLc ⟨some _,rfl,aV rfl rfl⟩ (aLc ⟨some _,rfl,aV (x:=(Ar.zero 8)) rfl rfl⟩ aLn))))
   refine hK2 ?_
   refine aH ?_
   refine iBn ?_
   refine tHn ?_
   refine cK dCo rfl fun K hK=>?_;conv=>whnf
   refine hK _ _ _ ?_
   refine tHn ?_
   replace h:=bF h
   refine ⟨_,h,?_⟩
   refine bE ?_;conv=>whnf
   exact And.intro rfl (And.intro (aLc wkI (aLc (WkR.ptr (fun _=>rfl)) (aLc (WkR.ptr (fun _=>rfl)) (aLc (WkR.ptr (fun _=>rfl)) (aLc wkI (aLc wkI (aLc wkI (aLc wkI aLn)))))))) (aLc ⟨some _,rfl,bRc rfl (cKc wkI (cKc (wkr (lsL fun _=>(aD _))) cKn))⟩ (aLc ⟨some _,rfl,aV rfl rfl⟩ (aLc ⟨some _,rfl,aV (x:=(Ar.zero 8)) rfl rfl⟩ aLn))))
  refine hK2 ?_
  refine bD ?_
  refine aT ?_
  refine aT ?_
  refine aS ?_
  replace h:=dI h
  replace h:=dK h
  refine iBn ?_
  refine tHn ?_
  refine cK dCo rfl fun K hK=>?_;conv=>whnf
  refine hK _ _ _ ?_
  refine tHn ?_
  replace h:=bF h
  refine ⟨_,h,?_⟩
  refine bE ?_;conv=>whnf
  exact And.intro rfl (And.intro (aLc wkI (aLc (WkR.ptr (fun _=>rfl)) (aLc (WkR.ptr (fun _=>rfl)) (aLc (WkR.ptr (fun _=>rfl)) (aLc wkI aLn))))) (aLc ⟨some _,rfl,bRc rfl (cKc wkI (cKc (wkr (lsL fun _=>(aD _))) cKn))⟩ (aLc ⟨some _,rfl,aV rfl rfl⟩ (aLc ⟨some _,rfl,aV (x:=(Ar.zero 8)) rfl rfl⟩ aLn))))
 refine hK2 ?_
 refine bD ?_
 refine aT ?_
 refine aT ?_
 refine aS ?_
 replace h:=dI h
 replace h:=dK h
 refine tHn ?_
 refine aE ?_
 refine aA dCo rfl fun K hK=>?_;conv=>whnf
 refine nlA rfl ?_;conv=>whnf
 refine bKo rfl ?_;conv=>whnf
 refine gKo rfl ?_;conv=>whnf
 refine hK _ _ _ ?_
 refine aF ?_
 replace h:=bM h
 refine gC (body:=gO _ _) rfl h [2,4,55] [] [4] [2] (fun kl kh kr ids b s=>⟨ofL ([(56,eI s.1)]++kl),ofH (([]++kh)++([(wW ids 0,.cells (cA s.2))]++kr)),b+128⟩) ?_;(conv=>whnf);refine And.intro ?_ (fun s m h=>dG ?_)
 ·refine bE ?_;conv=>whnf
  exact And.intro rfl (And.intro (aLc wkI (aLc (WkR.ptr (fun _=>rfl)) (aLc (WkR.ptr (fun _=>rfl)) (aLc wkI aLn)))) (aLc ⟨some _,rfl,aV (x:=(Ar.zero 8)) rfl rfl⟩ (aLc ⟨some _,rfl,aV rfl rfl⟩ aLn)))
 replace h:=bM h;rw [gO.eq_1] at h
 refine aA dCo rfl fun K hK=>?_;conv=>whnf
 refine hK _ _ _ ?_
 refine aE ?_
 refine aW fun K1 K2 hK1 hK2=>?_;conv=>whnf
 refine cLk h (fun _ h=>?_) (fun _ h=>?_)
 ·refine hK1 ?_
  refine aH ?_
  refine tHn ?_
  refine aE ?_
  refine aF ?_
  refine aA dCo rfl fun K hK=>?_;conv=>whnf
  refine hK _ _ _ ?_
  refine aA dCo rfl fun K hK=>?_;conv=>whnf
  refine cH h fun hx483 h=>?_;conv=>whnf
  refine nlA rfl ?_;conv=>whnf
  refine bKo rfl ?_;conv=>whnf
  refine dS rfl hx483 ?_;conv=>whnf
  refine cH h fun _ h=>?_;conv=>whnf
  refine hK _ _ _ ?_
  refine aW fun K1 K2 hK1 hK2=>?_;conv=>whnf
  refine cLk h (fun _ h=>?_) (fun _ h=>?_)
  ·refine hK1 ?_
   refine aA dCo rfl fun K hK=>?_;conv=>whnf
   refine nlA rfl ?_;conv=>whnf
   refine bKo rfl ?_;conv=>whnf
   refine rU rfl ?_;conv=>whnf
   refine bKo rfl ?_;conv=>whnf
   refine pS (wG _) rfl rfl ?_;conv=>whnf
   refine hK _ _ _ ?_
   refine aP ?_
   refine aL ?_
   refine aJ ?_
   refine aJ ?_
   refine aL ?_
   refine aJ ?_
   replace h:=gA h
   replace h:=gB h
   replace h:=aO h
   refine aM dCo fun K hK=>?_;conv=>whnf
   refine nlA rfl ?_;conv=>whnf
   refine bKo rfl ?_;conv=>whnf
   refine rU rfl ?_;conv=>whnf
   refine hK _ ?_
   cases h
   exact Wk.refl _
  refine hK2 ?_
  refine aH ?_
  refine iBn ?_
  refine tHn ?_
  refine cK dCo rfl fun K hK=>?_;conv=>whnf
  refine hK _ _ _ ?_
  refine tHn ?_
  replace h:=bF h
  refine ⟨_,h,?_⟩
  refine bE ?_;conv=>whnf
  exact And.intro rfl (And.intro (aLc wkI (aLc (WkR.ptr (fun _=>rfl)) (aLc (WkR.ptr (fun _=>rfl)) (aLc wkI aLn)))) (aLc ⟨some _,rfl,aV rfl rfl⟩ (aLc ⟨some _,rfl,aV rfl rfl⟩ aLn)))
 refine hK2 ?_
 refine bD ?_
 refine aT ?_
 refine aT ?_
 refine aS ?_
 replace h:=dI h
 replace h:=dK h
 refine tHn ?_
 refine aA dCo rfl fun K hK=>?_;conv=>whnf
 refine nlA rfl ?_;conv=>whnf
 refine bKo rfl ?_;conv=>whnf
 refine rU rfl ?_;conv=>whnf
 refine bKo rfl ?_;conv=>whnf
 refine pS (wG _) rfl rfl ?_;conv=>whnf
 refine hK _ _ _ ?_
 refine aP ?_
 replace h:=aO h
 refine aM dCo fun K hK=>?_;conv=>whnf
 refine nlA rfl ?_;conv=>whnf
 refine bKo rfl ?_;conv=>whnf
 refine rU rfl ?_;conv=>whnf
 refine hK _ ?_
 cases h
 exact Wk.refl _
theorem tC {T:Tbl} (hT:T 79=aK hO) {args:List AV} {hp:aU} {id:Nat} {k:AV→Prop} {a0:aG} {Φ:(Ar 8)×Bool→Prop} (h:W (fY a0) Φ) (hw:WkL args [bJ a0]) (hk:∀ y,Φ y→k (.tup [eAr y.1,eB y.2])):dC T 79 args hp id k:=by
 obtain ⟨y,e,hy⟩:=fG h
 exact aX hT ⟨a0,rfl,kY e rfl⟩ (by exact fO (lsC (pF _) (lsC (lsB _) lsN))) hw (hk y hy)
def dL (a0:Int) (a1:Int):Option Int:=bd (fE a0) fun y1=>bd (fE a1) fun y2=>
  cn y1 (cn y2 (some 0) (some (-1))) (cn y2 (some 1) (cn (decide (a0<a1)) (some (-1)) (cn (decide (a0>a1)) (some 1) (some 0))))
def eF:List AV→AV→Prop:=fun args r=>∃ a0 a1,args=[eI a0,eI a1]∧W (dL a0 a1) fun y=>r=(eI y)
theorem rL {T:Tbl} (hT:TOk Tryd.prog T) (hpf:cY T PF) (h83:T 83=aK gI):FOk Tryd.prog 63 (aK eF):=by
 refine bG hT hpf Tryd.func63 rfl Tryd.ntmps63 Tryd.results63 (by decide) ?_
 rintro args r ⟨a0,a1,rfl,h⟩
 refine ⟨nle rfl,?_,?_⟩
 ·exact (lsC (lsI _ _) (lsC (lsI _ _) lsN))
 rw [dL.eq_1] at h
 refine aA dCo rfl fun K hK=>?_;conv=>whnf
 refine hK _ _ _ ?_
 refine aA dCo rfl fun K hK=>?_;conv=>whnf
 replace h:=bM h
 refine mJ h83 h (WkL.refl _) (fun _ h=>?_);conv=>whnf
 refine hK _ _ _ ?_
 refine aA dCo rfl fun K hK=>?_;conv=>whnf
 replace h:=bM h
 refine mJ h83 h (WkL.refl _) (fun _ h=>?_);conv=>whnf
 refine hK _ _ _ ?_
 refine aE ?_
 refine aA dCo rfl fun K hK=>?_;conv=>whnf
 refine hK _ _ _ ?_
 refine aW fun K1 K2 hK1 hK2=>?_;conv=>whnf
 refine cLk h (fun _ h=>?_) (fun _ h=>?_)
 ·refine hK1 ?_
  refine aE ?_
  refine aA dCo rfl fun K hK=>?_;conv=>whnf
  refine hK _ _ _ ?_
  refine aW fun K1 K2 hK1 hK2=>?_;conv=>whnf
  refine cLk h (fun _ h=>?_) (fun _ h=>?_)
  ·refine hK1 ?_
   refine aA dCo rfl fun K hK=>?_;conv=>whnf
   refine hK _ _ _ ?_
   refine aP ?_
   refine aJ ?_
   refine aJ ?_
   replace h:=aO h
   refine aM dCo fun K hK=>?_;conv=>whnf
   refine hK _ ?_
   cases h
   exact Wk.refl _
  refine hK2 ?_
  refine aH ?_
  refine tHn ?_
  refine aA dCo rfl fun K hK=>?_;conv=>whnf
  refine hK _ _ _ ?_
  refine aP ?_
  refine aJ ?_
  replace h:=aO h
  refine aM dCo fun K hK=>?_;conv=>whnf
  refine hK _ ?_
  cases h
  exact Wk.refl _
 refine hK2 ?_
 refine aH ?_
 refine tHn ?_
 refine aE ?_
 refine aA dCo rfl fun K hK=>?_;conv=>whnf
 refine hK _ _ _ ?_
 refine aW fun K1 K2 hK1 hK2=>?_;conv=>whnf
 refine cLk h (fun _ h=>?_) (fun _ h=>?_)
 ·refine hK1 ?_
  refine aA dCo rfl fun K hK=>?_;conv=>whnf
  refine hK _ _ _ ?_
  refine aP ?_
  refine aJ ?_
  replace h:=aO h
  refine aM dCo fun K hK=>?_;conv=>whnf
  refine hK _ ?_
  cases h
  exact Wk.refl _
 refine hK2 ?_
 refine aH ?_
 refine tHn ?_
 refine aE ?_
 refine aA dCo rfl fun K hK=>?_;conv=>whnf
 refine hK _ _ _ ?_
 refine aW fun K1 K2 hK1 hK2=>?_;conv=>whnf
 refine cLk h (fun _ h=>?_) (fun _ h=>?_)
 ·refine hK1 ?_
  refine aA dCo rfl fun K hK=>?_;conv=>whnf
  refine hK _ _ _ ?_
  refine aP ?_
  refine aJ ?_
  replace h:=aO h
  refine aM dCo fun K hK=>?_;conv=>whnf
  refine hK _ ?_
  cases h
  exact Wk.refl _
 refine hK2 ?_
 refine aH ?_
 refine tHn ?_
 refine aE ?_
 refine aA dCo rfl fun K hK=>?_;conv=>whnf
 refine hK _ _ _ ?_
 refine aW fun K1 K2 hK1 hK2=>?_;conv=>whnf
 refine cLk h (fun _ h=>?_) (fun _ h=>?_)
 ·refine hK1 ?_
  refine aA dCo rfl fun K hK=>?_;conv=>whnf
  refine hK _ _ _ ?_
  refine aP ?_
  refine aJ ?_
  replace h:=aO h
  refine aM dCo fun K hK=>?_;conv=>whnf
  refine hK _ ?_
  cases h
  exact Wk.refl _
 refine hK2 ?_
 refine aH ?_
 refine tHn ?_
 refine aA dCo rfl fun K hK=>?_;conv=>whnf
 refine hK _ _ _ ?_
 refine aP ?_
 replace h:=aO h
 refine aM dCo fun K hK=>?_;conv=>whnf
 refine hK _ ?_
 cases h
 exact Wk.refl _
theorem kU {T:Tbl} (hT:T 63=aK eF) {args:List AV} {hp:aU} {id:Nat} {k:AV→Prop} {a0:Int} {a1:Int} {Φ:Int→Prop} (h:W (dL a0 a1) Φ) (hw:WkL args [eI a0,eI a1]) (hk:∀ y,Φ y→k (eI y)):dC T 63 args hp id k:=by
 obtain ⟨y,e,hy⟩:=fG h
 exact aX hT ⟨a0,a1,rfl,kY e rfl⟩ (by exact (lsI _ _)) hw (hk y hy)
def cO (a0:List Int) (a1:List Int) (s1:Int):Option (Ct Int Int):=cn (decide (s1<(a0.length:Int))) (ix a0 default s1 fun e2=>
  cn (decide (s1≥(a1.length:Int))) (some (.rt 1)) (ix a1 default s1 fun e3=>bd (dL e2 e3) fun y4=>cn (y4 !=
  0) (some (.rt y4)) (some (.nx (wr (s1+1)))))) (some (.bk s1))
def bU (a0:List Int) (a1:List Int):Option Int:=bd (lp (cO a0 a1) FU 0) fun c5=>smK c5 (fun s6=>
  cn (decide ((a0.length:Int)<(a1.length:Int))) (some (-1)) (some 0)) (fun r7=>some r7)
def dY:List AV→AV→Prop:=fun args r=>∃ a0 a1,args=[(eL 1 eI default) a0,(eL 1 eI default) a1]∧W (bU a0 a1) fun y=>r=(eI y)
theorem pO {T:Tbl} (hT:TOk Tryd.prog T) (hpf:cY T PF) (h63:T 63=aK eF):FOk Tryd.prog 64 (aK dY):=by
 refine bG hT hpf Tryd.func64 rfl Tryd.ntmps64 Tryd.results64 (by decide) ?_
 rintro args r ⟨a0,a1,rfl,h⟩
 refine ⟨nle rfl,?_,?_⟩
 ·exact (lsC (lsL fun _=>(lsI _ _)) (lsC (lsL fun _=>(lsI _ _)) lsN))
 rw [bU.eq_1] at h
 refine aA dCo rfl fun K hK=>?_;conv=>whnf
 refine hK _ _ _ ?_
 refine aE ?_
 refine aA dCo rfl fun K hK=>?_;conv=>whnf
 refine hK _ _ _ ?_
 refine aF ?_
 replace h:=bM h
 refine gJ (body:=cO _ _) rfl h [0,1,9,10] [] [] (fun kl kh ids b s=>⟨ofL ([(11,eI s)]++kl),ofH ([]++kh),b+64⟩) ?_;(conv=>whnf);refine And.intro ?_ (fun s m h=>dG ?_)
 ·refine aY ?_;conv=>whnf
  exact And.intro rfl (And.intro (aLc wkI (aLc (wkr (lsL fun _=>(lsI _ _))) (aLc (wkr (lsL fun _=>(lsI _ _))) (aLc (wkr (lsL fun _=>(lsI _ _))) (aLc wkI aLn))))) aLn)
 replace h:=bM h;rw [cO.eq_1] at h
 refine aA dCo rfl fun K hK=>?_;conv=>whnf
 refine hK _ _ _ ?_
 refine aE ?_
 refine aW fun K1 K2 hK1 hK2=>?_;conv=>whnf
 refine cLk h (fun _ h=>?_) (fun _ h=>?_)
 ·refine hK1 ?_
  refine aH ?_
  refine tHn ?_
  refine aE ?_
  refine aF ?_
  refine aA dCo rfl fun K hK=>?_;conv=>whnf
  refine gE h fun _ h=>?_;conv=>whnf
  refine gKo rfl ?_;conv=>whnf
  refine hK _ _ _ ?_
  refine aE ?_
  refine aA dCo rfl fun K hK=>?_;conv=>whnf
  refine hK _ _ _ ?_
  refine aW fun K1 K2 hK1 hK2=>?_;conv=>whnf
  refine cLk h (fun _ h=>?_) (fun _ h=>?_)
  ·refine hK1 ?_
   refine aA dCo rfl fun K hK=>?_;conv=>whnf
   refine hK _ _ _ ?_
   refine aP ?_
   refine aJ ?_
   refine aL ?_
   refine aJ ?_
   refine aJ ?_
   refine aL ?_
   refine aJ ?_
   replace h:=gA h
   replace h:=gB h
   replace h:=aO h
   refine aM dCo fun K hK=>?_;conv=>whnf
   refine hK _ ?_
   cases h
   exact Wk.refl _
  refine hK2 ?_
  refine aH ?_
  refine tHn ?_
  refine aA dCo rfl fun K hK=>?_;conv=>whnf
  refine gE h fun _ h=>?_;conv=>whnf
  refine gKo rfl ?_;conv=>whnf
  refine hK _ _ _ ?_
  refine aA dCo rfl fun K hK=>?_;conv=>whnf
  replace h:=bM h
  refine kU h63 h (WkL.refl _) (fun _ h=>?_);conv=>whnf
  refine hK _ _ _ ?_
  refine aA dCo rfl fun K hK=>?_;conv=>whnf
  refine hK _ _ _ ?_
  refine aW fun K1 K2 hK1 hK2=>?_;conv=>whnf
  refine cLk h (fun _ h=>?_) (fun _ h=>?_)
  ·refine hK1 ?_
   refine aA dCo rfl fun K hK=>?_;conv=>whnf
   refine hK _ _ _ ?_
   refine aP ?_
   refine aL ?_
   refine aJ ?_
   refine aJ ?_
   refine aL ?_
   refine aJ ?_
   replace h:=gA h
   replace h:=gB h
   replace h:=aO h
   refine aM dCo fun K hK=>?_;conv=>whnf
   refine hK _ ?_
   cases h
   exact Wk.refl _
  refine hK2 ?_
  refine aH ?_
  refine iBn ?_
  refine tHn ?_
  refine cK dCo rfl fun K hK=>?_;conv=>whnf
  refine hK _ _ _ ?_
  refine tHn ?_
  replace h:=bF h
  refine ⟨_,h,?_⟩
  refine aY ?_;conv=>whnf
  exact And.intro rfl (And.intro (aLc wkI (aLc (wkr (lsL fun _=>(lsI _ _))) (aLc (wkr (lsL fun _=>(lsI _ _))) (aLc (wkr (lsL fun _=>(lsI _ _))) (aLc wkI aLn))))) aLn)
 refine hK2 ?_
 refine bD ?_
 refine aT ?_
 refine aT ?_
 refine aS ?_
 replace h:=dI h
 replace h:=dK h
 refine tHn ?_
 refine aE ?_
 refine aA dCo rfl fun K hK=>?_;conv=>whnf
 refine hK _ _ _ ?_
 refine aW fun K1 K2 hK1 hK2=>?_;conv=>whnf
 refine cLk h (fun _ h=>?_) (fun _ h=>?_)
 ·refine hK1 ?_
  refine aA dCo rfl fun K hK=>?_;conv=>whnf
  refine hK _ _ _ ?_
  refine aP ?_
  refine aJ ?_
  replace h:=aO h
  refine aM dCo fun K hK=>?_;conv=>whnf
  refine hK _ ?_
  cases h
  exact Wk.refl _
 refine hK2 ?_
 refine aH ?_
 refine tHn ?_
 refine aA dCo rfl fun K hK=>?_;conv=>whnf
 refine hK _ _ _ ?_
 refine aP ?_
 replace h:=aO h
 refine aM dCo fun K hK=>?_;conv=>whnf
 refine hK _ ?_
 cases h
 exact Wk.refl _
theorem oA {T:Tbl} (hT:T 64=aK dY) {args:List AV} {hp:aU} {id:Nat} {k:AV→Prop} {a0:List Int} {a1:List Int} {Φ:Int→Prop} (h:W (bU a0 a1) Φ) (hw:WkL args [(eL 1 eI default) a0,(eL 1 eI default) a1]) (hk:∀ y,Φ y→k (eI y)):dC T 64 args hp id k:=by
 obtain ⟨y,e,hy⟩:=fG h
 exact aX hT ⟨a0,a1,rfl,kY e rfl⟩ (by exact (lsI _ _)) hw (hk y hy)
def cM (a0:List (Int×Int)) (c910:aG) (s1:Int):Option (Ct Int Int):=cn (decide (s1<(a0.length:Int))) (ix a0 default s1 fun e2=>
  bd (eJ e2 c910) fun y3=>cn y3 (some (.rt s1)) (some (.nx (wr (s1+1))))) (some (.bk s1))
def bX (a0:List (Int×Int)) (c910:aG):Option Int:=bd (lp (cM a0 c910) FU 0) fun c4=>smK c4 (fun s5=>
  some (-1)) (fun r6=>some r6)
def gZ:List AV→AV→Prop:=fun args r=>∃ a0 c910,args=[(eL 2 jW default) a0,.fn 69 [] [.ep [eI c910.N,(eL 2 jW default) c910.Pairs] 0]]∧W (bX a0 c910) fun y=>r=(eI y)
theorem lP {T:Tbl} (hT:TOk Tryd.prog T) (hpf:cY T PF) (h69:T 69=aK eG):FOk Tryd.prog 85 (aK gZ):=by
 refine bG hT hpf Tryd.func85 rfl Tryd.ntmps85 Tryd.results85 (by decide) ?_
 rintro args r ⟨a0,c910,rfl,h⟩
 refine ⟨nle rfl,?_,?_⟩
 ·exact (lsC (lsL fun _=>(aD _)) (lsC (qC lsN (lsC (lsE (lsC (lsI _ _) (lsC (lsL fun _=>(aD _)) lsN))) lsN)) lsN))
 rw [bX.eq_1] at h
 refine aA dCo rfl fun K hK=>?_;conv=>whnf
 refine hK _ _ _ ?_
 refine aE ?_
 refine aA dCo rfl fun K hK=>?_;conv=>whnf
 refine hK _ _ _ ?_
 refine aF ?_
 replace h:=bM h
 refine gJ (body:=cM _ _) rfl h [0,1,7] [] [] (fun kl kh ids b s=>⟨ofL ([(8,eI s)]++kl),ofH ([]++kh),b+64⟩) ?_;(conv=>whnf);refine And.intro ?_ (fun s m h=>dG ?_)
 ·refine aY ?_;conv=>whnf
  exact And.intro rfl (And.intro (aLc wkI (aLc (wkr (lsL fun _=>(aD _))) (aLc (fA bB (aB (wkr (lsE (lsC (lsI _ _) (lsC (lsL fun _=>(aD _)) lsN)))) bB)) (aLc wkI aLn)))) aLn)
 replace h:=bM h;rw [cM.eq_1] at h
 refine aA dCo rfl fun K hK=>?_;conv=>whnf
 refine hK _ _ _ ?_
 refine aE ?_
 refine aW fun K1 K2 hK1 hK2=>?_;conv=>whnf
 refine cLk h (fun _ h=>?_) (fun _ h=>?_)
 ·refine hK1 ?_
  refine aH ?_
  refine tHn ?_
  refine aE ?_
  refine aF ?_
  refine aA dCo rfl fun K hK=>?_;conv=>whnf
  refine hK _ _ _ ?_
  refine aA dCo rfl fun K hK=>?_;conv=>whnf
  refine gE h fun _ h=>?_;conv=>whnf
  refine nlA rfl ?_;conv=>whnf
  replace h:=bM h
  refine qF h69 h (WkL.refl _) (fun _ h=>?_);conv=>whnf
  refine hK _ _ _ ?_
  refine aW fun K1 K2 hK1 hK2=>?_;conv=>whnf
  refine cLk h (fun _ h=>?_) (fun _ h=>?_)
  ·refine hK1 ?_
   refine aA dCo rfl fun K hK=>?_;conv=>whnf
   refine hK _ _ _ ?_
   refine aP ?_
   refine aL ?_
   refine aJ ?_
   refine aJ ?_
   refine aL ?_
   refine aJ ?_
   replace h:=gA h
   replace h:=gB h
   replace h:=aO h
   refine aM dCo fun K hK=>?_;conv=>whnf
   refine hK _ ?_
   cases h
   exact Wk.refl _
  refine hK2 ?_
  refine aH ?_
  refine iBn ?_
  refine tHn ?_
  refine cK dCo rfl fun K hK=>?_;conv=>whnf
  refine hK _ _ _ ?_
  refine tHn ?_
  replace h:=bF h
  refine ⟨_,h,?_⟩
  refine aY ?_;conv=>whnf
  exact And.intro rfl (And.intro (aLc wkI (aLc (wkr (lsL fun _=>(aD _))) (aLc (fA bB (aB (wkr (lsE (lsC (lsI _ _) (lsC (lsL fun _=>(aD _)) lsN)))) bB)) (aLc wkI aLn)))) aLn)
 refine hK2 ?_
 refine bD ?_
 refine aT ?_
 refine aT ?_
 refine aS ?_
 replace h:=dI h
 replace h:=dK h
 refine tHn ?_
 refine aA dCo rfl fun K hK=>?_;conv=>whnf
 refine hK _ _ _ ?_
 refine aP ?_
 replace h:=aO h
 refine aM dCo fun K hK=>?_;conv=>whnf
 refine hK _ ?_
 cases h
 exact Wk.refl _
def cP:List AV→AV→Prop:=fun args r=>gZ args r
theorem kS {T:Tbl} (hT:T 85=aK cP) {args:List AV} {hp:aU} {id:Nat} {k:AV→Prop} {a0:List (Int×Int)} {c910:aG} {Φ:Int→Prop} (h:W (bX a0 c910) Φ) (hw:WkL args [(eL 2 jW default) a0,.fn 69 [] [.ep [eI c910.N,(eL 2 jW default) c910.Pairs] 0]]) (hk:∀ y,Φ y→k (eI y)):dC T 85 args hp id k:=by
 obtain ⟨y,e,hy⟩:=fG h
 exact aX hT ⟨a0,c910,rfl,kY e rfl⟩ (by exact (lsI _ _)) hw (hk y hy)
theorem nM {T:Tbl} (hT:TOk Tryd.prog T) (hpf:cY T PF) (h69:T 69=aK eG):FOk Tryd.prog 85 (aK cP):=(lP hT hpf h69)
def bZ (a0:List (Int×Int)) (c910:aG):Option Bool:=bd (bX a0 c910) fun y1=>some (decide (y1≥0))
def fQ:List AV→AV→Prop:=fun args r=>∃ a0 c910,args=[(eL 2 jW default) a0,.fn 69 [] [.ep [eI c910.N,(eL 2 jW default) c910.Pairs] 0]]∧W (bZ a0 c910) fun y=>r=(eB y)
theorem kN {T:Tbl} (hT:TOk Tryd.prog T) (hpf:cY T PF) (h85:T 85=aK cP):FOk Tryd.prog 68 (aK fQ):=by
 refine bG hT hpf Tryd.func68 rfl Tryd.ntmps68 Tryd.results68 (by decide) ?_
 rintro args r ⟨a0,c910,rfl,h⟩
 refine ⟨nle rfl,?_,?_⟩
 ·exact (lsC (lsL fun _=>(aD _)) (lsC (qC lsN (lsC (lsE (lsC (lsI _ _) (lsC (lsL fun _=>(aD _)) lsN))) lsN)) lsN))
 rw [bZ.eq_1] at h
 refine aA dCo rfl fun K hK=>?_;conv=>whnf
 refine hK _ _ _ ?_
 refine aA dCo rfl fun K hK=>?_;conv=>whnf
 replace h:=bM h
 refine kS h85 h (WkL.refl _) (fun _ h=>?_);conv=>whnf
 refine hK _ _ _ ?_
 refine aP ?_
 replace h:=aO h
 refine aM dCo fun K hK=>?_;conv=>whnf
 refine hK _ ?_
 cases h
 exact Wk.refl _
def cR:List AV→AV→Prop:=fun args r=>fQ args r
theorem jL {T:Tbl} (hT:T 68=aK cR) {args:List AV} {hp:aU} {id:Nat} {k:AV→Prop} {a0:List (Int×Int)} {c910:aG} {Φ:Bool→Prop} (h:W (bZ a0 c910) Φ) (hw:WkL args [(eL 2 jW default) a0,.fn 69 [] [.ep [eI c910.N,(eL 2 jW default) c910.Pairs] 0]]) (hk:∀ y,Φ y→k (eB y)):dC T 68 args hp id k:=by
 obtain ⟨y,e,hy⟩:=fG h
 exact aX hT ⟨a0,c910,rfl,kY e rfl⟩ (by exact (lsB _)) hw (hk y hy)
theorem lO {T:Tbl} (hT:TOk Tryd.prog T) (hpf:cY T PF) (h85:T 85=aK cP):FOk Tryd.prog 68 (aK cR):=(kN hT hpf h85)
def mN (a0:aG) (a1:List Int) (s1:Int):Option (Ct Int Bool):=cn (decide (s1<(a1.length:Int))) (ix a1 default s1 fun e2=>
  gd ((a1.length:Int)≠0) (ix a1 default (Int.tmod (wr (s1+1)) (a1.length:Int)) fun e3=>bd (jX a0 e2 e3) fun y4=>
  cn (!y4) (some (.rt false)) (some (.nx (wr (s1+1)))))) (some (.bk s1))
def rY (a0:aG) (a1:List Int):Option Bool:=bd (lp (mN a0 a1) FU 0) fun c5=>smK c5 (fun s6=>let v8:=(decide ((a1.length:Int)≥2));
  some v8) (fun r7=>some r7)
def oM:List AV→AV→Prop:=fun args r=>∃ a0 a1,args=[bJ a0,(eL 1 eI default) a1]∧W (rY a0 a1) fun y=>r=(eB y)
theorem wQ {T:Tbl} (hT:TOk Tryd.prog T) (hpf:cY T PF) (h70:T 70=aK iH):FOk Tryd.prog 35 (aK oM):=by
 refine bG hT hpf Tryd.func35 rfl Tryd.ntmps35 Tryd.results35 (by decide) ?_
 rintro args r ⟨a0,a1,rfl,h⟩
 refine ⟨nle rfl,?_,?_⟩
 ·exact (lsC (cB _) (lsC (lsL fun _=>(lsI _ _)) lsN))
 rw [rY.eq_1] at h
 refine aA dCo rfl fun K hK=>?_;conv=>whnf
 refine hK _ _ _ ?_
 refine aE ?_
 refine aA dCo rfl fun K hK=>?_;conv=>whnf
 refine hK _ _ _ ?_
 refine aF ?_
 replace h:=bM h
 refine gJ (body:=mN _ _) rfl h [1,2] [2] [] (fun kl kh ids b s=>⟨ofL ([(5,eI s)]++kl),ofH ([]++kh),b+64⟩) ?_;(conv=>whnf);refine And.intro ?_ (fun s m h=>dG ?_)
 ·refine aY ?_;conv=>whnf
  exact And.intro rfl (And.intro (aLc wkI (aLc (wkr (lsL fun _=>(lsI _ _))) (aLc (WkR.ptr (fun _=>rfl)) aLn))) (aLc ⟨some _,rfl,bRc rfl (cKc wkI (cKc (wkr (lsL fun _=>(aD _))) cKn))⟩ aLn))
 replace h:=bM h;rw [mN.eq_1] at h
 refine aE ?_
 refine aA dCo rfl fun K hK=>?_;conv=>whnf
 refine hK _ _ _ ?_
 refine aW fun K1 K2 hK1 hK2=>?_;conv=>whnf
 refine cLk h (fun _ h=>?_) (fun _ h=>?_)
 ·refine hK1 ?_
  refine aH ?_
  refine tHn ?_
  refine aE ?_
  refine aF ?_
  refine rB dCo gD rfl (by kernel_rfl) fun K hK=>?_;conv=>whnf
  refine nlA rfl ?_;conv=>whnf
  refine bKo rfl ?_;conv=>whnf
  refine nlA rfl ?_;conv=>whnf
  refine gE h fun _ h=>?_;conv=>whnf
  refine gKo rfl ?_;conv=>whnf
  refine cH h fun _ h=>?_;conv=>whnf
  refine gE h fun _ h=>?_;conv=>whnf
  refine gKo rfl ?_;conv=>whnf
  replace h:=bM h
  refine sT h70 h (WkL.refl _) (fun _ h=>?_);conv=>whnf
  refine hK _ _ _ ?_
  refine aW fun K1 K2 hK1 hK2=>?_;conv=>whnf
  refine cLk h (fun _ h=>?_) (fun _ h=>?_)
  ·refine hK1 ?_
   refine aA dCo rfl fun K hK=>?_;conv=>whnf
   refine hK _ _ _ ?_
   refine aP ?_
   refine aL ?_
   refine aJ ?_
   refine aJ ?_
   refine aL ?_
   refine aJ ?_
   replace h:=gA h
   replace h:=gB h
   replace h:=aO h
   refine aM dCo fun K hK=>?_;conv=>whnf
   refine hK _ ?_
   cases h
   exact Wk.refl _
  refine hK2 ?_
  refine aH ?_
  refine iBn ?_
  refine tHn ?_
  refine cK dCo rfl fun K hK=>?_;conv=>whnf
  refine hK _ _ _ ?_
  refine tHn ?_
  replace h:=bF h
  refine ⟨_,h,?_⟩
  refine aY ?_;conv=>whnf
  exact And.intro rfl (And.intro (aLc wkI (aLc (wkr (lsL fun _=>(lsI _ _))) (aLc (WkR.ptr (fun _=>rfl)) aLn))) (aLc ⟨some _,rfl,bRc rfl (cKc wkI (cKc (wkr (lsL fun _=>(aD _))) cKn))⟩ aLn))
 refine hK2 ?_
 refine bD ?_
 refine aT ?_
 refine aT ?_
 refine aS ?_
 replace h:=dI h
 replace h:=dK h
 refine tHn ?_
 refine aA dCo rfl fun K hK=>?_;conv=>whnf
 refine hK _ _ _ ?_
 refine aP ?_
 replace h:=aO h
 refine aM dCo fun K hK=>?_;conv=>whnf
 refine hK _ ?_
 cases h
 exact Wk.refl _
  def lN (a0:Int) (a1:Ar 8) (s1:Int×aG) (s2:Int×aG):Option (Ct (Int×aG) aG):=cn (decide (s2.1<a0)) (gd (0≤s2.1∧s2.1<(8:Int)) (gd (0≤s1.1) (jn (fun p3:aG=>
  some (.nx ((wr (s2.1+1)),p3))) fun k4=>cn ((tL .i64 (rR .i64 (a1.at1 s2.1) s1.1) 1)==1) (lt ([(s1.1,s2.1)]:List (Int×Int)) fun l5=>ap s2.2.Pairs l5 fun l6=>
  k4 (⟨s2.2.N,l6⟩:aG)) (k4 s2.2)))) (some (.bk (s2.1,s2.2)))
  def lM (a0:Int) (a1:Ar 8) (s1:Int×aG):Option (Ct (Int×aG) aG):=cn (decide (s1.1<a0)) (bd (lp (lN a0 a1 s1) FU (0,s1.2)) fun c7=>
  smK c7 (fun s8=>some (.nx ((wr (s1.1+1)),s8.2))) (fun r9=>some (.rt r9))) (some (.bk (s1.1,s1.2)))
def iE (a0:Int) (a1:Ar 8):Option aG:=bd (lp (lM a0 a1) FU (0,(⟨a0,[]⟩:aG))) fun c10=>smK c10 (fun s11=>some s11.2) (fun r12=>
  some r12)
def fW:List AV→AV→Prop:=fun args r=>∃ a0 a1,args=[eI a0,eAr a1]∧W (iE a0 a1) fun y=>r=(bJ y)
theorem vG {T:Tbl} (hT:TOk Tryd.prog T) (hpf:cY T PF):FOk Tryd.prog 58 (aK fW):=by
 refine bG hT hpf Tryd.func58 rfl Tryd.ntmps58 Tryd.results58 (by decide) ?_
 rintro args r ⟨a0,a1,rfl,h⟩
 refine ⟨nle rfl,?_,?_⟩
 ·exact (lsC (lsI _ _) (lsC (pF _) lsN))
 rw [iE.eq_1] at h
 refine aA dCo rfl fun K hK=>?_;conv=>whnf
 refine aQ ?_;conv=>whnf
 refine hK _ _ _ ?_
 refine aA dCo rfl fun K hK=>?_;conv=>whnf
 refine bKo rfl ?_;conv=>whnf
 refine And.intro rfl (And.intro (nle rfl) (And.intro rfl ?_));conv=>whnf
 refine hK _ _ _ ?_
 refine aE ?_
 refine aA dCo rfl fun K hK=>?_;conv=>whnf
 refine hK _ _ _ ?_
 refine aF ?_
 replace h:=bM h
 refine gC (body:=lM _ _) rfl h [0,3,4,5,10] [4] [3] [5] (fun kl kh kr ids b s=>⟨ofL ([(11,eI s.1)]++kl),ofH (([(wW ids 0,.cells [eI s.2.N,.lst (.tok (b+0)) 2 s.2.Pairs.length (fun j=>jW (s.2.Pairs.getD j default))]),(b+0,.cells [])]++kh)++([]++kr)),b+128⟩) ?_;(conv=>whnf);refine And.intro ?_ (fun s m h=>dG ?_)
 ·refine bE ?_;conv=>whnf
  exact And.intro rfl (And.intro (aLc wkI (aLc wkI (aLc (WkR.ptr (fun _=>rfl)) (aLc (WkR.ptr (fun _=>rfl)) (aLc (WkR.ptr (fun _=>rfl)) (aLc wkI aLn)))))) (aLc ⟨some _,rfl,bRc rfl (cKc wkI (cKc (WkR.nil (fun _=>rfl)) cKn))⟩ (aLc ⟨none,rfl,sW⟩ (aLc ⟨some _,rfl,bRc rfl (cKc wkI (cKc (wkr bW) cKn))⟩ (aLc ⟨some _,rfl,aV rfl rfl⟩ aLn)))))
 replace h:=bM h;rw [lM.eq_1] at h
 refine aA dCo rfl fun K hK=>?_;conv=>whnf
 refine hK _ _ _ ?_
 refine aE ?_
 refine aW fun K1 K2 hK1 hK2=>?_;conv=>whnf
 refine cLk h (fun _ h=>?_) (fun _ h=>?_)
 ·refine hK1 ?_
  refine aH ?_
  refine tHn ?_
  refine aE ?_
  refine aF ?_
  refine aA dCo rfl fun K hK=>?_;conv=>whnf
  refine hK _ _ _ ?_
  refine aA dCo rfl fun K hK=>?_;conv=>whnf
  refine hK _ _ _ ?_
  refine aF ?_
  replace h:=bM h
  refine gC (body:=lN _ _ _) rfl h [0,3,4,5,6,10,11,14] [4] [3] [5] (fun kl kh kr ids b s=>⟨ofL ([(15,eI s.1)]++kl),ofH (([(wW ids 0,.cells [eI s.2.N,.lst (.tok (b+0)) 2 s.2.Pairs.length (fun j=>jW (s.2.Pairs.getD j default))]),(b+0,.cells [])]++kh)++([]++kr)),b+128⟩) ?_;(conv=>whnf);refine And.intro ?_ (fun s m h=>dG ?_)
  ·refine bE ?_;conv=>whnf
   exact And.intro rfl (And.intro (aLc wkI (aLc wkI (aLc (WkR.ptr (fun _=>rfl)) (aLc (WkR.ptr (fun _=>rfl)) (aLc (WkR.ptr (fun _=>rfl)) (aLc wkI (aLc wkI (aLc wkI (aLc wkI aLn))))))))) (aLc ⟨some _,rfl,bRc rfl (cKc wkI (cKc (WkR.tok (fun _=>rfl) rfl (fun _ _=>Wk.refl _) (fun _=>(aD _))) cKn))⟩ (aLc ⟨some _,rfl,bRc rfl cKn⟩ (aLc ⟨some _,rfl,bRc rfl (cKc wkI (cKc (wkr bW) cKn))⟩ (aLc ⟨some _,rfl,aV rfl rfl⟩ aLn)))))
  replace h:=bM h;rw [lN.eq_1] at h
  refine aA dCo rfl fun K hK=>?_;conv=>whnf
  refine hK _ _ _ ?_
  refine aE ?_
  refine aW fun K1 K2 hK1 hK2=>?_;conv=>whnf
  refine cLk h (fun _ h=>?_) (fun _ h=>?_)
  ·refine hK1 ?_
   refine aH ?_
   refine tHn ?_
   refine aE ?_
   refine aF ?_
   refine aA dCo rfl fun K hK=>?_;conv=>whnf
   refine hK _ _ _ ?_
   refine aA dCo rfl fun K hK=>?_;conv=>whnf
   refine cH h fun hx195 h=>?_;conv=>whnf
   refine nlA rfl ?_;conv=>whnf
   refine bKo rfl ?_;conv=>whnf
   refine dS rfl hx195 ?_;conv=>whnf
   refine cH h fun _ h=>?_;conv=>whnf
   refine hK _ _ _ ?_
   replace h:=nL h
   refine aW fun K1 K2 hK1 hK2=>?_;conv=>whnf
   refine cLk h (fun _ h=>?_) (fun _ h=>?_)
   ·refine hK1 ?_
    refine cK dCo rfl fun K hK=>?_;conv=>whnf
    refine nlA rfl ?_;conv=>whnf
    refine bKo rfl ?_;conv=>whnf
    refine gKo rfl ?_;conv=>whnf
    refine eK (enc:=jW) (d:=default) dCo h rfl rfl rfl ⟨nle rfl,nle rfl,rfl⟩ rfl ⟨⟨rfl,nle rfl⟩,trivial⟩ (fun h=>?_);conv=>whnf
    refine mG (enc:=jW) (d:=default) dCo h (.inl rfl) rfl rfl rfl ⟨rfl,nle rfl,nle rfl,nle rfl,rfl⟩ (fun _=>rfl) (.inr (.inr ⟨_,_,rfl,rfl,rfl⟩)) (fun h=>?_);conv=>whnf
    refine bKo rfl ?_;conv=>whnf
    refine And.intro rfl (And.intro (nle rfl) (And.intro rfl ?_));conv=>whnf
    refine hK _ _ _ ?_
    refine iBn ?_
    refine tHn ?_
    refine cK dCo rfl fun K hK=>?_;conv=>whnf
    refine hK _ _ _ ?_
    refine tHn ?_
    replace h:=bF h
    refine ⟨_,h,?_⟩
    refine bE ?_;conv=>whnf
    exact And.intro rfl (And.intro (aLc wkI (aLc wkI (aLc (WkR.ptr (fun _=>rfl)) (aLc (WkR.ptr (fun _=>rfl)) (aLc (WkR.ptr (fun _=>rfl)) (aLc wkI (aLc wkI (aLc wkI (aLc wkI aLn))))))))) (aLc ⟨some _,rfl,bRc rfl (cKc wkI (cKc (WkR.tok (fun _=>rfl) rfl (fun _ _=>Wk.refl _) (fun _=>(aD _))) cKn))⟩ (aLc ⟨some _,rfl,bRc rfl cKn⟩ (aLc ⟨some _,rfl,bRc rfl (cKc wkI (cKc (wkr bW) cKn))⟩ (aLc ⟨some _,rfl,aV rfl rfl⟩ aLn)))))
   refine hK2 ?_
   refine aH ?_
   refine iBn ?_
   refine tHn ?_
   refine cK dCo rfl fun K hK=>?_;conv=>whnf
   refine hK _ _ _ ?_
   refine tHn ?_
   replace h:=bF h
   refine ⟨_,h,?_⟩
   refine bE ?_;conv=>whnf
   exact And.intro rfl (And.intro (aLc wkI (aLc wkI (aLc (WkR.ptr (fun _=>rfl)) (aLc (WkR.ptr (fun _=>rfl)) (aLc (WkR.ptr (fun _=>rfl)) (aLc wkI (aLc wkI (aLc wkI (aLc wkI aLn))))))))) (aLc ⟨some _,rfl,bRc rfl (cKc wkI (cKc (WkR.tok (fun _=>rfl) rfl (fun _ _=>Wk.refl _) (fun _=>(aD _))) cKn))⟩ (aLc ⟨some _,rfl,bRc rfl cKn⟩ (aLc ⟨some _,rfl,bRc rfl (cKc wkI (cKc (wkr bW) cKn))⟩ (aLc ⟨some _,rfl,aV rfl rfl⟩ aLn)))))
  refine hK2 ?_
  refine bD ?_
  refine aT ?_
  refine aT ?_
  refine aS ?_
  replace h:=dI h
  replace h:=dK h
  refine iBn ?_
  refine tHn ?_
  refine cK dCo rfl fun K hK=>?_;conv=>whnf
  refine hK _ _ _ ?_
  refine tHn ?_
  replace h:=bF h
  refine ⟨_,h,?_⟩
  refine bE ?_;conv=>whnf
  exact And.intro rfl (And.intro (aLc wkI (aLc wkI (aLc (WkR.ptr (fun _=>rfl)) (aLc (WkR.ptr (fun _=>rfl)) (aLc (WkR.ptr (fun _=>rfl)) (aLc wkI aLn)))))) (aLc ⟨some _,rfl,bRc rfl (cKc wkI (cKc (WkR.tok (fun _=>rfl) rfl (fun _ _=>Wk.refl _) (fun _=>(aD _))) cKn))⟩ (aLc ⟨some _,rfl,bRc rfl cKn⟩ (aLc ⟨some _,rfl,bRc rfl (cKc wkI (cKc (wkr bW) cKn))⟩ (aLc ⟨some _,rfl,aV rfl rfl⟩ aLn)))))
 refine hK2 ?_
 refine bD ?_
 refine aT ?_
 refine aT ?_
 refine aS ?_
 replace h:=dI h
 replace h:=dK h
 refine tHn ?_
 refine aA dCo rfl fun K hK=>?_;conv=>whnf
 refine nlA rfl ?_;conv=>whnf
 refine bKo rfl ?_;conv=>whnf
 refine nlA rfl ?_;conv=>whnf
 refine bKo rfl ?_;conv=>whnf
 refine And.intro rfl (And.intro (nle rfl) (And.intro rfl ?_));conv=>whnf
 refine hK _ _ _ ?_
 refine aP ?_
 replace h:=aO h
 refine aM dCo fun K hK=>?_;conv=>whnf
 refine nlA rfl ?_;conv=>whnf
 refine bKo rfl ?_;conv=>whnf
 refine nlA rfl ?_;conv=>whnf
 refine hK _ ?_
 cases h
 exact (fJ (aC (Wk.refl _) (aC cD bA)))
theorem mX {T:Tbl} (hT:T 58=aK fW) {args:List AV} {hp:aU} {id:Nat} {k:AV→Prop} {a0:Int} {a1:Ar 8} {Φ:aG→Prop} (h:W (iE a0 a1) Φ) (hw:WkL args [eI a0,eAr a1]) (hk:∀ y,Φ y→k (bJ y)):dC T 58 args hp id k:=by
 obtain ⟨y,e,hy⟩:=fG h
 exact aX hT ⟨a0,a1,rfl,kY e rfl⟩ (by exact (cB _)) hw (hk y hy)
def dR (a0:aG):Option Bool:=jn (fun p1:Bool=>cn p1 (some false) (bd (bZ a0.Pairs a0) fun y3=>some (!y3))) fun k2=>
  cn (decide (a0.N<0)) (k2 true) (cn (decide (a0.N>8)) (k2 true) (k2 (decide ((a0.Pairs.length:Int)>28))))
def eV:List AV→AV→Prop:=fun args r=>∃ a0,args=[bJ a0]∧W (dR a0) fun y=>r=(eB y)
theorem wD {T:Tbl} (hT:TOk Tryd.prog T) (hpf:cY T PF) (h68:T 68=aK cR):FOk Tryd.prog 33 (aK eV):=by
 refine bG hT hpf Tryd.func33 rfl Tryd.ntmps33 Tryd.results33 (by decide) ?_
 rintro args r ⟨a0,rfl,h⟩
 refine ⟨nle rfl,?_,?_⟩
 ·exact (lsC (cB _) lsN)
 rw [dR.eq_1] at h
 refine aA dCo rfl fun K hK=>?_;conv=>whnf
 refine hK _ _ _ ?_
 refine aE ?_
 refine aA dCo rfl fun K hK=>?_;conv=>whnf
 replace h:=nL h
 refine nlA rfl ?_;conv=>whnf
 refine bKo rfl ?_;conv=>whnf
 refine gKo rfl ?_;conv=>whnf
 refine cLk h (fun _ h=>?_) (fun _ h=>?_)<;>(conv=>whnf)
 ·refine hK _ _ _ ?_
  refine aW fun K1 K2 hK1 hK2=>?_;conv=>whnf
  refine hK1 ?_
  replace h:=oB h
  refine aA dCo rfl fun K hK=>?_;conv=>whnf
  refine hK _ _ _ ?_
  refine aP ?_
  refine aJ ?_
  replace h:=aO h
  refine aM dCo fun K hK=>?_;conv=>whnf
  refine hK _ ?_
  cases h
  exact Wk.refl _
 refine nlA rfl ?_;conv=>whnf
 refine bKo rfl ?_;conv=>whnf
 refine gKo rfl ?_;conv=>whnf
 refine cLk h (fun _ h=>?_) (fun _ h=>?_)<;>(conv=>whnf)
 ·refine hK _ _ _ ?_
  refine aW fun K1 K2 hK1 hK2=>?_;conv=>whnf
  refine hK1 ?_
  replace h:=oB h
  refine aA dCo rfl fun K hK=>?_;conv=>whnf
  refine hK _ _ _ ?_
  refine aP ?_
  refine aJ ?_
  replace h:=aO h
  refine aM dCo fun K hK=>?_;conv=>whnf
  refine hK _ ?_
  cases h
  exact Wk.refl _
 refine nlA rfl ?_;conv=>whnf
 refine bKo rfl ?_;conv=>whnf
 refine gKo rfl ?_;conv=>whnf
 refine hK _ _ _ ?_
 refine aW fun K1 K2 hK1 hK2=>?_;conv=>whnf
 refine cLk h (fun _ h=>?_) (fun _ h=>?_)
 ·refine hK1 ?_
  refine aA dCo rfl fun K hK=>?_;conv=>whnf
  refine hK _ _ _ ?_
  refine aP ?_
  refine aJ ?_
  replace h:=aO h
  refine aM dCo fun K hK=>?_;conv=>whnf
  refine hK _ ?_
  cases h
  exact Wk.refl _
 refine hK2 ?_
 refine aH ?_
 refine tHn ?_
 refine lU 1 ?_;(conv=>whnf);refine ⟨_,rfl,?_⟩
 refine aA dCo rfl fun K hK=>?_;conv=>whnf
 refine gKo rfl ?_;conv=>whnf
 replace h:=bM h
 refine jL h68 h (WkL.refl _) (fun _ h=>?_);conv=>whnf
 refine hK _ _ _ ?_
 refine aP ?_
 replace h:=aO h
 refine aM dCo fun K hK=>?_;conv=>whnf
 refine hK _ ?_
 cases h
 exact Wk.refl _
theorem gT {T:Tbl} (hT:T 33=aK eV) {args:List AV} {hp:aU} {id:Nat} {k:AV→Prop} {a0:aG} {Φ:Bool→Prop} (h:W (dR a0) Φ) (hw:WkL args [bJ a0]) (hk:∀ y,Φ y→k (eB y)):dC T 33 args hp id k:=by
 obtain ⟨y,e,hy⟩:=fG h
 exact aX hT ⟨a0,rfl,kY e rfl⟩ (by exact (lsB _)) hw (hk y hy)
def bP (a0:aG):Option ((Ar 8)×Bool):=bd (dR a0) fun y1=>cn (!y1) (some ((Ar.zero 8),false)) (bd (fY a0) fun y2=>some (y2.1,y2.2))
def cF:List AV→AV→Prop:=fun args r=>∃ a0,args=[bJ a0]∧W (bP a0) fun y=>r=(.tup [eAr y.1,eB y.2])
theorem aAx {T:Tbl} (hT:TOk Tryd.prog T) (hpf:cY T PF) (h33:T 33=aK eV) (h79:T 79=aK hO):FOk Tryd.prog 54 (aK cF):=by
 refine bG hT hpf Tryd.func54 rfl Tryd.ntmps54 Tryd.results54 (by decide) ?_
 rintro args r ⟨a0,rfl,h⟩
 refine ⟨nle rfl,?_,?_⟩
 ·exact (lsC (cB _) lsN)
 rw [bP.eq_1] at h
 refine aA dCo rfl fun K hK=>?_;conv=>whnf
 refine hK _ _ _ ?_
 refine aE ?_
 refine aA dCo rfl fun K hK=>?_;conv=>whnf
 refine nlA rfl ?_;conv=>whnf
 refine bKo rfl ?_;conv=>whnf
 refine nlA rfl ?_;conv=>whnf
 replace h:=bM h
 refine gT h33 h (WkL.refl _) (fun _ h=>?_);conv=>whnf
 refine hK _ _ _ ?_
 refine aW fun K1 K2 hK1 hK2=>?_;conv=>whnf
 refine cLk h (fun _ h=>?_) (fun _ h=>?_)
 ·refine hK1 ?_
  refine aA dCo rfl fun K hK=>?_;conv=>whnf
  refine bKo rfl ?_;conv=>whnf
  refine pS (x:=(Ar.zero 8)) rfl rfl rfl ?_;conv=>whnf
  refine hK _ _ _ ?_
  refine aP ?_
  refine aJ ?_
  replace h:=aO h
  refine aM dCo fun K hK=>?_;conv=>whnf
  refine nlA rfl ?_;conv=>whnf
  refine bKo rfl ?_;conv=>whnf
  refine rU (x:=(Ar.zero 8)) rfl ?_;conv=>whnf
  refine hK _ ?_
  cases h
  exact Wk.refl _
 refine hK2 ?_
 refine aH ?_
 refine tHn ?_
 refine aA dCo rfl fun K hK=>?_;conv=>whnf
 refine nlA rfl ?_;conv=>whnf
 refine bKo rfl ?_;conv=>whnf
 refine nlA rfl ?_;conv=>whnf
 replace h:=bM h
 refine tC h79 h (WkL.refl _) (fun _ h=>?_);conv=>whnf
 refine aQ ?_;conv=>whnf
 refine aQ ?_;conv=>whnf
 refine bKo rfl ?_;conv=>whnf
 refine pS rfl rfl rfl ?_;conv=>whnf
 refine hK _ _ _ ?_
 refine aP ?_
 replace h:=aO h
 refine aM dCo fun K hK=>?_;conv=>whnf
 refine nlA rfl ?_;conv=>whnf
 refine bKo rfl ?_;conv=>whnf
 refine rU rfl ?_;conv=>whnf
 refine hK _ ?_
 cases h
 exact Wk.refl _
theorem cC {T:Tbl} (hT:T 54=aK cF) {args:List AV} {hp:aU} {id:Nat} {k:AV→Prop} {a0:aG} {Φ:(Ar 8)×Bool→Prop} (h:W (bP a0) Φ) (hw:WkL args [bJ a0]) (hk:∀ y,Φ y→k (.tup [eAr y.1,eB y.2])):dC T 54 args hp id k:=by
 obtain ⟨y,e,hy⟩:=fG h
 exact aX hT ⟨a0,rfl,kY e rfl⟩ (by exact fO (lsC (pF _) (lsC (lsB _) lsN))) hw (hk y hy)
  def lL (a0:aG) (a1:List Int) (y1:(Ar 8)×Bool) (s4:Int×Int):Option (Ct (Int×Int) Bool):=cn (decide (s4.2<(a1.length:Int))) (ix a1 default s4.2 fun e5=>
  jn (fun p6:Bool=>cn p6 (some (.rt false)) (gd (0≤e5) (let v8:=(bor .i64 s4.1 (aDz .i64 1 e5));some (.nx (v8,(wr (s4.2+1))))))) fun k7=>
  cn (decide (e5<0)) (k7 true) (cn (decide (e5≥a0.N)) (k7 true) (gd (0≤e5) (cn ((tL .i64 (rR .i64 s4.1 e5) 1) ==
  1) (k7 true) (gd (0≤e5∧e5<(8:Int)) (k7 ((pV .i64 (y1.1.at1 e5) s4.1) != 0))))))) (some (.bk (s4.1,s4.2)))
def hZ (a0:aG) (a1:List Int):Option Bool:=bd (bP a0) fun y1=>jn (fun p2:Bool=>
  cn p2 (some false) (bd (lp (lL a0 a1 y1) FU (0,0)) fun c9=>smK c9 (fun s10=>some true) (fun r11=>some r11))) fun k3=>
  cn (!y1.2) (k3 true) (k3 ((a1.length:Int) != a0.N))
def iC:List AV→AV→Prop:=fun args r=>∃ a0 a1,args=[bJ a0,(eL 1 eI default) a1]∧W (hZ a0 a1) fun y=>r=(eB y)
theorem vB {T:Tbl} (hT:TOk Tryd.prog T) (hpf:cY T PF) (h54:T 54=aK cF):FOk Tryd.prog 22 (aK iC):=by
 refine bG hT hpf Tryd.func22 rfl Tryd.ntmps22 Tryd.results22 (by decide) ?_
 rintro args r ⟨a0,a1,rfl,h⟩
 refine ⟨nle rfl,?_,?_⟩
 ·exact (lsC (cB _) (lsC (lsL fun _=>(lsI _ _)) lsN))
 rw [hZ.eq_1] at h
 refine aA dCo rfl fun K hK=>?_;conv=>whnf
 refine hK _ _ _ ?_
 refine aA dCo rfl fun K hK=>?_;conv=>whnf
 refine nlA rfl ?_;conv=>whnf
 refine bKo rfl ?_;conv=>whnf
 refine nlA rfl ?_;conv=>whnf
 replace h:=bM h
 refine cC h54 h (WkL.refl _) (fun _ h=>?_);conv=>whnf
 refine aQ ?_;conv=>whnf
 refine aQ ?_;conv=>whnf
 refine aQ ?_;conv=>whnf
 refine bKo rfl ?_;conv=>whnf
 refine pS rfl rfl rfl ?_;conv=>whnf
 refine hK _ _ _ ?_
 refine aE ?_
 refine aA dCo rfl fun K hK=>?_;conv=>whnf
 replace h:=nL h
 refine cLk h (fun _ h=>?_) (fun _ h=>?_)<;>(conv=>whnf)
 ·refine hK _ _ _ ?_
  refine aW fun K1 K2 hK1 hK2=>?_;conv=>whnf
  refine hK1 ?_
  replace h:=oB h
  refine aA dCo rfl fun K hK=>?_;conv=>whnf
  refine hK _ _ _ ?_
  refine aP ?_
  refine aJ ?_
  replace h:=aO h
  refine aM dCo fun K hK=>?_;conv=>whnf
  refine hK _ ?_
  cases h
  exact Wk.refl _
 refine nlA rfl ?_;conv=>whnf
 refine bKo rfl ?_;conv=>whnf
 refine gKo rfl ?_;conv=>whnf
 refine hK _ _ _ ?_
 refine aW fun K1 K2 hK1 hK2=>?_;conv=>whnf
 refine cLk h (fun _ h=>?_) (fun _ h=>?_)
 ·refine hK1 ?_
  refine aA dCo rfl fun K hK=>?_;conv=>whnf
  refine hK _ _ _ ?_
  refine aP ?_
  refine aJ ?_
  replace h:=aO h
  refine aM dCo fun K hK=>?_;conv=>whnf
  refine hK _ ?_
  cases h
  exact Wk.refl _
 refine hK2 ?_
 refine aH ?_
 refine tHn ?_
 refine aA dCo rfl fun K hK=>?_;conv=>whnf
 refine hK _ _ _ ?_
 refine aE ?_
 refine aA dCo rfl fun K hK=>?_;conv=>whnf
 refine hK _ _ _ ?_
 refine aF ?_
 replace h:=bM h
 refine gC (body:=lL _ _ _) rfl h [2,5,24,25] [2] [5] [] (fun kl kh kr ids b s=>⟨ofL ([(7,eI s.1),(26,eI s.2)]++kl),ofH (([]++kh)++([]++kr)),b+64⟩) ?_;(conv=>whnf);refine And.intro ?_ (fun s m h=>dG ?_)
 ·refine bE ?_;conv=>whnf
  exact And.intro rfl (And.intro (aLc wkI (aLc wkI (aLc (WkR.ptr (fun _=>rfl)) (aLc (WkR.ptr (fun _=>rfl)) (aLc (wkr (lsL fun _=>(lsI _ _))) (aLc wkI aLn)))))) (aLc ⟨some _,rfl,bRc rfl (cKc wkI (cKc (wkr (lsL fun _=>(aD _))) cKn))⟩ (aLc ⟨some _,rfl,aV rfl rfl⟩ aLn)))
 replace h:=bM h;rw [lL.eq_1] at h
 refine aA dCo rfl fun K hK=>?_;conv=>whnf
 refine hK _ _ _ ?_
 refine aE ?_
 refine aW fun K1 K2 hK1 hK2=>?_;conv=>whnf
 refine cLk h (fun _ h=>?_) (fun _ h=>?_)
 ·refine hK1 ?_
  refine aH ?_
  refine tHn ?_
  refine aE ?_
  refine aF ?_
  refine aA dCo rfl fun K hK=>?_;conv=>whnf
  refine gE h fun _ h=>?_;conv=>whnf
  refine gKo rfl ?_;conv=>whnf
  refine hK _ _ _ ?_
  refine aE ?_
  refine aA dCo rfl fun K hK=>?_;conv=>whnf
  replace h:=nL h
  refine cLk h (fun _ h=>?_) (fun _ h=>?_)<;>(conv=>whnf)
  ·refine hK _ _ _ ?_
   refine aW fun K1 K2 hK1 hK2=>?_;conv=>whnf
   refine hK1 ?_
   replace h:=oB h
   refine aA dCo rfl fun K hK=>?_;conv=>whnf
   refine hK _ _ _ ?_
   refine aP ?_
   refine aJ ?_
   refine aL ?_
   refine aJ ?_
   refine aJ ?_
   refine aL ?_
   refine aJ ?_
   replace h:=gA h
   replace h:=gB h
   replace h:=aO h
   refine aM dCo fun K hK=>?_;conv=>whnf
   refine hK _ ?_
   cases h
   exact Wk.refl _
  refine nlA rfl ?_;conv=>whnf
  refine bKo rfl ?_;conv=>whnf
  refine gKo rfl ?_;conv=>whnf
  refine cLk h (fun _ h=>?_) (fun _ h=>?_)<;>(conv=>whnf)
  ·refine hK _ _ _ ?_
   refine aW fun K1 K2 hK1 hK2=>?_;conv=>whnf
   refine hK1 ?_
   replace h:=oB h
   refine aA dCo rfl fun K hK=>?_;conv=>whnf
   refine hK _ _ _ ?_
   refine aP ?_
   refine aJ ?_
   refine aL ?_
   refine aJ ?_
   refine aJ ?_
   refine aL ?_
   refine aJ ?_
   replace h:=gA h
   replace h:=gB h
   replace h:=aO h
   refine aM dCo fun K hK=>?_;conv=>whnf
   refine hK _ ?_
   cases h
   exact Wk.refl _
  refine cH h fun _ h=>?_;conv=>whnf
  refine cLk h (fun _ h=>?_) (fun _ h=>?_)<;>(conv=>whnf)
  ·refine hK _ _ _ ?_
   refine aW fun K1 K2 hK1 hK2=>?_;conv=>whnf
   refine hK1 ?_
   replace h:=oB h
   refine aA dCo rfl fun K hK=>?_;conv=>whnf
   refine hK _ _ _ ?_
   refine aP ?_
   refine aJ ?_
   refine aL ?_
   refine aJ ?_
   refine aJ ?_
   refine aL ?_
   refine aJ ?_
   replace h:=gA h
   replace h:=gB h
   replace h:=aO h
   refine aM dCo fun K hK=>?_;conv=>whnf
   refine hK _ ?_
   cases h
   exact Wk.refl _
  refine cH h fun hx30 h=>?_;conv=>whnf
  refine nlA rfl ?_;conv=>whnf
  refine bKo rfl ?_;conv=>whnf
  refine dS rfl hx30 ?_;conv=>whnf
  refine hK _ _ _ ?_
  refine aW fun K1 K2 hK1 hK2=>?_;conv=>whnf
  refine cLk h (fun _ h=>?_) (fun _ h=>?_)
  ·refine hK1 ?_
   refine aA dCo rfl fun K hK=>?_;conv=>whnf
   refine hK _ _ _ ?_
   refine aP ?_
   refine aJ ?_
   refine aL ?_
   refine aJ ?_
   refine aJ ?_
   refine aL ?_
   refine aJ ?_
   replace h:=gA h
   replace h:=gB h
   replace h:=aO h
   refine aM dCo fun K hK=>?_;conv=>whnf
   refine hK _ ?_
   cases h
   exact Wk.refl _
  refine hK2 ?_
  refine aH ?_
  refine tHn ?_
  refine cK dCo rfl fun K hK=>?_;conv=>whnf
  refine cH h fun _ h=>?_;conv=>whnf
  refine hK _ _ _ ?_
  refine iBn ?_
  refine tHn ?_
  refine cK dCo rfl fun K hK=>?_;conv=>whnf
  refine hK _ _ _ ?_
  refine tHn ?_
  replace h:=bF h
  refine ⟨_,h,?_⟩
  refine bE ?_;conv=>whnf
  exact And.intro rfl (And.intro (aLc wkI (aLc wkI (aLc (WkR.ptr (fun _=>rfl)) (aLc (WkR.ptr (fun _=>rfl)) (aLc (wkr (lsL fun _=>(lsI _ _))) (aLc wkI aLn)))))) (aLc ⟨some _,rfl,bRc rfl (cKc wkI (cKc (wkr (lsL fun _=>(aD _))) cKn))⟩ (aLc ⟨some _,rfl,aV rfl rfl⟩ aLn)))
 refine hK2 ?_
 refine bD ?_
 refine aT ?_
 refine aT ?_
 refine aS ?_
 replace h:=dI h
 replace h:=dK h
 refine tHn ?_
 refine aA dCo rfl fun K hK=>?_;conv=>whnf
 refine hK _ _ _ ?_
 refine aP ?_
 replace h:=aO h
 refine aM dCo fun K hK=>?_;conv=>whnf
 refine hK _ ?_
 cases h
 exact Wk.refl _
theorem nH {T:Tbl} (hT:T 22=aK iC) {args:List AV} {hp:aU} {id:Nat} {k:AV→Prop} {a0:aG} {a1:List Int} {Φ:Bool→Prop} (h:W (hZ a0 a1) Φ) (hw:WkL args [bJ a0,(eL 1 eI default) a1]) (hk:∀ y,Φ y→k (eB y)):dC T 22 args hp id k:=by
 obtain ⟨y,e,hy⟩:=fG h
 exact aX hT ⟨a0,a1,rfl,kY e rfl⟩ (by exact (lsB _)) hw (hk y hy)
def lB (a0:aG):Option (aG×Int):=bd (bP a0) fun y1=>cn (!y1.2) (some ((⟨0,[]⟩:aG),70)) (bd (iE a0.N y1.1) fun y2=>
  some (y2,0))
def iW:List AV→AV→Prop:=fun args r=>∃ a0,args=[bJ a0]∧W (lB a0) fun y=>r=(.tup [bJ y.1,eI y.2])
theorem wM {T:Tbl} (hT:TOk Tryd.prog T) (hpf:cY T PF) (h54:T 54=aK cF) (h58:T 58=aK fW):FOk Tryd.prog 24 (aK iW):=by
 refine bG hT hpf Tryd.func24 rfl Tryd.ntmps24 Tryd.results24 (by decide) ?_
 rintro args r ⟨a0,rfl,h⟩
 refine ⟨nle rfl,?_,?_⟩
 ·exact (lsC (cB _) lsN)
 rw [lB.eq_1] at h
 refine aA dCo rfl fun K hK=>?_;conv=>whnf
 refine hK _ _ _ ?_
 refine aA dCo rfl fun K hK=>?_;conv=>whnf
 refine nlA rfl ?_;conv=>whnf
 refine bKo rfl ?_;conv=>whnf
 refine nlA rfl ?_;conv=>whnf
 replace h:=bM h
 refine cC h54 h (WkL.refl _) (fun _ h=>?_);conv=>whnf
 refine aQ ?_;conv=>whnf
 refine aQ ?_;conv=>whnf
 refine aQ ?_;conv=>whnf
 refine bKo rfl ?_;conv=>whnf
 refine pS rfl rfl rfl ?_;conv=>whnf
 refine hK _ _ _ ?_
 refine aE ?_
 refine aA dCo rfl fun K hK=>?_;conv=>whnf
 refine hK _ _ _ ?_
 refine aW fun K1 K2 hK1 hK2=>?_;conv=>whnf
 refine cLk h (fun _ h=>?_) (fun _ h=>?_)
 ·refine hK1 ?_
  refine aA dCo rfl fun K hK=>?_;conv=>whnf
  refine bKo rfl ?_;conv=>whnf
  refine And.intro rfl (And.intro (nle rfl) (And.intro rfl ?_));conv=>whnf
  refine hK _ _ _ ?_
  refine aP ?_
  refine aJ ?_
  replace h:=aO h
  refine aM dCo fun K hK=>?_;conv=>whnf
  refine nlA rfl ?_;conv=>whnf
  refine bKo rfl ?_;conv=>whnf
  refine nlA rfl ?_;conv=>whnf
  refine hK _ ?_
  cases h
  exact pR (aC (fJ (aC (Wk.refl _) (aC kX bA))) (aC (Wk.refl _) bA))
 refine hK2 ?_
 refine aH ?_
 refine tHn ?_
 refine aA dCo rfl fun K hK=>?_;conv=>whnf
 refine nlA rfl ?_;conv=>whnf
 refine bKo rfl ?_;conv=>whnf
 refine gKo rfl ?_;conv=>whnf
 refine nlA rfl ?_;conv=>whnf
 refine bKo rfl ?_;conv=>whnf
 refine rU rfl ?_;conv=>whnf
 refine aQ ?_;conv=>whnf
 replace h:=bM h
 refine mX h58 h (WkL.refl _) (fun _ h=>?_);conv=>whnf
 refine bKo rfl ?_;conv=>whnf
 refine And.intro rfl (And.intro (nle rfl) (And.intro rfl ?_));conv=>whnf
 refine hK _ _ _ ?_
 refine aP ?_
 replace h:=aO h
 refine aM dCo fun K hK=>?_;conv=>whnf
 refine nlA rfl ?_;conv=>whnf
 refine bKo rfl ?_;conv=>whnf
 refine nlA rfl ?_;conv=>whnf
 refine hK _ ?_
 cases h
 exact Wk.refl _
theorem tX {T:Tbl} (hT:T 24=aK iW) {args:List AV} {hp:aU} {id:Nat} {k:AV→Prop} {a0:aG} {Φ:aG×Int→Prop} (h:W (lB a0) Φ) (hw:WkL args [bJ a0]) (hk:∀ y,Φ y→k (.tup [bJ y.1,eI y.2])):dC T 24 args hp id k:=by
 obtain ⟨y,e,hy⟩:=fG h
 exact aX hT ⟨a0,rfl,kY e rfl⟩ (by exact fO (lsC (cB _) (lsC (lsI _ _) lsN))) hw (hk y hy)
  def mA (a0:aG) (s2:Int×(Ar 8)) (y1:(Ar 8)×Bool) (s3:Int×(Ar 8)):Option (Ct (Int×(Ar 8)) (aG×Int)):=cn (decide (s3.1<a0.N)) (gd (0≤s2.1∧s2.1<(8:Int)) (gd (0≤s3.1) (jn (fun p4:(Ar 8)=>
  some (.nx ((wr (s3.1+1)),p4))) fun k5=>cn ((tL .i64 (rR .i64 (y1.1.at1 s2.1) s3.1) 1) ==
  1) (gd (0≤s2.1∧s2.1<(8:Int)) (gd (0≤s3.1∧s3.1<(8:Int)) (gd (0≤s2.1∧s2.1<(8:Int)) (let m6:=s3.2.st1 s2.1 (pV .i64 (s3.2.at1 s2.1) (y1.1.at1 s3.1));
  k5 m6)))) (k5 s3.2)))) (some (.bk (s3.1,s3.2)))
  def mB (a0:aG) (y1:(Ar 8)×Bool) (s2:Int×(Ar 8)):Option (Ct (Int×(Ar 8)) (aG×Int)):=cn (decide (s2.1<a0.N)) (bd (lp (mA a0 s2 y1) FU (0,s2.2)) fun c7=>
  smK c7 (fun s8=>some (.nx ((wr (s2.1+1)),s8.2))) (fun r9=>some (.rt r9))) (some (.bk (s2.1,s2.2)))
def jV (a0:aG):Option (aG×Int):=bd (bP a0) fun y1=>
  cn (!y1.2) (some ((⟨0,[]⟩:aG),70)) (bd (lp (mB a0 y1) FU (0,y1.1)) fun c10=>smK c10 (fun s11=>bd (iE a0.N s11.2) fun y13=>
  some (y13,0)) (fun r12=>some r12))
def iB:List AV→AV→Prop:=fun args r=>∃ a0,args=[bJ a0]∧W (jV a0) fun y=>r=(.tup [bJ y.1,eI y.2])
theorem uP {T:Tbl} (hT:TOk Tryd.prog T) (hpf:cY T PF) (h54:T 54=aK cF) (h58:T 58=aK fW):FOk Tryd.prog 25 (aK iB):=by
 refine bG hT hpf Tryd.func25 rfl Tryd.ntmps25 Tryd.results25 (by decide) ?_
 rintro args r ⟨a0,rfl,h⟩
 refine ⟨nle rfl,?_,?_⟩
 ·exact (lsC (cB _) lsN)
 rw [jV.eq_1] at h
 refine aA dCo rfl fun K hK=>?_;conv=>whnf
 refine hK _ _ _ ?_
 refine aA dCo rfl fun K hK=>?_;conv=>whnf
 refine nlA rfl ?_;conv=>whnf
 refine bKo rfl ?_;conv=>whnf
 refine nlA rfl ?_;conv=>whnf
 replace h:=bM h
 refine cC h54 h (WkL.refl _) (fun _ h=>?_);conv=>whnf
 refine aQ ?_;conv=>whnf
 refine aQ ?_;conv=>whnf
 refine aQ ?_;conv=>whnf
 refine bKo rfl ?_;conv=>whnf
 refine pS rfl rfl rfl ?_;conv=>whnf
 refine hK _ _ _ ?_
 refine aE ?_
 refine aA dCo rfl fun K hK=>?_;conv=>whnf
 refine hK _ _ _ ?_
 refine aW fun K1 K2 hK1 hK2=>?_;conv=>whnf
 refine cLk h (fun _ h=>?_) (fun _ h=>?_)
 ·refine hK1 ?_
  refine aA dCo rfl fun K hK=>?_;conv=>whnf
  refine bKo rfl ?_;conv=>whnf
  refine And.intro rfl (And.intro (nle rfl) (And.intro rfl ?_));conv=>whnf
  refine hK _ _ _ ?_
  refine aP ?_
  refine aJ ?_
  replace h:=aO h
  refine aM dCo fun K hK=>?_;conv=>whnf
  refine nlA rfl ?_;conv=>whnf
  refine bKo rfl ?_;conv=>whnf
  refine nlA rfl ?_;conv=>whnf
  refine hK _ ?_
  cases h
  exact pR (aC (fJ (aC (Wk.refl _) (aC kX bA))) (aC (Wk.refl _) bA))
 refine hK2 ?_
 refine aH ?_
 refine tHn ?_
 refine aA dCo rfl fun K hK=>?_;conv=>whnf
 refine nlA rfl ?_;conv=>whnf
 refine bKo rfl ?_;conv=>whnf
 refine rU rfl ?_;conv=>whnf
 refine bKo rfl ?_;conv=>whnf
 refine pS rfl rfl rfl ?_;conv=>whnf
 refine hK _ _ _ ?_
 refine aE ?_
 refine aA dCo rfl fun K hK=>?_;conv=>whnf
 refine nlA rfl ?_;conv=>whnf
 refine bKo rfl ?_;conv=>whnf
 refine gKo rfl ?_;conv=>whnf
 refine hK _ _ _ ?_
 refine aF ?_
 replace h:=bM h
 refine gC (body:=mB _ _) rfl h [1,2,4,6,19] [1,2] [4] [6] (fun kl kh kr ids b s=>⟨ofL ([(20,eI s.1)]++kl),ofH (([]++kh)++([(wW ids 0,.cells (cA s.2))]++kr)),b+128⟩) ?_;(conv=>whnf);refine And.intro ?_ (fun s m h=>dG ?_)
 ·refine bE ?_;conv=>whnf
  exact And.intro rfl (And.intro (aLc wkI (aLc (WkR.ptr (fun _=>rfl)) (aLc (WkR.ptr (fun _=>rfl)) (aLc (WkR.ptr (fun _=>rfl)) (aLc (WkR.ptr (fun _=>rfl)) (aLc wkI aLn)))))) (aLc ⟨some _,rfl,bRc rfl (cKc wkI (cKc (wkr (lsL fun _=>(aD _))) cKn))⟩ (aLc ⟨some _,rfl,bRc rfl (cKc wkI (cKc (wkr bW) cKn))⟩ (aLc ⟨some _,rfl,aV rfl rfl⟩ (aLc ⟨some _,rfl,aV rfl rfl⟩ aLn)))))
 replace h:=bM h;rw [mB.eq_1] at h
 refine aA dCo rfl fun K hK=>?_;conv=>whnf
 refine hK _ _ _ ?_
 refine aE ?_
 refine aW fun K1 K2 hK1 hK2=>?_;conv=>whnf
 refine cLk h (fun _ h=>?_) (fun _ h=>?_)
 ·refine hK1 ?_
  refine aH ?_
  refine tHn ?_
  refine aE ?_
  refine aF ?_
  refine aA dCo rfl fun K hK=>?_;conv=>whnf
  refine hK _ _ _ ?_
  refine aA dCo rfl fun K hK=>?_;conv=>whnf
  refine nlA rfl ?_;conv=>whnf
  refine bKo rfl ?_;conv=>whnf
  refine gKo rfl ?_;conv=>whnf
  refine hK _ _ _ ?_
  refine aF ?_
  replace h:=bM h
  refine gC (body:=mA _ _ _) rfl h [1,2,4,6,7,19,20,24] [1,2] [4] [6] (fun kl kh kr ids b s=>⟨ofL ([(25,eI s.1)]++kl),ofH (([]++kh)++([(wW ids 0,.cells (cA s.2))]++kr)),b+128⟩) ?_;(conv=>whnf);refine And.intro ?_ (fun s m h=>dG ?_)
  ·refine bE ?_;conv=>whnf
   exact And.intro rfl (And.intro (aLc wkI (aLc (WkR.ptr (fun _=>rfl)) (aLc (WkR.ptr (fun _=>rfl)) (aLc (WkR.ptr (fun _=>rfl)) (aLc (WkR.ptr (fun _=>rfl)) (aLc wkI (aLc wkI (aLc wkI (aLc wkI aLn))))))))) (aLc ⟨some _,rfl,bRc rfl (cKc wkI (cKc (wkr (lsL fun _=>(aD _))) cKn))⟩ (aLc ⟨some _,rfl,bRc rfl (cKc wkI (cKc (wkr bW) cKn))⟩ (aLc ⟨some _,rfl,aV rfl rfl⟩ (aLc ⟨some _,rfl,aV rfl rfl⟩ aLn)))))
  replace h:=bM h;rw [mA.eq_1] at h
  refine aA dCo rfl fun K hK=>?_;conv=>whnf
  refine hK _ _ _ ?_
  refine aE ?_
  refine aW fun K1 K2 hK1 hK2=>?_;conv=>whnf
  refine cLk h (fun _ h=>?_) (fun _ h=>?_)
  ·refine hK1 ?_
   refine aH ?_
   refine tHn ?_
   refine aE ?_
   refine aF ?_
   refine aA dCo rfl fun K hK=>?_;conv=>whnf
   refine hK _ _ _ ?_
   refine aA dCo rfl fun K hK=>?_;conv=>whnf
   refine cH h fun hx465 h=>?_;conv=>whnf
   refine nlA rfl ?_;conv=>whnf
   refine bKo rfl ?_;conv=>whnf
   refine dS rfl hx465 ?_;conv=>whnf
   refine cH h fun _ h=>?_;conv=>whnf
   refine hK _ _ _ ?_
   replace h:=nL h
   refine aW fun K1 K2 hK1 hK2=>?_;conv=>whnf
   refine cLk h (fun _ h=>?_) (fun _ h=>?_)
   ·refine hK1 ?_
    refine aBw dCo gD rfl (by kernel_rfl) fun K hK=>?_;conv=>whnf
    refine cH h fun hx469 h=>?_;conv=>whnf
    refine nlA rfl ?_;conv=>whnf
    refine bKo rfl ?_;conv=>whnf
    refine dS rfl hx469 ?_;conv=>whnf
    refine cH h fun hx470 h=>?_;conv=>whnf
    refine nlA rfl ?_;conv=>whnf
    refine bKo rfl ?_;conv=>whnf
    refine dS rfl hx470 ?_;conv=>whnf
    refine cH h fun hx471 h=>?_;conv=>whnf
    refine bKo rfl ?_;conv=>whnf
    refine tT rfl hx471 rfl rfl ?_;conv=>whnf
    refine hK _ _ _ ?_
    refine iBn ?_
    refine tHn ?_
    refine cK dCo rfl fun K hK=>?_;conv=>whnf
    refine hK _ _ _ ?_
    refine tHn ?_
    replace h:=bF h
    refine ⟨_,h,?_⟩
    refine bE ?_;conv=>whnf
    exact And.intro rfl (And.intro (aLc wkI (aLc (WkR.ptr (fun _=>rfl)) (aLc (WkR.ptr (fun _=>rfl)) (aLc (WkR.ptr (fun _=>rfl)) (aLc (WkR.ptr (fun _=>rfl)) (aLc wkI (aLc wkI (aLc wkI (aLc wkI aLn))))))))) (aLc ⟨some _,rfl,bRc rfl (cKc wkI (cKc (wkr (lsL fun _=>(aD _))) cKn))⟩ (aLc ⟨some _,rfl,bRc rfl (cKc wkI (cKc (wkr bW) cKn))⟩ (aLc ⟨some _,rfl,aV rfl rfl⟩ (aLc ⟨some _,rfl,aV rfl rfl⟩ aLn)))))
   refine hK2 ?_
   refine aH ?_
   refine iBn ?_
   refine tHn ?_
   refine cK dCo rfl fun K hK=>?_;conv=>whnf
   refine hK _ _ _ ?_
   refine tHn ?_
   replace h:=bF h
   refine ⟨_,h,?_⟩
   refine bE ?_;conv=>whnf
   exact And.intro rfl (And.intro (aLc wkI (aLc (WkR.ptr (fun _=>rfl)) (aLc (WkR.ptr (fun _=>rfl)) (aLc (WkR.ptr (fun _=>rfl)) (aLc (WkR.ptr (fun _=>rfl)) (aLc wkI (aLc wkI (aLc wkI (aLc wkI aLn))))))))) (aLc ⟨some _,rfl,bRc rfl (cKc wkI (cKc (wkr (lsL fun _=>(aD _))) cKn))⟩ (aLc ⟨some _,rfl,bRc rfl (cKc wkI (cKc (wkr bW) cKn))⟩ (aLc ⟨some _,rfl,aV rfl rfl⟩ (aLc ⟨some _,rfl,aV rfl rfl⟩ aLn)))))
  refine hK2 ?_
  refine bD ?_
  refine aT ?_
  refine aT ?_
  refine aS ?_
  replace h:=dI h
  replace h:=dK h
  refine iBn ?_
  refine tHn ?_
  refine cK dCo rfl fun K hK=>?_;conv=>whnf
  refine hK _ _ _ ?_
  refine tHn ?_
  replace h:=bF h
  refine ⟨_,h,?_⟩
  refine bE ?_;conv=>whnf
  exact And.intro rfl (And.intro (aLc wkI (aLc (WkR.ptr (fun _=>rfl)) (aLc (WkR.ptr (fun _=>rfl)) (aLc (WkR.ptr (fun _=>rfl)) (aLc (WkR.ptr (fun _=>rfl)) (aLc wkI aLn)))))) (aLc ⟨some _,rfl,bRc rfl (cKc wkI (cKc (wkr (lsL fun _=>(aD _))) cKn))⟩ (aLc ⟨some _,rfl,bRc rfl (cKc wkI (cKc (wkr bW) cKn))⟩ (aLc ⟨some _,rfl,aV rfl rfl⟩ (aLc ⟨some _,rfl,aV rfl rfl⟩ aLn)))))
 refine hK2 ?_
 refine bD ?_
 refine aT ?_
 refine aT ?_
 refine aS ?_
 replace h:=dI h
 replace h:=dK h
 refine tHn ?_
 refine aA dCo rfl fun K hK=>?_;conv=>whnf
 refine nlA rfl ?_;conv=>whnf
 refine bKo rfl ?_;conv=>whnf
 refine gKo rfl ?_;conv=>whnf
 refine nlA rfl ?_;conv=>whnf
 refine bKo rfl ?_;conv=>whnf
 refine rU rfl ?_;conv=>whnf
 refine aQ ?_;conv=>whnf
 replace h:=bM h
 refine mX h58 h (WkL.refl _) (fun _ h=>?_);conv=>whnf
 refine bKo rfl ?_;conv=>whnf
 refine And.intro rfl (And.intro (nle rfl) (And.intro rfl ?_));conv=>whnf
 refine hK _ _ _ ?_
 refine aP ?_
 replace h:=aO h
 refine aM dCo fun K hK=>?_;conv=>whnf
 refine nlA rfl ?_;conv=>whnf
 refine bKo rfl ?_;conv=>whnf
 refine nlA rfl ?_;conv=>whnf
 refine hK _ ?_
 cases h
 exact Wk.refl _
theorem sM {T:Tbl} (hT:T 25=aK iB) {args:List AV} {hp:aU} {id:Nat} {k:AV→Prop} {a0:aG} {Φ:aG×Int→Prop} (h:W (jV a0) Φ) (hw:WkL args [bJ a0]) (hk:∀ y,Φ y→k (.tup [bJ y.1,eI y.2])):dC T 25 args hp id k:=by
 obtain ⟨y,e,hy⟩:=fG h
 exact aX hT ⟨a0,rfl,kY e rfl⟩ (by exact fO (lsC (cB _) (lsC (lsI _ _) lsN))) hw (hk y hy)
def cE (a0:aG) (a1:Int) (a2:Int):Option Bool:=bd (bP a0) fun y1=>jn (fun p2:Bool=>some p2) fun k3=>
  cn y1.2 (cn (decide ((aKY a1 a2)≥0)) (cn (decide ((aEf a1 a2)<a0.N)) (gd (0≤a2∧a2<(8:Int)) (gd (0≤a1) (let v4:=((tL .i64 (rR .i64 (y1.1.at1 a2) a1) 1) ==
  1);k3 v4))) (k3 false)) (k3 false)) (k3 false)
def eR:List AV→AV→Prop:=fun args r=>∃ a0 a1 a2,args=[bJ a0,eI a1,eI a2]∧W (cE a0 a1 a2) fun y=>r=(eB y)
theorem wA {T:Tbl} (hT:TOk Tryd.prog T) (hpf:cY T PF) (h54:T 54=aK cF):FOk Tryd.prog 27 (aK eR):=by
 refine bG hT hpf Tryd.func27 rfl Tryd.ntmps27 Tryd.results27 (by decide) ?_
 rintro args r ⟨a0,a1,a2,rfl,h⟩
 refine ⟨nle rfl,?_,?_⟩
 ·exact (lsC (cB _) (lsC (lsI _ _) (lsC (lsI _ _) lsN)))
 rw [cE.eq_1] at h
 refine aA dCo rfl fun K hK=>?_;conv=>whnf
 refine hK _ _ _ ?_
 refine aA dCo rfl fun K hK=>?_;conv=>whnf
 refine nlA rfl ?_;conv=>whnf
 refine bKo rfl ?_;conv=>whnf
 refine nlA rfl ?_;conv=>whnf
 replace h:=bM h
 refine cC h54 h (WkL.refl _) (fun _ h=>?_);conv=>whnf
 refine aQ ?_;conv=>whnf
 refine aQ ?_;conv=>whnf
 refine aQ ?_;conv=>whnf
 refine bKo rfl ?_;conv=>whnf
 refine pS rfl rfl rfl ?_;conv=>whnf
 refine hK _ _ _ ?_
 refine aA dCo rfl fun K hK=>?_;conv=>whnf
 replace h:=nL h
 refine cLk h (fun _ h=>?_) (fun _ h=>?_)<;>(conv=>whnf)
 ·refine cLk h (fun _ h=>?_) (fun _ h=>?_)<;>(conv=>whnf)
  ·refine nlA rfl ?_;conv=>whnf
   refine bKo rfl ?_;conv=>whnf
   refine gKo rfl ?_;conv=>whnf
   refine cLk h (fun _ h=>?_) (fun _ h=>?_)<;>(conv=>whnf)
   ·refine cH h fun hx476 h=>?_;conv=>whnf
    refine nlA rfl ?_;conv=>whnf
    refine bKo rfl ?_;conv=>whnf
    refine dS rfl hx476 ?_;conv=>whnf
    refine cH h fun _ h=>?_;conv=>whnf
    refine hK _ _ _ ?_
    refine aP ?_
    replace h:=aO h
    refine aM dCo fun K hK=>?_;conv=>whnf
    refine hK _ ?_
    cases h
    exact Wk.refl _
   refine hK _ _ _ ?_
   refine aP ?_
   replace h:=aO h
   refine aM dCo fun K hK=>?_;conv=>whnf
   refine hK _ ?_
   cases h
   exact Wk.refl _
  refine hK _ _ _ ?_
  refine aP ?_
  replace h:=aO h
  refine aM dCo fun K hK=>?_;conv=>whnf
  refine hK _ ?_
  cases h
  exact Wk.refl _
 refine hK _ _ _ ?_
 refine aP ?_
 replace h:=aO h
 refine aM dCo fun K hK=>?_;conv=>whnf
 refine hK _ ?_
 cases h
 exact Wk.refl _
theorem cQ {T:Tbl} (hT:T 27=aK eR) {args:List AV} {hp:aU} {id:Nat} {k:AV→Prop} {a0:aG} {a1:Int} {a2:Int} {Φ:Bool→Prop} (h:W (cE a0 a1 a2) Φ) (hw:WkL args [bJ a0,eI a1,eI a2]) (hk:∀ y,Φ y→k (eB y)):dC T 27 args hp id k:=by
 obtain ⟨y,e,hy⟩:=fG h
 exact aX hT ⟨a0,a1,a2,rfl,kY e rfl⟩ (by exact (lsB _)) hw (hk y hy)
def jA (a0:aG):Option Bool:=bd (bP a0) fun y1=>some y1.2
def jH:List AV→AV→Prop:=fun args r=>∃ a0,args=[bJ a0]∧W (jA a0) fun y=>r=(eB y)
theorem wR {T:Tbl} (hT:TOk Tryd.prog T) (hpf:cY T PF) (h54:T 54=aK cF):FOk Tryd.prog 34 (aK jH):=by
 refine bG hT hpf Tryd.func34 rfl Tryd.ntmps34 Tryd.results34 (by decide) ?_
 rintro args r ⟨a0,rfl,h⟩
 refine ⟨nle rfl,?_,?_⟩
 ·exact (lsC (cB _) lsN)
 rw [jA.eq_1] at h
 refine aA dCo rfl fun K hK=>?_;conv=>whnf
 refine hK _ _ _ ?_
 refine aA dCo rfl fun K hK=>?_;conv=>whnf
 refine nlA rfl ?_;conv=>whnf
 refine bKo rfl ?_;conv=>whnf
 refine nlA rfl ?_;conv=>whnf
 replace h:=bM h
 refine cC h54 h (WkL.refl _) (fun _ h=>?_);conv=>whnf
 refine aQ ?_;conv=>whnf
 refine aQ ?_;conv=>whnf
 refine aQ ?_;conv=>whnf
 refine bKo rfl ?_;conv=>whnf
 refine pS rfl rfl rfl ?_;conv=>whnf
 refine hK _ _ _ ?_
 refine aA dCo rfl fun K hK=>?_;conv=>whnf
 refine hK _ _ _ ?_
 refine aP ?_
 replace h:=aO h
 refine aM dCo fun K hK=>?_;conv=>whnf
 refine hK _ ?_
 cases h
 exact Wk.refl _
theorem oQ {T:Tbl} (hT:T 34=aK jH) {args:List AV} {hp:aU} {id:Nat} {k:AV→Prop} {a0:aG} {Φ:Bool→Prop} (h:W (jA a0) Φ) (hw:WkL args [bJ a0]) (hk:∀ y,Φ y→k (eB y)):dC T 34 args hp id k:=by
 obtain ⟨y,e,hy⟩:=fG h
 exact aX hT ⟨a0,rfl,kY e rfl⟩ (by exact (lsB _)) hw (hk y hy)
def dX:List AV→AV→Prop:=fun args r=>∃ (a0:Int) (a1:Ar 8),args=[eI a0,eAr a1]∧r=.fn 81 [] [.ep [eI a0] 0,.ep (cA a1) 0]
theorem tB {T:Tbl} (hT:TOk Tryd.prog T) (hpf:cY T PF):FOk Tryd.prog 56 (aK dX):=by
 refine bG hT hpf Tryd.func56 rfl Tryd.ntmps56 Tryd.results56 (by decide) ?_
 rintro args r ⟨a0,a1,rfl,rfl⟩
 refine ⟨nle rfl,?_,?_⟩
 ·exact (lsC (lsI _ _) (lsC (pF _) lsN))
 refine aA dCo rfl fun K hK=>?_;conv=>whnf
 refine aQ ?_;conv=>whnf
 refine hK _ _ _ ?_
 refine lU 2 ?_;(conv=>whnf);refine ⟨_,rfl,?_⟩
 refine lU 3 ?_;(conv=>whnf);refine ⟨_,rfl,?_⟩
 refine aA dCo rfl fun K hK=>?_;conv=>whnf
 refine hK _ _ _ ?_
 refine aP ?_
 refine aM dCo fun K hK=>?_;conv=>whnf
 refine hK _ ?_
 exact Wk.refl _
  def iM (a9000:Type) (c900:Int) (c901:Ar 8) (s1:Int×a9000) (s2:Int×Int):Option (Ct (Int×Int) a9000):=cn (decide (s2.2<c900)) (gd (0≤s2.2) (jn (fun p3:Int=>
  some (.nx (p3,(wr (s2.2+1))))) fun k4=>cn ((tL .i64 (rR .i64 s1.1 s2.2) 1)==1) (gd (0≤s2.2∧s2.2<(8:Int)) (let v5:=(bor .i64 s2.1 (c901.at1 s2.2));
  k4 v5)) (k4 s2.1))) (some (.bk (s2.1,s2.2)))
  def iL (a9000:Type) (c900:Int) (c901:Ar 8) (f9001:Int→a9000→Option a9000) (s1:Int×a9000):Option (Ct (Int×a9000) a9000):=cn (decide (s1.1<(aDz .i64 1 c900))) (bd (lp (iM a9000 c900 c901 s1) FU (0,0)) fun c6=>
  smK c6 (fun s7=>jn (fun p9:a9000=>some (.nx ((wr (s1.1+1)),p9))) fun k10=>cn ((pV .i64 s7.1 s1.1)==0) (bd (f9001 s1.1 s1.2) fun g11=>
  k10 g11) (k10 s1.2)) (fun r8=>some (.rt r8))) (some (.bk (s1.1,s1.2)))
  def dT (c900:Int) (c901:Ar 8) (a9000:Type) (f9001:Int→a9000→Option a9000) (g9002:a9000):Option a9000:=gd (0≤c900) (bd (lp (iL a9000 c900 c901 f9001) FU (0,g9002)) fun c12=>
  smK c12 (fun s13=>some s13.2) (fun r14=>some r14))
def eO:List AV→(∀ σ:Type,(Int→σ→Option σ)→σ→Option σ)→Prop:=fun caps F=>∃ (c900:Int) (c901:Ar 8),caps=[.ep [eI c900] 0,.ep (cA c901) 0]∧F=dT c900 c901
theorem rA {T:Tbl} (hT:TOk Tryd.prog T) (hpf:cY T PF):FOk Tryd.prog 81 (itR Tryd.prog (fun x=>[Value.int .i64 x]) eO):=by
 refine aJo hT hpf Tryd.func81 rfl Tryd.ntmps81 Tryd.results81 (by decide) ?_
 rintro caps F ⟨c900,c901,rfl,rfl⟩
 refine ⟨(lsC (lsE (lsC (lsI _ _) lsN)) (lsC (lsE (aN _)) lsN)),nle rfl,fun gS gG a9000 gi f9001 g9002 gfin hP hY h=>?_⟩
 rw [dT.eq_1] at h
 refine aA dCo rfl fun K hK=>?_;conv=>whnf
 refine gKo rfl ?_;conv=>whnf
 refine cH h fun _ h=>?_;conv=>whnf
 refine hK _ _ _ ?_
 refine aF ?_
 replace h:=bM h
 refine gJ (body:=iL _ _ _ _) rfl h [0,1,2,8] [] [] (fun kl kh ids b s=>⟨ofL ([(9,eI s.1)]++kl),ofH ([(0,.gh gS gG (gi s.2))]++kh),b+64⟩) ?_;(conv=>whnf);refine And.intro ?_ (fun s m h=>dG ?_)
 ·refine aY ?_;conv=>whnf
  exact And.intro rfl (And.intro (aLc wkI (aLc (sY (fun _=>rfl)) (aLc (wkr (lsE (lsC (lsI _ _) lsN))) (aLc (wkr (lsE (aN _))) (aLc wkI aLn))))) (aLc ⟨some _,rfl,aDp rfl⟩ aLn))
 replace h:=bM h;rw [iL.eq_1] at h
 refine aA dCo rfl fun K hK=>?_;conv=>whnf
 refine hK _ _ _ ?_
 refine aE ?_
 refine aW fun K1 K2 hK1 hK2=>?_;conv=>whnf
 refine cLk h (fun _ h=>?_) (fun _ h=>?_)
 ·refine hK1 ?_
  refine aH ?_
  refine tHn ?_
  refine aE ?_
  refine aF ?_
  refine aA dCo rfl fun K hK=>?_;conv=>whnf
  refine hK _ _ _ ?_
  refine aA dCo rfl fun K hK=>?_;conv=>whnf
  refine hK _ _ _ ?_
  refine aE ?_
  refine aA dCo rfl fun K hK=>?_;conv=>whnf
  refine gKo rfl ?_;conv=>whnf
  refine hK _ _ _ ?_
  refine aF ?_
  replace h:=bM h
  refine aG3 (body:=iM _ _ _ _) rfl h [0,1,2,4,8,9,12] (fun σ=>aLB σ++oV σ []++rV σ []) [] (fun kl kh ids b s=>⟨ofL ([(5,eI s.1),(13,eI s.2)]++kl),ofH ([]++kh),b+64⟩) ?_;(conv=>whnf);refine And.intro ?_ (fun s m h=>dG ?_)
  ·refine aY ?_;conv=>whnf
   exact And.intro rfl (And.intro (aLc wkI (aLc wkI (aLc (sY (fun _=>rfl)) (aLc (wkr (lsE (lsC (lsI _ _) lsN))) (aLc (wkr (lsE (aN _))) (aLc wkI (aLc wkI (aLc wkI (aLc wkI aLn))))))))) (aLc ⟨some _,rfl,aDp rfl⟩ aLn))
  replace h:=bM h;rw [iM.eq_1] at h
  refine aA dCo rfl fun K hK=>?_;conv=>whnf
  refine hK _ _ _ ?_
  refine aE ?_
  refine aW fun K1 K2 hK1 hK2=>?_;conv=>whnf
  refine cLk h (fun _ h=>?_) (fun _ h=>?_)
  ·refine hK1 ?_
   refine aH ?_
   refine tHn ?_
   refine aE ?_
   refine aF ?_
   refine aA dCo rfl fun K hK=>?_;conv=>whnf
   refine hK _ _ _ ?_
   refine aA dCo rfl fun K hK=>?_;conv=>whnf
   refine cH h fun _ h=>?_;conv=>whnf
   refine hK _ _ _ ?_
   replace h:=nL h
   refine aW fun K1 K2 hK1 hK2=>?_;conv=>whnf
   refine cLk h (fun _ h=>?_) (fun _ h=>?_)
   ·refine hK1 ?_
    refine cK dCo rfl fun K hK=>?_;conv=>whnf
    refine cH h fun hx200 h=>?_;conv=>whnf
    refine dS rfl hx200 ?_;conv=>whnf
    refine hK _ _ _ ?_
    refine iBn ?_
    refine tHn ?_
    refine cK dCo rfl fun K hK=>?_;conv=>whnf
    refine hK _ _ _ ?_
    refine tHn ?_
    replace h:=bF h
    refine ⟨_,h,?_⟩
    refine aY ?_;conv=>whnf
    exact And.intro rfl (And.intro (aLc wkI (aLc wkI (aLc (sY (fun _=>rfl)) (aLc (wkr (lsE (lsC (lsI _ _) lsN))) (aLc (wkr (lsE (aN _))) (aLc wkI (aLc wkI (aLc wkI (aLc wkI aLn))))))))) (aLc ⟨some _,rfl,aDp rfl⟩ aLn))
   refine hK2 ?_
   refine aH ?_
   refine iBn ?_
   refine tHn ?_
   refine cK dCo rfl fun K hK=>?_;conv=>whnf
   refine hK _ _ _ ?_
   refine tHn ?_
   replace h:=bF h
   refine ⟨_,h,?_⟩
   refine aY ?_;conv=>whnf
   exact And.intro rfl (And.intro (aLc wkI (aLc wkI (aLc (sY (fun _=>rfl)) (aLc (wkr (lsE (lsC (lsI _ _) lsN))) (aLc (wkr (lsE (aN _))) (aLc wkI (aLc wkI (aLc wkI (aLc wkI aLn))))))))) (aLc ⟨some _,rfl,aDp rfl⟩ aLn))
  refine hK2 ?_
  refine bD ?_
  refine aT ?_
  refine aT ?_
  refine aS ?_
  replace h:=dI h
  replace h:=dK h
  refine tHn ?_
  refine aA dCo rfl fun K hK=>?_;conv=>whnf
  replace h:=nL h
  refine cLk h (fun _ h=>?_) (fun _ h=>?_)<;>(conv=>whnf)
  ·refine aJh hY hP h rfl (aFG _) (fun _ h=>?_);conv=>whnf
   refine hK _ _ _ ?_
   refine aW fun K1 K2 hK1 hK2=>?_;conv=>whnf
   refine hK2 ?_
   refine aH ?_
   refine iBn ?_
   refine tHn ?_
   refine cK dCo rfl fun K hK=>?_;conv=>whnf
   refine hK _ _ _ ?_
   refine tHn ?_
   replace h:=bF h
   refine ⟨_,h,?_⟩
   refine aY ?_;conv=>whnf
   exact And.intro rfl (And.intro (aLc wkI (aLc (sY (fun _=>rfl)) (aLc (wkr (lsE (lsC (lsI _ _) lsN))) (aLc (wkr (lsE (aN _))) (aLc wkI aLn))))) (aLc ⟨some _,rfl,aDp rfl⟩ aLn))
  refine hK _ _ _ ?_
  refine aW fun K1 K2 hK1 hK2=>?_;conv=>whnf
  refine hK2 ?_
  refine aH ?_
  refine iBn ?_
  refine tHn ?_
  refine cK dCo rfl fun K hK=>?_;conv=>whnf
  refine hK _ _ _ ?_
  refine tHn ?_
  replace h:=bF h
  refine ⟨_,h,?_⟩
  refine aY ?_;conv=>whnf
  exact And.intro rfl (And.intro (aLc wkI (aLc (sY (fun _=>rfl)) (aLc (wkr (lsE (lsC (lsI _ _) lsN))) (aLc (wkr (lsE (aN _))) (aLc wkI aLn))))) (aLc ⟨some _,rfl,aDp rfl⟩ aLn))
 refine hK2 ?_
 refine bD ?_
 refine aT ?_
 refine aT ?_
 refine aS ?_
 replace h:=dI h
 replace h:=dK h
 replace h:=aO h
 cases h
 exact ⟨rfl,rfl⟩
def aIw (x:Int) (l:List Int):Option (List Int):=ap l [x] some
def pT (y:List Int) (b:Nat):AV:=.so b 0 y.length 1
def kQ (y:List Int):List AB:=[.cells (flE (ceE eI) y)]
def eX (a0:Int) (a1:Ar 8):Option (List Int):=dT a0 a1 (List Int) aIw []
def dJ:List AV→List Int→Prop:=fun args y=>∃ (a0:Int) (a1:Ar 8),args=[.nils,.fn 81 [] [.ep [eI a0] 0,.ep (cA a1) 0]]∧eX a0 a1=some y
def dZ:List AV→List Int→Prop:=fun args y=>∃ (a0:Int) (a1:Ar 8),args=[.fn 81 [] [.ep [eI a0] 0,.ep (cA a1) 0]]∧eX a0 a1=some y
theorem nX {T:Tbl} (hT:TOk Tryd.prog T) (hpf:cY T PF) (h81:T 81=itR Tryd.prog (fun x=>[Value.int .i64 x]) eO):FOk Tryd.prog 80 (aCO pT kQ dJ):=by
 refine aCf hT hpf Tryd.func80 rfl Tryd.ntmps80 Tryd.results80 (by decide) (fun y=>⟨by simp [kQ],by simp [kQ,uJ]⟩) ?_
 rintro args y ⟨a0,a1,rfl,hF⟩
 have lofn:(AV.fn 81 [] [.ep [eI a0] 0,.ep (cA a1) 0]).loose:=(qC lsN (lsC (lsE (lsC (lsI _ _) lsN)) (lsC (lsE (aN _)) lsN)))
 refine ⟨nle rfl,(lsC bW (lsC lofn lsN)),fun base=>?_⟩
 refine aA dCo rfl fun K hK=>?_;conv=>whnf
 refine hK _ _ _ ?_
 refine aE ?_
 refine aA dCo rfl fun K hK=>?_;conv=>whnf
 refine hK _ _ _ ?_
 refine aF ?_
 refine aAA rfl rfl (n:=32) (Nat.le_refl _) (σ':=⟨ofL [(2,.ptr 32 0),(6,.fn 81 [] [.ep [eI a0] 0,.ep (cA a1) 0])],ofH [(32,.cells [.so 48 0 ([]:List Int).length 1]),(48,.cells (flE (ceE eI) ([]:List Int)))],1024⟩)
  (wON (by decide) [(32,some 64),(48,none)] ⟨WkR.ptr (fun _=>rfl),wkr lofn,trivial⟩ ⟨⟨_,rfl,bRc rfl (cKc (WkR.nilso (fun _=>rfl)) cKn)⟩,⟨_,rfl,aBC⟩,trivial⟩ rfl) ?_
 refine aGE 48 (by decide) (by decide) rfl rfl (fun x=>[eI x]) aG0 (fun _=>rfl) (by decide) h81 rfl (F:=dT _ _) (y:=aIw) hF ⟨_,_,rfl,rfl⟩ (nle rfl)
  (aG7 (aLc (aKg (by decide)) (aLc (aCC lofn) aLn))) (fun l:List Int=>[(32,.cells [.so 48 0 l.length 1]),(48,.cells (flE (ceE eI) l))]) (fun s=>(aLc rfl (aLc rfl aLn))) (fun x s gfin h=>?_) ?_
 ·rw [aIw.eq_1] at h
  refine cK dCo rfl fun K hK=>?_;conv=>whnf
  refine hK _ _ _ ?_
  refine tHn ?_
  refine aF ?_
  refine cK dCo rfl fun K hK=>?_;conv=>whnf
  refine nlA rfl ?_;conv=>whnf
  refine bKo rfl ?_;conv=>whnf
  refine gKo rfl ?_;conv=>whnf
  refine eK (enc:=eI) (d:=default) (l:=[x]) (f:=some) (Φ:=fun _=>True) dCo (kY (a:=[x]) (by unfold lt;rfl) trivial) rfl rfl rfl ⟨nle rfl,nle rfl,rfl⟩ rfl ⟨⟨rfl,rfl,rfl⟩,trivial⟩ (fun _=>?_);conv=>whnf
  refine aBf (enc:=eI) (d:=default) dCo h rfl rfl rfl ⟨rfl,nle rfl,nle rfl,nle rfl,rfl⟩ (fun _=>rfl) (fun _=>rfl) (fun _=>nofun) rfl rfl (fun h=>?_);conv=>whnf
  refine bKo rfl ?_;conv=>whnf
  refine And.intro rfl (And.intro (nle rfl) (And.intro rfl ?_));conv=>whnf
  refine hK _ _ _ ?_
  refine iBn ?_
  replace h:=aO h
  cases h
  refine ⟨rfl,_,wON (by decide) [(48,some 1344)] trivial ⟨⟨_,rfl,bRc rfl (cKc (WkR.so (fun _=>rfl)) cKn)⟩,⟨_,rfl,gX rfl (fun _=>(lsC (lsI _ _) lsN))⟩,trivial⟩ rfl⟩
 refine iBn ?_
 refine tHn ?_
 refine aAA rfl rfl (n:=32) (Nat.le_refl _) (σ':=⟨ofL [(2,.ptr 32 0)],ofH [(32,.cells [.so 64 0 y.length 1]),(64,.cells (flE (ceE eI) y))],2048⟩)
  (aIa (by decide) ⟨WkR.ptr (fun _=>rfl),trivial⟩ ⟨⟨_,rfl,bRc rfl (cKc (WkR.so (fun _=>rfl)) cKn)⟩,⟨_,rfl,gX rfl (fun _=>(lsC (lsI _ _) lsN))⟩,trivial⟩) ?_
 refine aA dCo rfl fun K hK=>?_;conv=>whnf
 refine nlA rfl ?_;conv=>whnf
 refine bKo rfl ?_;conv=>whnf
 refine gKo rfl ?_;conv=>whnf
 refine hK _ _ _ ?_
 refine aP ?_
 refine vL dCo fun K hK=>?_;conv=>whnf
 refine hK _ ?_
 refine ⟨rfl,rfl,rfl,uR (aEd (k:=0) rfl) rfl,fun k n x h1 h2=>?_⟩
 exact match k,n,x,h1,h2 with | 0,n,x,h1,h2=>by cases h1;cases h2;exact ⟨_,rfl,xO (fun _=>(lsC (lsI _ _) lsN)) _⟩ | k+1,n,x,h1,h2=>by cases h1
theorem pB {T:Tbl} (hT:TOk Tryd.prog T) (hpf:cY T PF) (h80:T 80=aCO pT kQ dJ):FOk Tryd.prog 55 (aCO pT kQ dZ):=by
 refine aCf hT hpf Tryd.func55 rfl Tryd.ntmps55 Tryd.results55 (by decide) (fun y=>⟨by simp [kQ],by simp [kQ,uJ]⟩) ?_
 rintro args y ⟨a0,a1,rfl,hF⟩
 have lofn:(AV.fn 81 [] [.ep [eI a0] 0,.ep (cA a1) 0]).loose:=(qC lsN (lsC (lsE (lsC (lsI _ _) lsN)) (lsC (lsE (aN _)) lsN)))
 refine ⟨nle rfl,(lsC lofn lsN),fun base=>?_⟩
 have h:W (bd (eX a0 a1) some) (fun z=>z=y):=kY (a:=y) (by rw [hF];unfold bd;rfl) rfl
 refine aA dCo rfl fun K hK=>?_;conv=>whnf
 refine hK _ _ _ ?_
 refine aA dCo rfl fun K hK=>?_;conv=>whnf
 refine sQ h80 h (fun y e=>(⟨_,_,rfl,e⟩:dJ _ _)) (WkL.refl _) (fun _ h=>?_);conv=>whnf
 refine hK _ _ _ ?_
 refine aP ?_
 replace h:=aO h
 refine vL dCo fun K hK=>?_;conv=>whnf
 refine hK _ ?_
 cases h
 refine ⟨rfl,rfl,rfl,uR (aEd (k:=0) rfl) rfl,fun k n x h1 h2=>?_⟩
 exact match k,n,x,h1,h2 with | 0,n,x,h1,h2=>by cases h1;cases h2;exact ⟨_,rfl,xO (fun _=>(lsC (lsI _ _) lsN)) _⟩ | k+1,n,x,h1,h2=>by cases h1
def iI (a0:aG):Option ((List Int)×Int):=bd (bP a0) fun y1=>cn (!y1.2) (some ([],70)) (bd (eX a0.N y1.1) fun y2=>
  some (y2,0))
def fR:List AV→AV→Prop:=fun args r=>∃ a0,args=[bJ a0]∧W (iI a0) fun y=>r=(.tup [(eL 1 eI default) y.1,eI y.2])
theorem sR {T:Tbl} (hT:TOk Tryd.prog T) (hpf:cY T PF) (h54:T 54=aK cF) (h55:T 55=aCO pT kQ dZ) (h56:T 56=aK dX):FOk Tryd.prog 18 (aK fR):=by
 refine bG hT hpf Tryd.func18 rfl Tryd.ntmps18 Tryd.results18 (by decide) ?_
 rintro args r ⟨a0,rfl,h⟩
 refine ⟨nle rfl,?_,?_⟩
 ·exact (lsC (cB _) lsN)
 rw [iI.eq_1] at h
 refine aA dCo rfl fun K hK=>?_;conv=>whnf
 refine hK _ _ _ ?_
 refine aA dCo rfl fun K hK=>?_;conv=>whnf
 refine nlA rfl ?_;conv=>whnf
 refine bKo rfl ?_;conv=>whnf
 refine nlA rfl ?_;conv=>whnf
 replace h:=bM h
 refine cC h54 h (WkL.refl _) (fun _ h=>?_);conv=>whnf
 refine aQ ?_;conv=>whnf
 refine aQ ?_;conv=>whnf
 refine aQ ?_;conv=>whnf
 refine bKo rfl ?_;conv=>whnf
 refine pS rfl rfl rfl ?_;conv=>whnf
 refine hK _ _ _ ?_
 refine aE ?_
 refine aA dCo rfl fun K hK=>?_;conv=>whnf
 refine hK _ _ _ ?_
 refine aW fun K1 K2 hK1 hK2=>?_;conv=>whnf
 refine cLk h (fun _ h=>?_) (fun _ h=>?_)
 ·refine hK1 ?_
  refine aA dCo rfl fun K hK=>?_;conv=>whnf
  refine hK _ _ _ ?_
  refine aP ?_
  refine aJ ?_
  replace h:=aO h
  refine aM dCo fun K hK=>?_;conv=>whnf
  refine hK _ ?_
  cases h
  exact pR (aC kX (aC (Wk.refl _) bA))
 refine hK2 ?_
 refine aH ?_
 refine tHn ?_
 refine aA dCo rfl fun K hK=>?_;conv=>whnf
 refine nlA rfl ?_;conv=>whnf
 refine bKo rfl ?_;conv=>whnf
 refine gKo rfl ?_;conv=>whnf
 refine nlA rfl ?_;conv=>whnf
 refine bKo rfl ?_;conv=>whnf
 refine rU rfl ?_;conv=>whnf
 refine aQ ?_;conv=>whnf
 refine aX h56 (S:=dX) ⟨_,_,rfl,rfl⟩ (qC lsN (lsC (lsE (lsC (lsI _ _) lsN)) (lsC (lsE (aN _)) lsN))) (WkL.refl _) ?_;conv=>whnf
 refine sQ h55 h (fun y e=>(⟨_,_,rfl,e⟩:dZ _ _)) (WkL.refl _) (fun _ h=>?_);conv=>whnf
 refine hK _ _ _ ?_
 refine nY 2 (enc:=eI) (e:=3) default (mI dCo rfl rfl rfl (fun _=>⟨rfl,rfl⟩)) ?_;(conv=>whnf);refine ⟨_,_,rfl,rfl,rfl,?_⟩
 refine aP ?_
 replace h:=aO h
 refine aM dCo fun K hK=>?_;conv=>whnf
 refine hK _ ?_
 cases h
 exact Wk.refl _
theorem qR {T:Tbl} (hT:T 18=aK fR) {args:List AV} {hp:aU} {id:Nat} {k:AV→Prop} {a0:aG} {Φ:(List Int)×Int→Prop} (h:W (iI a0) Φ) (hw:WkL args [bJ a0]) (hk:∀ y,Φ y→k (.tup [(eL 1 eI default) y.1,eI y.2])):dC T 18 args hp id k:=by
 obtain ⟨y,e,hy⟩:=fG h
 exact aX hT ⟨a0,rfl,kY e rfl⟩ (by exact fO (lsC (lsL fun _=>(lsI _ _)) (lsC (lsI _ _) lsN))) hw (hk y hy)
def mS (a0:aG) (x3:Int) (s6:Int×(GM Int)):Option (Ct (Int×(GM Int)) ((GM Int))):=cn (decide (s6.1<a0.N)) (gd (0≤s6.1) (jn (fun p7:(GM Int)=>
  some (.nx ((wr (s6.1+1)),p7))) fun k8=>cn ((tL .i64 (rR .i64 x3 s6.1) 1) ==
  1) (gd (0≤s6.1) (let m9:=s6.2.put x3 (wr ((s6.2.get x3 0)+(s6.2.get (pV .i64 x3 (aDz .i64 1 s6.1)) 0)));k8 m9)) (k8 s6.2))) (some (.bk (s6.1,s6.2)))
def qI (a0:aG) (x3:Int) (s4:(GM Int)):Option ((GM Int)):=bd (lp (mS a0 x3) FU (0,s4)) fun c10=>smK c10 (fun s11=>some s11.2) (fun r12=>
  some r12)
def jJ (a0:aG):Option (Int×Int):=bd (bP a0) fun y1=>cn (!y1.2) (some (0,70)) (let m2:=(GM.mt Int).put 0 1;
  bd (dT a0.N y1.1 ((GM Int)) (qI a0) m2) fun s5=>gd (0≤a0.N) (let v13:=(s5.get (wr ((aDz .i64 1 a0.N)-1)) 0);some (v13,0)))
def jB:List AV→AV→Prop:=fun args r=>∃ a0,args=[bJ a0]∧W (jJ a0) fun y=>r=(.tup [eI y.1,eI y.2])
theorem wU {T:Tbl} (hT:TOk Tryd.prog T) (hpf:cY T PF) (h54:T 54=aK cF) (h56:T 56=aK dX) (h81:T 81=itR Tryd.prog (fun x=>[Value.int .i64 x]) eO):FOk Tryd.prog 20 (aK jB):=by
 refine bG hT hpf Tryd.func20 rfl Tryd.ntmps20 Tryd.results20 (by decide) ?_
 rintro args r ⟨a0,rfl,h⟩
 refine ⟨nle rfl,?_,?_⟩
 ·exact (lsC (cB _) lsN)
 rw [jJ.eq_1] at h
 refine aA dCo rfl fun K hK=>?_;conv=>whnf
 refine hK _ _ _ ?_
 refine aA dCo rfl fun K hK=>?_;conv=>whnf
 refine nlA rfl ?_;conv=>whnf
 refine bKo rfl ?_;conv=>whnf
 refine nlA rfl ?_;conv=>whnf
 replace h:=bM h
 refine cC h54 h (WkL.refl _) (fun _ h=>?_);conv=>whnf
 refine aQ ?_;conv=>whnf
 refine aQ ?_;conv=>whnf
 refine aQ ?_;conv=>whnf
 refine bKo rfl ?_;conv=>whnf
 refine pS rfl rfl rfl ?_;conv=>whnf
 refine hK _ _ _ ?_
 refine aE ?_
 refine aA dCo rfl fun K hK=>?_;conv=>whnf
 refine hK _ _ _ ?_
 refine aW fun K1 K2 hK1 hK2=>?_;conv=>whnf
 refine cLk h (fun _ h=>?_) (fun _ h=>?_)
 ·refine hK1 ?_
  refine aA dCo rfl fun K hK=>?_;conv=>whnf
  refine hK _ _ _ ?_
  refine aP ?_
  refine aJ ?_
  replace h:=aO h
  refine aM dCo fun K hK=>?_;conv=>whnf
  refine hK _ ?_
  cases h
  exact Wk.refl _
 refine hK2 ?_
 refine aH ?_
 refine tHn ?_
 refine aA dCo rfl fun K hK=>?_;conv=>whnf
 refine fM (enc:=eI) (m:=(GM.mt Int)) dCo rfl rfl ?_;conv=>whnf
 refine bKo rfl ?_;conv=>whnf
 refine And.intro rfl (And.intro (nle rfl) (And.intro rfl ?_));conv=>whnf
 refine hK _ _ _ ?_
 refine aE ?_
 refine aA dCo rfl fun K hK=>?_;conv=>whnf
 refine nlA rfl ?_;conv=>whnf
 refine bKo rfl ?_;conv=>whnf
 refine gKo rfl ?_;conv=>whnf
 refine nlA rfl ?_;conv=>whnf
 refine bKo rfl ?_;conv=>whnf
 refine rU rfl ?_;conv=>whnf
 refine aQ ?_;conv=>whnf
 refine aX h56 (S:=dX) ⟨_,_,rfl,rfl⟩ (qC lsN (lsC (lsE (lsC (lsI _ _) lsN)) (lsC (lsE (aN _)) lsN))) (WkL.refl _) ?_;conv=>whnf
 refine hK _ _ _ ?_
 refine aF ?_
 refine aF2 rfl rfl [1,6,17,21] [(1,32),(6,33),(17,34)] 33 34 ?_;conv=>whnf
 refine And.intro ?_ ?_
 ·refine aHE ?_;conv=>whnf
  exact And.intro rfl (And.intro (aLc (WkR.ptr (fun _=>rfl)) (aLc (WkR.ptr (fun _=>rfl)) (aLc (WkR.mp (fun _=>rfl)) (aLc (fA bB (aB (wkr (lsE (lsC (lsI _ _) lsN))) (aB (wkr (lsE (aN _))) bB))) aLn)))) (aLc ⟨some _,rfl,bRc rfl (cKc wkI (cKc (wkr (lsL fun _=>(aD _))) cKn))⟩ (aLc ⟨some _,rfl,bRc rfl (cKc (WkR.mp (fun _=>rfl)) cKn)⟩ (aLc ⟨some _,rfl,iY (enc:=eI) rfl (fun _=>(lsI _ _))⟩ aLn))))
 obtain ⟨gfin,hfin,h⟩:=fG (bM h)
 refine aHV rfl rfl (fun x=>[eI x]) aG0 (fun _=>rfl) (by decide) h81 rfl (F:=dT _ _) hfin ⟨_,_,rfl,rfl⟩ (nle rfl) (aLc (aDK (by decide)) (aLc (aDK (by decide)) (aLc (aKc (by decide)) (aLc (aIU aBJ (aAM (aJ6 (aAM (vP (lsI _ _)) aBJ)) (aAM (vP (lsE (aN _))) aBJ))) aLn)))) (fun s=>[(32,.cells [eI a0.N,(eL 2 jW default) a0.Pairs]),(33,.cells [.mp 34]),(34,abM eI s)]) (fun s=>(aLc rfl (aLc rfl (aLc rfl aLn)))) (fun x s gfin h=>?_) ?_
 ·clear hfin
  rw [qI.eq_1] at h
  refine cK dCo rfl fun K hK=>?_;conv=>whnf
  refine hK _ _ _ ?_
  refine tHn ?_
  refine aF ?_
  refine aA dCo rfl fun K hK=>?_;conv=>whnf
  refine nlA rfl ?_;conv=>whnf
  refine bKo rfl ?_;conv=>whnf
  refine gKo rfl ?_;conv=>whnf
  refine hK _ _ _ ?_
  refine aF ?_
  replace h:=bM h
  refine gJ (body:=mS _ _) rfl h [1,6,7,17,24] [1,6] [17] (fun kl kh ids b s=>⟨ofL ([(25,eI s.1)]++kl),ofH ([(wW ids 0,abM eI s.2)]++kh),b+64⟩) ?_;(conv=>whnf);refine And.intro ?_ (fun s m h=>dG ?_)
  ·refine aY ?_;conv=>whnf
   exact And.intro rfl (And.intro (aLc wkI (aLc (WkR.ptr (fun _=>rfl)) (aLc (WkR.ptr (fun _=>rfl)) (aLc wkI (aLc (WkR.mp (fun _=>rfl)) (aLc wkI aLn)))))) (aLc ⟨some _,rfl,iY (enc:=eI) rfl (fun _=>(lsI _ _))⟩ (aLc ⟨some _,rfl,bRc rfl (cKc wkI (cKc (wkr (lsL fun _=>(aD _))) cKn))⟩ (aLc ⟨some _,rfl,bRc rfl (cKc (WkR.mp (fun _=>rfl)) cKn)⟩ aLn))))
  replace h:=bM h;rw [mS.eq_1] at h
  refine aA dCo rfl fun K hK=>?_;conv=>whnf
  refine hK _ _ _ ?_
  refine aE ?_
  refine aW fun K1 K2 hK1 hK2=>?_;conv=>whnf
  refine cLk h (fun _ h=>?_) (fun _ h=>?_)
  ·refine hK1 ?_
   refine aH ?_
   refine tHn ?_
   refine aE ?_
   refine aF ?_
   refine aA dCo rfl fun K hK=>?_;conv=>whnf
   refine hK _ _ _ ?_
   refine aA dCo rfl fun K hK=>?_;conv=>whnf
   refine cH h fun _ h=>?_;conv=>whnf
   refine hK _ _ _ ?_
   replace h:=nL h
   refine aW fun K1 K2 hK1 hK2=>?_;conv=>whnf
   refine cLk h (fun _ h=>?_) (fun _ h=>?_)
   ·refine hK1 ?_
    refine aBw dCo gD rfl (by kernel_rfl) fun K hK=>?_;conv=>whnf
    refine nlA rfl ?_;conv=>whnf
    refine bKo rfl ?_;conv=>whnf
    refine gKo rfl ?_;conv=>whnf
    refine aBQ (enc:=eI) dCo rfl (0:Int) rfl rfl (nle rfl) ?_;conv=>whnf
    refine nlA rfl ?_;conv=>whnf
    refine bKo rfl ?_;conv=>whnf
    refine gKo rfl ?_;conv=>whnf
    refine cH h fun _ h=>?_;conv=>whnf
    refine aBQ (enc:=eI) dCo rfl (0:Int) rfl rfl (nle rfl) ?_;conv=>whnf
    refine fM (enc:=eI) dCo rfl rfl ?_;conv=>whnf
    refine hK _ _ _ ?_
    refine iBn ?_
    refine tHn ?_
    refine cK dCo rfl fun K hK=>?_;conv=>whnf
    refine hK _ _ _ ?_
    refine tHn ?_
    replace h:=bF h
    refine ⟨_,h,?_⟩
    refine aY ?_;conv=>whnf
    exact And.intro rfl (And.intro (aLc wkI (aLc (WkR.ptr (fun _=>rfl)) (aLc (WkR.ptr (fun _=>rfl)) (aLc wkI (aLc (WkR.mp (fun _=>rfl)) (aLc wkI aLn)))))) (aLc ⟨some _,rfl,iY (enc:=eI) rfl (fun _=>(lsI _ _))⟩ (aLc ⟨some _,rfl,bRc rfl (cKc wkI (cKc (wkr (lsL fun _=>(aD _))) cKn))⟩ (aLc ⟨some _,rfl,bRc rfl (cKc (WkR.mp (fun _=>rfl)) cKn)⟩ aLn))))
   refine hK2 ?_
   refine aH ?_
   refine iBn ?_
   refine tHn ?_
   refine cK dCo rfl fun K hK=>?_;conv=>whnf
   refine hK _ _ _ ?_
   refine tHn ?_
   replace h:=bF h
   refine ⟨_,h,?_⟩
   refine aY ?_;conv=>whnf
   exact And.intro rfl (And.intro (aLc wkI (aLc (WkR.ptr (fun _=>rfl)) (aLc (WkR.ptr (fun _=>rfl)) (aLc wkI (aLc (WkR.mp (fun _=>rfl)) (aLc wkI aLn)))))) (aLc ⟨some _,rfl,iY (enc:=eI) rfl (fun _=>(lsI _ _))⟩ (aLc ⟨some _,rfl,bRc rfl (cKc wkI (cKc (wkr (lsL fun _=>(aD _))) cKn))⟩ (aLc ⟨some _,rfl,bRc rfl (cKc (WkR.mp (fun _=>rfl)) cKn)⟩ aLn))))
  refine hK2 ?_
  refine bD ?_
  refine aT ?_
  refine aT ?_
  refine aS ?_
  replace h:=dI h
  replace h:=dK h
  refine iBn ?_
  replace h:=aO h
  cases h
  refine ⟨rfl,?_⟩
  refine aY (l:=[]) ?_;conv=>whnf
  exact And.intro rfl (And.intro aLn (aLc ⟨some _,rfl,bRc rfl (cKc wkI (cKc (wkr (lsL fun _=>(aD _))) cKn))⟩ (aLc ⟨some _,rfl,bRc rfl (cKc (WkR.mp (fun _=>rfl)) cKn)⟩ (aLc ⟨some _,rfl,iY (enc:=eI) rfl (fun _=>(lsI _ _))⟩ aLn))))
 clear hfin
 refine iBn ?_
 refine tHn ?_
 refine rB dCo gD rfl (by kernel_rfl) fun K hK=>?_;conv=>whnf
 refine nlA rfl ?_;conv=>whnf
 refine bKo rfl ?_;conv=>whnf
 refine gKo rfl ?_;conv=>whnf
 refine nlA rfl ?_;conv=>whnf
 refine bKo rfl ?_;conv=>whnf
 refine gKo rfl ?_;conv=>whnf
 refine cH h fun _ h=>?_;conv=>whnf
 refine aBQ (enc:=eI) dCo rfl (0:Int) rfl rfl (nle rfl) ?_;conv=>whnf
 refine hK _ _ _ ?_
 refine aP ?_
 replace h:=aO h
 refine aM dCo fun K hK=>?_;conv=>whnf
 refine hK _ ?_
 cases h
 exact Wk.refl _
theorem oR {T:Tbl} (hT:T 20=aK jB) {args:List AV} {hp:aU} {id:Nat} {k:AV→Prop} {a0:aG} {Φ:Int×Int→Prop} (h:W (jJ a0) Φ) (hw:WkL args [bJ a0]) (hk:∀ y,Φ y→k (.tup [eI y.1,eI y.2])):dC T 20 args hp id k:=by
 obtain ⟨y,e,hy⟩:=fG h
 exact aX hT ⟨a0,rfl,kY e rfl⟩ (by exact fO (lsC (lsI _ _) (lsC (lsI _ _) lsN))) hw (hk y hy)
  def pU (a0:Int) (c1:aG) (c2:Ar 8) (f9002:Int→aG→(Ar 8)→(Ar 8)→Int→Option (Bool×(Ar 8)×Int)) (s1:Int×Int×(Ar 8)):Option (Ct (Int×Int×(Ar 8)) (Bool×(Ar 8)×Int)):=cn (decide (s1.1<c1.N)) (jn (fun p2:(Ar 8)×Int=>
  some (.nx ((wr (s1.1+1)),p2.2,p2.1))) fun k3=>jn (fun p4:Bool=>cn p4 (k3 (s1.2.2,s1.2.1)) (gd (0≤s1.1) (jn (fun p6:Bool×(Ar 8)×Int=>
  cn p6.1 (gd (0≤s1.1∧s1.1<(8:Int)) (let m9:=p6.2.1.st1 s1.1 (wr (a0+1));some (.rt (true,m9,p6.2.2)))) (k3 (p6.2.1,p6.2.2))) fun k7=>
  gd (0≤s1.1∧s1.1<(8:Int)) (cn ((s1.2.2.at1 s1.1) ==
  0) (k7 (true,s1.2.2,(bor .i64 s1.2.1 (aDz .i64 1 s1.1)))) (gd (0≤s1.1∧s1.1<(8:Int)) (bd (f9002 (wr ((s1.2.2.at1 s1.1)-1)) c1 c2 s1.2.2 (bor .i64 s1.2.1 (aDz .i64 1 s1.1))) fun y8=>
  k7 (y8.1,y8.2.1,y8.2.2))))))) fun k5=>gd (0≤s1.1∧s1.1<(8:Int)) (gd (0≤a0) (cn ((tL .i64 (rR .i64 (c2.at1 s1.1) a0) 1) ==
  0) (k5 true) (gd (0≤s1.1) (k5 ((tL .i64 (rR .i64 s1.2.1 s1.1) 1)==1)))))) (some (.bk (s1.1,s1.2.1,s1.2.2)))
  def rG (f9002:Int→aG→(Ar 8)→(Ar 8)→Int→Option (Bool×(Ar 8)×Int)) (a0:Int) (c1:aG) (c2:Ar 8) (m0:Ar 8) (x1:Int):Option (Bool×(Ar 8)×Int):=bd (lp (pU a0 c1 c2 f9002) FU (0,x1,m0)) fun c10=>
  smK c10 (fun s11=>some (false,s11.2.2,s11.2.1)) (fun r12=>some r12)
def oE:Nat→Int→aG→(Ar 8)→(Ar 8)→Int→Option (Bool×(Ar 8)×Int)
 | 0=>fun _ _ _ _ _=>none
 | k+1=>rG (oE k)
def lD (k:Nat):List AV→List BD→AV→List BD→Prop:=fun args bs r bs'=>∃ a0 c1 c2 m0 x1 y,args=[eI a0,.ep [eI c1.N,(eL 2 jW default) c1.Pairs] 0,.ep (cA c2) 0,.ptr 1 0,.ptr 0 0,.ptr 2 0]∧bs=[.ab (.cells (cA m0)),.ab (.cells ([eI x1])),.fn 65 [.v (.ep [eI c1.N,(eL 2 jW default) c1.Pairs] 0),.v (.ep (cA c2) 0),.p 1,.p 0,.p 2]]∧oE k a0 c1 c2 m0 x1=some y∧r=eB y.1∧bs'=[.ab (.cells (cA y.2.1)),.ab (.cells ([eI y.2.2])),.fn 65 [.v (.ep [eI c1.N,(eL 2 jW default) c1.Pairs] 0),.v (.ep (cA c2) 0),.p 1,.p 0,.p 2]]
theorem aEE (k:Nat) {T:Tbl} (hT:TOk Tryd.prog T) (hpf:cY T PF) (h65:T 65=qH (lD k)):FOk Tryd.prog 65 (qH (lD (k+1))):=by
 refine rW hT hpf Tryd.func65 rfl Tryd.ntmps65 Tryd.results65 (by decide) ?_
 rintro args bs r bs' ⟨a0,c1,c2,m0,x1,y,rfl,rfl,hF,rfl,rfl⟩
 refine ⟨nle rfl,Nat.le_refl _,(lsB _),⟨(aN _),⟨(aFb _),⟨⟨(lsE (lsC (lsI _ _) (lsC (lsL fun _=>(aD _)) lsN))),⟨(lsE (aN _)),⟨nle rfl,⟨nle rfl,⟨nle rfl,trivial⟩⟩⟩⟩⟩,trivial⟩⟩⟩,⟨(aN _),⟨(aFb _),⟨⟨(lsE (lsC (lsI _ _) (lsC (lsL fun _=>(aD _)) lsN))),⟨(lsE (aN _)),⟨nle rfl,⟨nle rfl,⟨nle rfl,trivial⟩⟩⟩⟩⟩,trivial⟩⟩⟩,?_⟩
 have h:W (rG (oE k) a0 c1 c2 m0 x1) (fun z=>z=y):=kY hF rfl
 rw [rG.eq_1] at h
 refine aA dCo rfl fun K hK=>?_;conv=>whnf
 refine hK _ _ _ ?_
 refine aE ?_
 refine aA dCo rfl fun K hK=>?_;conv=>whnf
 refine gKo rfl ?_;conv=>whnf
 refine hK _ _ _ ?_
 refine aF ?_
 replace h:=bM h
 refine aCw (body:=pU _ _ _ _) rfl h [0,2,3,4,5,10] (fun σ=>aBY σ [2]++oV σ []++rV σ []) (fun σ=>rV σ []++oV σ []++aBY σ []) [] (fun kl kh kr ids b s=>⟨ofL ([(11,eI s.1)]++kl),ofH (([(1,.cells ([eI s.2.1]))]++kh)++([(0,.cells (cA s.2.2))]++kr)),b+128⟩) ?_;(conv=>whnf);refine And.intro ?_ (fun s m h=>dG ?_)
 ·refine bE ?_;conv=>whnf
  exact And.intro rfl (And.intro (aLc wkI (aLc wkI (aLc (wkr (lsE (aN _))) (aLc (WkR.ptr (fun _=>rfl)) (aLc (WkR.ptr (fun _=>rfl)) (aLc (WkR.ptr (fun _=>rfl)) (aLc wkI aLn))))))) (aLc ⟨some _,rfl,bRc rfl (cKc wkI cKn)⟩ (aLc ⟨some _,rfl,bRc rfl (cKc (fA bB (aB (wkr (lsE (lsC (lsI _ _) (lsC (lsL fun _=>(aD _)) lsN)))) (aB (wkr (lsE (aN _))) (aB (WkR.ptr (fun _=>rfl)) (aB (WkR.ptr (fun _=>rfl)) (aB (WkR.ptr (fun _=>rfl)) bB)))))) cKn)⟩ (aLc ⟨some _,rfl,aV rfl rfl⟩ aLn))))
 replace h:=bM h;rw [pU.eq_1] at h
 refine aA dCo rfl fun K hK=>?_;conv=>whnf
 refine hK _ _ _ ?_
 refine aE ?_
 refine aW fun K1 K2 hK1 hK2=>?_;conv=>whnf
 refine cLk h (fun _ h=>?_) (fun _ h=>?_)
 ·refine hK1 ?_
  refine aH ?_
  refine tHn ?_
  refine aE ?_
  replace h:=nL h
  refine aF ?_
  refine aA dCo rfl fun K hK=>?_;conv=>whnf
  refine hK _ _ _ ?_
  refine aE ?_
  refine aA dCo rfl fun K hK=>?_;conv=>whnf
  replace h:=nL h
  refine cH h fun hx112 h=>?_;conv=>whnf
  refine dS rfl hx112 ?_;conv=>whnf
  refine cH h fun _ h=>?_;conv=>whnf
  refine cLk h (fun _ h=>?_) (fun _ h=>?_)<;>(conv=>whnf)
  ·refine hK _ _ _ ?_
   refine aW fun K1 K2 hK1 hK2=>?_;conv=>whnf
   refine hK1 ?_
   replace h:=oB h
   refine bD ?_
   refine aT ?_
   refine aS ?_
   refine tHn ?_
   refine cK dCo rfl fun K hK=>?_;conv=>whnf
   refine hK _ _ _ ?_
   refine tHn ?_
   replace h:=bF h
   refine ⟨_,h,?_⟩
   refine bE ?_;conv=>whnf
   exact And.intro rfl (And.intro (aLc wkI (aLc wkI (aLc (wkr (lsE (aN _))) (aLc (WkR.ptr (fun _=>rfl)) (aLc (WkR.ptr (fun _=>rfl)) (aLc (WkR.ptr (fun _=>rfl)) (aLc wkI aLn))))))) (aLc ⟨some _,rfl,bRc rfl (cKc wkI cKn)⟩ (aLc ⟨some _,rfl,bRc rfl (cKc (fA bB (aB (wkr (lsE (lsC (lsI _ _) (lsC (lsL fun _=>(aD _)) lsN)))) (aB (wkr (lsE (aN _))) (aB (WkR.ptr (fun _=>rfl)) (aB (WkR.ptr (fun _=>rfl)) (aB (WkR.ptr (fun _=>rfl)) bB)))))) cKn)⟩ (aLc ⟨some _,rfl,aV rfl rfl⟩ aLn))))
  refine nlA rfl ?_;conv=>whnf
  refine bKo rfl ?_;conv=>whnf
  refine gKo rfl ?_;conv=>whnf
  refine cH h fun _ h=>?_;conv=>whnf
  refine hK _ _ _ ?_
  refine aW fun K1 K2 hK1 hK2=>?_;conv=>whnf
  refine cLk h (fun _ h=>?_) (fun _ h=>?_)
  ·refine hK1 ?_
   refine bD ?_
   refine aT ?_
   refine aS ?_
   refine tHn ?_
   refine cK dCo rfl fun K hK=>?_;conv=>whnf
   refine hK _ _ _ ?_
   refine tHn ?_
   replace h:=bF h
   refine ⟨_,h,?_⟩
   refine bE ?_;conv=>whnf
   exact And.intro rfl (And.intro (aLc wkI (aLc wkI (aLc (wkr (lsE (aN _))) (aLc (WkR.ptr (fun _=>rfl)) (aLc (WkR.ptr (fun _=>rfl)) (aLc (WkR.ptr (fun _=>rfl)) (aLc wkI aLn))))))) (aLc ⟨some _,rfl,bRc rfl (cKc wkI cKn)⟩ (aLc ⟨some _,rfl,bRc rfl (cKc (fA bB (aB (wkr (lsE (lsC (lsI _ _) (lsC (lsL fun _=>(aD _)) lsN)))) (aB (wkr (lsE (aN _))) (aB (WkR.ptr (fun _=>rfl)) (aB (WkR.ptr (fun _=>rfl)) (aB (WkR.ptr (fun _=>rfl)) bB)))))) cKn)⟩ (aLc ⟨some _,rfl,aV rfl rfl⟩ aLn))))
  refine hK2 ?_
  refine aH ?_
  refine tHn ?_
  refine rB dCo gD rfl (by kernel_rfl) fun K hK=>?_;conv=>whnf
  refine nlA rfl ?_;conv=>whnf
  refine bKo rfl ?_;conv=>whnf
  refine gKo rfl ?_;conv=>whnf
  refine cH h fun _ h=>?_;conv=>whnf
  refine bKo rfl ?_;conv=>whnf
  refine And.intro rfl (And.intro (nle rfl) (And.intro rfl ?_));conv=>whnf
  refine hK _ _ _ ?_
  refine rB dCo gD rfl (by kernel_rfl) fun K hK=>?_;conv=>whnf
  replace h:=nL h
  refine cH h fun hx117 h=>?_;conv=>whnf
  refine nlA rfl ?_;conv=>whnf
  refine bKo rfl ?_;conv=>whnf
  refine dS rfl hx117 ?_;conv=>whnf
  refine cLk h (fun _ h=>?_) (fun _ h=>?_)<;>(conv=>whnf)
  ·refine hK _ _ _ ?_
   refine aW fun K1 K2 hK1 hK2=>?_;conv=>whnf
   refine hK1 ?_
   replace h:=oB h
   refine aA dCo rfl fun K hK=>?_;conv=>whnf
   refine cH h fun hx119 h=>?_;conv=>whnf
   refine bKo rfl ?_;conv=>whnf
   refine tT rfl hx119 rfl rfl ?_;conv=>whnf
   refine hK _ _ _ ?_
   refine aA dCo rfl fun K hK=>?_;conv=>whnf
   refine hK _ _ _ ?_
   refine aP ?_
   refine aL ?_
   refine aJ ?_
   refine aJ ?_
   refine aL ?_
   refine aJ ?_
   replace h:=gA h
   replace h:=gB h
   replace h:=aO h
   refine iK dCo fun K hK=>?_;conv=>whnf
   refine hK _ ?_
   cases h
   exact ⟨Wk.refl _,⟨_,rfl,bkW _⟩,⟨_,rfl,bkW _⟩,rfl,trivial⟩
  refine nlA rfl ?_;conv=>whnf
  refine bKo rfl ?_;conv=>whnf
  refine gKo rfl ?_;conv=>whnf
  refine cH h fun hx120 h=>?_;conv=>whnf
  refine nlA rfl ?_;conv=>whnf
  refine bKo rfl ?_;conv=>whnf
  refine dS rfl hx120 ?_;conv=>whnf
  refine dM (bs:=[.ab _,.ab _,.fn 65 [.v _,.v _,.p 1,.p 0,.p 2]]) (args0:=[_,_,_,.ptr 1 0,.ptr 0 0,.ptr 2 0]) h65 [_,_,_] h (.cons (sE (Wk.refl _) (lsI _ _)) (.cons (bL (lsE (lsC (lsI _ _) (lsC (lsL fun _=>(aD _)) lsN)))) (.cons (bL (lsE (aN _))) (.cons (eU rfl) (.cons (eU rfl) (.cons (eU rfl) .nil)))))) ⟨⟨_,rfl,bkW _⟩,⟨_,rfl,bkW _⟩,rfl,trivial⟩ rfl (nle rfl) (fun y e=>(⟨_,_,_,_,_,_,rfl,rfl,e,rfl,rfl⟩:lD _ _ _ _ _)) (fun _ h=>?_);conv=>whnf
  refine hK _ _ _ ?_
  refine aW fun K1 K2 hK1 hK2=>?_;conv=>whnf
  refine cLk h (fun _ h=>?_) (fun _ h=>?_)
  ·refine hK1 ?_
   refine aA dCo rfl fun K hK=>?_;conv=>whnf
   refine cH h fun hx122 h=>?_;conv=>whnf
   refine bKo rfl ?_;conv=>whnf
   refine tT rfl hx122 rfl rfl ?_;conv=>whnf
   refine hK _ _ _ ?_
   refine aA dCo rfl fun K hK=>?_;conv=>whnf
   refine hK _ _ _ ?_
   refine aP ?_
   refine aL ?_
   refine aJ ?_
   refine aJ ?_
   refine aL ?_
   refine aJ ?_
   replace h:=gA h
   replace h:=gB h
   replace h:=aO h
   refine iK dCo fun K hK=>?_;conv=>whnf
   refine hK _ ?_
   cases h
   exact ⟨Wk.refl _,⟨_,rfl,bkW _⟩,⟨_,rfl,bkW _⟩,rfl,trivial⟩
  refine hK2 ?_
  refine aH ?_
  refine iBn ?_
  refine tHn ?_
  refine cK dCo rfl fun K hK=>?_;conv=>whnf
  refine hK _ _ _ ?_
  refine tHn ?_
  replace h:=bF h
  refine ⟨_,h,?_⟩
  refine bE ?_;conv=>whnf
  exact And.intro rfl (And.intro (aLc wkI (aLc wkI (aLc (wkr (lsE (aN _))) (aLc (WkR.ptr (fun _=>rfl)) (aLc (WkR.ptr (fun _=>rfl)) (aLc (WkR.ptr (fun _=>rfl)) (aLc wkI aLn))))))) (aLc ⟨some _,rfl,bRc rfl (cKc wkI cKn)⟩ (aLc ⟨some _,rfl,bRc rfl (cKc (fA bB (aB (wkr (lsE (lsC (lsI _ _) (lsC (lsL fun _=>(aD _)) lsN)))) (aB (wkr (lsE (aN _))) (aB (WkR.ptr (fun _=>rfl)) (aB (WkR.ptr (fun _=>rfl)) (aB (WkR.ptr (fun _=>rfl)) bB)))))) cKn)⟩ (aLc ⟨some _,rfl,aV rfl rfl⟩ aLn))))
 refine hK2 ?_
 refine bD ?_
 refine aT ?_
 refine aT ?_
 refine aS ?_
 replace h:=dI h
 replace h:=dK h
 refine tHn ?_
 refine aA dCo rfl fun K hK=>?_;conv=>whnf
 refine hK _ _ _ ?_
 refine aP ?_
 replace h:=aO h
 refine iK dCo fun K hK=>?_;conv=>whnf
 refine hK _ ?_
 cases h
 exact ⟨Wk.refl _,⟨_,rfl,bkW _⟩,⟨_,rfl,bkW _⟩,rfl,trivial⟩
theorem aFi {T:Tbl} (hT:TOk Tryd.prog T) (hpf:cY T PF):FOk Tryd.prog 65 (qH (lD 10)):=
 uB (S:=lD) hT hpf (by decide) Tryd.func65 rfl (by decide) (by rintro a b c d ⟨a0,c1,c2,m0,x1,y,-,-,h,-⟩;cases h) (fun k T' hT' hpf' hne h=>aEE k hT' hpf' h) 10
  def aBV (a0:Int) (c1:aG) (c2:Ar 8) (f9002:Int→aG→(Ar 8)→(GM (List Int))→Option ((List Int)×(GM (List Int)))) (s1:(List Int)×Int×(GM (List Int))):Option (Ct ((List Int)×Int×(GM (List Int))) ((List Int)×(GM (List Int)))):=cn (decide (s1.2.1<c1.N)) (jn (fun p2:Bool×(GM (List Int))=>
  jn (fun p5:(List Int)×(GM (List Int))=>some (.nx (p5.1,(wr (s1.2.1+1)),p5.2))) fun k6=>cn p2.1 (bd (f9002 s1.2.1 c1 c2 p2.2) fun y7=>
  k6 (y7.1,y7.2)) (k6 (s1.1,p2.2))) fun k3=>gd (0≤s1.2.1∧s1.2.1<(8:Int)) (gd (0≤a0) (cn ((tL .i64 (rR .i64 (c2.at1 s1.2.1) a0) 1) ==
  1) (bd (f9002 s1.2.1 c1 c2 s1.2.2) fun y4=>k3 ((decide ((y4.1.length:Int)>(s1.1.length:Int))),y4.2)) (k3 (false,s1.2.2))))) (some (.bk (s1.1,s1.2.1,s1.2.2)))
  def aE3 (f9002:Int→aG→(Ar 8)→(GM (List Int))→Option ((List Int)×(GM (List Int)))) (a0:Int) (c1:aG) (c2:Ar 8) (m0:GM (List Int)):Option ((List Int)×(GM (List Int))):=cn (m0.has a0) (some ((m0.get a0 []),m0)) (bd (lp (aBV a0 c1 c2 f9002) FU ([],0,m0)) fun c8=>
  smK c8 (fun s9=>lt ([a0]:List Int) fun l11=>ap l11 s9.1 fun l12=>let m13:=s9.2.2.put a0 l12;some ((m13.get a0 []),m13)) (fun r10=>some r10))
def aA5:Nat→Int→aG→(Ar 8)→(GM (List Int))→Option ((List Int)×(GM (List Int)))
 | 0=>fun _ _ _ _=>none
 | k+1=>aE3 (aA5 k)
def pE (k:Nat):List AV→List BD→AV→List BD→Prop:=fun args bs r bs'=>∃ a0 c1 c2 m0 y,args=[eI a0,.ep [.mp 0] 0,.ep [eI c1.N,(eL 2 jW default) c1.Pairs] 0,.ep (cA c2) 0,.ptr 1 0]∧bs=[.ab (abM (eL 1 eI default) m0),.fn 59 [.m 0,.v (.ep [eI c1.N,(eL 2 jW default) c1.Pairs] 0),.v (.ep (cA c2) 0),.p 1]]∧aA5 k a0 c1 c2 m0=some y∧r=(eL 1 eI default) y.1∧bs'=[.ab (abM (eL 1 eI default) y.2),.fn 59 [.m 0,.v (.ep [eI c1.N,(eL 2 jW default) c1.Pairs] 0),.v (.ep (cA c2) 0),.p 1]]
theorem aHZ (k:Nat) {T:Tbl} (hT:TOk Tryd.prog T) (hpf:cY T PF) (h59:T 59=qH (pE k)):FOk Tryd.prog 59 (qH (pE (k+1))):=by
 refine rW hT hpf Tryd.func59 rfl Tryd.ntmps59 Tryd.results59 (by decide) ?_
 rintro args bs r bs' ⟨a0,c1,c2,m0,y,rfl,rfl,hF,rfl,rfl⟩
 refine ⟨nle rfl,Nat.le_refl _,(lsL fun _=>(lsI _ _)),⟨(aJa (fun _=>(lsL fun _=>(lsI _ _))) _),⟨⟨nle rfl,⟨(lsE (lsC (lsI _ _) (lsC (lsL fun _=>(aD _)) lsN))),⟨(lsE (aN _)),⟨nle rfl,trivial⟩⟩⟩⟩,trivial⟩⟩,⟨(aJa (fun _=>(lsL fun _=>(lsI _ _))) _),⟨⟨nle rfl,⟨(lsE (lsC (lsI _ _) (lsC (lsL fun _=>(aD _)) lsN))),⟨(lsE (aN _)),⟨nle rfl,trivial⟩⟩⟩⟩,trivial⟩⟩,?_⟩
 have h:W (aE3 (aA5 k) a0 c1 c2 m0) (fun z=>z=y):=kY hF rfl
 rw [aE3.eq_1] at h
 refine aA dCo rfl fun K hK=>?_;conv=>whnf
 refine hK _ _ _ ?_
 refine aE ?_
 refine aA dCo rfl fun K hK=>?_;conv=>whnf
 refine gKo rfl ?_;conv=>whnf
 refine aE0 (enc:=(eL 1 eI default)) dCo rfl [] kX rfl (nle rfl) ?_;conv=>whnf
 refine hK _ _ _ ?_
 refine aA dCo rfl fun K hK=>?_;conv=>whnf
 refine hK _ _ _ ?_
 refine aW fun K1 K2 hK1 hK2=>?_;conv=>whnf
 refine cLk h (fun _ h=>?_) (fun _ h=>?_)
 ·refine hK1 ?_
  refine aA dCo rfl fun K hK=>?_;conv=>whnf
  refine hK _ _ _ ?_
  refine aP ?_
  refine aJ ?_
  replace h:=aO h
  refine iK dCo fun K hK=>?_;conv=>whnf
  refine hK _ ?_
  cases h
  exact ⟨Wk.refl _,⟨_,rfl,bkW _⟩,rfl,trivial⟩
 refine hK2 ?_
 refine aH ?_
 refine tHn ?_
 refine aA dCo rfl fun K hK=>?_;conv=>whnf
 refine hK _ _ _ ?_
 refine aE ?_
 refine aA dCo rfl fun K hK=>?_;conv=>whnf
 refine gKo rfl ?_;conv=>whnf
 refine hK _ _ _ ?_
 refine aF ?_
 replace h:=bM h
 refine aG3 (body:=aBV _ _ _ _) rfl h [0,1,3,4,20] (fun σ=>aBY σ [1]++oV σ []++rV σ []) [] (fun kl kh ids b s=>⟨ofL ([(9,(eL 1 eI default) s.1),(21,eI s.2.1)]++kl),ofH ([(0,abM (eL 1 eI default) s.2.2)]++kh),b+64⟩) ?_;(conv=>whnf);refine And.intro ?_ (fun s m h=>dG ?_)
 ·refine aY ?_;conv=>whnf
  exact And.intro rfl (And.intro (aLc (WkR.wk kX (lsL fun _=>(lsI _ _))) (aLc wkI (aLc wkI (aLc (pD (aB (WkR.mp (fun _=>rfl)) bB)) (aLc (wkr (lsE (aN _))) (aLc (WkR.ptr (fun _=>rfl)) (aLc wkI aLn))))))) (aLc ⟨some _,rfl,iY (enc:=(eL 1 eI default)) rfl (fun _=>(lsL fun _=>(lsI _ _)))⟩ (aLc ⟨some _,rfl,bRc rfl (cKc (fA bB (aB (pD (aB (WkR.mp (fun _=>rfl)) bB)) (aB (wkr (lsE (lsC (lsI _ _) (lsC (lsL fun _=>(aD _)) lsN)))) (aB (wkr (lsE (aN _))) (aB (WkR.ptr (fun _=>rfl)) bB))))) cKn)⟩ aLn)))
 replace h:=bM h;rw [aBV.eq_1] at h
 refine aA dCo rfl fun K hK=>?_;conv=>whnf
 refine hK _ _ _ ?_
 refine aE ?_
 refine aW fun K1 K2 hK1 hK2=>?_;conv=>whnf
 refine cLk h (fun _ h=>?_) (fun _ h=>?_)
 ·refine hK1 ?_
  refine aH ?_
  refine tHn ?_
  refine aE ?_
  refine aF ?_
  refine aA dCo rfl fun K hK=>?_;conv=>whnf
  refine hK _ _ _ ?_
  refine aA dCo rfl fun K hK=>?_;conv=>whnf
  replace h:=nL h
  refine cH h fun hx49 h=>?_;conv=>whnf
  refine dS rfl hx49 ?_;conv=>whnf
  refine cH h fun _ h=>?_;conv=>whnf
  refine cLk h (fun _ h=>?_) (fun _ h=>?_)<;>(conv=>whnf)
  ·refine nlA rfl ?_;conv=>whnf
   refine bKo rfl ?_;conv=>whnf
   refine gKo rfl ?_;conv=>whnf
   refine dM (bs:=[.ab (abM (eL 1 eI default) _),.fn 59 [.m 0,.v _,.v _,.p 1]]) (args0:=[_,.ep [.mp 0] 0,_,_,.ptr 1 0]) h59 [_,_] h (.cons (sE (Wk.refl _) (lsI _ _)) (.cons (aA4 (pZ (aBb rfl) rE)) (.cons (bL (lsE (lsC (lsI _ _) (lsC (lsL fun _=>(aD _)) lsN)))) (.cons (bL (lsE (aN _))) (.cons (eU rfl) .nil))))) ⟨⟨_,rfl,bkW _⟩,rfl,trivial⟩ rfl (nle rfl) (fun y e=>(⟨_,_,_,_,_,rfl,rfl,e,rfl,rfl⟩:pE _ _ _ _ _)) (fun _ h=>?_);conv=>whnf
   refine hK _ _ _ ?_
   replace h:=nL h
   refine aW fun K1 K2 hK1 hK2=>?_;conv=>whnf
   refine cLk h (fun _ h=>?_) (fun _ h=>?_)
   ·refine hK1 ?_
    refine cK dCo rfl fun K hK=>?_;conv=>whnf
    refine nlA rfl ?_;conv=>whnf
    refine bKo rfl ?_;conv=>whnf
    refine gKo rfl ?_;conv=>whnf
    refine dM (bs:=[.ab (abM (eL 1 eI default) _),.fn 59 [.m 0,.v _,.v _,.p 1]]) (args0:=[_,.ep [.mp 0] 0,_,_,.ptr 1 0]) h59 [_,_] h (.cons (sE (Wk.refl _) (lsI _ _)) (.cons (aA4 (pZ (aBb rfl) rE)) (.cons (bL (lsE (lsC (lsI _ _) (lsC (lsL fun _=>(aD _)) lsN)))) (.cons (bL (lsE (aN _))) (.cons (eU rfl) .nil))))) ⟨⟨_,rfl,bkW _⟩,rfl,trivial⟩ rfl (nle rfl) (fun y e=>(⟨_,_,_,_,_,rfl,rfl,e,rfl,rfl⟩:pE _ _ _ _ _)) (fun _ h=>?_);conv=>whnf
    refine hK _ _ _ ?_
    refine iBn ?_
    refine tHn ?_
    refine cK dCo rfl fun K hK=>?_;conv=>whnf
    refine hK _ _ _ ?_
    refine tHn ?_
    replace h:=bF h
    refine ⟨_,h,?_⟩
    refine aY ?_;conv=>whnf
    exact And.intro rfl (And.intro (aLc (wkr (lsL fun _=>(lsI _ _))) (aLc wkI (aLc wkI (aLc (pD (aB (WkR.mp (fun _=>rfl)) bB)) (aLc (wkr (lsE (aN _))) (aLc (WkR.ptr (fun _=>rfl)) (aLc wkI aLn))))))) (aLc ⟨some _,rfl,iY (enc:=(eL 1 eI default)) rfl (fun _=>(lsL fun _=>(lsI _ _)))⟩ (aLc ⟨some _,rfl,bRc rfl (cKc (fA bB (aB (pD (aB (WkR.mp (fun _=>rfl)) bB)) (aB (wkr (lsE (lsC (lsI _ _) (lsC (lsL fun _=>(aD _)) lsN)))) (aB (wkr (lsE (aN _))) (aB (WkR.ptr (fun _=>rfl)) bB))))) cKn)⟩ aLn)))
   refine hK2 ?_
   refine aH ?_
   refine iBn ?_
   refine tHn ?_
   refine cK dCo rfl fun K hK=>?_;conv=>whnf
   refine hK _ _ _ ?_
   refine tHn ?_
   replace h:=bF h
   refine ⟨_,h,?_⟩
   refine aY ?_;conv=>whnf
   exact And.intro rfl (And.intro (aLc (wkr (lsL fun _=>(lsI _ _))) (aLc wkI (aLc wkI (aLc (pD (aB (WkR.mp (fun _=>rfl)) bB)) (aLc (wkr (lsE (aN _))) (aLc (WkR.ptr (fun _=>rfl)) (aLc wkI aLn))))))) (aLc ⟨some _,rfl,iY (enc:=(eL 1 eI default)) rfl (fun _=>(lsL fun _=>(lsI _ _)))⟩ (aLc ⟨some _,rfl,bRc rfl (cKc (fA bB (aB (pD (aB (WkR.mp (fun _=>rfl)) bB)) (aB (wkr (lsE (lsC (lsI _ _) (lsC (lsL fun _=>(aD _)) lsN)))) (aB (wkr (lsE (aN _))) (aB (WkR.ptr (fun _=>rfl)) bB))))) cKn)⟩ aLn)))
  refine hK _ _ _ ?_
  replace h:=nL h
  refine aW fun K1 K2 hK1 hK2=>?_;conv=>whnf
  refine hK2 ?_
  replace h:=sV h
  refine aH ?_
  refine iBn ?_
  refine tHn ?_
  refine cK dCo rfl fun K hK=>?_;conv=>whnf
  refine hK _ _ _ ?_
  refine tHn ?_
  replace h:=bF h
  refine ⟨_,h,?_⟩
  refine aY ?_;conv=>whnf
  exact And.intro rfl (And.intro (aLc (wkr (lsL fun _=>(lsI _ _))) (aLc wkI (aLc wkI (aLc (pD (aB (WkR.mp (fun _=>rfl)) bB)) (aLc (wkr (lsE (aN _))) (aLc (WkR.ptr (fun _=>rfl)) (aLc wkI aLn))))))) (aLc ⟨some _,rfl,iY (enc:=(eL 1 eI default)) rfl (fun _=>(lsL fun _=>(lsI _ _)))⟩ (aLc ⟨some _,rfl,bRc rfl (cKc (fA bB (aB (pD (aB (WkR.mp (fun _=>rfl)) bB)) (aB (wkr (lsE (lsC (lsI _ _) (lsC (lsL fun _=>(aD _)) lsN)))) (aB (wkr (lsE (aN _))) (aB (WkR.ptr (fun _=>rfl)) bB))))) cKn)⟩ aLn)))
 refine hK2 ?_
 refine bD ?_
 refine aT ?_
 refine aT ?_
 refine aS ?_
 replace h:=dI h
 replace h:=dK h
 refine tHn ?_
 refine rB dCo gD rfl (by kernel_rfl) fun K hK=>?_;conv=>whnf
 refine gKo rfl ?_;conv=>whnf
 refine eK (enc:=eI) (d:=default) dCo h rfl rfl rfl ⟨nle rfl,nle rfl,rfl⟩ rfl ⟨⟨rfl,rfl,rfl⟩,trivial⟩ (fun h=>?_);conv=>whnf
 refine aHU (enc:=eI) (d:=default) dCo h rfl rfl rfl ⟨rfl,nle rfl,nle rfl,nle rfl,rfl⟩ (fun _=>rfl) (fun h=>?_);conv=>whnf
 refine fM (enc:=(eL 1 eI default)) dCo rfl rfl ?_;conv=>whnf
 refine hK _ _ _ ?_
 refine aA dCo rfl fun K hK=>?_;conv=>whnf
 refine gKo rfl ?_;conv=>whnf
 refine aFZ (enc:=(eL 1 eI default)) dCo rfl [] kX rfl (nle rfl) ?_;conv=>whnf
 refine hK _ _ _ ?_
 refine aP ?_
 replace h:=aO h
 refine iK dCo fun K hK=>?_;conv=>whnf
 refine hK _ ?_
 cases h
 exact ⟨Wk.refl _,⟨_,rfl,bkW _⟩,rfl,trivial⟩
theorem aIe {T:Tbl} (hT:TOk Tryd.prog T) (hpf:cY T PF):FOk Tryd.prog 59 (qH (pE 10)):=
 uB (S:=pE) hT hpf (by decide) Tryd.func59 rfl (by decide) (by rintro a b c d ⟨a0,c1,c2,m0,y,-,-,h,-⟩;cases h) (fun k T' hT' hpf' hne h=>aHZ k hT' hpf' h) 10
  def mU (a0:aG) (y1:(Ar 8)×Bool) (s2:(List Int)×Int×(GM (List Int))):Option (Ct ((List Int)×Int×(GM (List Int))) ((List Int)×Int)):=cn (decide (s2.2.1<a0.N)) (bd (aA5 10 s2.2.1 a0 y1.1 s2.2.2) fun y3=>
  jn (fun p4:(List Int)×(GM (List Int))=>some (.nx (p4.1,(wr (s2.2.1+1)),p4.2))) fun k5=>cn (decide ((y3.1.length:Int) >
  (s2.1.length:Int))) (bd (aA5 10 s2.2.1 a0 y1.1 y3.2) fun y6=>k5 (y6.1,y6.2)) (k5 (s2.1,y3.2))) (some (.bk (s2.1,s2.2.1,s2.2.2)))
def lI (a0:aG):Option ((List Int)×Int):=bd (bP a0) fun y1=>
  cn (!y1.2) (some ([],70)) (bd (lp (mU a0 y1) FU ([],0,(GM.mt (List Int)))) fun c7=>smK c7 (fun s8=>gd (s8.1.length≤1048576) (lt s8.1 fun m10=>
  some (m10,0))) (fun r9=>some r9))
def jF:List AV→AV→Prop:=fun args r=>∃ a0,args=[bJ a0]∧W (lI a0) fun y=>r=(.tup [(eL 1 eI default) y.1,eI y.2])
theorem wV {T:Tbl} (hT:TOk Tryd.prog T) (hpf:cY T PF) (h54:T 54=aK cF) (h59:T 59=qH (pE 10)) (h60:T 60=xA 1 eI default):FOk Tryd.prog 29 (aK jF):=by
 refine bG hT hpf Tryd.func29 rfl Tryd.ntmps29 Tryd.results29 (by decide) ?_
 rintro args r ⟨a0,rfl,h⟩
 refine ⟨nle rfl,?_,?_⟩
 ·exact (lsC (cB _) lsN)
 rw [lI.eq_1] at h
 refine aA dCo rfl fun K hK=>?_;conv=>whnf
 refine hK _ _ _ ?_
 refine aA dCo rfl fun K hK=>?_;conv=>whnf
 refine nlA rfl ?_;conv=>whnf
 refine bKo rfl ?_;conv=>whnf
 refine nlA rfl ?_;conv=>whnf
 replace h:=bM h
 refine cC h54 h (WkL.refl _) (fun _ h=>?_);conv=>whnf
 refine aQ ?_;conv=>whnf
 refine aQ ?_;conv=>whnf
 refine aQ ?_;conv=>whnf
 refine bKo rfl ?_;conv=>whnf
 refine pS rfl rfl rfl ?_;conv=>whnf
 refine hK _ _ _ ?_
 refine aE ?_
 refine aA dCo rfl fun K hK=>?_;conv=>whnf
 refine hK _ _ _ ?_
 refine aW fun K1 K2 hK1 hK2=>?_;conv=>whnf
 refine cLk h (fun _ h=>?_) (fun _ h=>?_)
 ·refine hK1 ?_
  refine aA dCo rfl fun K hK=>?_;conv=>whnf
  refine hK _ _ _ ?_
  refine aP ?_
  refine aJ ?_
  replace h:=aO h
  refine aM dCo fun K hK=>?_;conv=>whnf
  refine hK _ ?_
  cases h
  exact pR (aC kX (aC (Wk.refl _) bA))
 refine hK2 ?_
 refine aH ?_
 refine tHn ?_
 refine aA dCo rfl fun K hK=>?_;conv=>whnf
 refine bKo rfl ?_;conv=>whnf
 refine And.intro rfl (And.intro (nle rfl) (And.intro rfl ?_));conv=>whnf
 refine hK _ _ _ ?_
 refine aA dCo rfl fun K hK=>?_;conv=>whnf
 refine hK _ _ _ ?_
 refine lU 6 ?_;(conv=>whnf);refine ⟨_,rfl,?_⟩
 refine lU 1 ?_;(conv=>whnf);refine ⟨_,rfl,?_⟩
 refine lU 4 ?_;(conv=>whnf);refine ⟨_,rfl,?_⟩
 refine aA dCo rfl fun K hK=>?_;conv=>whnf
 refine bKo rfl ?_;conv=>whnf
 refine And.intro rfl (And.intro (nle rfl) (And.intro rfl ?_));conv=>whnf
 refine hK _ _ _ ?_
 refine aA dCo rfl fun K hK=>?_;conv=>whnf
 refine hK _ _ _ ?_
 refine aE ?_
 refine aA dCo rfl fun K hK=>?_;conv=>whnf
 refine gKo rfl ?_;conv=>whnf
 refine hK _ _ _ ?_
 refine aF ?_
 replace h:=bM h
 refine gJ (body:=mU _ _) rfl h [7,17,20] [7] [17] (fun kl kh ids b s=>⟨ofL ([(8,(eL 1 eI default) s.1),(21,eI s.2.1)]++kl),ofH ([(wW ids 0,abM (eL 1 eI default) s.2.2)]++kh),b+64⟩) ?_;(conv=>whnf);refine And.intro ?_ (fun s m h=>dG ?_)
 ·refine aY ?_;conv=>whnf
  exact And.intro rfl (And.intro (aLc (WkR.wk kX (lsL fun _=>(lsI _ _))) (aLc wkI (aLc (WkR.ptr (fun _=>rfl)) (aLc (WkR.mp (fun _=>rfl)) (aLc wkI aLn))))) (aLc ⟨some _,rfl,iY (enc:=(eL 1 eI default)) (m:=(GM.mt (List Int))) rfl (fun _=>(lsL fun _=>(lsI _ _)))⟩ (aLc ⟨some _,rfl,bRc rfl (cKc (fA bB (aB (pD (aB (WkR.mp (fun _=>rfl)) bB)) (aB (wkr (lsE (lsC (lsI _ _) (lsC (lsL fun _=>(aD _)) lsN)))) (aB (wkr (lsE (aN _))) (aB (WkR.ptr (fun _=>rfl)) bB))))) cKn)⟩ aLn)))
 replace h:=bM h;rw [mU.eq_1] at h
 refine aA dCo rfl fun K hK=>?_;conv=>whnf
 refine hK _ _ _ ?_
 refine aE ?_
 refine aW fun K1 K2 hK1 hK2=>?_;conv=>whnf
 refine cLk h (fun _ h=>?_) (fun _ h=>?_)
 ·refine hK1 ?_
  refine aH ?_
  refine tHn ?_
  refine aE ?_
  refine aF ?_
  refine aA dCo rfl fun K hK=>?_;conv=>whnf
  refine hK _ _ _ ?_
  refine aA dCo rfl fun K hK=>?_;conv=>whnf
  refine nlA rfl ?_;conv=>whnf
  refine bKo rfl ?_;conv=>whnf
  refine gKo rfl ?_;conv=>whnf
  refine dM (bs:=[.ab (abM (eL 1 eI default) _),.fn 59 [.m 0,.v _,.v _,.p 1]]) (args0:=[_,.ep [.mp 0] 0,_,_,.ptr 1 0]) h59 [_,_] h (.cons (sE (Wk.refl _) (lsI _ _)) (.cons (aA4 (pZ (aBb rfl) rE)) (.cons (bL (lsE (lsC (lsI _ _) (lsC (lsL fun _=>(aD _)) lsN)))) (.cons (bL (lsE (aN _))) (.cons (eU rfl) .nil))))) ⟨⟨_,rfl,bkW _⟩,rfl,trivial⟩ rfl (nle rfl) (fun y e=>(⟨_,_,_,_,_,rfl,rfl,e,rfl,rfl⟩:pE 10 _ _ _ _)) (fun _ h=>?_);conv=>whnf
  refine hK _ _ _ ?_
  replace h:=nL h
  refine aW fun K1 K2 hK1 hK2=>?_;conv=>whnf
  refine cLk h (fun _ h=>?_) (fun _ h=>?_)
  ·refine hK1 ?_
   refine cK dCo rfl fun K hK=>?_;conv=>whnf
   refine nlA rfl ?_;conv=>whnf
   refine bKo rfl ?_;conv=>whnf
   refine gKo rfl ?_;conv=>whnf
   refine dM (bs:=[.ab (abM (eL 1 eI default) _),.fn 59 [.m 0,.v _,.v _,.p 1]]) (args0:=[_,.ep [.mp 0] 0,_,_,.ptr 1 0]) h59 [_,_] h (.cons (sE (Wk.refl _) (lsI _ _)) (.cons (aA4 (pZ (aBb rfl) rE)) (.cons (bL (lsE (lsC (lsI _ _) (lsC (lsL fun _=>(aD _)) lsN)))) (.cons (bL (lsE (aN _))) (.cons (eU rfl) .nil))))) ⟨⟨_,rfl,bkW _⟩,rfl,trivial⟩ rfl (nle rfl) (fun y e=>(⟨_,_,_,_,_,rfl,rfl,e,rfl,rfl⟩:pE 10 _ _ _ _)) (fun _ h=>?_);conv=>whnf
   refine hK _ _ _ ?_
   refine iBn ?_
   refine tHn ?_
   refine cK dCo rfl fun K hK=>?_;conv=>whnf
   refine hK _ _ _ ?_
   refine tHn ?_
   replace h:=bF h
   refine ⟨_,h,?_⟩
   refine aY ?_;conv=>whnf
   exact And.intro rfl (And.intro (aLc (wkr (lsL fun _=>(lsI _ _))) (aLc wkI (aLc (WkR.ptr (fun _=>rfl)) (aLc (WkR.mp (fun _=>rfl)) (aLc wkI aLn))))) (aLc ⟨some _,rfl,iY (enc:=(eL 1 eI default)) rfl (fun _=>(lsL fun _=>(lsI _ _)))⟩ (aLc ⟨some _,rfl,bRc rfl (cKc (fA bB (aB (pD (aB (WkR.mp (fun _=>rfl)) bB)) (aB (wkr (lsE (lsC (lsI _ _) (lsC (lsL fun _=>(aD _)) lsN)))) (aB (wkr (lsE (aN _))) (aB (WkR.ptr (fun _=>rfl)) bB))))) cKn)⟩ aLn)))
  refine hK2 ?_
  refine aH ?_
  refine iBn ?_
  refine tHn ?_
  refine cK dCo rfl fun K hK=>?_;conv=>whnf
  refine hK _ _ _ ?_
  refine tHn ?_
  replace h:=bF h
  refine ⟨_,h,?_⟩
  refine aY ?_;conv=>whnf
  exact And.intro rfl (And.intro (aLc (wkr (lsL fun _=>(lsI _ _))) (aLc wkI (aLc (WkR.ptr (fun _=>rfl)) (aLc (WkR.mp (fun _=>rfl)) (aLc wkI aLn))))) (aLc ⟨some _,rfl,iY (enc:=(eL 1 eI default)) rfl (fun _=>(lsL fun _=>(lsI _ _)))⟩ (aLc ⟨some _,rfl,bRc rfl (cKc (fA bB (aB (pD (aB (WkR.mp (fun _=>rfl)) bB)) (aB (wkr (lsE (lsC (lsI _ _) (lsC (lsL fun _=>(aD _)) lsN)))) (aB (wkr (lsE (aN _))) (aB (WkR.ptr (fun _=>rfl)) bB))))) cKn)⟩ aLn)))
 refine hK2 ?_
 refine bD ?_
 refine aT ?_
 refine aT ?_
 refine aS ?_
 replace h:=dI h
 replace h:=dK h
 refine tHn ?_
 refine aA dCo rfl fun K hK=>?_;conv=>whnf
 refine aEb h fun hg h=>?_
 replace h:=aLd h
 refine tQ h60 (aC (Wk.refl _) bA) hg (fun _=>(lsC (lsI _ _) lsN)) ?_;conv=>whnf
 refine hK _ _ _ ?_
 refine nY 2 (enc:=eI) (e:=3) default (mI dCo rfl rfl rfl (fun _=>⟨rfl,rfl⟩)) ?_;(conv=>whnf);refine ⟨_,_,rfl,rfl,rfl,?_⟩
 refine aP ?_
 replace h:=aO h
 refine aM dCo fun K hK=>?_;conv=>whnf
 refine hK _ ?_
 cases h
 exact Wk.refl _
theorem tV {T:Tbl} (hT:T 29=aK jF) {args:List AV} {hp:aU} {id:Nat} {k:AV→Prop} {a0:aG} {Φ:(List Int)×Int→Prop} (h:W (lI a0) Φ) (hw:WkL args [bJ a0]) (hk:∀ y,Φ y→k (.tup [(eL 1 eI default) y.1,eI y.2])):dC T 29 args hp id k:=by
 obtain ⟨y,e,hy⟩:=fG h
 exact aX hT ⟨a0,rfl,kY e rfl⟩ (by exact fO (lsC (lsL fun _=>(lsI _ _)) (lsC (lsI _ _) lsN))) hw (hk y hy)
def jE (a0:Int) (a1:Ar 8) (s2:(List Int)×Int×Int):Option (Ct ((List Int)×Int×Int) (List Int)):=cn (decide (s2.2.2<a0)) (jn (fun p3:Bool=>
  cn p3 (lt ([s2.2.2]:List Int) fun l5=>ap s2.1 l5 fun l6=>gd (0≤s2.2.2) (let v7:=(bor .i64 s2.2.1 (aDz .i64 1 s2.2.2));
  some (.bk (l6,v7,s2.2.2)))) (some (.nx (s2.1,s2.2.1,(wr (s2.2.2+1)))))) fun k4=>gd (0≤s2.2.2) (cn ((tL .i64 (rR .i64 s2.2.1 s2.2.2) 1) ==
  0) (gd (0≤s2.2.2∧s2.2.2<(8:Int)) (k4 ((pV .i64 (a1.at1 s2.2.2) s2.2.1)==0))) (k4 false))) (some (.bk (s2.1,s2.2.1,s2.2.2)))
  def iX (a0:Int) (a1:Ar 8) (s1:(List Int)×Int):Option (Ct ((List Int)×Int) (List Int)):=cn (decide ((s1.1.length:Int)<a0)) (bd (lp (jE a0 a1) FU (s1.1,s1.2,0)) fun c8=>
  smK c8 (fun s9=>some (.nx (s9.1,s9.2.1))) (fun r10=>some (.rt r10))) (some (.bk (s1.1,s1.2)))
def fK (a0:Int) (a1:Ar 8):Option (List Int):=bd (lp (iX a0 a1) FU ([],0)) fun c11=>smK c11 (fun s12=>some s12.1) (fun r13=>some r13)
def gM:List AV→AV→Prop:=fun args r=>∃ a0 a1,args=[eI a0,eAr a1]∧W (fK a0 a1) fun y=>r=((eL 1 eI default) y)
theorem yD {T:Tbl} (hT:TOk Tryd.prog T) (hpf:cY T PF):FOk Tryd.prog 57 (aK gM):=by
 refine bG hT hpf Tryd.func57 rfl Tryd.ntmps57 Tryd.results57 (by decide) ?_
 rintro args r ⟨a0,a1,rfl,h⟩
 refine ⟨nle rfl,?_,?_⟩
 ·exact (lsC (lsI _ _) (lsC (pF _) lsN))
 rw [fK.eq_1] at h
 refine aA dCo rfl fun K hK=>?_;conv=>whnf
 refine aQ ?_;conv=>whnf
 refine hK _ _ _ ?_
 refine aA dCo rfl fun K hK=>?_;conv=>whnf
 refine hK _ _ _ ?_
 refine aE ?_
 refine aA dCo rfl fun K hK=>?_;conv=>whnf
 refine hK _ _ _ ?_
 refine aF ?_
 replace h:=bM h
 refine gC (body:=iX _ _) rfl h [0,3] [] [3] [] (fun kl kh kr ids b s=>⟨ofL ([(5,.so (b+0) 0 s.1.length 1),(6,eI s.2)]++kl),ofH (([]++kh)++([(b+0,.cells (flE (ceE eI) s.1))]++kr)),b+128⟩) ?_;(conv=>whnf);refine And.intro ?_ (fun s m h=>dG ?_)
 ·refine bE ?_;conv=>whnf
  exact And.intro rfl (And.intro (aLc (WkR.nilso (fun _=>rfl)) (aLc wkI (aLc wkI (aLc (WkR.ptr (fun _=>rfl)) aLn)))) (aLc ⟨none,rfl,aBC⟩ (aLc ⟨some _,rfl,aV rfl rfl⟩ aLn)))
 replace h:=bM h;rw [iX.eq_1] at h
 refine aE ?_
 refine aA dCo rfl fun K hK=>?_;conv=>whnf
 refine hK _ _ _ ?_
 refine aW fun K1 K2 hK1 hK2=>?_;conv=>whnf
 refine cLk h (fun _ h=>?_) (fun _ h=>?_)
 ·refine hK1 ?_
  refine aH ?_
  refine tHn ?_
  refine aF ?_
  refine aA dCo rfl fun K hK=>?_;conv=>whnf
  refine hK _ _ _ ?_
  refine aF ?_
  replace h:=bM h
  refine gC (body:=jE _ _) rfl h [0,3,12] [] [3] [] (fun kl kh kr ids b s=>⟨ofL ([(5,.so (b+0) 0 s.1.length 1),(6,eI s.2.1),(13,eI s.2.2)]++kl),ofH (([]++kh)++([(b+0,.cells (flE (ceE eI) s.1))]++kr)),b+128⟩) ?_;(conv=>whnf);refine And.intro ?_ (fun s m h=>dG ?_)
  ·refine bE ?_;conv=>whnf
   exact And.intro rfl (And.intro (aLc (WkR.so (fun _=>rfl)) (aLc wkI (aLc wkI (aLc wkI (aLc (WkR.ptr (fun _=>rfl)) (aLc wkI aLn)))))) (aLc ⟨some _,rfl,gX rfl (fun _=>(lsC (lsI _ _) lsN))⟩ (aLc ⟨some _,rfl,aV rfl rfl⟩ aLn)))
  replace h:=bM h;rw [jE.eq_1] at h
  refine aA dCo rfl fun K hK=>?_;conv=>whnf
  refine hK _ _ _ ?_
  refine aE ?_
  refine aW fun K1 K2 hK1 hK2=>?_;conv=>whnf
  refine cLk h (fun _ h=>?_) (fun _ h=>?_)
  ·refine hK1 ?_
   refine aH ?_
   refine tHn ?_
   refine aE ?_
   refine aF ?_
   refine aA dCo rfl fun K hK=>?_;conv=>whnf
   refine hK _ _ _ ?_
   refine aA dCo rfl fun K hK=>?_;conv=>whnf
   replace h:=nL h
   refine cH h fun _ h=>?_;conv=>whnf
   refine cLk h (fun _ h=>?_) (fun _ h=>?_)<;>(conv=>whnf)
   ·refine cH h fun hx113 h=>?_;conv=>whnf
    refine nlA rfl ?_;conv=>whnf
    refine bKo rfl ?_;conv=>whnf
    refine dS rfl hx113 ?_;conv=>whnf
    refine hK _ _ _ ?_
    refine aW fun K1 K2 hK1 hK2=>?_;conv=>whnf
    refine cLk h (fun _ h=>?_) (fun _ h=>?_)
    ·refine hK1 ?_
     refine rB dCo gD rfl (by kernel_rfl) fun K hK=>?_;conv=>whnf
     refine eK (enc:=eI) (d:=default) dCo h rfl rfl rfl ⟨nle rfl,nle rfl,rfl⟩ rfl ⟨⟨rfl,rfl,rfl⟩,trivial⟩ (fun h=>?_);conv=>whnf
     refine aBf (enc:=eI) (d:=default) dCo h rfl rfl rfl ⟨rfl,nle rfl,nle rfl,nle rfl,rfl⟩ (fun _=>rfl) (fun _=>rfl) (fun _=>nofun) rfl (rfl) (fun h=>?_);conv=>whnf
     refine cH h fun _ h=>?_;conv=>whnf
     refine hK _ _ _ ?_
     refine bD ?_
     refine aEX (by decide) ?_
     refine aT ?_
     refine aT ?_
     refine aS ?_
     replace h:=dI h
     replace h:=dK h
     refine iBn ?_
     refine tHn ?_
     replace h:=bF h
     refine ⟨_,h,?_⟩
     refine bE ?_;conv=>whnf
     exact And.intro rfl (And.intro (aLc (WkR.so (fun _=>rfl)) (aLc wkI (aLc wkI (aLc (WkR.ptr (fun _=>rfl)) aLn)))) (aLc ⟨some _,rfl,gX rfl (fun _=>(lsC (lsI _ _) lsN))⟩ (aLc ⟨some _,rfl,aV rfl rfl⟩ aLn)))
    refine hK2 ?_
    refine aH ?_
    refine iBn ?_
    refine tHn ?_
    refine cK dCo rfl fun K hK=>?_;conv=>whnf
    refine hK _ _ _ ?_
    refine tHn ?_
    replace h:=bF h
    refine ⟨_,h,?_⟩
    refine bE ?_;conv=>whnf
    exact And.intro rfl (And.intro (aLc (WkR.so (fun _=>rfl)) (aLc wkI (aLc wkI (aLc wkI (aLc (WkR.ptr (fun _=>rfl)) (aLc wkI aLn)))))) (aLc ⟨some _,rfl,gX rfl (fun _=>(lsC (lsI _ _) lsN))⟩ (aLc ⟨some _,rfl,aV rfl rfl⟩ aLn)))
   refine hK _ _ _ ?_
   refine aW fun K1 K2 hK1 hK2=>?_;conv=>whnf
   refine hK2 ?_
   replace h:=sV h
   refine aH ?_
   refine iBn ?_
   refine tHn ?_
   refine cK dCo rfl fun K hK=>?_;conv=>whnf
   refine hK _ _ _ ?_
   refine tHn ?_
   replace h:=bF h
   refine ⟨_,h,?_⟩
   refine bE ?_;conv=>whnf
   exact And.intro rfl (And.intro (aLc (WkR.so (fun _=>rfl)) (aLc wkI (aLc wkI (aLc wkI (aLc (WkR.ptr (fun _=>rfl)) (aLc wkI aLn)))))) (aLc ⟨some _,rfl,gX rfl (fun _=>(lsC (lsI _ _) lsN))⟩ (aLc ⟨some _,rfl,aV rfl rfl⟩ aLn)))
  refine hK2 ?_
  refine bD ?_
  refine aT ?_
  refine aT ?_
  refine aS ?_
  replace h:=dI h
  replace h:=dK h
  refine iBn ?_
  refine tHn ?_
  replace h:=bF h
  refine ⟨_,h,?_⟩
  refine bE ?_;conv=>whnf
  exact And.intro rfl (And.intro (aLc (WkR.so (fun _=>rfl)) (aLc wkI (aLc wkI (aLc (WkR.ptr (fun _=>rfl)) aLn)))) (aLc ⟨some _,rfl,gX rfl (fun _=>(lsC (lsI _ _) lsN))⟩ (aLc ⟨some _,rfl,aV rfl rfl⟩ aLn)))
 refine hK2 ?_
 refine bD ?_
 refine aT ?_
 refine aT ?_
 refine aS ?_
 replace h:=dI h
 replace h:=dK h
 refine tHn ?_
 refine aA dCo rfl fun K hK=>?_;conv=>whnf
 refine hK _ _ _ ?_
 refine nY 4 (enc:=eI) (e:=3) default (mI dCo rfl rfl rfl (fun _=>⟨rfl,rfl⟩)) ?_;(conv=>whnf);refine ⟨_,_,rfl,rfl,rfl,?_⟩
 refine aP ?_
 replace h:=aO h
 refine aM dCo fun K hK=>?_;conv=>whnf
 refine hK _ ?_
 cases h
 exact Wk.refl _
theorem lW {T:Tbl} (hT:T 57=aK gM) {args:List AV} {hp:aU} {id:Nat} {k:AV→Prop} {a0:Int} {a1:Ar 8} {Φ:List Int→Prop} (h:W (fK a0 a1) Φ) (hw:WkL args [eI a0,eAr a1]) (hk:∀ y,Φ y→k ((eL 1 eI default) y)):dC T 57 args hp id k:=by
 obtain ⟨y,e,hy⟩:=fG h
 exact aX hT ⟨a0,a1,rfl,kY e rfl⟩ (by exact (lsL fun _=>(lsI _ _))) hw (hk y hy)
def mL (a0:aG):Option ((List Int)×Int):=bd (bP a0) fun y1=>cn (!y1.2) (some ([],70)) (bd (fK a0.N y1.1) fun y2=>some (y2,0))
def kM:List AV→AV→Prop:=fun args r=>∃ a0,args=[bJ a0]∧W (mL a0) fun y=>r=(.tup [(eL 1 eI default) y.1,eI y.2])
theorem yR {T:Tbl} (hT:TOk Tryd.prog T) (hpf:cY T PF) (h54:T 54=aK cF) (h57:T 57=aK gM):FOk Tryd.prog 19 (aK kM):=by
 refine bG hT hpf Tryd.func19 rfl Tryd.ntmps19 Tryd.results19 (by decide) ?_
 rintro args r ⟨a0,rfl,h⟩
 refine ⟨nle rfl,?_,?_⟩
 ·exact (lsC (cB _) lsN)
 rw [mL.eq_1] at h
 refine aA dCo rfl fun K hK=>?_;conv=>whnf
 refine hK _ _ _ ?_
 refine aA dCo rfl fun K hK=>?_;conv=>whnf
 refine nlA rfl ?_;conv=>whnf
 refine bKo rfl ?_;conv=>whnf
 refine nlA rfl ?_;conv=>whnf
 replace h:=bM h
 refine cC h54 h (WkL.refl _) (fun _ h=>?_);conv=>whnf
 refine aQ ?_;conv=>whnf
 refine aQ ?_;conv=>whnf
 refine aQ ?_;conv=>whnf
 refine bKo rfl ?_;conv=>whnf
 refine pS rfl rfl rfl ?_;conv=>whnf
 refine hK _ _ _ ?_
 refine aE ?_
 refine aA dCo rfl fun K hK=>?_;conv=>whnf
 refine hK _ _ _ ?_
 refine aW fun K1 K2 hK1 hK2=>?_;conv=>whnf
 refine cLk h (fun _ h=>?_) (fun _ h=>?_)
 ·refine hK1 ?_
  refine aA dCo rfl fun K hK=>?_;conv=>whnf
  refine hK _ _ _ ?_
  refine aP ?_
  refine aJ ?_
  replace h:=aO h
  refine aM dCo fun K hK=>?_;conv=>whnf
  refine hK _ ?_
  cases h
  exact pR (aC kX (aC (Wk.refl _) bA))
 refine hK2 ?_
 refine aH ?_
 refine tHn ?_
 refine aA dCo rfl fun K hK=>?_;conv=>whnf
 refine nlA rfl ?_;conv=>whnf
 refine bKo rfl ?_;conv=>whnf
 refine gKo rfl ?_;conv=>whnf
 refine nlA rfl ?_;conv=>whnf
 refine bKo rfl ?_;conv=>whnf
 refine rU rfl ?_;conv=>whnf
 refine aQ ?_;conv=>whnf
 replace h:=bM h
 refine lW h57 h (WkL.refl _) (fun _ h=>?_);conv=>whnf
 refine hK _ _ _ ?_
 refine aP ?_
 replace h:=aO h
 refine aM dCo fun K hK=>?_;conv=>whnf
 refine hK _ ?_
 cases h
 exact Wk.refl _
theorem uO {T:Tbl} (hT:T 19=aK kM) {args:List AV} {hp:aU} {id:Nat} {k:AV→Prop} {a0:aG} {Φ:(List Int)×Int→Prop} (h:W (mL a0) Φ) (hw:WkL args [bJ a0]) (hk:∀ y,Φ y→k (.tup [(eL 1 eI default) y.1,eI y.2])):dC T 19 args hp id k:=by
 obtain ⟨y,e,hy⟩:=fG h
 exact aX hT ⟨a0,rfl,kY e rfl⟩ (by exact fO (lsC (lsL fun _=>(lsI _ _)) (lsC (lsI _ _) lsN))) hw (hk y hy)
def dF (a0:Int):Option Int:=cn (a0 ==
  0) (some 64) (gd (0≤(rR .u64 (IntKind.u64.wrap ((tL .u64 a0 (IntKind.u64.wrap (0-a0))) * 285870213051353865)) 58)∧(rR .u64 (IntKind.u64.wrap ((tL .u64 a0 (IntKind.u64.wrap (0-a0))) * 285870213051353865)) 58)<(64:Int)) (let v1:=(wr ((gTz 1 (rR .u64 (IntKind.u64.wrap ((tL .u64 a0 (IntKind.u64.wrap (0-a0))) * 285870213051353865)) 58))));
  some v1))
def cN:List AV→AV→Prop:=fun args r=>∃ a0,args=[(AV.int .u64) a0]∧W (dF a0) fun y=>r=(eI y)
theorem lG {T:Tbl} (hT:TOk Tryd.prog T) (hpf:cY T PF):FOk Tryd.prog 87 (aK cN):=by
 refine bG hT hpf Tryd.func87 rfl Tryd.ntmps87 Tryd.results87 (by decide) ?_
 rintro args r ⟨a0,rfl,h⟩
 refine ⟨nle rfl,?_,?_⟩
 ·exact (lsC (lsI _ _) lsN)
 rw [dF.eq_1] at h
 refine aA dCo rfl fun K hK=>?_;conv=>whnf
 refine hK _ _ _ ?_
 refine aE ?_
 refine aA dCo rfl fun K hK=>?_;conv=>whnf
 refine hK _ _ _ ?_
 refine aW fun K1 K2 hK1 hK2=>?_;conv=>whnf
 refine cLk h (fun _ h=>?_) (fun _ h=>?_)
 ·refine hK1 ?_
  refine aA dCo rfl fun K hK=>?_;conv=>whnf
  refine hK _ _ _ ?_
  refine aP ?_
  refine aJ ?_
  replace h:=aO h
  refine aM dCo fun K hK=>?_;conv=>whnf
  refine hK _ ?_
  cases h
  exact Wk.refl _
 refine hK2 ?_
 refine aH ?_
 refine tHn ?_
 refine aA dCo rfl fun K hK=>?_;conv=>whnf
 refine And.intro (by decide) ?_;conv=>whnf
 refine cH h fun hx117 h=>?_;conv=>whnf
 refine aIL 1 64 rfl rfl hx117 ?_;conv=>whnf
 refine hK _ _ _ ?_
 refine aP ?_
 replace h:=aO h
 refine aM dCo fun K hK=>?_;conv=>whnf
 refine hK _ ?_
 cases h
 exact Wk.refl _
theorem kG {T:Tbl} (hT:T 87=aK cN) {args:List AV} {hp:aU} {id:Nat} {k:AV→Prop} {a0:Int} {Φ:Int→Prop} (h:W (dF a0) Φ) (hw:WkL args [(AV.int .u64) a0]) (hk:∀ y,Φ y→k (eI y)):dC T 87 args hp id k:=by
 obtain ⟨y,e,hy⟩:=fG h
 exact aX hT ⟨a0,rfl,kY e rfl⟩ (by exact (lsI _ _)) hw (hk y hy)
def dO (a0:Int):Option Int:=bd (dF a0) fun y1=>some y1
def cX:List AV→AV→Prop:=fun args r=>∃ a0,args=[(AV.int .u64) a0]∧W (dO a0) fun y=>r=(eI y)
theorem mH {T:Tbl} (hT:TOk Tryd.prog T) (hpf:cY T PF) (h87:T 87=aK cN):FOk Tryd.prog 82 (aK cX):=by
 refine bG hT hpf Tryd.func82 rfl Tryd.ntmps82 Tryd.results82 (by decide) ?_
 rintro args r ⟨a0,rfl,h⟩
 refine ⟨nle rfl,?_,?_⟩
 ·exact (lsC (lsI _ _) lsN)
 rw [dO.eq_1] at h
 refine aA dCo rfl fun K hK=>?_;conv=>whnf
 refine hK _ _ _ ?_
 refine aE ?_
 refine aW fun K1 K2 hK1 hK2=>?_;conv=>whnf
 refine hK2 ?_
 refine aH ?_
 refine tHn ?_
 refine aA dCo rfl fun K hK=>?_;conv=>whnf
 replace h:=bM h
 refine kG h87 h (WkL.refl _) (fun _ h=>?_);conv=>whnf
 refine hK _ _ _ ?_
 refine aP ?_
 replace h:=aO h
 refine aM dCo fun K hK=>?_;conv=>whnf
 refine hK _ ?_
 cases h
 exact Wk.refl _
theorem lH {T:Tbl} (hT:T 82=aK cX) {args:List AV} {hp:aU} {id:Nat} {k:AV→Prop} {a0:Int} {Φ:Int→Prop} (h:W (dO a0) Φ) (hw:WkL args [(AV.int .u64) a0]) (hk:∀ y,Φ y→k (eI y)):dC T 82 args hp id k:=by
 obtain ⟨y,e,hy⟩:=fG h
 exact aX hT ⟨a0,rfl,kY e rfl⟩ (by exact (lsI _ _)) hw (hk y hy)
def lQ (s1:Int×(List Int)):Option (Ct (Int×(List Int)) (List Int)):=cn (s1.1 != 0) (bd (dO (IntKind.u64.wrap (s1.1))) fun y2=>
  lt ([y2]:List Int) fun l3=>ap s1.2 l3 fun l4=>let v5:=(tL .i64 s1.1 (wr (s1.1-1)));some (.nx (v5,l4))) (some (.bk (s1.1,s1.2)))
def fU (a0:Int):Option (List Int):=bd (lp (lQ) FU (a0,[])) fun c6=>smK c6 (fun s7=>some s7.2) (fun r8=>some r8)
def hG:List AV→AV→Prop:=fun args r=>∃ a0,args=[eI a0]∧W (fU a0) fun y=>r=((eL 1 eI default) y)
theorem uM {T:Tbl} (hT:TOk Tryd.prog T) (hpf:cY T PF) (h82:T 82=aK cX):FOk Tryd.prog 61 (aK hG):=by
 refine bG hT hpf Tryd.func61 rfl Tryd.ntmps61 Tryd.results61 (by decide) ?_
 rintro args r ⟨a0,rfl,h⟩
 refine ⟨nle rfl,?_,?_⟩
 ·exact (lsC (lsI _ _) lsN)
 rw [fU.eq_1] at h
 refine aA dCo rfl fun K hK=>?_;conv=>whnf
 refine hK _ _ _ ?_
 refine aE ?_
 refine aF ?_
 replace h:=bM h
 refine gJ (body:=lQ) rfl h [] [] [] (fun kl kh ids b s=>⟨ofL ([(0,eI s.1),(2,.lst (.tok (b+0)) 1 s.2.length (fun j=>eI (s.2.getD j default)))]++kl),ofH ([(b+0,.cells [])]++kh),b+128⟩) ?_;(conv=>whnf);refine And.intro ?_ (fun s m h=>dG ?_)
 ·refine aY ?_;conv=>whnf
  exact And.intro rfl (And.intro (aLc wkI (aLc (WkR.nil (fun _=>rfl)) aLn)) (aLc ⟨none,rfl,sW⟩ aLn))
 replace h:=bM h;rw [lQ.eq_1] at h
 refine aE ?_
 refine aA dCo rfl fun K hK=>?_;conv=>whnf
 refine hK _ _ _ ?_
 refine aW fun K1 K2 hK1 hK2=>?_;conv=>whnf
 refine cLk h (fun _ h=>?_) (fun _ h=>?_)
 ·refine hK1 ?_
  refine aH ?_
  refine tHn ?_
  refine aE ?_
  refine aF ?_
  refine cK dCo rfl fun K hK=>?_;conv=>whnf
  replace h:=bM h
  refine lH h82 h (WkL.refl _) (fun _ h=>?_);conv=>whnf
  refine eK (enc:=eI) (d:=default) dCo h rfl rfl rfl ⟨nle rfl,nle rfl,rfl⟩ rfl ⟨⟨rfl,rfl,rfl⟩,trivial⟩ (fun h=>?_);conv=>whnf
  refine mG (enc:=eI) (d:=default) dCo h (.inl rfl) rfl rfl rfl ⟨rfl,nle rfl,nle rfl,nle rfl,rfl⟩ (fun _=>rfl) (.inr (.inr ⟨_,_,rfl,rfl,rfl⟩)) (fun h=>?_);conv=>whnf
  refine hK _ _ _ ?_
  refine iBn ?_
  refine tHn ?_
  refine cK dCo rfl fun K hK=>?_;conv=>whnf
  refine hK _ _ _ ?_
  refine tHn ?_
  replace h:=bF h
  refine ⟨_,h,?_⟩
  refine aY ?_;conv=>whnf
  exact And.intro rfl (And.intro (aLc wkI (aLc (WkR.tok (fun _=>rfl) rfl (fun _ _=>Wk.refl _) (fun _=>(lsI _ _))) aLn)) (aLc ⟨some _,rfl,bRc rfl cKn⟩ aLn))
 refine hK2 ?_
 refine bD ?_
 refine aT ?_
 refine aT ?_
 refine aS ?_
 replace h:=dI h
 replace h:=dK h
 refine tHn ?_
 refine aA dCo rfl fun K hK=>?_;conv=>whnf
 refine hK _ _ _ ?_
 refine aP ?_
 replace h:=aO h
 refine aM dCo fun K hK=>?_;conv=>whnf
 refine hK _ ?_
 cases h
 exact cD
theorem sH {T:Tbl} (hT:T 61=aK hG) {args:List AV} {hp:aU} {id:Nat} {k:AV→Prop} {a0:Int} {Φ:List Int→Prop} (h:W (fU a0) Φ) (hw:WkL args [eI a0]) (hk:∀ y,Φ y→k ((eL 1 eI default) y)):dC T 61 args hp id k:=by
 obtain ⟨y,e,hy⟩:=fG h
 exact aX hT ⟨a0,rfl,kY e rfl⟩ (by exact (lsL fun _=>(lsI _ _))) hw (hk y hy)
end Go.Proofs.YtlmboonbfhkfnaaDoor
