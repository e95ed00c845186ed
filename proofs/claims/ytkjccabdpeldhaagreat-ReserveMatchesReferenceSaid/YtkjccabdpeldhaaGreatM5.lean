import Derived.Test.YtkjccabdpeldhaaGreatProg
import Derived.Test.YtkjccabdpeldhaaGreatM3
import Derived.KernelRfl
import Derived.Test.YtkjccabdpeldhaaGreatM4
import Derived.Laws.StructEq
set_option linter.unusedVariables false
set_option linter.unusedSimpArgs false
set_option linter.unusedSectionVars false
namespace Go.Proofs.YtkjccabdpeldhaaGreat
open Go Go.Eng
set_option maxRecDepth 100000
set_option maxHeartbeats 0
def tdL:List (Nat×TD):=[
 (3,⟨.int .i64,1,[.int .i64 0],8⟩),
 (4,⟨.bool,1,[.bool false],1⟩),
 (22,⟨.slice 27,1,[.nils],24⟩),
 (23,⟨.slice 3,1,[.nils],24⟩),
 (24,⟨.slice 71,1,[.nils],24⟩),
 (26,⟨.struct [(3,0),(22,1),(23,2),(23,3),(3,4),(24,5)],6,[.int .i64 0,.nils,.nils,.nils,.int .i64 0,.nils],112⟩),
 (27,⟨.array 3 3,3,[.int .i64 0,.int .i64 0,.int .i64 0],24⟩),
 (28,⟨.slice 67,1,[.nils],24⟩),
 (30,⟨.struct [(3,0),(28,1)],2,[.int .i64 0,.nils],32⟩),
 (31,⟨.slice 69,1,[.nils],24⟩),
 (33,⟨.struct [(30,0),(23,2),(23,3),(3,4),(31,5)],6,[.int .i64 0,.nils,.nils,.nils,.int .i64 0,.nils],112⟩),
 (35,⟨.struct [(3,0),(3,1),(3,2),(3,3)],4,[.int .i64 0,.int .i64 0,.int .i64 0,.int .i64 0],32⟩),
 (40,⟨.slice 33,1,[.nils],24⟩),
 (42,⟨.slice 35,1,[.nils],24⟩),
 (44,⟨.struct [(3,0),(42,1)],2,[.int .i64 0,.nils],32⟩),
 (45,⟨.int .i64,1,[.int .i64 0],8⟩),
 (63,⟨.slice 44,1,[.nils],24⟩),
 (67,⟨.struct [(3,0),(3,1),(3,2)],3,[.int .i64 0,.int .i64 0,.int .i64 0],24⟩),
 (69,⟨.struct [(23,0),(3,1)],2,[.nils,.int .i64 0],32⟩),
 (71,⟨.array 4 3,4,[.int .i64 0,.int .i64 0,.int .i64 0,.int .i64 0],32⟩),
 (92,⟨.struct [(4,0),(23,1),(3,2)],3,[.bool false,.nils,.int .i64 0],40⟩),
 (96,⟨.struct [(3,0),(3,1),(3,2)],3,[.int .i64 0,.int .i64 0,.int .i64 0],24⟩),
 (101,⟨.int .u64,1,[.int .u64 0],8⟩),
 (115,⟨.slice 4,1,[.nils],24⟩),
 (118,⟨.int .u32,1,[.int .u32 0],4⟩),
 (120,⟨.int .u64,1,[.int .u64 0],8⟩)]
def DC:DT:=aM2 tdL
theorem td3:yN Tryz.prog 3 ⟨.int .i64,1,[.int .i64 0],8⟩:=⟨by kernel_rfl,by kernel_rfl,by kernel_rfl,Tryz.underlying3⟩
theorem td4:yN Tryz.prog 4 ⟨.bool,1,[.bool false],1⟩:=⟨by kernel_rfl,by kernel_rfl,by kernel_rfl,Tryz.underlying4⟩
theorem aTH:yN Tryz.prog 22 ⟨.slice 27,1,[.nils],24⟩:=⟨by kernel_rfl,by kernel_rfl,by kernel_rfl,Tryz.underlying22⟩
theorem aTz:yN Tryz.prog 23 ⟨.slice 3,1,[.nils],24⟩:=⟨by kernel_rfl,by kernel_rfl,by kernel_rfl,Tryz.underlying23⟩
theorem aTA:yN Tryz.prog 24 ⟨.slice 71,1,[.nils],24⟩:=⟨by kernel_rfl,by kernel_rfl,by kernel_rfl,Tryz.underlying24⟩
theorem aTK:yN Tryz.prog 26 ⟨.struct [(3,0),(22,1),(23,2),(23,3),(3,4),(24,5)],6,[.int .i64 0,.nils,.nils,.nils,.int .i64 0,.nils],112⟩:=⟨by kernel_rfl,by kernel_rfl,by kernel_rfl,⟨_,Tryz.underlying26,rfl⟩⟩
theorem aTB:yN Tryz.prog 27 ⟨.array 3 3,3,[.int .i64 0,.int .i64 0,.int .i64 0],24⟩:=⟨by kernel_rfl,by kernel_rfl,by kernel_rfl,Tryz.underlying27⟩
theorem aTl:yN Tryz.prog 28 ⟨.slice 67,1,[.nils],24⟩:=⟨by kernel_rfl,by kernel_rfl,by kernel_rfl,Tryz.underlying28⟩
theorem aTD:yN Tryz.prog 30 ⟨.struct [(3,0),(28,1)],2,[.int .i64 0,.nils],32⟩:=⟨by kernel_rfl,by kernel_rfl,by kernel_rfl,⟨_,Tryz.underlying30,rfl⟩⟩
theorem aTt:yN Tryz.prog 31 ⟨.slice 69,1,[.nils],24⟩:=⟨by kernel_rfl,by kernel_rfl,by kernel_rfl,Tryz.underlying31⟩
theorem aTy:yN Tryz.prog 33 ⟨.struct [(30,0),(23,2),(23,3),(3,4),(31,5)],6,[.int .i64 0,.nils,.nils,.nils,.int .i64 0,.nils],112⟩:=⟨by kernel_rfl,by kernel_rfl,by kernel_rfl,⟨_,Tryz.underlying33,rfl⟩⟩
theorem aTw:yN Tryz.prog 35 ⟨.struct [(3,0),(3,1),(3,2),(3,3)],4,[.int .i64 0,.int .i64 0,.int .i64 0,.int .i64 0],32⟩:=⟨by kernel_rfl,by kernel_rfl,by kernel_rfl,⟨_,Tryz.underlying35,rfl⟩⟩
theorem aTo:yN Tryz.prog 40 ⟨.slice 33,1,[.nils],24⟩:=⟨by kernel_rfl,by kernel_rfl,by kernel_rfl,Tryz.underlying40⟩
theorem aTs:yN Tryz.prog 42 ⟨.slice 35,1,[.nils],24⟩:=⟨by kernel_rfl,by kernel_rfl,by kernel_rfl,Tryz.underlying42⟩
theorem aTx:yN Tryz.prog 44 ⟨.struct [(3,0),(42,1)],2,[.int .i64 0,.nils],32⟩:=⟨by kernel_rfl,by kernel_rfl,by kernel_rfl,⟨_,Tryz.underlying44,rfl⟩⟩
theorem aTk:yN Tryz.prog 45 ⟨.int .i64,1,[.int .i64 0],8⟩:=⟨by kernel_rfl,by kernel_rfl,by kernel_rfl,Tryz.underlying45⟩
theorem aTI:yN Tryz.prog 63 ⟨.slice 44,1,[.nils],24⟩:=⟨by kernel_rfl,by kernel_rfl,by kernel_rfl,Tryz.underlying63⟩
theorem aTJ:yN Tryz.prog 67 ⟨.struct [(3,0),(3,1),(3,2)],3,[.int .i64 0,.int .i64 0,.int .i64 0],24⟩:=⟨by kernel_rfl,by kernel_rfl,by kernel_rfl,⟨_,Tryz.underlying67,rfl⟩⟩
theorem aTn:yN Tryz.prog 69 ⟨.struct [(23,0),(3,1)],2,[.nils,.int .i64 0],32⟩:=⟨by kernel_rfl,by kernel_rfl,by kernel_rfl,⟨_,Tryz.underlying69,rfl⟩⟩
theorem aTr:yN Tryz.prog 71 ⟨.array 4 3,4,[.int .i64 0,.int .i64 0,.int .i64 0,.int .i64 0],32⟩:=⟨by kernel_rfl,by kernel_rfl,by kernel_rfl,Tryz.underlying71⟩
theorem aTp:yN Tryz.prog 92 ⟨.struct [(4,0),(23,1),(3,2)],3,[.bool false,.nils,.int .i64 0],40⟩:=⟨by kernel_rfl,by kernel_rfl,by kernel_rfl,⟨_,Tryz.underlying92,rfl⟩⟩
theorem aTm:yN Tryz.prog 96 ⟨.struct [(3,0),(3,1),(3,2)],3,[.int .i64 0,.int .i64 0,.int .i64 0],24⟩:=⟨by kernel_rfl,by kernel_rfl,by kernel_rfl,⟨_,Tryz.underlying96,rfl⟩⟩
theorem aRa:yN Tryz.prog 101 ⟨.int .u64,1,[.int .u64 0],8⟩:=⟨by kernel_rfl,by kernel_rfl,by kernel_rfl,Tryz.underlying101⟩
theorem aRH:yN Tryz.prog 115 ⟨.slice 4,1,[.nils],24⟩:=⟨by kernel_rfl,by kernel_rfl,by kernel_rfl,Tryz.underlying115⟩
theorem aSN:yN Tryz.prog 118 ⟨.int .u32,1,[.int .u32 0],4⟩:=⟨by kernel_rfl,by kernel_rfl,by kernel_rfl,Tryz.underlying118⟩
theorem aRb:yN Tryz.prog 120 ⟨.int .u64,1,[.int .u64 0],8⟩:=⟨by kernel_rfl,by kernel_rfl,by kernel_rfl,Tryz.underlying120⟩
theorem dCo:DOk Tryz.prog DC:=(fC td3 (fC td4 (fC aTH (fC aTz (fC aTA (fC aTK (fC aTB (fC aTl (fC aTD (fC aTt (fC aTy (fC aTw (fC aTo (fC aTs (fC aTx (fC aTk (fC aTI (fC aTJ (fC aTn (fC aTr (fC aTp (fC aTm (fC aRa (fC aRH (fC aSN (fC aRb (aMU _)))))))))))))))))))))))))))
theorem cJ:Tryz.prog.follows .mixedOrders=true:=by kernel_rfl
def aKU (x:Int×Int×Int):AV:=.agg [eI x.1,eI x.2.1,eI x.2.2]
theorem mO (x:Int×Int×Int):(aKU x).loose:=(mZ (lsC (lsI _ _) (lsC (lsI _ _) (lsC (lsI _ _) lsN))))
def aPk (x:Int×Int×Int×Int):AV:=.agg [eI x.1,eI x.2.1,eI x.2.2.1,eI x.2.2.2]
theorem pH (x:Int×Int×Int×Int):(aPk x).loose:=(mZ (lsC (lsI _ _) (lsC (lsI _ _) (lsC (lsI _ _) (lsC (lsI _ _) lsN)))))
structure qN where
 Nodes:Int
 Edges:List (Int×Int×Int)
 Urgent:List Int
 Centres:List Int
 Faults:Int
 Calls:List (Int×Int×Int×Int)
instance:Inhabited qN:=⟨⟨default,default,default,default,default,default⟩⟩
def rS (x:qN):AV:=.agg [eI x.Nodes,(eL 3 aKU default) x.Edges,(eL 1 eI default) x.Urgent,(eL 1 eI default) x.Centres,eI x.Faults,(eL 4 aPk default) x.Calls]
theorem aCq (x:qN):(rS x).loose:=(mZ (lsC (lsI _ _) (lsC (lsL fun _=>(mO _)) (lsC (lsL fun _=>(lsI _ _)) (lsC (lsL fun _=>(lsI _ _)) (lsC (lsI _ _) (lsC (lsL fun _=>(pH _)) lsN)))))))
structure dE where
 From:Int
 To:Int
 Capacity:Int
instance:Inhabited dE:=⟨⟨default,default,default⟩⟩
def bM (x:dE):AV:=.agg [eI x.From,eI x.To,eI x.Capacity]
theorem aC (x:dE):(bM x).loose:=(mZ (lsC (lsI _ _) (lsC (lsI _ _) (lsC (lsI _ _) lsN))))
structure bG where
 N:Int
 Edges:List dE
instance:Inhabited bG:=⟨⟨default,default⟩⟩
def fF (x:bG):AV:=.agg [eI x.N,(eL 3 bM default) x.Edges]
theorem fA (x:bG):(fF x).loose:=(mZ (lsC (lsI _ _) (lsC (lsL fun _=>(aC _)) lsN)))
structure bI where
 Edges:List Int
 Amount:Int
instance:Inhabited bI:=⟨⟨default,default⟩⟩
def bA (x:bI):AV:=.agg [(eL 1 eI default) x.Edges,eI x.Amount]
theorem aA (x:bI):(bA x).loose:=(mZ (lsC (lsL fun _=>(lsI _ _)) (lsC (lsI _ _) lsN)))
structure aD where
 Net:bG
 Urgent:List Int
 Centres:List Int
 Faults:Int
 Calls:List bI
instance:Inhabited aD:=⟨⟨default,default,default,default,default⟩⟩
def bD (x:aD):AV:=.agg [eI x.Net.N,(eL 3 bM default) x.Net.Edges,(eL 1 eI default) x.Urgent,(eL 1 eI default) x.Centres,eI x.Faults,(eL 2 bA default) x.Calls]
theorem aR (x:aD):(bD x).loose:=(mZ (lsC (lsI _ _) (lsC (lsL fun _=>(aC _)) (lsC (lsL fun _=>(lsI _ _)) (lsC (lsL fun _=>(lsI _ _)) (lsC (lsI _ _) (lsC (lsL fun _=>(aA _)) lsN)))))))
structure bS where
 Call:Int
 Edge:Int
 Failed:Int
 Set:Int
instance:Inhabited bS:=⟨⟨default,default,default,default⟩⟩
def fE (x:bS):AV:=.agg [eI x.Call,eI x.Edge,eI x.Failed,eI x.Set]
theorem aQ (x:bS):(fE x).loose:=(mZ (lsC (lsI _ _) (lsC (lsI _ _) (lsC (lsI _ _) (lsC (lsI _ _) lsN)))))
structure bQ where
 Admitted:Int
 Denied:List bS
instance:Inhabited bQ:=⟨⟨default,default⟩⟩
def nI (x:bQ):AV:=.agg [eI x.Admitted,(eL 4 fE default) x.Denied]
theorem qB (x:bQ):(nI x).loose:=(mZ (lsC (lsI _ _) (lsC (lsL fun _=>(aQ _)) lsN)))
structure lG where
 Met:Bool
 Amounts:List Int
 Set:Int
instance:Inhabited lG:=⟨⟨default,default,default⟩⟩
def zV (x:lG):AV:=.agg [eB x.Met,(eL 1 eI default) x.Amounts,eI x.Set]
theorem aC1 (x:lG):(zV x).loose:=(mZ (lsC (lsB _) (lsC (lsL fun _=>(lsI _ _)) (lsC (lsI _ _) lsN))))
structure vD where
 nodes_f:Int
 failed_f:Int
 margin_f:Int
instance:Inhabited vD:=⟨⟨default,default,default⟩⟩
def aG7 (x:vD):AV:=.agg [eI x.nodes_f,eI x.failed_f,eI x.margin_f]
theorem aMO (x:vD):(aG7 x).loose:=(mZ (lsC (lsI _ _) (lsC (lsI _ _) (lsC (lsI _ _) lsN))))
theorem aL0 (x:Int):∀ b vs,Vs b [eI x] vs→vs=[Value.int .i64 x]:=fun b vs h=>by simpa [Vs,V,eI] using h
theorem aQm (b:cN) (x:Int):Vs b [eI x] [Value.int .i64 x]:=⟨_,_,rfl,by simp [V,eI],rfl⟩
def aGB (x:vD):List Value:=[.agg #[.int .i64 x.nodes_f,.int .i64 x.failed_f,.int .i64 x.margin_f]]
theorem aMP (x:vD):∀ b vs,Vs b [aG7 x] vs→vs=aGB x:=fun b vs h=>by
 simp only [Vs,V,aG7,eI] at h
 obtain ⟨v,vs',rfl,⟨l,rfl,⟨_,_,rfl,rfl,⟨_,_,rfl,rfl,⟨_,_,rfl,rfl,rfl⟩⟩⟩⟩,rfl⟩:=h
 simp only [aGB]
theorem aSZ (b:cN) (x:vD):Vs b [aG7 x] (aGB x):=⟨_,_,rfl,⟨_,rfl,⟨_,_,rfl,rfl,⟨_,_,rfl,rfl,⟨_,_,rfl,rfl,rfl⟩⟩⟩⟩,rfl⟩
def PF:FuncId→Bool:=fun f=>[3,4,5,6,7,8,9,10,11,12,13,14,15,16,17,18,19,20,21,22,23,24,25,26,28,29,31,32,33,34,35,36,37,38,39,40,41,42,43,44,45,46,47,48,49,50,51,52,53,54,55,56,57,58,59,60,61,62,63,64,65,66,67,68,69,70,71,72,74,75,77,78,80,81,82,83,84,85,88,89,100073,100076].contains f
theorem aAj (x0:Int) (x1:Int) (x2:Int) (x3:Int) (y0:Int) (y1:Int) (y2:Int) (y3:Int):EqV Tryz.prog 35 (.agg [eI x0,eI x1,eI x2,eI x3]) (.agg [eI y0,eI y1,eI y2,eI y3]) ((x0==y0)&&((x1==y1)&&((x2==y2)&&(x3==y3)))):=by
 intro β w u v ox oy hu hv
 simp only [V,Vs,eI,eB] at hu hv
 obtain ⟨_,rfl,_,_,rfl,rfl,_,_,rfl,rfl,_,_,rfl,rfl,_,_,rfl,rfl,rfl⟩:=hu
 obtain ⟨_,rfl,_,_,rfl,rfl,_,_,rfl,rfl,_,_,rfl,rfl,_,_,rfl,rfl,rfl⟩:=hv
 have u3:=Tryz.underlying3
 have a3:=Tryz.isAgg3
 have z3:=Tryz.sizeOf3
 have hS:Tryz.prog.underlying 35=some (.struct (Tryz.prog.fieldsOf 35)):=by kernel_rfl
 have hp:Tryz.prog.stoodInHeld 35=false:=by kernel_rfl
 have hm:Tryz.prog.eqGuardType Tryz.prog.depth 35=false:=by kernel_rfl
 have key:(Op.equalIn 10000 35 (.agg #[.int .i64 x0,.int .i64 x1,.int .i64 x2,.int .i64 x3]) (.agg #[.int .i64 y0,.int .i64 y1,.int .i64 y2,.int .i64 y3])).run Tryz.prog w=.ok ((x0==y0)&&((x1==y1)&&((x2==y2)&&(x3==y3)))) w:=by
  rw [show (10000:Nat)=9999+1 from rfl,run_equalIn_agg w 9999 35 _ _ hS hp]
  simp only [Program.fieldsOf,Tryz.underlying35]
  go_simp
  by_cases h0:x0=y0<;>by_cases h1:x1=y1<;>by_cases h2:x2=y2<;>by_cases h3:x3=y3<;>simp [h0,h1,h2,h3]
 constructor
 ·simp only [Sem.run_bind,run_eqGuard_agg w _ 35 _ _ _ _ hm,Result.andThen_ok,run_eql_struct,key]
 ·simp only [Sem.run_bind,run_eqGuard_agg w _ 35 _ _ _ _ hm,Result.andThen_ok,run_neq_struct,key]
theorem aRY (x0:Int) (x1:Int) (x2:Int) (y0:Int) (y1:Int) (y2:Int):EqV Tryz.prog 67 (.agg [eI x0,eI x1,eI x2]) (.agg [eI y0,eI y1,eI y2]) ((x0==y0)&&((x1==y1)&&(x2==y2))):=by
 intro β w u v ox oy hu hv
 simp only [V,Vs,eI,eB] at hu hv
 obtain ⟨_,rfl,_,_,rfl,rfl,_,_,rfl,rfl,_,_,rfl,rfl,rfl⟩:=hu
 obtain ⟨_,rfl,_,_,rfl,rfl,_,_,rfl,rfl,_,_,rfl,rfl,rfl⟩:=hv
 have u3:=Tryz.underlying3
 have a3:=Tryz.isAgg3
 have z3:=Tryz.sizeOf3
 have hS:Tryz.prog.underlying 67=some (.struct (Tryz.prog.fieldsOf 67)):=by kernel_rfl
 have hp:Tryz.prog.stoodInHeld 67=false:=by kernel_rfl
 have hm:Tryz.prog.eqGuardType Tryz.prog.depth 67=false:=by kernel_rfl
 have key:(Op.equalIn 10000 67 (.agg #[.int .i64 x0,.int .i64 x1,.int .i64 x2]) (.agg #[.int .i64 y0,.int .i64 y1,.int .i64 y2])).run Tryz.prog w=.ok ((x0==y0)&&((x1==y1)&&(x2==y2))) w:=by
  rw [show (10000:Nat)=9999+1 from rfl,run_equalIn_agg w 9999 67 _ _ hS hp]
  simp only [Program.fieldsOf,Tryz.underlying67]
  go_simp
  by_cases h0:x0=y0<;>by_cases h1:x1=y1<;>by_cases h2:x2=y2<;>simp [h0,h1,h2]
 constructor
 ·simp only [Sem.run_bind,run_eqGuard_agg w _ 67 _ _ _ _ hm,Result.andThen_ok,run_eql_struct,key]
 ·simp only [Sem.run_bind,run_eqGuard_agg w _ 67 _ _ _ _ hm,Result.andThen_ok,run_neq_struct,key]
theorem aRu (x0:Int) (x1:Int) (x2:Int) (y0:Int) (y1:Int) (y2:Int):EqV Tryz.prog 96 (.agg [eI x0,eI x1,eI x2]) (.agg [eI y0,eI y1,eI y2]) ((x0==y0)&&((x1==y1)&&(x2==y2))):=by
 intro β w u v ox oy hu hv
 simp only [V,Vs,eI,eB] at hu hv
 obtain ⟨_,rfl,_,_,rfl,rfl,_,_,rfl,rfl,_,_,rfl,rfl,rfl⟩:=hu
 obtain ⟨_,rfl,_,_,rfl,rfl,_,_,rfl,rfl,_,_,rfl,rfl,rfl⟩:=hv
 have u3:=Tryz.underlying3
 have a3:=Tryz.isAgg3
 have z3:=Tryz.sizeOf3
 have hS:Tryz.prog.underlying 96=some (.struct (Tryz.prog.fieldsOf 96)):=by kernel_rfl
 have hp:Tryz.prog.stoodInHeld 96=false:=by kernel_rfl
 have hm:Tryz.prog.eqGuardType Tryz.prog.depth 96=false:=by kernel_rfl
 have key:(Op.equalIn 10000 96 (.agg #[.int .i64 x0,.int .i64 x1,.int .i64 x2]) (.agg #[.int .i64 y0,.int .i64 y1,.int .i64 y2])).run Tryz.prog w=.ok ((x0==y0)&&((x1==y1)&&(x2==y2))) w:=by
  rw [show (10000:Nat)=9999+1 from rfl,run_equalIn_agg w 9999 96 _ _ hS hp]
  simp only [Program.fieldsOf,Tryz.underlying96]
  go_simp
  by_cases h0:x0=y0<;>by_cases h1:x1=y1<;>by_cases h2:x2=y2<;>simp [h0,h1,h2]
 constructor
 ·simp only [Sem.run_bind,run_eqGuard_agg w _ 96 _ _ _ _ hm,Result.andThen_ok,run_eql_struct,key]
 ·simp only [Sem.run_bind,run_eqGuard_agg w _ 96 _ _ _ _ hm,Result.andThen_ok,run_neq_struct,key]
def iQ (a0:Int) (a1:Int):Option Int:=jn (fun p1:Int=>gd (a1≠0) (some (Int.tmod p1 a1))) fun k2=>cn (decide (a0<0)) (k2 (wr (0-(wr (a0+1))))) (k2 a0)
def rN:List AV→AV→Prop:=fun args r=>∃ a0 a1,args=[eI a0,eI a1]∧W (iQ a0 a1) fun y=>r=(eI y)
theorem aD9 {T:Tbl} (hT:TOk Tryz.prog T) (hpf:cI T PF):FOk Tryz.prog 16 (aH rN):=by
 refine bB hT hpf Tryz.func16 rfl Tryz.ntmps16 Tryz.results16 (by decide) ?_
 rintro args r ⟨a0,a1,rfl,h⟩
 refine ⟨nle rfl,?_,?_⟩
 ·exact (lsC (lsI _ _) (lsC (lsI _ _) lsN))
 rw [iQ.eq_1] at h
 refine aB dCo rfl fun K hK=>?_;conv=>whnf
 refine hK _ _ _ ?_
 refine aL ?_
 refine aB dCo rfl fun K hK=>?_;conv=>whnf
 refine hK _ _ _ ?_
 replace h:=eW h
 refine aT fun K1 K2 hK1 hK2=>?_;conv=>whnf
 refine cLk h (fun _ h=>?_) (fun _ h=>?_)
 ·refine hK1 ?_
  refine cK dCo rfl fun K hK=>?_;conv=>whnf
  refine hK _ _ _ ?_
  refine tHn ?_
  refine aB dCo rfl fun K hK=>?_;conv=>whnf
  refine kQ h fun _ h=>?_;conv=>whnf
  refine hK _ _ _ ?_
  refine aJ ?_
  replace h:=aI h
  refine aE dCo fun K hK=>?_;conv=>whnf
  refine hK _ ?_
  cases h
  exact Wk.refl _
 refine hK2 ?_
 refine aK ?_
 refine tHn ?_
 refine aB dCo rfl fun K hK=>?_;conv=>whnf
 refine kQ h fun _ h=>?_;conv=>whnf
 refine hK _ _ _ ?_
 refine aJ ?_
 replace h:=aI h
 refine aE dCo fun K hK=>?_;conv=>whnf
 refine hK _ ?_
 cases h
 exact Wk.refl _
theorem wS {T:Tbl} (hT:T 16=aH rN) {args:List AV} {hp:bF} {id:Nat} {k:AV→Prop} {a0:Int} {a1:Int} {Φ:Int→Prop} (h:W (iQ a0 a1) Φ) (hw:WkL args [eI a0,eI a1]) (hk:∀ y,Φ y→k (eI y)):bZ T 16 args hp id k:=by
 obtain ⟨y,e,hy⟩:=dL h
 exact aS hT ⟨a0,a1,rfl,kS e rfl⟩ (by exact (lsI _ _)) hw (hk y hy)
def dX (a0:Int) (a1:Int):Option Int:=jn (fun p1:Int=>gd (a1≠0) (some (Int.tmod p1 a1))) fun k2=>cn (decide (a0<0)) (k2 (wr (0-(wr (a0+1))))) (k2 a0)
def mT:List AV→AV→Prop:=fun args r=>∃ a0 a1,args=[eI a0,eI a1]∧W (dX a0 a1) fun y=>r=(eI y)
theorem aE4 {T:Tbl} (hT:TOk Tryz.prog T) (hpf:cI T PF):FOk Tryz.prog 29 (aH mT):=by
 refine bB hT hpf Tryz.func29 rfl Tryz.ntmps29 Tryz.results29 (by decide) ?_
 rintro args r ⟨a0,a1,rfl,h⟩
 refine ⟨nle rfl,?_,?_⟩
 ·exact (lsC (lsI _ _) (lsC (lsI _ _) lsN))
 rw [dX.eq_1] at h
 refine aB dCo rfl fun K hK=>?_;conv=>whnf
 refine hK _ _ _ ?_
 refine aL ?_
 refine aB dCo rfl fun K hK=>?_;conv=>whnf
 refine hK _ _ _ ?_
 replace h:=eW h
 refine aT fun K1 K2 hK1 hK2=>?_;conv=>whnf
 refine cLk h (fun _ h=>?_) (fun _ h=>?_)
 ·refine hK1 ?_
  refine cK dCo rfl fun K hK=>?_;conv=>whnf
  refine hK _ _ _ ?_
  refine tHn ?_
  refine aB dCo rfl fun K hK=>?_;conv=>whnf
  refine kQ h fun _ h=>?_;conv=>whnf
  refine hK _ _ _ ?_
  refine aJ ?_
  replace h:=aI h
  refine aE dCo fun K hK=>?_;conv=>whnf
  refine hK _ ?_
  cases h
  exact Wk.refl _
 refine hK2 ?_
 refine aK ?_
 refine tHn ?_
 refine aB dCo rfl fun K hK=>?_;conv=>whnf
 refine kQ h fun _ h=>?_;conv=>whnf
 refine hK _ _ _ ?_
 refine aJ ?_
 replace h:=aI h
 refine aE dCo fun K hK=>?_;conv=>whnf
 refine hK _ ?_
 cases h
 exact Wk.refl _
theorem dR {T:Tbl} (hT:T 29=aH mT) {args:List AV} {hp:bF} {id:Nat} {k:AV→Prop} {a0:Int} {a1:Int} {Φ:Int→Prop} (h:W (dX a0 a1) Φ) (hw:WkL args [eI a0,eI a1]) (hk:∀ y,Φ y→k (eI y)):bZ T 29 args hp id k:=by
 obtain ⟨y,e,hy⟩:=dL h
 exact aS hT ⟨a0,a1,rfl,kS e rfl⟩ (by exact (lsI _ _)) hw (hk y hy)
def fO (a0:Int) (a1:Int):Option Int:=jn (fun p1:Int=>gd (a1≠0) (some (Int.tmod p1 a1))) fun k2=>cn (decide (a0<0)) (k2 (wr (0-(wr (a0+1))))) (k2 a0)
def nN:List AV→AV→Prop:=fun args r=>∃ a0 a1,args=[eI a0,eI a1]∧W (fO a0 a1) fun y=>r=(eI y)
theorem aEP {T:Tbl} (hT:TOk Tryz.prog T) (hpf:cI T PF):FOk Tryz.prog 60 (aH nN):=by
 refine bB hT hpf Tryz.func60 rfl Tryz.ntmps60 Tryz.results60 (by decide) ?_
 rintro args r ⟨a0,a1,rfl,h⟩
 refine ⟨nle rfl,?_,?_⟩
 ·exact (lsC (lsI _ _) (lsC (lsI _ _) lsN))
 rw [fO.eq_1] at h
 refine aB dCo rfl fun K hK=>?_;conv=>whnf
 refine hK _ _ _ ?_
 refine aL ?_
 refine aB dCo rfl fun K hK=>?_;conv=>whnf
 refine hK _ _ _ ?_
 replace h:=eW h
 refine aT fun K1 K2 hK1 hK2=>?_;conv=>whnf
 refine cLk h (fun _ h=>?_) (fun _ h=>?_)
 ·refine hK1 ?_
  refine cK dCo rfl fun K hK=>?_;conv=>whnf
  refine hK _ _ _ ?_
  refine tHn ?_
  refine aB dCo rfl fun K hK=>?_;conv=>whnf
  refine kQ h fun _ h=>?_;conv=>whnf
  refine hK _ _ _ ?_
  refine aJ ?_
  replace h:=aI h
  refine aE dCo fun K hK=>?_;conv=>whnf
  refine hK _ ?_
  cases h
  exact Wk.refl _
 refine hK2 ?_
 refine aK ?_
 refine tHn ?_
 refine aB dCo rfl fun K hK=>?_;conv=>whnf
 refine kQ h fun _ h=>?_;conv=>whnf
 refine hK _ _ _ ?_
 refine aJ ?_
 replace h:=aI h
 refine aE dCo fun K hK=>?_;conv=>whnf
 refine hK _ ?_
 cases h
 exact Wk.refl _
theorem fV {T:Tbl} (hT:T 60=aH nN) {args:List AV} {hp:bF} {id:Nat} {k:AV→Prop} {a0:Int} {a1:Int} {Φ:Int→Prop} (h:W (fO a0 a1) Φ) (hw:WkL args [eI a0,eI a1]) (hk:∀ y,Φ y→k (eI y)):bZ T 60 args hp id k:=by
 obtain ⟨y,e,hy⟩:=dL h
 exact aS hT ⟨a0,a1,rfl,kS e rfl⟩ (by exact (lsI _ _)) hw (hk y hy)
def fD (a0:bS) (a1:Int) (a2:Int):Option bS:=bd (dX a1 4) fun y1=>jn (fun p2:bS=>some p2) fun k3=>cn (y1 ==
  0) (k3 (⟨a2,a0.Edge,a0.Failed,a0.Set⟩:bS)) (jn (fun p4:bS=>k3 p4) fun k5=>cn (y1 ==
  1) (k5 (⟨a0.Call,a2,a0.Failed,a0.Set⟩:bS)) (jn (fun p6:bS=>k5 p6) fun k7=>cn (y1 ==
  2) (k7 (⟨a0.Call,a0.Edge,a2,a0.Set⟩:bS)) (k7 (⟨a0.Call,a0.Edge,a0.Failed,a2⟩:bS))))
def kC:List AV→AV→Prop:=fun args r=>∃ a0 a1 a2,args=[fE a0,eI a1,eI a2]∧W (fD a0 a1 a2) fun y=>r=(fE y)
theorem xR {T:Tbl} (hT:TOk Tryz.prog T) (hpf:cI T PF) (h29:T 29=aH mT):FOk Tryz.prog 15 (aH kC):=by
 refine bB hT hpf Tryz.func15 rfl Tryz.ntmps15 Tryz.results15 (by decide) ?_
 rintro args r ⟨a0,a1,a2,rfl,h⟩
 refine ⟨nle rfl,?_,?_⟩
 ·exact (lsC (aQ _) (lsC (lsI _ _) (lsC (lsI _ _) lsN)))
 rw [fD.eq_1] at h
 refine aB dCo rfl fun K hK=>?_;conv=>whnf
 refine hK _ _ _ ?_
 refine aL ?_
 refine aB dCo rfl fun K hK=>?_;conv=>whnf
 replace h:=bE h
 refine dR h29 h (WkL.refl _) (fun _ h=>?_);conv=>whnf
 refine hK _ _ _ ?_
 refine aN ?_
 refine aB dCo rfl fun K hK=>?_;conv=>whnf
 refine hK _ _ _ ?_
 replace h:=eW h
 refine aT fun K1 K2 hK1 hK2=>?_;conv=>whnf
 refine cLk h (fun _ h=>?_) (fun _ h=>?_)
 ·refine hK1 ?_
  refine cK dCo rfl fun K hK=>?_;conv=>whnf
  refine bKo rfl ?_;conv=>whnf
  refine And.intro rfl (And.intro (nle rfl) (And.intro rfl ?_));conv=>whnf
  refine hK _ _ _ ?_
  refine iBn ?_
  refine tHn ?_
  refine aB dCo rfl fun K hK=>?_;conv=>whnf
  refine nlA rfl ?_;conv=>whnf
  refine bKo rfl ?_;conv=>whnf
  refine nlA rfl ?_;conv=>whnf
  refine bKo rfl ?_;conv=>whnf
  refine And.intro rfl (And.intro (nle rfl) (And.intro rfl ?_));conv=>whnf
  refine hK _ _ _ ?_
  refine aJ ?_
  replace h:=aI h
  refine aE dCo fun K hK=>?_;conv=>whnf
  refine nlA rfl ?_;conv=>whnf
  refine bKo rfl ?_;conv=>whnf
  refine nlA rfl ?_;conv=>whnf
  refine hK _ ?_
  cases h
  exact Wk.refl _
 refine hK2 ?_
 refine aB dCo rfl fun K hK=>?_;conv=>whnf
 refine hK _ _ _ ?_
 replace h:=eW h
 refine aT fun K1 K2 hK1 hK2=>?_;conv=>whnf
 refine cLk h (fun _ h=>?_) (fun _ h=>?_)
 ·refine hK1 ?_
  refine cK dCo rfl fun K hK=>?_;conv=>whnf
  refine bKo rfl ?_;conv=>whnf
  refine And.intro rfl (And.intro (nle rfl) (And.intro rfl ?_));conv=>whnf
  refine hK _ _ _ ?_
  refine iBn ?_
  refine tHn ?_
  refine aB dCo rfl fun K hK=>?_;conv=>whnf
  refine nlA rfl ?_;conv=>whnf
  refine bKo rfl ?_;conv=>whnf
  refine nlA rfl ?_;conv=>whnf
  refine bKo rfl ?_;conv=>whnf
  refine And.intro rfl (And.intro (nle rfl) (And.intro rfl ?_));conv=>whnf
  refine hK _ _ _ ?_
  refine aJ ?_
  replace h:=aI h
  refine aE dCo fun K hK=>?_;conv=>whnf
  refine nlA rfl ?_;conv=>whnf
  refine bKo rfl ?_;conv=>whnf
  refine nlA rfl ?_;conv=>whnf
  refine hK _ ?_
  cases h
  exact Wk.refl _
 refine hK2 ?_
 refine aB dCo rfl fun K hK=>?_;conv=>whnf
 refine hK _ _ _ ?_
 replace h:=eW h
 refine aT fun K1 K2 hK1 hK2=>?_;conv=>whnf
 refine cLk h (fun _ h=>?_) (fun _ h=>?_)
 ·refine hK1 ?_
  refine cK dCo rfl fun K hK=>?_;conv=>whnf
  refine bKo rfl ?_;conv=>whnf
  refine And.intro rfl (And.intro (nle rfl) (And.intro rfl ?_));conv=>whnf
  refine hK _ _ _ ?_
  refine iBn ?_
  refine tHn ?_
  refine aB dCo rfl fun K hK=>?_;conv=>whnf
  refine nlA rfl ?_;conv=>whnf
  refine bKo rfl ?_;conv=>whnf
  refine nlA rfl ?_;conv=>whnf
  refine bKo rfl ?_;conv=>whnf
  refine And.intro rfl (And.intro (nle rfl) (And.intro rfl ?_));conv=>whnf
  refine hK _ _ _ ?_
  refine aJ ?_
  replace h:=aI h
  refine aE dCo fun K hK=>?_;conv=>whnf
  refine nlA rfl ?_;conv=>whnf
  refine bKo rfl ?_;conv=>whnf
  refine nlA rfl ?_;conv=>whnf
  refine hK _ ?_
  cases h
  exact Wk.refl _
 refine hK2 ?_
 refine cK dCo rfl fun K hK=>?_;conv=>whnf
 refine bKo rfl ?_;conv=>whnf
 refine And.intro rfl (And.intro (nle rfl) (And.intro rfl ?_));conv=>whnf
 refine hK _ _ _ ?_
 refine iBn ?_
 refine tHn ?_
 refine aB dCo rfl fun K hK=>?_;conv=>whnf
 refine nlA rfl ?_;conv=>whnf
 refine bKo rfl ?_;conv=>whnf
 refine nlA rfl ?_;conv=>whnf
 refine bKo rfl ?_;conv=>whnf
 refine And.intro rfl (And.intro (nle rfl) (And.intro rfl ?_));conv=>whnf
 refine hK _ _ _ ?_
 refine aJ ?_
 replace h:=aI h
 refine aE dCo fun K hK=>?_;conv=>whnf
 refine nlA rfl ?_;conv=>whnf
 refine bKo rfl ?_;conv=>whnf
 refine nlA rfl ?_;conv=>whnf
 refine hK _ ?_
 cases h
 exact Wk.refl _
theorem rT {T:Tbl} (hT:T 15=aH kC) {args:List AV} {hp:bF} {id:Nat} {k:AV→Prop} {a0:bS} {a1:Int} {a2:Int} {Φ:bS→Prop} (h:W (fD a0 a1 a2) Φ) (hw:WkL args [fE a0,eI a1,eI a2]) (hk:∀ y,Φ y→k (fE y)):bZ T 15 args hp id k:=by
 obtain ⟨y,e,hy⟩:=dL h
 exact aS hT ⟨a0,a1,a2,rfl,kS e rfl⟩ (by exact (aQ _)) hw (hk y hy)
def fY (a0:Int) (a1:Int) (a2:Int):Option Bool:=jn (fun p1:Bool=>some p1) fun k2=>cn (decide (a1≤a0)) (k2 (decide (a0≤a2))) (k2 false)
def kJ:List AV→AV→Prop:=fun args r=>∃ a0 a1 a2,args=[eI a0,eI a1,eI a2]∧W (fY a0 a1 a2) fun y=>r=(eB y)
theorem aGl {T:Tbl} (hT:TOk Tryz.prog T) (hpf:cI T PF):FOk Tryz.prog 61 (aH kJ):=by
 refine bB hT hpf Tryz.func61 rfl Tryz.ntmps61 Tryz.results61 (by decide) ?_
 rintro args r ⟨a0,a1,a2,rfl,h⟩
 refine ⟨nle rfl,?_,?_⟩
 ·exact (lsC (lsI _ _) (lsC (lsI _ _) (lsC (lsI _ _) lsN)))
 rw [fY.eq_1] at h
 refine aB dCo rfl fun K hK=>?_;conv=>whnf
 refine hK _ _ _ ?_
 refine aB dCo rfl fun K hK=>?_;conv=>whnf
 replace h:=eW h
 refine cLk h (fun _ h=>?_) (fun _ h=>?_)<;>(conv=>whnf)
 ·refine hK _ _ _ ?_
  refine aJ ?_
  replace h:=aI h
  refine aE dCo fun K hK=>?_;conv=>whnf
  refine hK _ ?_
  cases h
  exact Wk.refl _
 refine hK _ _ _ ?_
 refine aJ ?_
 replace h:=aI h
 refine aE dCo fun K hK=>?_;conv=>whnf
 refine hK _ ?_
 cases h
 exact Wk.refl _
theorem iS {T:Tbl} (hT:T 61=aH kJ) {args:List AV} {hp:bF} {id:Nat} {k:AV→Prop} {a0:Int} {a1:Int} {a2:Int} {Φ:Bool→Prop} (h:W (fY a0 a1 a2) Φ) (hw:WkL args [eI a0,eI a1,eI a2]) (hk:∀ y,Φ y→k (eB y)):bZ T 61 args hp id k:=by
 obtain ⟨y,e,hy⟩:=dL h
 exact aS hT ⟨a0,a1,a2,rfl,kS e rfl⟩ (by exact (lsB _)) hw (hk y hy)
def cL (a0:Int) (a1:Int) (a2:Int):Option Bool:=jn (fun p1:Bool=>some p1) fun k2=>cn (decide (a1≤a0)) (k2 (decide (a0≤a2))) (k2 false)
def fS:List AV→AV→Prop:=fun args r=>∃ a0 a1 a2,args=[eI a0,eI a1,eI a2]∧W (cL a0 a1 a2) fun y=>r=(eB y)
theorem aBr {T:Tbl} (hT:TOk Tryz.prog T) (hpf:cI T PF):FOk Tryz.prog 34 (aH fS):=by
 refine bB hT hpf Tryz.func34 rfl Tryz.ntmps34 Tryz.results34 (by decide) ?_
 rintro args r ⟨a0,a1,a2,rfl,h⟩
 refine ⟨nle rfl,?_,?_⟩
 ·exact (lsC (lsI _ _) (lsC (lsI _ _) (lsC (lsI _ _) lsN)))
 rw [cL.eq_1] at h
 refine aB dCo rfl fun K hK=>?_;conv=>whnf
 refine hK _ _ _ ?_
 refine aB dCo rfl fun K hK=>?_;conv=>whnf
 replace h:=eW h
 refine cLk h (fun _ h=>?_) (fun _ h=>?_)<;>(conv=>whnf)
 ·refine hK _ _ _ ?_
  refine aJ ?_
  replace h:=aI h
  refine aE dCo fun K hK=>?_;conv=>whnf
  refine hK _ ?_
  cases h
  exact Wk.refl _
 refine hK _ _ _ ?_
 refine aJ ?_
 replace h:=aI h
 refine aE dCo fun K hK=>?_;conv=>whnf
 refine hK _ ?_
 cases h
 exact Wk.refl _
theorem cU {T:Tbl} (hT:T 34=aH fS) {args:List AV} {hp:bF} {id:Nat} {k:AV→Prop} {a0:Int} {a1:Int} {a2:Int} {Φ:Bool→Prop} (h:W (cL a0 a1 a2) Φ) (hw:WkL args [eI a0,eI a1,eI a2]) (hk:∀ y,Φ y→k (eB y)):bZ T 34 args hp id k:=by
 obtain ⟨y,e,hy⟩:=dL h
 exact aS hT ⟨a0,a1,a2,rfl,kS e rfl⟩ (by exact (lsB _)) hw (hk y hy)
def fW (a0:Int):Option Int:=let v1:=(IntKind.u64.wrap ((zF .u64 (zD .u64 a0 1) 6148914691236517205)+(zF .u64 a0 6148914691236517205)));
  let v2:=(IntKind.u64.wrap ((zF .u64 (zD .u64 v1 2) 3689348814741910323)+(zF .u64 v1 3689348814741910323)));
  let v3:=(zF .u64 (IntKind.u64.wrap ((zD .u64 v2 4)+v2)) 1085102592571150095);let v4:=(IntKind.u64.wrap (v3+(zD .u64 v3 8)));
  let v5:=(IntKind.u64.wrap (v4+(zD .u64 v4 16)));let v6:=(IntKind.u64.wrap (v5+(zD .u64 v5 32)));let v7:=(zF .i64 (wr (v6)) 127);some v7
def fZ:List AV→AV→Prop:=fun args r=>∃ a0,args=[(AV.int .u64) a0]∧W (fW a0) fun y=>r=(eI y)
theorem vB {T:Tbl} (hT:TOk Tryz.prog T) (hpf:cI T PF):FOk Tryz.prog 80 (aH fZ):=by
 refine bB hT hpf Tryz.func80 rfl Tryz.ntmps80 Tryz.results80 (by decide) ?_
 rintro args r ⟨a0,rfl,h⟩
 refine ⟨nle rfl,?_,?_⟩
 ·exact (lsC (lsI _ _) lsN)
 rw [fW.eq_1] at h
 refine aB dCo rfl fun K hK=>?_;conv=>whnf
 refine hK _ _ _ ?_
 refine aB dCo rfl fun K hK=>?_;conv=>whnf
 refine And.intro (by decide) ?_;conv=>whnf
 refine hK _ _ _ ?_
 refine aB dCo rfl fun K hK=>?_;conv=>whnf
 refine And.intro (by decide) ?_;conv=>whnf
 refine hK _ _ _ ?_
 refine aB dCo rfl fun K hK=>?_;conv=>whnf
 refine And.intro (by decide) ?_;conv=>whnf
 refine hK _ _ _ ?_
 refine aB dCo rfl fun K hK=>?_;conv=>whnf
 refine And.intro (by decide) ?_;conv=>whnf
 refine hK _ _ _ ?_
 refine aB dCo rfl fun K hK=>?_;conv=>whnf
 refine And.intro (by decide) ?_;conv=>whnf
 refine hK _ _ _ ?_
 refine aB dCo rfl fun K hK=>?_;conv=>whnf
 refine And.intro (by decide) ?_;conv=>whnf
 refine hK _ _ _ ?_
 refine aB dCo rfl fun K hK=>?_;conv=>whnf
 refine hK _ _ _ ?_
 refine aJ ?_
 replace h:=aI h
 refine aE dCo fun K hK=>?_;conv=>whnf
 refine hK _ ?_
 cases h
 exact Wk.refl _
theorem tU {T:Tbl} (hT:T 80=aH fZ) {args:List AV} {hp:bF} {id:Nat} {k:AV→Prop} {a0:Int} {Φ:Int→Prop} (h:W (fW a0) Φ) (hw:WkL args [(AV.int .u64) a0]) (hk:∀ y,Φ y→k (eI y)):bZ T 80 args hp id k:=by
 obtain ⟨y,e,hy⟩:=dL h
 exact aS hT ⟨a0,rfl,kS e rfl⟩ (by exact (lsI _ _)) hw (hk y hy)
def cF (a0:Int):Option Int:=bd (fW a0) fun y1=>some y1
def gX:List AV→AV→Prop:=fun args r=>∃ a0,args=[(AV.int .u64) a0]∧W (cF a0) fun y=>r=(eI y)
theorem wB {T:Tbl} (hT:TOk Tryz.prog T) (hpf:cI T PF) (h80:T 80=aH fZ):FOk Tryz.prog 58 (aH gX):=by
 refine bB hT hpf Tryz.func58 rfl Tryz.ntmps58 Tryz.results58 (by decide) ?_
 rintro args r ⟨a0,rfl,h⟩
 refine ⟨nle rfl,?_,?_⟩
 ·exact (lsC (lsI _ _) lsN)
 rw [cF.eq_1] at h
 refine aB dCo rfl fun K hK=>?_;conv=>whnf
 refine hK _ _ _ ?_
 refine aL ?_
 refine aT fun K1 K2 hK1 hK2=>?_;conv=>whnf
 refine hK2 ?_
 refine aK ?_
 refine tHn ?_
 refine aB dCo rfl fun K hK=>?_;conv=>whnf
 replace h:=bE h
 refine tU h80 h (WkL.refl _) (fun _ h=>?_);conv=>whnf
 refine hK _ _ _ ?_
 refine aJ ?_
 replace h:=aI h
 refine aE dCo fun K hK=>?_;conv=>whnf
 refine hK _ ?_
 cases h
 exact Wk.refl _
theorem iA {T:Tbl} (hT:T 58=aH gX) {args:List AV} {hp:bF} {id:Nat} {k:AV→Prop} {a0:Int} {Φ:Int→Prop} (h:W (cF a0) Φ) (hw:WkL args [(AV.int .u64) a0]) (hk:∀ y,Φ y→k (eI y)):bZ T 58 args hp id k:=by
 obtain ⟨y,e,hy⟩:=dL h
 exact aS hT ⟨a0,rfl,kS e rfl⟩ (by exact (lsI _ _)) hw (hk y hy)
def dO (a0:List Int) (a1:Int) (s1:Int):Option (Ct Int Int):=cn (decide (s1<(a0.length:Int))) (ix a0 default s1 fun e2=>cn (a1 ==
  e2) (some (.rt s1)) (some (.nx (wr (s1+1))))) (some (.bk s1))
def dI (a0:List Int) (a1:Int):Option Int:=bd (lp (dO a0 a1) FU 0) fun c3=>smK c3 (fun s4=>some (-1)) (fun r5=>some r5)
def iB:List AV→AV→Prop:=fun args r=>∃ a0 a1,args=[(eL 1 eI default) a0,eI a1]∧W (dI a0 a1) fun y=>r=(eI y)
theorem yJ {T:Tbl} (hT:TOk Tryz.prog T) (hpf:cI T PF):FOk Tryz.prog 66 (aH iB):=by
 refine bB hT hpf Tryz.func66 rfl Tryz.ntmps66 Tryz.results66 (by decide) ?_
 rintro args r ⟨a0,a1,rfl,h⟩
 refine ⟨nle rfl,?_,?_⟩
 ·exact (lsC (lsL fun _=>(lsI _ _)) (lsC (lsI _ _) lsN))
 rw [dI.eq_1] at h
 refine aB dCo rfl fun K hK=>?_;conv=>whnf
 refine hK _ _ _ ?_
 refine aL ?_
 refine aB dCo rfl fun K hK=>?_;conv=>whnf
 refine hK _ _ _ ?_
 refine aN ?_
 replace h:=bE h
 refine dS (body:=dO _ _) rfl h [0,1,7] [] [] (fun kl kh ids b s=>⟨ofL ([(8,eI s)]++kl),ofH ([]++kh),b+64⟩) ?_;(conv=>whnf);refine And.intro ?_ (fun s m h=>dY ?_)
 ·refine aO ?_;conv=>whnf
  exact And.intro rfl (And.intro (aLc wkI (aLc (wkr (lsL fun _=>(lsI _ _))) (aLc wkI (aLc wkI aLn)))) aLn)
 replace h:=bE h;rw [dO.eq_1] at h
 refine aB dCo rfl fun K hK=>?_;conv=>whnf
 refine hK _ _ _ ?_
 refine aL ?_
 refine aT fun K1 K2 hK1 hK2=>?_;conv=>whnf
 refine cLk h (fun _ h=>?_) (fun _ h=>?_)
 ·refine hK1 ?_
  refine aK ?_
  refine tHn ?_
  refine aL ?_
  refine aN ?_
  refine aB dCo rfl fun K hK=>?_;conv=>whnf
  refine hK _ _ _ ?_
  refine aB dCo rfl fun K hK=>?_;conv=>whnf
  refine cA h fun _ h=>?_;conv=>whnf
  refine gKo rfl ?_;conv=>whnf
  refine hK _ _ _ ?_
  refine aT fun K1 K2 hK1 hK2=>?_;conv=>whnf
  refine cLk h (fun _ h=>?_) (fun _ h=>?_)
  ·refine hK1 ?_
   refine aB dCo rfl fun K hK=>?_;conv=>whnf
   refine hK _ _ _ ?_
   refine aJ ?_
   refine aP ?_
   refine aM ?_
   refine aM ?_
   refine aP ?_
   refine aM ?_
   replace h:=iG h
   replace h:=iF h
   replace h:=aI h
   refine aE dCo fun K hK=>?_;conv=>whnf
   refine hK _ ?_
   cases h
   exact Wk.refl _
  refine hK2 ?_
  refine aK ?_
  refine iBn ?_
  refine tHn ?_
  refine cK dCo rfl fun K hK=>?_;conv=>whnf
  refine hK _ _ _ ?_
  refine tHn ?_
  replace h:=bY h
  refine ⟨_,h,?_⟩
  refine aO ?_;conv=>whnf
  exact And.intro rfl (And.intro (aLc wkI (aLc (wkr (lsL fun _=>(lsI _ _))) (aLc wkI (aLc wkI aLn)))) aLn)
 refine hK2 ?_
 refine bN ?_
 refine aW ?_
 refine aW ?_
 refine aV ?_
 replace h:=eA h
 replace h:=dZ h
 refine tHn ?_
 refine aB dCo rfl fun K hK=>?_;conv=>whnf
 refine hK _ _ _ ?_
 refine aJ ?_
 replace h:=aI h
 refine aE dCo fun K hK=>?_;conv=>whnf
 refine hK _ ?_
 cases h
 exact Wk.refl _
theorem rX {T:Tbl} (hT:T 66=aH iB) {args:List AV} {hp:bF} {id:Nat} {k:AV→Prop} {a0:List Int} {a1:Int} {Φ:Int→Prop} (h:W (dI a0 a1) Φ) (hw:WkL args [(eL 1 eI default) a0,eI a1]) (hk:∀ y,Φ y→k (eI y)):bZ T 66 args hp id k:=by
 obtain ⟨y,e,hy⟩:=dL h
 exact aS hT ⟨a0,a1,rfl,kS e rfl⟩ (by exact (lsI _ _)) hw (hk y hy)
def fK (a0:List Int) (a1:Int):Option Bool:=bd (dI a0 a1) fun y1=>some (decide (y1≥0))
def gZ:List AV→AV→Prop:=fun args r=>∃ a0 a1,args=[(eL 1 eI default) a0,eI a1]∧W (fK a0 a1) fun y=>r=(eB y)
theorem vZ {T:Tbl} (hT:TOk Tryz.prog T) (hpf:cI T PF) (h66:T 66=aH iB):FOk Tryz.prog 56 (aH gZ):=by
 refine bB hT hpf Tryz.func56 rfl Tryz.ntmps56 Tryz.results56 (by decide) ?_
 rintro args r ⟨a0,a1,rfl,h⟩
 refine ⟨nle rfl,?_,?_⟩
 ·exact (lsC (lsL fun _=>(lsI _ _)) (lsC (lsI _ _) lsN))
 rw [fK.eq_1] at h
 refine aB dCo rfl fun K hK=>?_;conv=>whnf
 refine hK _ _ _ ?_
 refine aB dCo rfl fun K hK=>?_;conv=>whnf
 replace h:=bE h
 refine rX h66 h (WkL.refl _) (fun _ h=>?_);conv=>whnf
 refine hK _ _ _ ?_
 refine aJ ?_
 replace h:=aI h
 refine aE dCo fun K hK=>?_;conv=>whnf
 refine hK _ ?_
 cases h
 exact Wk.refl _
theorem iE {T:Tbl} (hT:T 56=aH gZ) {args:List AV} {hp:bF} {id:Nat} {k:AV→Prop} {a0:List Int} {a1:Int} {Φ:Bool→Prop} (h:W (fK a0 a1) Φ) (hw:WkL args [(eL 1 eI default) a0,eI a1]) (hk:∀ y,Φ y→k (eB y)):bZ T 56 args hp id k:=by
 obtain ⟨y,e,hy⟩:=dL h
 exact aS hT ⟨a0,a1,rfl,kS e rfl⟩ (by exact (lsB _)) hw (hk y hy)
def jC (a0:List Int) (a1:List Int) (s1:Int):Option (Ct Int Bool):=cn (decide (s1<(a0.length:Int))) (ix a0 default s1 fun e2=>
  ix a1 default s1 fun e3=>cn (e2 != e3) (some (.rt false)) (some (.nx (wr (s1+1))))) (some (.bk s1))
def iC (a0:List Int) (a1:List Int):Option Bool:=cn ((a0.length:Int) != (a1.length:Int)) (some false) (bd (lp (jC a0 a1) FU 0) fun c4=>
  smK c4 (fun s5=>some true) (fun r6=>some r6))
def kF:List AV→AV→Prop:=fun args r=>∃ a0 a1,args=[(eL 1 eI default) a0,(eL 1 eI default) a1]∧W (iC a0 a1) fun y=>r=(eB y)
theorem xZ {T:Tbl} (hT:TOk Tryz.prog T) (hpf:cI T PF):FOk Tryz.prog 83 (aH kF):=by
 refine bB hT hpf Tryz.func83 rfl Tryz.ntmps83 Tryz.results83 (by decide) ?_
 rintro args r ⟨a0,a1,rfl,h⟩
 refine ⟨nle rfl,?_,?_⟩
 ·exact (lsC (lsL fun _=>(lsI _ _)) (lsC (lsL fun _=>(lsI _ _)) lsN))
 rw [iC.eq_1] at h
 refine aB dCo rfl fun K hK=>?_;conv=>whnf
 refine hK _ _ _ ?_
 refine aL ?_
 refine aB dCo rfl fun K hK=>?_;conv=>whnf
 refine hK _ _ _ ?_
 refine aT fun K1 K2 hK1 hK2=>?_;conv=>whnf
 refine cLk h (fun _ h=>?_) (fun _ h=>?_)
 ·refine hK1 ?_
  refine aB dCo rfl fun K hK=>?_;conv=>whnf
  refine hK _ _ _ ?_
  refine aJ ?_
  refine aM ?_
  replace h:=aI h
  refine aE dCo fun K hK=>?_;conv=>whnf
  refine hK _ ?_
  cases h
  exact Wk.refl _
 refine hK2 ?_
 refine aK ?_
 refine tHn ?_
 refine aL ?_
 refine aB dCo rfl fun K hK=>?_;conv=>whnf
 refine hK _ _ _ ?_
 refine aN ?_
 replace h:=bE h
 refine dS (body:=jC _ _) rfl h [0,1,12] [] [] (fun kl kh ids b s=>⟨ofL ([(13,eI s)]++kl),ofH ([]++kh),b+64⟩) ?_;(conv=>whnf);refine And.intro ?_ (fun s m h=>dY ?_)
 ·refine aO ?_;conv=>whnf
  exact And.intro rfl (And.intro (aLc wkI (aLc (wkr (lsL fun _=>(lsI _ _))) (aLc (wkr (lsL fun _=>(lsI _ _))) (aLc wkI aLn)))) aLn)
 replace h:=bE h;rw [jC.eq_1] at h
 refine aB dCo rfl fun K hK=>?_;conv=>whnf
 refine hK _ _ _ ?_
 refine aL ?_
 refine aT fun K1 K2 hK1 hK2=>?_;conv=>whnf
 refine cLk h (fun _ h=>?_) (fun _ h=>?_)
 ·refine hK1 ?_
  refine aK ?_
  refine tHn ?_
  refine aL ?_
  refine aN ?_
  refine aB dCo rfl fun K hK=>?_;conv=>whnf
  refine hK _ _ _ ?_
  refine iZ dCo cJ rfl (by kernel_rfl) fun K hK=>?_;conv=>whnf
  refine cA h fun _ h=>?_;conv=>whnf
  refine gKo rfl ?_;conv=>whnf
  refine cA h fun _ h=>?_;conv=>whnf
  refine gKo rfl ?_;conv=>whnf
  refine hK _ _ _ ?_
  refine aT fun K1 K2 hK1 hK2=>?_;conv=>whnf
  refine cLk h (fun _ h=>?_) (fun _ h=>?_)
  ·refine hK1 ?_
   refine aB dCo rfl fun K hK=>?_;conv=>whnf
   refine hK _ _ _ ?_
   refine aJ ?_
   refine aP ?_
   refine aM ?_
   refine aM ?_
   refine aP ?_
   refine aM ?_
   replace h:=iG h
   replace h:=iF h
   replace h:=aI h
   refine aE dCo fun K hK=>?_;conv=>whnf
   refine hK _ ?_
   cases h
   exact Wk.refl _
  refine hK2 ?_
  refine aK ?_
  refine iBn ?_
  refine tHn ?_
  refine cK dCo rfl fun K hK=>?_;conv=>whnf
  refine hK _ _ _ ?_
  refine tHn ?_
  replace h:=bY h
  refine ⟨_,h,?_⟩
  refine aO ?_;conv=>whnf
  exact And.intro rfl (And.intro (aLc wkI (aLc (wkr (lsL fun _=>(lsI _ _))) (aLc (wkr (lsL fun _=>(lsI _ _))) (aLc wkI aLn)))) aLn)
 refine hK2 ?_
 refine bN ?_
 refine aW ?_
 refine aW ?_
 refine aV ?_
 replace h:=eA h
 replace h:=dZ h
 refine tHn ?_
 refine aB dCo rfl fun K hK=>?_;conv=>whnf
 refine hK _ _ _ ?_
 refine aJ ?_
 replace h:=aI h
 refine aE dCo fun K hK=>?_;conv=>whnf
 refine hK _ ?_
 cases h
 exact Wk.refl _
theorem wD {T:Tbl} (hT:T 83=aH kF) {args:List AV} {hp:bF} {id:Nat} {k:AV→Prop} {a0:List Int} {a1:List Int} {Φ:Bool→Prop} (h:W (iC a0 a1) Φ) (hw:WkL args [(eL 1 eI default) a0,(eL 1 eI default) a1]) (hk:∀ y,Φ y→k (eB y)):bZ T 83 args hp id k:=by
 obtain ⟨y,e,hy⟩:=dL h
 exact aS hT ⟨a0,a1,rfl,kS e rfl⟩ (by exact (lsB _)) hw (hk y hy)
def oC (a0:List Int) (a1:List Int) (s1:Int):Option (Ct Int Bool):=cn (decide (s1<(a0.length:Int))) (ix a0 default s1 fun e2=>ix a1 default s1 fun e3=>
  cn (e2 != e3) (some (.rt false)) (some (.nx (wr (s1+1))))) (some (.bk s1))
def nC (a0:List Int) (a1:List Int):Option Bool:=cn ((a0.length:Int) != (a1.length:Int)) (some false) (bd (lp (oC a0 a1) FU 0) fun c4=>
  smK c4 (fun s5=>some true) (fun r6=>some r6))
def pM:List AV→AV→Prop:=fun args r=>∃ a0 a1,args=[(eL 1 eI default) a0,(eL 1 eI default) a1]∧W (nC a0 a1) fun y=>r=(eB y)
theorem aDn {T:Tbl} (hT:TOk Tryz.prog T) (hpf:cI T PF):FOk Tryz.prog 22 (aH pM):=by
 refine bB hT hpf Tryz.func22 rfl Tryz.ntmps22 Tryz.results22 (by decide) ?_
 rintro args r ⟨a0,a1,rfl,h⟩
 refine ⟨nle rfl,?_,?_⟩
 ·exact (lsC (lsL fun _=>(lsI _ _)) (lsC (lsL fun _=>(lsI _ _)) lsN))
 rw [nC.eq_1] at h
 refine aB dCo rfl fun K hK=>?_;conv=>whnf
 refine hK _ _ _ ?_
 refine aL ?_
 refine aB dCo rfl fun K hK=>?_;conv=>whnf
 refine hK _ _ _ ?_
 refine aT fun K1 K2 hK1 hK2=>?_;conv=>whnf
 refine cLk h (fun _ h=>?_) (fun _ h=>?_)
 ·refine hK1 ?_
  refine aB dCo rfl fun K hK=>?_;conv=>whnf
  refine hK _ _ _ ?_
  refine aJ ?_
  refine aM ?_
  replace h:=aI h
  refine aE dCo fun K hK=>?_;conv=>whnf
  refine hK _ ?_
  cases h
  exact Wk.refl _
 refine hK2 ?_
 refine aK ?_
 refine tHn ?_
 refine aL ?_
 refine aB dCo rfl fun K hK=>?_;conv=>whnf
 refine hK _ _ _ ?_
 refine aN ?_
 replace h:=bE h
 refine dS (body:=oC _ _) rfl h [0,1] [] [] (fun kl kh ids b s=>⟨ofL ([(5,eI s)]++kl),ofH ([]++kh),b+64⟩) ?_;(conv=>whnf);refine And.intro ?_ (fun s m h=>dY ?_)
 ·refine aO ?_;conv=>whnf
  exact And.intro rfl (And.intro (aLc wkI (aLc (wkr (lsL fun _=>(lsI _ _))) (aLc (wkr (lsL fun _=>(lsI _ _))) aLn))) aLn)
 replace h:=bE h;rw [oC.eq_1] at h
 refine aL ?_
 refine aB dCo rfl fun K hK=>?_;conv=>whnf
 refine hK _ _ _ ?_
 refine aT fun K1 K2 hK1 hK2=>?_;conv=>whnf
 refine cLk h (fun _ h=>?_) (fun _ h=>?_)
 ·refine hK1 ?_
  refine aK ?_
  refine tHn ?_
  refine aL ?_
  refine aN ?_
  refine iZ dCo cJ rfl (by kernel_rfl) fun K hK=>?_;conv=>whnf
  refine cA h fun _ h=>?_;conv=>whnf
  refine gKo rfl ?_;conv=>whnf
  refine cA h fun _ h=>?_;conv=>whnf
  refine gKo rfl ?_;conv=>whnf
  refine hK _ _ _ ?_
  refine aT fun K1 K2 hK1 hK2=>?_;conv=>whnf
  refine cLk h (fun _ h=>?_) (fun _ h=>?_)
  ·refine hK1 ?_
   refine aB dCo rfl fun K hK=>?_;conv=>whnf
   refine hK _ _ _ ?_
   refine aJ ?_
   refine aP ?_
   refine aM ?_
   refine aM ?_
   refine aP ?_
   refine aM ?_
   replace h:=iG h
   replace h:=iF h
   replace h:=aI h
   refine aE dCo fun K hK=>?_;conv=>whnf
   refine hK _ ?_
   cases h
   exact Wk.refl _
  refine hK2 ?_
  refine aK ?_
  refine iBn ?_
  refine tHn ?_
  refine cK dCo rfl fun K hK=>?_;conv=>whnf
  refine hK _ _ _ ?_
  refine tHn ?_
  replace h:=bY h
  refine ⟨_,h,?_⟩
  refine aO ?_;conv=>whnf
  exact And.intro rfl (And.intro (aLc wkI (aLc (wkr (lsL fun _=>(lsI _ _))) (aLc (wkr (lsL fun _=>(lsI _ _))) aLn))) aLn)
 refine hK2 ?_
 refine bN ?_
 refine aW ?_
 refine aW ?_
 refine aV ?_
 replace h:=eA h
 replace h:=dZ h
 refine tHn ?_
 refine aB dCo rfl fun K hK=>?_;conv=>whnf
 refine hK _ _ _ ?_
 refine aJ ?_
 replace h:=aI h
 refine aE dCo fun K hK=>?_;conv=>whnf
 refine hK _ ?_
 cases h
 exact Wk.refl _
theorem wE {T:Tbl} (hT:T 22=aH pM) {args:List AV} {hp:bF} {id:Nat} {k:AV→Prop} {a0:List Int} {a1:List Int} {Φ:Bool→Prop} (h:W (nC a0 a1) Φ) (hw:WkL args [(eL 1 eI default) a0,(eL 1 eI default) a1]) (hk:∀ y,Φ y→k (eB y)):bZ T 22 args hp id k:=by
 obtain ⟨y,e,hy⟩:=dL h
 exact aS hT ⟨a0,a1,rfl,kS e rfl⟩ (by exact (lsB _)) hw (hk y hy)
def nY (a1:List (Int×Int×Int)) (s2:Int×bG):Option (Ct (Int×bG) bG):=jn (fun p3:Bool=>cn p3 (ix a1 default s2.1 fun e5=>
  bd (fO e5.1 s2.2.N) fun y6=>ix a1 default s2.1 fun e7=>bd (fO e7.2.1 (wr (s2.2.N-1))) fun y8=>
  gd (s2.2.N≠0) (let v9:=(Int.tmod (wr ((wr (y6+1))+y8)) s2.2.N);ix a1 default s2.1 fun e10=>bd (fO e10.2.2 20) fun y11=>
  lt ([(⟨y6,v9,y11⟩:dE)]:List dE) fun l12=>ap s2.2.Edges l12 fun l13=>some (.nx ((wr (s2.1+1)),(⟨s2.2.N,l13⟩:bG))))) (some (.bk (s2.1,s2.2)))) fun k4=>
  cn (decide (s2.1<(a1.length:Int))) (k4 (decide (s2.1<16))) (k4 false)
def pS (a0:Int) (a1:List (Int×Int×Int)):Option bG:=bd (fO a0 6) fun y1=>
  bd (lp (nY a1) FU (0,(⟨(wr (2+y1)),[]⟩:bG))) fun c14=>smK c14 (fun s15=>some s15.2) (fun r16=>some r16)
def rQ:List AV→AV→Prop:=fun args r=>∃ a0 a1,args=[eI a0,(eL 3 aKU default) a1]∧W (pS a0 a1) fun y=>r=(fF y)
theorem aFq {T:Tbl} (hT:TOk Tryz.prog T) (hpf:cI T PF) (h60:T 60=aH nN):FOk Tryz.prog 28 (aH rQ):=by
 refine bB hT hpf Tryz.func28 rfl Tryz.ntmps28 Tryz.results28 (by decide) ?_
 rintro args r ⟨a0,a1,rfl,h⟩
 refine ⟨nle rfl,?_,?_⟩
 ·exact (lsC (lsI _ _) (lsC (lsL fun _=>(mO _)) lsN))
 rw [pS.eq_1] at h
 refine aB dCo rfl fun K hK=>?_;conv=>whnf
 refine hK _ _ _ ?_
 refine aB dCo rfl fun K hK=>?_;conv=>whnf
 replace h:=bE h
 refine fV h60 h (WkL.refl _) (fun _ h=>?_);conv=>whnf
 refine bKo rfl ?_;conv=>whnf
 refine And.intro rfl (And.intro (nle rfl) (And.intro rfl ?_));conv=>whnf
 refine hK _ _ _ ?_
 refine aL ?_
 refine aB dCo rfl fun K hK=>?_;conv=>whnf
 refine hK _ _ _ ?_
 refine aN ?_
 replace h:=bE h
 refine dS (body:=nY _) rfl h [1,4,5] [4] [5] (fun kl kh ids b s=>⟨ofL ([(6,eI s.1)]++kl),ofH ([(aEe ids 0,.cells [eI s.2.N,.lst (.tok (b+0)) 3 s.2.Edges.length (fun j=>bM (s.2.Edges.getD j default))]),(b+0,.cells [])]++kh),b+128⟩) ?_;(conv=>whnf);refine And.intro ?_ (fun s m h=>dY ?_)
 ·refine aO ?_;conv=>whnf
  exact And.intro rfl (And.intro (aLc wkI (aLc (wkr (lsL fun _=>(mO _))) (aLc (WkR.ptr (fun _=>rfl)) (aLc (WkR.ptr (fun _=>rfl)) aLn)))) (aLc ⟨some _,rfl,bRc rfl (cKc wkI (cKc (WkR.nil (fun _=>rfl)) cKn))⟩ (aLc ⟨none,rfl,yM⟩ (aLc ⟨some _,rfl,bRc rfl (cKc wkI (cKc (wkr aG) cKn))⟩ aLn))))
 replace h:=bE h;rw [nY.eq_1] at h
 refine aL ?_
 refine aB dCo rfl fun K hK=>?_;conv=>whnf
 replace h:=eW h
 refine cLk h (fun _ h=>?_) (fun _ h=>?_)<;>(conv=>whnf)
 ·refine hK _ _ _ ?_
  refine aT fun K1 K2 hK1 hK2=>?_;conv=>whnf
  refine cLk h (fun _ h=>?_) (fun _ h=>?_)
  ·refine hK1 ?_
   refine aK ?_
   refine tHn ?_
   refine aL ?_
   refine aN ?_
   refine iZ dCo cJ rfl (by kernel_rfl) fun K hK=>?_;conv=>whnf
   refine cA h fun _ h=>?_;conv=>whnf
   refine And.intro (by decide) ?_;conv=>whnf
   refine gKo rfl ?_;conv=>whnf
   refine nlA rfl ?_;conv=>whnf
   refine bKo rfl ?_;conv=>whnf
   refine gKo rfl ?_;conv=>whnf
   replace h:=bE h
   refine fV h60 h (WkL.refl _) (fun _ h=>?_);conv=>whnf
   refine hK _ _ _ ?_
   refine iZ dCo cJ rfl (by kernel_rfl) fun K hK=>?_;conv=>whnf
   refine cA h fun _ h=>?_;conv=>whnf
   refine And.intro (by decide) ?_;conv=>whnf
   refine gKo rfl ?_;conv=>whnf
   refine nlA rfl ?_;conv=>whnf
   refine bKo rfl ?_;conv=>whnf
   refine gKo rfl ?_;conv=>whnf
   replace h:=bE h
   refine fV h60 h (WkL.refl _) (fun _ h=>?_);conv=>whnf
   refine nlA rfl ?_;conv=>whnf
   refine bKo rfl ?_;conv=>whnf
   refine gKo rfl ?_;conv=>whnf
   refine kQ h fun _ h=>?_;conv=>whnf
   refine hK _ _ _ ?_
   refine zU dCo cJ rfl (by kernel_rfl) fun K hK=>?_;conv=>whnf
   refine nlA rfl ?_;conv=>whnf
   refine bKo rfl ?_;conv=>whnf
   refine gKo rfl ?_;conv=>whnf
   refine cA h fun _ h=>?_;conv=>whnf
   refine And.intro (by decide) ?_;conv=>whnf
   refine gKo rfl ?_;conv=>whnf
   replace h:=bE h
   refine fV h60 h (WkL.refl _) (fun _ h=>?_);conv=>whnf
   refine hZ (enc:=bM) (d:=default) dCo h rfl rfl rfl ⟨nle rfl,nle rfl,rfl⟩ rfl ⟨⟨rfl,nle rfl⟩,trivial⟩ (fun h=>?_);conv=>whnf
   refine sV (enc:=bM) (d:=default) dCo h (.inl rfl) rfl rfl rfl ⟨rfl,nle rfl,nle rfl,nle rfl,rfl⟩ (fun _=>rfl) (.inr (.inr ⟨_,_,rfl,rfl,rfl⟩)) (fun h=>?_);conv=>whnf
   refine bKo rfl ?_;conv=>whnf
   refine And.intro rfl (And.intro (nle rfl) (And.intro rfl ?_));conv=>whnf
   refine hK _ _ _ ?_
   refine iBn ?_
   refine tHn ?_
   refine cK dCo rfl fun K hK=>?_;conv=>whnf
   refine hK _ _ _ ?_
   refine tHn ?_
   replace h:=bY h
   refine ⟨_,h,?_⟩
   refine aO ?_;conv=>whnf
   exact And.intro rfl (And.intro (aLc wkI (aLc (wkr (lsL fun _=>(mO _))) (aLc (WkR.ptr (fun _=>rfl)) (aLc (WkR.ptr (fun _=>rfl)) aLn)))) (aLc ⟨some _,rfl,bRc rfl (cKc wkI (cKc (WkR.tok (fun _=>rfl) rfl (fun _ _=>Wk.refl _) (fun _=>(aC _))) cKn))⟩ (aLc ⟨some _,rfl,bRc rfl cKn⟩ (aLc ⟨some _,rfl,bRc rfl (cKc wkI (cKc (wkr aG) cKn))⟩ aLn))))
  refine hK2 ?_
  refine bN ?_
  refine aW ?_
  refine aW ?_
  refine aV ?_
  replace h:=eA h
  replace h:=dZ h
  refine tHn ?_
  refine aB dCo rfl fun K hK=>?_;conv=>whnf
  refine nlA rfl ?_;conv=>whnf
  refine bKo rfl ?_;conv=>whnf
  refine nlA rfl ?_;conv=>whnf
  refine bKo rfl ?_;conv=>whnf
  refine And.intro rfl (And.intro (nle rfl) (And.intro rfl ?_));conv=>whnf
  refine hK _ _ _ ?_
  refine aJ ?_
  replace h:=aI h
  refine aE dCo fun K hK=>?_;conv=>whnf
  refine nlA rfl ?_;conv=>whnf
  refine bKo rfl ?_;conv=>whnf
  refine nlA rfl ?_;conv=>whnf
  refine hK _ ?_
  cases h
  exact (fL (aF (Wk.refl _) (aF eD bO)))
 refine hK _ _ _ ?_
 refine aT fun K1 K2 hK1 hK2=>?_;conv=>whnf
 refine hK2 ?_
 replace h:=uF h
 refine bN ?_
 refine aW ?_
 refine aW ?_
 refine aV ?_
 replace h:=eA h
 replace h:=dZ h
 refine tHn ?_
 refine aB dCo rfl fun K hK=>?_;conv=>whnf
 refine nlA rfl ?_;conv=>whnf
 refine bKo rfl ?_;conv=>whnf
 refine nlA rfl ?_;conv=>whnf
 refine bKo rfl ?_;conv=>whnf
 refine And.intro rfl (And.intro (nle rfl) (And.intro rfl ?_));conv=>whnf
 refine hK _ _ _ ?_
 refine aJ ?_
 replace h:=aI h
 refine aE dCo fun K hK=>?_;conv=>whnf
 refine nlA rfl ?_;conv=>whnf
 refine bKo rfl ?_;conv=>whnf
 refine nlA rfl ?_;conv=>whnf
 refine hK _ ?_
 cases h
 exact (fL (aF (Wk.refl _) (aF eD bO)))
theorem aCo {T:Tbl} (hT:T 28=aH rQ) {args:List AV} {hp:bF} {id:Nat} {k:AV→Prop} {a0:Int} {a1:List (Int×Int×Int)} {Φ:bG→Prop} (h:W (pS a0 a1) Φ) (hw:WkL args [eI a0,(eL 3 aKU default) a1]) (hk:∀ y,Φ y→k (fF y)):bZ T 28 args hp id k:=by
 obtain ⟨y,e,hy⟩:=dL h
 exact aS hT ⟨a0,a1,rfl,kS e rfl⟩ (by exact (fA _)) hw (hk y hy)
def gO (a0:dE) (c900:bG):Option Bool:=jn (fun p1:Bool=>some p1) fun k2=>bd (fY a0.From 0 (wr (c900.N-1))) fun y3=>
  cn (!y3) (k2 true) (bd (fY a0.To 0 (wr (c900.N-1))) fun y4=>cn (!y4) (k2 true) (cn (a0.From==a0.To) (k2 true) (bd (fY a0.Capacity 0 10000) fun y5=>
  k2 (!y5))))
def mD:List AV→AV→Prop:=fun args r=>∃ a0 c900,args=[bM a0,.ep [eI c900.N,(eL 3 bM default) c900.Edges] 0]∧W (gO a0 c900) fun y=>r=(eB y)
theorem aBw {T:Tbl} (hT:TOk Tryz.prog T) (hpf:cI T PF) (h61:T 61=aH kJ):FOk Tryz.prog 62 (aH mD):=by
 refine bB hT hpf Tryz.func62 rfl Tryz.ntmps62 Tryz.results62 (by decide) ?_
 rintro args r ⟨a0,c900,rfl,h⟩
 refine ⟨nle rfl,?_,?_⟩
 ·exact (lsC (aC _) (lsC (lsE (lsC (lsI _ _) (lsC (lsL fun _=>(aC _)) lsN))) lsN))
 rw [gO.eq_1] at h
 refine aB dCo rfl fun K hK=>?_;conv=>whnf
 refine hK _ _ _ ?_
 refine aB dCo rfl fun K hK=>?_;conv=>whnf
 replace h:=eW h
 refine nlA rfl ?_;conv=>whnf
 refine bKo rfl ?_;conv=>whnf
 refine gKo rfl ?_;conv=>whnf
 refine gKo rfl ?_;conv=>whnf
 replace h:=bE h
 refine iS h61 h (WkL.refl _) (fun _ h=>?_);conv=>whnf
 refine cLk h (fun _ h=>?_) (fun _ h=>?_)<;>(conv=>whnf)
 ·refine hK _ _ _ ?_
  refine aJ ?_
  replace h:=aI h
  refine aE dCo fun K hK=>?_;conv=>whnf
  refine hK _ ?_
  cases h
  exact Wk.refl _
 refine nlA rfl ?_;conv=>whnf
 refine bKo rfl ?_;conv=>whnf
 refine gKo rfl ?_;conv=>whnf
 refine gKo rfl ?_;conv=>whnf
 replace h:=bE h
 refine iS h61 h (WkL.refl _) (fun _ h=>?_);conv=>whnf
 refine cLk h (fun _ h=>?_) (fun _ h=>?_)<;>(conv=>whnf)
 ·refine hK _ _ _ ?_
  refine aJ ?_
  replace h:=aI h
  refine aE dCo fun K hK=>?_;conv=>whnf
  refine hK _ ?_
  cases h
  exact Wk.refl _
 refine nlA rfl ?_;conv=>whnf
 refine bKo rfl ?_;conv=>whnf
 refine gKo rfl ?_;conv=>whnf
 refine nlA rfl ?_;conv=>whnf
 refine bKo rfl ?_;conv=>whnf
 refine gKo rfl ?_;conv=>whnf
 refine cLk h (fun _ h=>?_) (fun _ h=>?_)<;>(conv=>whnf)
 ·refine hK _ _ _ ?_
  refine aJ ?_
  replace h:=aI h
  refine aE dCo fun K hK=>?_;conv=>whnf
  refine hK _ ?_
  cases h
  exact Wk.refl _
 refine nlA rfl ?_;conv=>whnf
 refine bKo rfl ?_;conv=>whnf
 refine gKo rfl ?_;conv=>whnf
 replace h:=bE h
 refine iS h61 h (WkL.refl _) (fun _ h=>?_);conv=>whnf
 refine hK _ _ _ ?_
 refine aJ ?_
 replace h:=aI h
 refine aE dCo fun K hK=>?_;conv=>whnf
 refine hK _ ?_
 cases h
 exact Wk.refl _
theorem yQ {T:Tbl} (hT:T 62=aH mD) {args:List AV} {hp:bF} {id:Nat} {k:AV→bF→Prop} {a0:dE} {c900:bG} {Φ:Bool→Prop} (h:W (gO a0 c900) Φ) (hw:WkL args [bM a0,.ep [eI c900.N,(eL 3 bM default) c900.Edges] 0]) (hk:∀ y,Φ y→k (eB y) hp):uU T 62 args hp id k:=by
 obtain ⟨y,e,hy⟩:=dL h
 exact kM hT ⟨a0,c900,rfl,kS e rfl⟩ (by exact (lsB _)) hw (hk y hy)
def dA (a0:Int) (c900:Int):Option Bool:=bd (cL a0 0 c900) fun y1=>some (!y1)
def gE:List AV→AV→Prop:=fun args r=>∃ a0 c900,args=[eI a0,.ep [eI c900] 0]∧W (dA a0 c900) fun y=>r=(eB y)
theorem xI {T:Tbl} (hT:TOk Tryz.prog T) (hpf:cI T PF) (h34:T 34=aH fS):FOk Tryz.prog 36 (aH gE):=by
 refine bB hT hpf Tryz.func36 rfl Tryz.ntmps36 Tryz.results36 (by decide) ?_
 rintro args r ⟨a0,c900,rfl,h⟩
 refine ⟨nle rfl,?_,?_⟩
 ·exact (lsC (lsI _ _) (lsC (lsE (lsC (lsI _ _) lsN)) lsN))
 rw [dA.eq_1] at h
 refine aB dCo rfl fun K hK=>?_;conv=>whnf
 refine hK _ _ _ ?_
 refine aB dCo rfl fun K hK=>?_;conv=>whnf
 refine gKo rfl ?_;conv=>whnf
 replace h:=bE h
 refine cU h34 h (WkL.refl _) (fun _ h=>?_);conv=>whnf
 refine hK _ _ _ ?_
 refine aJ ?_
 replace h:=aI h
 refine aE dCo fun K hK=>?_;conv=>whnf
 refine hK _ ?_
 cases h
 exact Wk.refl _
theorem vS {T:Tbl} (hT:T 36=aH gE) {args:List AV} {hp:bF} {id:Nat} {k:AV→bF→Prop} {a0:Int} {c900:Int} {Φ:Bool→Prop} (h:W (dA a0 c900) Φ) (hw:WkL args [eI a0,.ep [eI c900] 0]) (hk:∀ y,Φ y→k (eB y) hp):uU T 36 args hp id k:=by
 obtain ⟨y,e,hy⟩:=dL h
 exact kM hT ⟨a0,c900,rfl,kS e rfl⟩ (by exact (lsB _)) hw (hk y hy)
def fJ (a0:bG) (a1:List Int) (s2:Int):Option (Ct Int Bool):=cn (decide (s2<(a1.length:Int))) (ix a1 default s2 fun e3=>jn (fun p4:Bool=>
  cn p4 (some (.rt false)) (some (.nx (wr (s2+1))))) fun k5=>bd (cL e3 0 (wr ((a0.Edges.length:Int)-1))) fun y6=>
  cn (!y6) (k5 true) (bd (dI a1 e3) fun y7=>cn (y7 != s2) (k5 true) (cn (decide (s2>0)) (ix a1 default (wr (s2-1)) fun e8=>ix a0.Edges default e8 fun e9=>
  ix a0.Edges default e3 fun e10=>k5 (e9.To != e10.From)) (k5 false)))) (some (.bk s2))
def gW (a0:bG) (a1:List Int):Option Bool:=bd (cL (a1.length:Int) 1 6) fun y1=>
  cn (!y1) (some false) (bd (lp (fJ a0 a1) FU 0) fun c11=>smK c11 (fun s12=>some true) (fun r13=>some r13))
def mY:List AV→AV→Prop:=fun args r=>∃ a0 a1,args=[fF a0,(eL 1 eI default) a1]∧W (gW a0 a1) fun y=>r=(eB y)
theorem aAR {T:Tbl} (hT:TOk Tryz.prog T) (hpf:cI T PF) (h34:T 34=aH fS) (h66:T 66=aH iB):FOk Tryz.prog 40 (aH mY):=by
 refine bB hT hpf Tryz.func40 rfl Tryz.ntmps40 Tryz.results40 (by decide) ?_
 rintro args r ⟨a0,a1,rfl,h⟩
 refine ⟨nle rfl,?_,?_⟩
 ·exact (lsC (fA _) (lsC (lsL fun _=>(lsI _ _)) lsN))
 rw [gW.eq_1] at h
 refine aB dCo rfl fun K hK=>?_;conv=>whnf
 refine hK _ _ _ ?_
 refine aL ?_
 refine aB dCo rfl fun K hK=>?_;conv=>whnf
 replace h:=bE h
 refine cU h34 h (WkL.refl _) (fun _ h=>?_);conv=>whnf
 refine hK _ _ _ ?_
 refine aT fun K1 K2 hK1 hK2=>?_;conv=>whnf
 refine cLk h (fun _ h=>?_) (fun _ h=>?_)
 ·refine hK1 ?_
  refine aB dCo rfl fun K hK=>?_;conv=>whnf
  refine hK _ _ _ ?_
  refine aJ ?_
  refine aM ?_
  replace h:=aI h
  refine aE dCo fun K hK=>?_;conv=>whnf
  refine hK _ ?_
  cases h
  exact Wk.refl _
 refine hK2 ?_
 refine aK ?_
 refine tHn ?_
 refine aL ?_
 refine aB dCo rfl fun K hK=>?_;conv=>whnf
 refine hK _ _ _ ?_
 refine aN ?_
 replace h:=bE h
 refine dS (body:=fJ _ _) rfl h [1,2,11,12] [2] [] (fun kl kh ids b s=>⟨ofL ([(13,eI s)]++kl),ofH ([]++kh),b+64⟩) ?_;(conv=>whnf);refine And.intro ?_ (fun s m h=>dY ?_)
 ·refine aO ?_;conv=>whnf
  exact And.intro rfl (And.intro (aLc wkI (aLc (wkr (lsL fun _=>(lsI _ _))) (aLc (WkR.ptr (fun _=>rfl)) (aLc (wkr (lsL fun _=>(lsI _ _))) (aLc wkI aLn))))) (aLc ⟨some _,rfl,bRc rfl (cKc wkI (cKc (wkr (lsL fun _=>(aC _))) cKn))⟩ aLn))
 replace h:=bE h;rw [fJ.eq_1] at h
 refine aB dCo rfl fun K hK=>?_;conv=>whnf
 refine hK _ _ _ ?_
 refine aL ?_
 refine aT fun K1 K2 hK1 hK2=>?_;conv=>whnf
 refine cLk h (fun _ h=>?_) (fun _ h=>?_)
 ·refine hK1 ?_
  refine aK ?_
  refine tHn ?_
  refine aL ?_
  refine aN ?_
  refine aB dCo rfl fun K hK=>?_;conv=>whnf
  refine cA h fun _ h=>?_;conv=>whnf
  refine gKo rfl ?_;conv=>whnf
  refine hK _ _ _ ?_
  refine iZ dCo cJ rfl (by kernel_rfl) fun K hK=>?_;conv=>whnf
  replace h:=eW h
  refine nlA rfl ?_;conv=>whnf
  refine bKo rfl ?_;conv=>whnf
  refine gKo rfl ?_;conv=>whnf
  replace h:=bE h
  refine cU h34 h (WkL.refl _) (fun _ h=>?_);conv=>whnf
  refine cLk h (fun _ h=>?_) (fun _ h=>?_)<;>(conv=>whnf)
  ·refine hK _ _ _ ?_
   refine aT fun K1 K2 hK1 hK2=>?_;conv=>whnf
   refine hK1 ?_
   replace h:=kR h
   refine aB dCo rfl fun K hK=>?_;conv=>whnf
   refine hK _ _ _ ?_
   refine aJ ?_
   refine aP ?_
   refine aM ?_
   refine aM ?_
   refine aP ?_
   refine aM ?_
   replace h:=iG h
   replace h:=iF h
   replace h:=aI h
   refine aE dCo fun K hK=>?_;conv=>whnf
   refine hK _ ?_
   cases h
   exact Wk.refl _
  replace h:=bE h
  refine rX h66 h (WkL.refl _) (fun _ h=>?_);conv=>whnf
  refine cLk h (fun _ h=>?_) (fun _ h=>?_)<;>(conv=>whnf)
  ·refine hK _ _ _ ?_
   refine aT fun K1 K2 hK1 hK2=>?_;conv=>whnf
   refine hK1 ?_
   replace h:=kR h
   refine aB dCo rfl fun K hK=>?_;conv=>whnf
   refine hK _ _ _ ?_
   refine aJ ?_
   refine aP ?_
   refine aM ?_
   refine aM ?_
   refine aP ?_
   refine aM ?_
   replace h:=iG h
   replace h:=iF h
   replace h:=aI h
   refine aE dCo fun K hK=>?_;conv=>whnf
   refine hK _ ?_
   cases h
   exact Wk.refl _
  refine cLk h (fun _ h=>?_) (fun _ h=>?_)<;>(conv=>whnf)
  ·refine nlA rfl ?_;conv=>whnf
   refine bKo rfl ?_;conv=>whnf
   refine gKo rfl ?_;conv=>whnf
   refine cA h fun _ h=>?_;conv=>whnf
   refine gKo rfl ?_;conv=>whnf
   refine cA h fun _ h=>?_;conv=>whnf
   refine gKo rfl ?_;conv=>whnf
   refine nlA rfl ?_;conv=>whnf
   refine bKo rfl ?_;conv=>whnf
   refine gKo rfl ?_;conv=>whnf
   refine cA h fun _ h=>?_;conv=>whnf
   refine gKo rfl ?_;conv=>whnf
   refine hK _ _ _ ?_
   refine aT fun K1 K2 hK1 hK2=>?_;conv=>whnf
   refine cLk h (fun _ h=>?_) (fun _ h=>?_)
   ·refine hK1 ?_
    refine aB dCo rfl fun K hK=>?_;conv=>whnf
    refine hK _ _ _ ?_
    refine aJ ?_
    refine aP ?_
    refine aM ?_
    refine aM ?_
    refine aP ?_
    refine aM ?_
    replace h:=iG h
    replace h:=iF h
    replace h:=aI h
    refine aE dCo fun K hK=>?_;conv=>whnf
    refine hK _ ?_
    cases h
    exact Wk.refl _
   refine hK2 ?_
   refine aK ?_
   refine iBn ?_
   refine tHn ?_
   refine cK dCo rfl fun K hK=>?_;conv=>whnf
   refine hK _ _ _ ?_
   refine tHn ?_
   replace h:=bY h
   refine ⟨_,h,?_⟩
   refine aO ?_;conv=>whnf
   exact And.intro rfl (And.intro (aLc wkI (aLc (wkr (lsL fun _=>(lsI _ _))) (aLc (WkR.ptr (fun _=>rfl)) (aLc (wkr (lsL fun _=>(lsI _ _))) (aLc wkI aLn))))) (aLc ⟨some _,rfl,bRc rfl (cKc wkI (cKc (wkr (lsL fun _=>(aC _))) cKn))⟩ aLn))
  refine hK _ _ _ ?_
  refine aT fun K1 K2 hK1 hK2=>?_;conv=>whnf
  refine hK2 ?_
  replace h:=uF h
  refine aK ?_
  refine iBn ?_
  refine tHn ?_
  refine cK dCo rfl fun K hK=>?_;conv=>whnf
  refine hK _ _ _ ?_
  refine tHn ?_
  replace h:=bY h
  refine ⟨_,h,?_⟩
  refine aO ?_;conv=>whnf
  exact And.intro rfl (And.intro (aLc wkI (aLc (wkr (lsL fun _=>(lsI _ _))) (aLc (WkR.ptr (fun _=>rfl)) (aLc (wkr (lsL fun _=>(lsI _ _))) (aLc wkI aLn))))) (aLc ⟨some _,rfl,bRc rfl (cKc wkI (cKc (wkr (lsL fun _=>(aC _))) cKn))⟩ aLn))
 refine hK2 ?_
 refine bN ?_
 refine aW ?_
 refine aW ?_
 refine aV ?_
 replace h:=eA h
 replace h:=dZ h
 refine tHn ?_
 refine aB dCo rfl fun K hK=>?_;conv=>whnf
 refine hK _ _ _ ?_
 refine aJ ?_
 replace h:=aI h
 refine aE dCo fun K hK=>?_;conv=>whnf
 refine hK _ ?_
 cases h
 exact Wk.refl _
theorem zA {T:Tbl} (hT:T 40=aH mY) {args:List AV} {hp:bF} {id:Nat} {k:AV→Prop} {a0:bG} {a1:List Int} {Φ:Bool→Prop} (h:W (gW a0 a1) Φ) (hw:WkL args [fF a0,(eL 1 eI default) a1]) (hk:∀ y,Φ y→k (eB y)):bZ T 40 args hp id k:=by
 obtain ⟨y,e,hy⟩:=dL h
 exact aS hT ⟨a0,a1,rfl,kS e rfl⟩ (by exact (lsB _)) hw (hk y hy)
def dW (a0:bI) (c900:aD):Option Bool:=jn (fun p1:Bool=>some p1) fun k2=>bd (cL a0.Amount 1 10000) fun y3=>
  cn (!y3) (k2 true) (bd (gW c900.Net a0.Edges) fun y4=>k2 (!y4))
def iX:List AV→AV→Prop:=fun args r=>∃ a0 c900,args=[bA a0,.ep [eI c900.Net.N,(eL 3 bM default) c900.Net.Edges,(eL 1 eI default) c900.Urgent,(eL 1 eI default) c900.Centres,eI c900.Faults,(eL 2 bA default) c900.Calls] 0]∧W (dW a0 c900) fun y=>r=(eB y)
theorem zS {T:Tbl} (hT:TOk Tryz.prog T) (hpf:cI T PF) (h34:T 34=aH fS) (h40:T 40=aH mY):FOk Tryz.prog 39 (aH iX):=by
 refine bB hT hpf Tryz.func39 rfl Tryz.ntmps39 Tryz.results39 (by decide) ?_
 rintro args r ⟨a0,c900,rfl,h⟩
 refine ⟨nle rfl,?_,?_⟩
 ·exact (lsC (aA _) (lsC (lsE (lsC (lsI _ _) (lsC (lsL fun _=>(aC _)) (lsC (lsL fun _=>(lsI _ _)) (lsC (lsL fun _=>(lsI _ _)) (lsC (lsI _ _) (lsC (lsL fun _=>(aA _)) lsN))))))) lsN))
 rw [dW.eq_1] at h
 refine aB dCo rfl fun K hK=>?_;conv=>whnf
 refine hK _ _ _ ?_
 refine aB dCo rfl fun K hK=>?_;conv=>whnf
 replace h:=eW h
 refine nlA rfl ?_;conv=>whnf
 refine bKo rfl ?_;conv=>whnf
 refine gKo rfl ?_;conv=>whnf
 replace h:=bE h
 refine cU h34 h (WkL.refl _) (fun _ h=>?_);conv=>whnf
 refine cLk h (fun _ h=>?_) (fun _ h=>?_)<;>(conv=>whnf)
 ·refine hK _ _ _ ?_
  refine aJ ?_
  replace h:=aI h
  refine aE dCo fun K hK=>?_;conv=>whnf
  refine hK _ ?_
  cases h
  exact Wk.refl _
 refine nlA rfl ?_;conv=>whnf
 refine nlA rfl ?_;conv=>whnf
 refine bKo rfl ?_;conv=>whnf
 refine gKo rfl ?_;conv=>whnf
 replace h:=bE h
 refine zA h40 h (WkL.refl _) (fun _ h=>?_);conv=>whnf
 refine hK _ _ _ ?_
 refine aJ ?_
 replace h:=aI h
 refine aE dCo fun K hK=>?_;conv=>whnf
 refine hK _ ?_
 cases h
 exact Wk.refl _
theorem wG {T:Tbl} (hT:T 39=aH iX) {args:List AV} {hp:bF} {id:Nat} {k:AV→bF→Prop} {a0:bI} {c900:aD} {Φ:Bool→Prop} (h:W (dW a0 c900) Φ) (hw:WkL args [bA a0,.ep [eI c900.Net.N,(eL 3 bM default) c900.Net.Edges,(eL 1 eI default) c900.Urgent,(eL 1 eI default) c900.Centres,eI c900.Faults,(eL 2 bA default) c900.Calls] 0]) (hk:∀ y,Φ y→k (eB y) hp):uU T 39 args hp id k:=by
 obtain ⟨y,e,hy⟩:=dL h
 exact kM hT ⟨a0,c900,rfl,kS e rfl⟩ (by exact (lsB _)) hw (hk y hy)
def nR (a0:aD) (s7:Int×aD):Option (Ct (Int×aD) aD):=cn (decide (s7.1<(a0.Calls.length:Int))) (lt ([]:List Int) fun l8=>
  ix a0.Calls default s7.1 fun e9=>ap l8 e9.Edges fun l10=>ix a0.Calls default s7.1 fun e11=>lt ([(⟨l10,e11.Amount⟩:bI)]:List bI) fun l12=>
  ap s7.2.Calls l12 fun l13=>some (.nx ((wr (s7.1+1)),(⟨s7.2.Net,s7.2.Urgent,s7.2.Centres,s7.2.Faults,l13⟩:aD)))) (some (.bk (s7.1,s7.2)))
def nG (a0:aD):Option aD:=lt ([]:List dE) fun l1=>gd (a0.Net.Edges.length≤1048576) (lt a0.Net.Edges fun l2=>lt ([]:List Int) fun l3=>
  gd (a0.Urgent.length≤1048576) (lt a0.Urgent fun l4=>lt ([]:List Int) fun l5=>gd (a0.Centres.length≤1048576) (lt a0.Centres fun l6=>
  bd (lp (nR a0) FU (0,(⟨(⟨a0.Net.N,l2⟩:bG),l4,l6,a0.Faults,[]⟩:aD))) fun c14=>smK c14 (fun s15=>some s15.2) (fun r16=>some r16))))
def rH (y:aD) (b:Nat):AV:=.agg [eI y.Net.N,.so b 0 y.Net.Edges.length 3,.so (b+1) 0 y.Urgent.length 1,.so (b+2) 0 y.Centres.length 1,eI y.Faults,.so (b+3) 0 y.Calls.length 2]
def mG (y:aD):List AB:=[.cells (flE (ceE bM) y.Net.Edges),.cells (flE (ceE eI) y.Urgent),.cells (flE (ceE eI) y.Centres),.cells (flE (ceE bA) y.Calls)]
def rY:List AV→aD→Prop:=fun args y=>∃ a0,args=[bD a0]∧nG a0=some y
theorem aE3 {T:Tbl} (hT:TOk Tryz.prog T) (hpf:cI T PF):FOk Tryz.prog 30 (aKT rH mG rY):=by
 refine aJn hT hpf Tryz.func30 rfl Tryz.ntmps30 Tryz.results30 (by decide) (fun y=>⟨by simp [mG],by simp [mG,aGv]⟩) ?_
 rintro args y ⟨a0,rfl,hF⟩
 refine ⟨nle rfl,(lsC (aR _) lsN),fun base=>?_⟩
 have h:W (nG a0) (fun z=>z=y):=kS hF rfl
 rw [nG.eq_1] at h
 refine aB dCo rfl fun K hK=>?_;conv=>whnf
 refine hK _ _ _ ?_
 refine iZ dCo cJ rfl (by kernel_rfl) fun K hK=>?_;conv=>whnf
 refine nlA rfl ?_;conv=>whnf
 refine bKo rfl ?_;conv=>whnf
 refine gKo rfl ?_;conv=>whnf
 refine hZ (enc:=bM) (d:=default) dCo h rfl rfl rfl ⟨nle rfl,nle rfl,rfl⟩ rfl trivial (fun h=>?_);conv=>whnf
 refine nlA rfl ?_;conv=>whnf
 refine bKo rfl ?_;conv=>whnf
 refine gKo rfl ?_;conv=>whnf
 refine vF h fun hg h=>?_
 replace h:=aKQ h
 refine xW (enc:=bM) (d:=default) dCo rfl rfl rfl ⟨rfl,nle rfl,nle rfl,nle rfl,rfl⟩ (fun _=>rfl) (fun _=>nofun) hg ?_;conv=>whnf
 refine hZ (enc:=eI) (d:=default) dCo h rfl rfl rfl ⟨nle rfl,nle rfl,rfl⟩ rfl trivial (fun h=>?_);conv=>whnf
 refine nlA rfl ?_;conv=>whnf
 refine bKo rfl ?_;conv=>whnf
 refine gKo rfl ?_;conv=>whnf
 refine vF h fun hg h=>?_
 replace h:=aKQ h
 refine xW (enc:=eI) (d:=default) dCo rfl rfl rfl ⟨rfl,nle rfl,nle rfl,nle rfl,rfl⟩ (fun _=>rfl) (fun _=>nofun) hg ?_;conv=>whnf
 refine hZ (enc:=eI) (d:=default) dCo h rfl rfl rfl ⟨nle rfl,nle rfl,rfl⟩ rfl trivial (fun h=>?_);conv=>whnf
 refine nlA rfl ?_;conv=>whnf
 refine bKo rfl ?_;conv=>whnf
 refine gKo rfl ?_;conv=>whnf
 refine vF h fun hg h=>?_
 replace h:=aKQ h
 refine xW (enc:=eI) (d:=default) dCo rfl rfl rfl ⟨rfl,nle rfl,nle rfl,nle rfl,rfl⟩ (fun _=>rfl) (fun _=>nofun) hg ?_;conv=>whnf
 refine nlA rfl ?_;conv=>whnf
 refine bKo rfl ?_;conv=>whnf
 refine gKo rfl ?_;conv=>whnf
 refine bKo rfl ?_;conv=>whnf
 refine And.intro rfl (And.intro (nle rfl) (And.intro rfl ?_));conv=>whnf
 refine hK _ _ _ ?_
 refine aL ?_
 refine aB dCo rfl fun K hK=>?_;conv=>whnf
 refine hK _ _ _ ?_
 refine aN ?_
 replace h:=bE h
 refine xO (body:=nR _) rfl h [1,2,3] [1,2] [] [3] (fun kl kh kr ids b s=>⟨ofL ([(4,eI s.1)]++kl),ofH (([(aEe ids 0,.cells [eI s.2.Net.N,.so (b+0) 0 s.2.Net.Edges.length 3,.so (b+64) 0 s.2.Urgent.length 1,.so (b+128) 0 s.2.Centres.length 1,eI s.2.Faults,.so (b+192) 0 s.2.Calls.length 2])]++kh)++([(b+0,.cells (flE (ceE bM) s.2.Net.Edges)),(b+64,.cells (flE (ceE eI) s.2.Urgent)),(b+128,.cells (flE (ceE eI) s.2.Centres)),(b+192,.cells (flE (ceE bA) s.2.Calls))]++kr)),b+320⟩) ?_;(conv=>whnf);refine And.intro ?_ (fun s m h=>dY ?_)
 ·refine gQ ?_;conv=>whnf
  exact And.intro rfl (And.intro (aLc wkI (aLc (WkR.ptr (fun _=>rfl)) (aLc (WkR.ptr (fun _=>rfl)) (aLc (WkR.ptr (fun _=>rfl)) aLn)))) (aLc ⟨some _,rfl,bRc rfl (cKc wkI (cKc (WkR.so (fun _=>rfl)) (cKc (WkR.so (fun _=>rfl)) (cKc (WkR.so (fun _=>rfl)) (cKc wkI (cKc (WkR.nilso (fun _=>rfl)) cKn))))))⟩ (aLc ⟨some _,rfl,bRc rfl (cKc wkI (cKc (wkr (lsL fun _=>(aC _))) (cKc (wkr (lsL fun _=>(lsI _ _))) (cKc (wkr (lsL fun _=>(lsI _ _))) (cKc wkI (cKc (wkr (lsL fun _=>(aA _))) cKn))))))⟩ (aLc ⟨some _,rfl,bRc rfl (cKc wkI (cKc (wkr aG) (cKc (wkr aG) (cKc (wkr aG) (cKc wkI (cKc (wkr aG) cKn))))))⟩ (aLc ⟨some _,rfl,jP rfl (fun _=>(lsC (lsI _ _) (lsC (lsI _ _) (lsC (lsI _ _) lsN))))⟩ (aLc ⟨some _,rfl,jP rfl (fun _=>(lsC (lsI _ _) lsN))⟩ (aLc ⟨some _,rfl,jP rfl (fun _=>(lsC (lsI _ _) lsN))⟩ (aLc ⟨none,rfl,aMG⟩ aLn))))))))
 replace h:=bE h;rw [nR.eq_1] at h
 refine aL ?_
 refine aB dCo rfl fun K hK=>?_;conv=>whnf
 refine nlA rfl ?_;conv=>whnf
 refine bKo rfl ?_;conv=>whnf
 refine gKo rfl ?_;conv=>whnf
 refine hK _ _ _ ?_
 refine aT fun K1 K2 hK1 hK2=>?_;conv=>whnf
 refine cLk h (fun _ h=>?_) (fun _ h=>?_)
 ·refine hK1 ?_
  refine aK ?_
  refine tHn ?_
  refine aL ?_
  refine aN ?_
  refine zU dCo cJ rfl (by kernel_rfl) fun K hK=>?_;conv=>whnf
  refine nlA rfl ?_;conv=>whnf
  refine bKo rfl ?_;conv=>whnf
  refine gKo rfl ?_;conv=>whnf
  refine hZ (enc:=eI) (d:=default) dCo h rfl rfl rfl ⟨nle rfl,nle rfl,rfl⟩ rfl trivial (fun h=>?_);conv=>whnf
  refine nlA rfl ?_;conv=>whnf
  refine bKo rfl ?_;conv=>whnf
  refine gKo rfl ?_;conv=>whnf
  refine cA h fun _ h=>?_;conv=>whnf
  refine gKo rfl ?_;conv=>whnf
  refine aMI (enc:=eI) (d:=default) dCo h rfl rfl rfl ⟨rfl,nle rfl,nle rfl,nle rfl,rfl⟩ (fun _=>rfl) (fun h=>?_);conv=>whnf
  refine nlA rfl ?_;conv=>whnf
  refine bKo rfl ?_;conv=>whnf
  refine gKo rfl ?_;conv=>whnf
  refine cA h fun _ h=>?_;conv=>whnf
  refine gKo rfl ?_;conv=>whnf
  refine aHU (enc:=bA) (d:=default) dCo h rfl rfl rfl ⟨nle rfl,nle rfl,rfl⟩ rfl ⟨⟨_,⟨rfl,nle rfl⟩,(fL (aF eD (aF (Wk.refl _) bO)))⟩,trivial⟩ (fun h=>?_);conv=>whnf
  refine aCi (enc:=bA) (d:=default) dCo h rfl rfl rfl ⟨rfl,nle rfl,nle rfl,nle rfl,rfl⟩ (fun _=>rfl) (fun _=>rfl) (fun _=>nofun) rfl (rfl) (fun h=>?_);conv=>whnf
  refine bKo rfl ?_;conv=>whnf
  refine And.intro rfl (And.intro (nle rfl) (And.intro rfl ?_));conv=>whnf
  refine hK _ _ _ ?_
  refine iBn ?_
  refine tHn ?_
  refine cK dCo rfl fun K hK=>?_;conv=>whnf
  refine hK _ _ _ ?_
  refine tHn ?_
  replace h:=bY h
  refine ⟨_,h,?_⟩
  refine gQ ?_;conv=>whnf
  exact And.intro rfl (And.intro (aLc wkI (aLc (WkR.ptr (fun _=>rfl)) (aLc (WkR.ptr (fun _=>rfl)) (aLc (WkR.ptr (fun _=>rfl)) aLn)))) (aLc ⟨some _,rfl,bRc rfl (cKc wkI (cKc (WkR.so (fun _=>rfl)) (cKc (WkR.so (fun _=>rfl)) (cKc (WkR.so (fun _=>rfl)) (cKc wkI (cKc (WkR.so (fun _=>rfl)) cKn))))))⟩ (aLc ⟨some _,rfl,bRc rfl (cKc wkI (cKc (wkr (lsL fun _=>(aC _))) (cKc (wkr (lsL fun _=>(lsI _ _))) (cKc (wkr (lsL fun _=>(lsI _ _))) (cKc wkI (cKc (wkr (lsL fun _=>(aA _))) cKn))))))⟩ (aLc ⟨some _,rfl,bRc rfl (cKc wkI (cKc (wkr aG) (cKc (wkr aG) (cKc (wkr aG) (cKc wkI (cKc (wkr aG) cKn))))))⟩ (aLc ⟨some _,rfl,jP rfl (fun _=>(lsC (lsI _ _) (lsC (lsI _ _) (lsC (lsI _ _) lsN))))⟩ (aLc ⟨some _,rfl,jP rfl (fun _=>(lsC (lsI _ _) lsN))⟩ (aLc ⟨some _,rfl,jP rfl (fun _=>(lsC (lsI _ _) lsN))⟩ (aLc ⟨some _,rfl,jP rfl (fun _=>(lsC (lsL fun _=>(lsI _ _)) (lsC (lsI _ _) lsN)))⟩ aLn))))))))
 refine hK2 ?_
 refine bN ?_
 refine aW ?_
 refine aW ?_
 refine aV ?_
 replace h:=eA h
 replace h:=dZ h
 refine tHn ?_
 refine aB dCo rfl fun K hK=>?_;conv=>whnf
 refine nlA rfl ?_;conv=>whnf
 refine bKo rfl ?_;conv=>whnf
 refine nlA rfl ?_;conv=>whnf
 refine bKo rfl ?_;conv=>whnf
 refine And.intro rfl (And.intro (nle rfl) (And.intro rfl ?_));conv=>whnf
 refine hK _ _ _ ?_
 refine aJ ?_
 replace h:=aI h
 refine aKs dCo fun K hK=>?_;conv=>whnf
 refine nlA rfl ?_;conv=>whnf
 refine bKo rfl ?_;conv=>whnf
 refine nlA rfl ?_;conv=>whnf
 refine hK _ ?_
 cases h
 refine ⟨rfl,rfl,rfl,(aIS (oX (rU (Wk.refl _) (lsI _ _)) (oX (aCn (aI5 (k:=0) rfl) rfl) (oX (aCn (aI5 (k:=1) rfl) rfl) (oX (aCn (aI5 (k:=2) rfl) rfl) (oX (rU (Wk.refl _) (lsI _ _)) (oX (aCn (aI5 (k:=3) rfl) rfl) aGz))))))),fun k n x h1 h2=>?_⟩
 exact match k,n,x,h1,h2 with | 0,n,x,h1,h2=>by cases h1;cases h2;exact ⟨_,rfl,aDb (fun _=>(lsC (lsI _ _) (lsC (lsI _ _) (lsC (lsI _ _) lsN)))) _⟩ | 1,n,x,h1,h2=>by cases h1;cases h2;exact ⟨_,rfl,aDb (fun _=>(lsC (lsI _ _) lsN)) _⟩ | 2,n,x,h1,h2=>by cases h1;cases h2;exact ⟨_,rfl,aDb (fun _=>(lsC (lsI _ _) lsN)) _⟩ | 3,n,x,h1,h2=>by cases h1;cases h2;exact ⟨_,rfl,aDb (fun _=>(lsC (lsL fun _=>(lsI _ _)) (lsC (lsI _ _) lsN))) _⟩ | k+4,n,x,h1,h2=>by cases h1
def iH (a0:dE):Option Bool:=let v1:=(decide (a0.Capacity<0));some v1
def jQ:List AV→AV→Prop:=fun args r=>∃ a0,args=[bM a0]∧W (iH a0) fun y=>r=(eB y)
theorem aAm {T:Tbl} (hT:TOk Tryz.prog T) (hpf:cI T PF):FOk Tryz.prog 75 (aH jQ):=by
 refine bB hT hpf Tryz.func75 rfl Tryz.ntmps75 Tryz.results75 (by decide) ?_
 rintro args r ⟨a0,rfl,h⟩
 refine ⟨nle rfl,?_,?_⟩
 ·exact (lsC (aC _) lsN)
 rw [iH.eq_1] at h
 refine aB dCo rfl fun K hK=>?_;conv=>whnf
 refine hK _ _ _ ?_
 refine aB dCo rfl fun K hK=>?_;conv=>whnf
 refine nlA rfl ?_;conv=>whnf
 refine bKo rfl ?_;conv=>whnf
 refine gKo rfl ?_;conv=>whnf
 refine hK _ _ _ ?_
 refine aJ ?_
 replace h:=aI h
 refine aE dCo fun K hK=>?_;conv=>whnf
 refine hK _ ?_
 cases h
 exact Wk.refl _
theorem xJ {T:Tbl} (hT:T 75=aH jQ) {args:List AV} {hp:bF} {id:Nat} {k:AV→bF→Prop} {a0:dE} {Φ:Bool→Prop} (h:W (iH a0) Φ) (hw:WkL args [bM a0]) (hk:∀ y,Φ y→k (eB y) hp):uU T 75 args hp id k:=by
 obtain ⟨y,e,hy⟩:=dL h
 exact kM hT ⟨a0,rfl,kS e rfl⟩ (by exact (lsB _)) hw (hk y hy)
def eO (a0:List dE) (s1:Int):Option (Ct Int Int):=cn (decide (s1<(a0.length:Int))) (ix a0 default s1 fun e2=>
  bd (iH e2) fun y3=>cn y3 (some (.rt s1)) (some (.nx (wr (s1+1))))) (some (.bk s1))
def eY (a0:List dE):Option Int:=bd (lp (eO a0) FU 0) fun c4=>smK c4 (fun s5=>some (-1)) (fun r6=>some r6)
def oF:List AV→AV→Prop:=fun args r=>∃ a0,args=[(eL 3 bM default) a0,.fn 75 [] []]∧W (eY a0) fun y=>r=(eI y)
theorem tJ {T:Tbl} (hT:TOk Tryz.prog T) (hpf:cI T PF) (h75:T 75=aH jQ):FOk Tryz.prog 74 (aH oF):=by
 refine bB hT hpf Tryz.func74 rfl Tryz.ntmps74 Tryz.results74 (by decide) ?_
 rintro args r ⟨a0,rfl,h⟩
 refine ⟨nle rfl,?_,?_⟩
 ·exact (lsC (lsL fun _=>(aC _)) (lsC (lQ lsN lsN) lsN))
 rw [eY.eq_1] at h
 refine aB dCo rfl fun K hK=>?_;conv=>whnf
 refine hK _ _ _ ?_
 refine aL ?_
 refine aB dCo rfl fun K hK=>?_;conv=>whnf
 refine hK _ _ _ ?_
 refine aN ?_
 replace h:=bE h
 refine dS (body:=eO _) rfl h [0,1,7] [] [] (fun kl kh ids b s=>⟨ofL ([(8,eI s)]++kl),ofH ([]++kh),b+64⟩) ?_;(conv=>whnf);refine And.intro ?_ (fun s m h=>dY ?_)
 ·refine aO ?_;conv=>whnf
  exact And.intro rfl (And.intro (aLc wkI (aLc (wkr (lsL fun _=>(aC _))) (aLc (xQ kY kY) (aLc wkI aLn)))) aLn)
 replace h:=bE h;rw [eO.eq_1] at h
 refine aB dCo rfl fun K hK=>?_;conv=>whnf
 refine hK _ _ _ ?_
 refine aL ?_
 refine aT fun K1 K2 hK1 hK2=>?_;conv=>whnf
 refine cLk h (fun _ h=>?_) (fun _ h=>?_)
 ·refine hK1 ?_
  refine aK ?_
  refine tHn ?_
  refine aL ?_
  refine aN ?_
  refine aB dCo rfl fun K hK=>?_;conv=>whnf
  refine hK _ _ _ ?_
  refine aB dCo rfl fun K hK=>?_;conv=>whnf
  refine cA h fun _ h=>?_;conv=>whnf
  refine nlA rfl ?_;conv=>whnf
  replace h:=bE h
  refine xJ h75 h (WkL.refl _) (fun _ h=>?_);conv=>whnf
  refine hK _ _ _ ?_
  refine aT fun K1 K2 hK1 hK2=>?_;conv=>whnf
  refine cLk h (fun _ h=>?_) (fun _ h=>?_)
  ·refine hK1 ?_
   refine aB dCo rfl fun K hK=>?_;conv=>whnf
   refine hK _ _ _ ?_
   refine aJ ?_
   refine aP ?_
   refine aM ?_
   refine aM ?_
   refine aP ?_
   refine aM ?_
   replace h:=iG h
   replace h:=iF h
   replace h:=aI h
   refine aE dCo fun K hK=>?_;conv=>whnf
   refine hK _ ?_
   cases h
   exact Wk.refl _
  refine hK2 ?_
  refine aK ?_
  refine iBn ?_
  refine tHn ?_
  refine cK dCo rfl fun K hK=>?_;conv=>whnf
  refine hK _ _ _ ?_
  refine tHn ?_
  replace h:=bY h
  refine ⟨_,h,?_⟩
  refine aO ?_;conv=>whnf
  exact And.intro rfl (And.intro (aLc wkI (aLc (wkr (lsL fun _=>(aC _))) (aLc (xQ kY kY) (aLc wkI aLn)))) aLn)
 refine hK2 ?_
 refine bN ?_
 refine aW ?_
 refine aW ?_
 refine aV ?_
 replace h:=eA h
 replace h:=dZ h
 refine tHn ?_
 refine aB dCo rfl fun K hK=>?_;conv=>whnf
 refine hK _ _ _ ?_
 refine aJ ?_
 replace h:=aI h
 refine aE dCo fun K hK=>?_;conv=>whnf
 refine hK _ ?_
 cases h
 exact Wk.refl _
def cP (a0:List dE) (c910:bG) (s1:Int):Option (Ct Int Int):=cn (decide (s1<(a0.length:Int))) (ix a0 default s1 fun e2=>
  bd (gO e2 c910) fun y3=>cn y3 (some (.rt s1)) (some (.nx (wr (s1+1))))) (some (.bk s1))
def dM (a0:List dE) (c910:bG):Option Int:=bd (lp (cP a0 c910) FU 0) fun c4=>smK c4 (fun s5=>some (-1)) (fun r6=>
  some r6)
def oG:List AV→AV→Prop:=fun args r=>∃ a0 c910,args=[(eL 3 bM default) a0,.fn 62 [] [.ep [eI c910.N,(eL 3 bM default) c910.Edges] 0]]∧W (dM a0 c910) fun y=>r=(eI y)
theorem tK {T:Tbl} (hT:TOk Tryz.prog T) (hpf:cI T PF) (h62:T 62=aH mD):FOk Tryz.prog 74 (aH oG):=by
 refine bB hT hpf Tryz.func74 rfl Tryz.ntmps74 Tryz.results74 (by decide) ?_
 rintro args r ⟨a0,c910,rfl,h⟩
 refine ⟨nle rfl,?_,?_⟩
 ·exact (lsC (lsL fun _=>(aC _)) (lsC (lQ lsN (lsC (lsE (lsC (lsI _ _) (lsC (lsL fun _=>(aC _)) lsN))) lsN)) lsN))
 rw [dM.eq_1] at h
 refine aB dCo rfl fun K hK=>?_;conv=>whnf
 refine hK _ _ _ ?_
 refine aL ?_
 refine aB dCo rfl fun K hK=>?_;conv=>whnf
 refine hK _ _ _ ?_
 refine aN ?_
 replace h:=bE h
 refine dS (body:=cP _ _) rfl h [0,1,7] [] [] (fun kl kh ids b s=>⟨ofL ([(8,eI s)]++kl),ofH ([]++kh),b+64⟩) ?_;(conv=>whnf);refine And.intro ?_ (fun s m h=>dY ?_)
 ·refine aO ?_;conv=>whnf
  exact And.intro rfl (And.intro (aLc wkI (aLc (wkr (lsL fun _=>(aC _))) (aLc (xQ kY (qA (wkr (lsE (lsC (lsI _ _) (lsC (lsL fun _=>(aC _)) lsN)))) kY)) (aLc wkI aLn)))) aLn)
 replace h:=bE h;rw [cP.eq_1] at h
 refine aB dCo rfl fun K hK=>?_;conv=>whnf
 refine hK _ _ _ ?_
 refine aL ?_
 refine aT fun K1 K2 hK1 hK2=>?_;conv=>whnf
 refine cLk h (fun _ h=>?_) (fun _ h=>?_)
 ·refine hK1 ?_
  refine aK ?_
  refine tHn ?_
  refine aL ?_
  refine aN ?_
  refine aB dCo rfl fun K hK=>?_;conv=>whnf
  refine hK _ _ _ ?_
  refine aB dCo rfl fun K hK=>?_;conv=>whnf
  refine cA h fun _ h=>?_;conv=>whnf
  refine nlA rfl ?_;conv=>whnf
  replace h:=bE h
  refine yQ h62 h (WkL.refl _) (fun _ h=>?_);conv=>whnf
  refine hK _ _ _ ?_
  refine aT fun K1 K2 hK1 hK2=>?_;conv=>whnf
  refine cLk h (fun _ h=>?_) (fun _ h=>?_)
  ·refine hK1 ?_
   refine aB dCo rfl fun K hK=>?_;conv=>whnf
   refine hK _ _ _ ?_
   refine aJ ?_
   refine aP ?_
   refine aM ?_
   refine aM ?_
   refine aP ?_
   refine aM ?_
   replace h:=iG h
   replace h:=iF h
   replace h:=aI h
   refine aE dCo fun K hK=>?_;conv=>whnf
   refine hK _ ?_
   cases h
   exact Wk.refl _
  refine hK2 ?_
  refine aK ?_
  refine iBn ?_
  refine tHn ?_
  refine cK dCo rfl fun K hK=>?_;conv=>whnf
  refine hK _ _ _ ?_
  refine tHn ?_
  replace h:=bY h
  refine ⟨_,h,?_⟩
  refine aO ?_;conv=>whnf
  exact And.intro rfl (And.intro (aLc wkI (aLc (wkr (lsL fun _=>(aC _))) (aLc (xQ kY (qA (wkr (lsE (lsC (lsI _ _) (lsC (lsL fun _=>(aC _)) lsN)))) kY)) (aLc wkI aLn)))) aLn)
 refine hK2 ?_
 refine bN ?_
 refine aW ?_
 refine aW ?_
 refine aV ?_
 replace h:=eA h
 replace h:=dZ h
 refine tHn ?_
 refine aB dCo rfl fun K hK=>?_;conv=>whnf
 refine hK _ _ _ ?_
 refine aJ ?_
 replace h:=aI h
 refine aE dCo fun K hK=>?_;conv=>whnf
 refine hK _ ?_
 cases h
 exact Wk.refl _
def cX:List AV→AV→Prop:=fun args r=>oF args r∨oG args r
theorem sE {T:Tbl} (hT:T 74=aH cX) {args:List AV} {hp:bF} {id:Nat} {k:AV→Prop} {a0:List dE} {Φ:Int→Prop} (h:W (eY a0) Φ) (hw:WkL args [(eL 3 bM default) a0,.fn 75 [] []]) (hk:∀ y,Φ y→k (eI y)):bZ T 74 args hp id k:=by
 obtain ⟨y,e,hy⟩:=dL h
 exact aS hT (.inl ⟨a0,rfl,kS e rfl⟩) (by exact (lsI _ _)) hw (hk y hy)
theorem sK {T:Tbl} (hT:T 74=aH cX) {args:List AV} {hp:bF} {id:Nat} {k:AV→Prop} {a0:List dE} {c910:bG} {Φ:Int→Prop} (h:W (dM a0 c910) Φ) (hw:WkL args [(eL 3 bM default) a0,.fn 62 [] [.ep [eI c910.N,(eL 3 bM default) c910.Edges] 0]]) (hk:∀ y,Φ y→k (eI y)):bZ T 74 args hp id k:=by
 obtain ⟨y,e,hy⟩:=dL h
 exact aS hT (.inr ⟨a0,c910,rfl,kS e rfl⟩) (by exact (lsI _ _)) hw (hk y hy)
theorem uV {T:Tbl} (hT:TOk Tryz.prog T) (hpf:cI T PF) (h62:T 62=aH mD) (h75:T 75=aH jQ):FOk Tryz.prog 74 (aH cX):=(aPB (tJ hT hpf h75) (tK hT hpf h62))
def cH (a0:List dE) (c910:bG):Option Bool:=bd (dM a0 c910) fun y1=>some (decide (y1≥0))
def lY:List AV→AV→Prop:=fun args r=>∃ a0 c910,args=[(eL 3 bM default) a0,.fn 62 [] [.ep [eI c910.N,(eL 3 bM default) c910.Edges] 0]]∧W (cH a0 c910) fun y=>r=(eB y)
theorem sA {T:Tbl} (hT:TOk Tryz.prog T) (hpf:cI T PF) (h74:T 74=aH cX):FOk Tryz.prog 63 (aH lY):=by
 refine bB hT hpf Tryz.func63 rfl Tryz.ntmps63 Tryz.results63 (by decide) ?_
 rintro args r ⟨a0,c910,rfl,h⟩
 refine ⟨nle rfl,?_,?_⟩
 ·exact (lsC (lsL fun _=>(aC _)) (lsC (lQ lsN (lsC (lsE (lsC (lsI _ _) (lsC (lsL fun _=>(aC _)) lsN))) lsN)) lsN))
 rw [cH.eq_1] at h
 refine aB dCo rfl fun K hK=>?_;conv=>whnf
 refine hK _ _ _ ?_
 refine aB dCo rfl fun K hK=>?_;conv=>whnf
 replace h:=bE h
 refine sK h74 h (WkL.refl _) (fun _ h=>?_);conv=>whnf
 refine hK _ _ _ ?_
 refine aJ ?_
 replace h:=aI h
 refine aE dCo fun K hK=>?_;conv=>whnf
 refine hK _ ?_
 cases h
 exact Wk.refl _
def eX:List AV→AV→Prop:=fun args r=>lY args r
theorem qO {T:Tbl} (hT:T 63=aH eX) {args:List AV} {hp:bF} {id:Nat} {k:AV→Prop} {a0:List dE} {c910:bG} {Φ:Bool→Prop} (h:W (cH a0 c910) Φ) (hw:WkL args [(eL 3 bM default) a0,.fn 62 [] [.ep [eI c910.N,(eL 3 bM default) c910.Edges] 0]]) (hk:∀ y,Φ y→k (eB y)):bZ T 63 args hp id k:=by
 obtain ⟨y,e,hy⟩:=dL h
 exact aS hT ⟨a0,c910,rfl,kS e rfl⟩ (by exact (lsB _)) hw (hk y hy)
theorem tE {T:Tbl} (hT:TOk Tryz.prog T) (hpf:cI T PF) (h74:T 74=aH cX):FOk Tryz.prog 63 (aH eX):=(sA hT hpf h74)
def hU (a0:bG):Option Bool:=jn (fun p1:Bool=>cn p1 (some false) (bd (cH a0.Edges a0) fun y4=>some (!y4))) fun k2=>
  bd (fY a0.N 0 12) fun y3=>cn (!y3) (k2 true) (k2 (decide ((a0.Edges.length:Int)>40)))
def mS:List AV→AV→Prop:=fun args r=>∃ a0,args=[fF a0]∧W (hU a0) fun y=>r=(eB y)
theorem aFd {T:Tbl} (hT:TOk Tryz.prog T) (hpf:cI T PF) (h61:T 61=aH kJ) (h63:T 63=aH eX):FOk Tryz.prog 33 (aH mS):=by
 refine bB hT hpf Tryz.func33 rfl Tryz.ntmps33 Tryz.results33 (by decide) ?_
 rintro args r ⟨a0,rfl,h⟩
 refine ⟨nle rfl,?_,?_⟩
 ·exact (lsC (fA _) lsN)
 rw [hU.eq_1] at h
 refine aB dCo rfl fun K hK=>?_;conv=>whnf
 refine hK _ _ _ ?_
 refine aL ?_
 refine aB dCo rfl fun K hK=>?_;conv=>whnf
 replace h:=eW h
 refine nlA rfl ?_;conv=>whnf
 refine bKo rfl ?_;conv=>whnf
 refine gKo rfl ?_;conv=>whnf
 replace h:=bE h
 refine iS h61 h (WkL.refl _) (fun _ h=>?_);conv=>whnf
 refine cLk h (fun _ h=>?_) (fun _ h=>?_)<;>(conv=>whnf)
 ·refine hK _ _ _ ?_
  refine aT fun K1 K2 hK1 hK2=>?_;conv=>whnf
  refine hK1 ?_
  replace h:=kR h
  refine aB dCo rfl fun K hK=>?_;conv=>whnf
  refine hK _ _ _ ?_
  refine aJ ?_
  refine aM ?_
  replace h:=aI h
  refine aE dCo fun K hK=>?_;conv=>whnf
  refine hK _ ?_
  cases h
  exact Wk.refl _
 refine nlA rfl ?_;conv=>whnf
 refine bKo rfl ?_;conv=>whnf
 refine gKo rfl ?_;conv=>whnf
 refine hK _ _ _ ?_
 refine aT fun K1 K2 hK1 hK2=>?_;conv=>whnf
 refine cLk h (fun _ h=>?_) (fun _ h=>?_)
 ·refine hK1 ?_
  refine aB dCo rfl fun K hK=>?_;conv=>whnf
  refine hK _ _ _ ?_
  refine aJ ?_
  refine aM ?_
  replace h:=aI h
  refine aE dCo fun K hK=>?_;conv=>whnf
  refine hK _ ?_
  cases h
  exact Wk.refl _
 refine hK2 ?_
 refine aK ?_
 refine tHn ?_
 refine tC 1 ?_;(conv=>whnf);refine ⟨_,rfl,?_⟩
 refine aB dCo rfl fun K hK=>?_;conv=>whnf
 refine hK _ _ _ ?_
 refine aB dCo rfl fun K hK=>?_;conv=>whnf
 refine gKo rfl ?_;conv=>whnf
 replace h:=bE h
 refine qO h63 h (WkL.refl _) (fun _ h=>?_);conv=>whnf
 refine hK _ _ _ ?_
 refine aJ ?_
 replace h:=aI h
 refine aE dCo fun K hK=>?_;conv=>whnf
 refine hK _ ?_
 cases h
 exact Wk.refl _
theorem tH {T:Tbl} (hT:T 33=aH mS) {args:List AV} {hp:bF} {id:Nat} {k:AV→Prop} {a0:bG} {Φ:Bool→Prop} (h:W (hU a0) Φ) (hw:WkL args [fF a0]) (hk:∀ y,Φ y→k (eB y)):bZ T 33 args hp id k:=by
 obtain ⟨y,e,hy⟩:=dL h
 exact aS hT ⟨a0,rfl,kS e rfl⟩ (by exact (lsB _)) hw (hk y hy)
def cT (a0:List Int) (c910:Int) (s1:Int):Option (Ct Int Int):=cn (decide (s1<(a0.length:Int))) (ix a0 default s1 fun e2=>
  bd (dA e2 c910) fun y3=>cn y3 (some (.rt s1)) (some (.nx (wr (s1+1))))) (some (.bk s1))
def dU (a0:List Int) (c910:Int):Option Int:=bd (lp (cT a0 c910) FU 0) fun c4=>smK c4 (fun s5=>some (-1)) (fun r6=>
  some r6)
def oK:List AV→AV→Prop:=fun args r=>∃ a0 c910,args=[(eL 1 eI default) a0,.fn 36 [] [.ep [eI c910] 0]]∧W (dU a0 c910) fun y=>r=(eI y)
theorem tR {T:Tbl} (hT:TOk Tryz.prog T) (hpf:cI T PF) (h36:T 36=aH gE):FOk Tryz.prog 64 (aH oK):=by
 refine bB hT hpf Tryz.func64 rfl Tryz.ntmps64 Tryz.results64 (by decide) ?_
 rintro args r ⟨a0,c910,rfl,h⟩
 refine ⟨nle rfl,?_,?_⟩
 ·exact (lsC (lsL fun _=>(lsI _ _)) (lsC (lQ lsN (lsC (lsE (lsC (lsI _ _) lsN)) lsN)) lsN))
 rw [dU.eq_1] at h
 refine aB dCo rfl fun K hK=>?_;conv=>whnf
 refine hK _ _ _ ?_
 refine aL ?_
 refine aB dCo rfl fun K hK=>?_;conv=>whnf
 refine hK _ _ _ ?_
 refine aN ?_
 replace h:=bE h
 refine dS (body:=cT _ _) rfl h [0,1,7] [] [] (fun kl kh ids b s=>⟨ofL ([(8,eI s)]++kl),ofH ([]++kh),b+64⟩) ?_;(conv=>whnf);refine And.intro ?_ (fun s m h=>dY ?_)
 ·refine aO ?_;conv=>whnf
  exact And.intro rfl (And.intro (aLc wkI (aLc (wkr (lsL fun _=>(lsI _ _))) (aLc (xQ kY (qA (wkr (lsE (lsC (lsI _ _) lsN))) kY)) (aLc wkI aLn)))) aLn)
 replace h:=bE h;rw [cT.eq_1] at h
 refine aB dCo rfl fun K hK=>?_;conv=>whnf
 refine hK _ _ _ ?_
 refine aL ?_
 refine aT fun K1 K2 hK1 hK2=>?_;conv=>whnf
 refine cLk h (fun _ h=>?_) (fun _ h=>?_)
 ·refine hK1 ?_
  refine aK ?_
  refine tHn ?_
  refine aL ?_
  refine aN ?_
  refine aB dCo rfl fun K hK=>?_;conv=>whnf
  refine hK _ _ _ ?_
  refine aB dCo rfl fun K hK=>?_;conv=>whnf
  refine cA h fun _ h=>?_;conv=>whnf
  refine gKo rfl ?_;conv=>whnf
  replace h:=bE h
  refine vS h36 h (WkL.refl _) (fun _ h=>?_);conv=>whnf
  refine hK _ _ _ ?_
  refine aT fun K1 K2 hK1 hK2=>?_;conv=>whnf
  refine cLk h (fun _ h=>?_) (fun _ h=>?_)
  ·refine hK1 ?_
   refine aB dCo rfl fun K hK=>?_;conv=>whnf
   refine hK _ _ _ ?_
   refine aJ ?_
   refine aP ?_
   refine aM ?_
   refine aM ?_
   refine aP ?_
   refine aM ?_
   replace h:=iG h
   replace h:=iF h
   replace h:=aI h
   refine aE dCo fun K hK=>?_;conv=>whnf
   refine hK _ ?_
   cases h
   exact Wk.refl _
  refine hK2 ?_
  refine aK ?_
  refine iBn ?_
  refine tHn ?_
  refine cK dCo rfl fun K hK=>?_;conv=>whnf
  refine hK _ _ _ ?_
  refine tHn ?_
  replace h:=bY h
  refine ⟨_,h,?_⟩
  refine aO ?_;conv=>whnf
  exact And.intro rfl (And.intro (aLc wkI (aLc (wkr (lsL fun _=>(lsI _ _))) (aLc (xQ kY (qA (wkr (lsE (lsC (lsI _ _) lsN))) kY)) (aLc wkI aLn)))) aLn)
 refine hK2 ?_
 refine bN ?_
 refine aW ?_
 refine aW ?_
 refine aV ?_
 replace h:=eA h
 replace h:=dZ h
 refine tHn ?_
 refine aB dCo rfl fun K hK=>?_;conv=>whnf
 refine hK _ _ _ ?_
 refine aJ ?_
 replace h:=aI h
 refine aE dCo fun K hK=>?_;conv=>whnf
 refine hK _ ?_
 cases h
 exact Wk.refl _
def fG:List AV→AV→Prop:=fun args r=>oK args r
theorem sS {T:Tbl} (hT:T 64=aH fG) {args:List AV} {hp:bF} {id:Nat} {k:AV→Prop} {a0:List Int} {c910:Int} {Φ:Int→Prop} (h:W (dU a0 c910) Φ) (hw:WkL args [(eL 1 eI default) a0,.fn 36 [] [.ep [eI c910] 0]]) (hk:∀ y,Φ y→k (eI y)):bZ T 64 args hp id k:=by
 obtain ⟨y,e,hy⟩:=dL h
 exact aS hT ⟨a0,c910,rfl,kS e rfl⟩ (by exact (lsI _ _)) hw (hk y hy)
theorem vM {T:Tbl} (hT:TOk Tryz.prog T) (hpf:cI T PF) (h36:T 36=aH gE):FOk Tryz.prog 64 (aH fG):=(tR hT hpf h36)
def bW (a0:List Int) (c910:Int):Option Bool:=bd (dU a0 c910) fun y1=>some (decide (y1≥0))
def mL:List AV→AV→Prop:=fun args r=>∃ a0 c910,args=[(eL 1 eI default) a0,.fn 36 [] [.ep [eI c910] 0]]∧W (bW a0 c910) fun y=>r=(eB y)
theorem sI {T:Tbl} (hT:TOk Tryz.prog T) (hpf:cI T PF) (h64:T 64=aH fG):FOk Tryz.prog 37 (aH mL):=by
 refine bB hT hpf Tryz.func37 rfl Tryz.ntmps37 Tryz.results37 (by decide) ?_
 rintro args r ⟨a0,c910,rfl,h⟩
 refine ⟨nle rfl,?_,?_⟩
 ·exact (lsC (lsL fun _=>(lsI _ _)) (lsC (lQ lsN (lsC (lsE (lsC (lsI _ _) lsN)) lsN)) lsN))
 rw [bW.eq_1] at h
 refine aB dCo rfl fun K hK=>?_;conv=>whnf
 refine hK _ _ _ ?_
 refine aB dCo rfl fun K hK=>?_;conv=>whnf
 replace h:=bE h
 refine sS h64 h (WkL.refl _) (fun _ h=>?_);conv=>whnf
 refine hK _ _ _ ?_
 refine aJ ?_
 replace h:=aI h
 refine aE dCo fun K hK=>?_;conv=>whnf
 refine hK _ ?_
 cases h
 exact Wk.refl _
def fH:List AV→AV→Prop:=fun args r=>mL args r
theorem cM {T:Tbl} (hT:T 37=aH fH) {args:List AV} {hp:bF} {id:Nat} {k:AV→Prop} {a0:List Int} {c910:Int} {Φ:Bool→Prop} (h:W (bW a0 c910) Φ) (hw:WkL args [(eL 1 eI default) a0,.fn 36 [] [.ep [eI c910] 0]]) (hk:∀ y,Φ y→k (eB y)):bZ T 37 args hp id k:=by
 obtain ⟨y,e,hy⟩:=dL h
 exact aS hT ⟨a0,c910,rfl,kS e rfl⟩ (by exact (lsB _)) hw (hk y hy)
theorem tS {T:Tbl} (hT:TOk Tryz.prog T) (hpf:cI T PF) (h64:T 64=aH fG):FOk Tryz.prog 37 (aH fH):=(sI hT hpf h64)
def dT:List AV→AV→Prop:=fun args r=>∃ a0,args=[eI a0]∧r=.fn 36 [] [.ep [eI a0] 0]
theorem zZ {T:Tbl} (hT:TOk Tryz.prog T) (hpf:cI T PF):FOk Tryz.prog 35 (aH dT):=by
 refine bB hT hpf Tryz.func35 rfl Tryz.ntmps35 Tryz.results35 (by decide) ?_
 rintro args r ⟨a0,rfl,rfl⟩
 refine ⟨nle rfl,?_,?_⟩
 ·exact (lsC (lsI _ _) lsN)
 refine aB dCo rfl fun K hK=>?_;conv=>whnf
 refine hK _ _ _ ?_
 refine tC 1 ?_;(conv=>whnf);refine ⟨_,rfl,?_⟩
 refine aB dCo rfl fun K hK=>?_;conv=>whnf
 refine hK _ _ _ ?_
 refine aJ ?_
 refine aE dCo fun K hK=>?_;conv=>whnf
 refine hK _ ?_
 exact Wk.refl _
def cE (a0:List bI) (c910:aD) (s1:Int):Option (Ct Int Int):=cn (decide (s1<(a0.length:Int))) (ix a0 default s1 fun e2=>
  bd (dW e2 c910) fun y3=>cn y3 (some (.rt s1)) (some (.nx (wr (s1+1))))) (some (.bk s1))
def cR (a0:List bI) (c910:aD):Option Int:=bd (lp (cE a0 c910) FU 0) fun c4=>smK c4 (fun s5=>
  some (-1)) (fun r6=>some r6)
def lK:List AV→AV→Prop:=fun args r=>∃ a0 c910,args=[(eL 2 bA default) a0,.fn 39 [] [.ep [eI c910.Net.N,(eL 3 bM default) c910.Net.Edges,(eL 1 eI default) c910.Urgent,(eL 1 eI default) c910.Centres,eI c910.Faults,(eL 2 bA default) c910.Calls] 0]]∧W (cR a0 c910) fun y=>r=(eI y)
theorem qZ {T:Tbl} (hT:TOk Tryz.prog T) (hpf:cI T PF) (h39:T 39=aH iX):FOk Tryz.prog 65 (aH lK):=by
 refine bB hT hpf Tryz.func65 rfl Tryz.ntmps65 Tryz.results65 (by decide) ?_
 rintro args r ⟨a0,c910,rfl,h⟩
 refine ⟨nle rfl,?_,?_⟩
 ·exact (lsC (lsL fun _=>(aA _)) (lsC (lQ lsN (lsC (lsE (lsC (lsI _ _) (lsC (lsL fun _=>(aC _)) (lsC (lsL fun _=>(lsI _ _)) (lsC (lsL fun _=>(lsI _ _)) (lsC (lsI _ _) (lsC (lsL fun _=>(aA _)) lsN))))))) lsN)) lsN))
 rw [cR.eq_1] at h
 refine aB dCo rfl fun K hK=>?_;conv=>whnf
 refine hK _ _ _ ?_
 refine aL ?_
 refine aB dCo rfl fun K hK=>?_;conv=>whnf
 refine hK _ _ _ ?_
 refine aN ?_
 replace h:=bE h
 refine dS (body:=cE _ _) rfl h [0,1,7] [] [] (fun kl kh ids b s=>⟨ofL ([(8,eI s)]++kl),ofH ([]++kh),b+64⟩) ?_;(conv=>whnf);refine And.intro ?_ (fun s m h=>dY ?_)
 ·refine aO ?_;conv=>whnf
  exact And.intro rfl (And.intro (aLc wkI (aLc (wkr (lsL fun _=>(aA _))) (aLc (xQ kY (qA (wkr (lsE (lsC (lsI _ _) (lsC (lsL fun _=>(aC _)) (lsC (lsL fun _=>(lsI _ _)) (lsC (lsL fun _=>(lsI _ _)) (lsC (lsI _ _) (lsC (lsL fun _=>(aA _)) lsN)))))))) kY)) (aLc wkI aLn)))) aLn)
 replace h:=bE h;rw [cE.eq_1] at h
 refine aB dCo rfl fun K hK=>?_;conv=>whnf
 refine hK _ _ _ ?_
 refine aL ?_
 refine aT fun K1 K2 hK1 hK2=>?_;conv=>whnf
 refine cLk h (fun _ h=>?_) (fun _ h=>?_)
 ·refine hK1 ?_
  refine aK ?_
  refine tHn ?_
  refine aL ?_
  refine aN ?_
  refine aB dCo rfl fun K hK=>?_;conv=>whnf
  refine hK _ _ _ ?_
  refine aB dCo rfl fun K hK=>?_;conv=>whnf
  refine cA h fun _ h=>?_;conv=>whnf
  refine nlA rfl ?_;conv=>whnf
  replace h:=bE h
  refine wG h39 h (WkL.refl _) (fun _ h=>?_);conv=>whnf
  refine hK _ _ _ ?_
  refine aT fun K1 K2 hK1 hK2=>?_;conv=>whnf
  refine cLk h (fun _ h=>?_) (fun _ h=>?_)
  ·refine hK1 ?_
   refine aB dCo rfl fun K hK=>?_;conv=>whnf
   refine hK _ _ _ ?_
   refine aJ ?_
   refine aP ?_
   refine aM ?_
   refine aM ?_
   refine aP ?_
   refine aM ?_
   replace h:=iG h
   replace h:=iF h
   replace h:=aI h
   refine aE dCo fun K hK=>?_;conv=>whnf
   refine hK _ ?_
   cases h
   exact Wk.refl _
  refine hK2 ?_
  refine aK ?_
  refine iBn ?_
  refine tHn ?_
  refine cK dCo rfl fun K hK=>?_;conv=>whnf
  refine hK _ _ _ ?_
  refine tHn ?_
  replace h:=bY h
  refine ⟨_,h,?_⟩
  refine aO ?_;conv=>whnf
  exact And.intro rfl (And.intro (aLc wkI (aLc (wkr (lsL fun _=>(aA _))) (aLc (xQ kY (qA (wkr (lsE (lsC (lsI _ _) (lsC (lsL fun _=>(aC _)) (lsC (lsL fun _=>(lsI _ _)) (lsC (lsL fun _=>(lsI _ _)) (lsC (lsI _ _) (lsC (lsL fun _=>(aA _)) lsN)))))))) kY)) (aLc wkI aLn)))) aLn)
 refine hK2 ?_
 refine bN ?_
 refine aW ?_
 refine aW ?_
 refine aV ?_
 replace h:=eA h
 replace h:=dZ h
 refine tHn ?_
 refine aB dCo rfl fun K hK=>?_;conv=>whnf
 refine hK _ _ _ ?_
 refine aJ ?_
 replace h:=aI h
 refine aE dCo fun K hK=>?_;conv=>whnf
 refine hK _ ?_
 cases h
 exact Wk.refl _
def dG:List AV→AV→Prop:=fun args r=>lK args r
theorem qC {T:Tbl} (hT:T 65=aH dG) {args:List AV} {hp:bF} {id:Nat} {k:AV→Prop} {a0:List bI} {c910:aD} {Φ:Int→Prop} (h:W (cR a0 c910) Φ) (hw:WkL args [(eL 2 bA default) a0,.fn 39 [] [.ep [eI c910.Net.N,(eL 3 bM default) c910.Net.Edges,(eL 1 eI default) c910.Urgent,(eL 1 eI default) c910.Centres,eI c910.Faults,(eL 2 bA default) c910.Calls] 0]]) (hk:∀ y,Φ y→k (eI y)):bZ T 65 args hp id k:=by
 obtain ⟨y,e,hy⟩:=dL h
 exact aS hT ⟨a0,c910,rfl,kS e rfl⟩ (by exact (lsI _ _)) hw (hk y hy)
theorem sQ {T:Tbl} (hT:TOk Tryz.prog T) (hpf:cI T PF) (h39:T 39=aH iX):FOk Tryz.prog 65 (aH dG):=(qZ hT hpf h39)
def bX (a0:List bI) (c910:aD):Option Bool:=bd (cR a0 c910) fun y1=>some (decide (y1≥0))
def kA:List AV→AV→Prop:=fun args r=>∃ a0 c910,args=[(eL 2 bA default) a0,.fn 39 [] [.ep [eI c910.Net.N,(eL 3 bM default) c910.Net.Edges,(eL 1 eI default) c910.Urgent,(eL 1 eI default) c910.Centres,eI c910.Faults,(eL 2 bA default) c910.Calls] 0]]∧W (bX a0 c910) fun y=>r=(eB y)
theorem pT {T:Tbl} (hT:TOk Tryz.prog T) (hpf:cI T PF) (h65:T 65=aH dG):FOk Tryz.prog 38 (aH kA):=by
 refine bB hT hpf Tryz.func38 rfl Tryz.ntmps38 Tryz.results38 (by decide) ?_
 rintro args r ⟨a0,c910,rfl,h⟩
 refine ⟨nle rfl,?_,?_⟩
 ·exact (lsC (lsL fun _=>(aA _)) (lsC (lQ lsN (lsC (lsE (lsC (lsI _ _) (lsC (lsL fun _=>(aC _)) (lsC (lsL fun _=>(lsI _ _)) (lsC (lsL fun _=>(lsI _ _)) (lsC (lsI _ _) (lsC (lsL fun _=>(aA _)) lsN))))))) lsN)) lsN))
 rw [bX.eq_1] at h
 refine aB dCo rfl fun K hK=>?_;conv=>whnf
 refine hK _ _ _ ?_
 refine aB dCo rfl fun K hK=>?_;conv=>whnf
 replace h:=bE h
 refine qC h65 h (WkL.refl _) (fun _ h=>?_);conv=>whnf
 refine hK _ _ _ ?_
 refine aJ ?_
 replace h:=aI h
 refine aE dCo fun K hK=>?_;conv=>whnf
 refine hK _ ?_
 cases h
 exact Wk.refl _
def dK:List AV→AV→Prop:=fun args r=>kA args r
theorem dJ {T:Tbl} (hT:T 38=aH dK) {args:List AV} {hp:bF} {id:Nat} {k:AV→Prop} {a0:List bI} {c910:aD} {Φ:Bool→Prop} (h:W (bX a0 c910) Φ) (hw:WkL args [(eL 2 bA default) a0,.fn 39 [] [.ep [eI c910.Net.N,(eL 3 bM default) c910.Net.Edges,(eL 1 eI default) c910.Urgent,(eL 1 eI default) c910.Centres,eI c910.Faults,(eL 2 bA default) c910.Calls] 0]]) (hk:∀ y,Φ y→k (eB y)):bZ T 38 args hp id k:=by
 obtain ⟨y,e,hy⟩:=dL h
 exact aS hT ⟨a0,c910,rfl,kS e rfl⟩ (by exact (lsB _)) hw (hk y hy)
theorem qR {T:Tbl} (hT:TOk Tryz.prog T) (hpf:cI T PF) (h65:T 65=aH dG):FOk Tryz.prog 38 (aH dK):=(pT hT hpf h65)
def oO:List AV→AV→Prop:=fun args r=>∃ a0 a1,args=[fF a0,eI a1]∧r=.fn 92 [] [.ep [eI a0.N,(eL 3 bM default) a0.Edges] 0,.ep [eI a1] 0]
theorem aBQ {T:Tbl} (hT:TOk Tryz.prog T) (hpf:cI T PF):FOk Tryz.prog 89 (aH oO):=by
 refine bB hT hpf Tryz.func89 rfl Tryz.ntmps89 Tryz.results89 (by decide) ?_
 rintro args r ⟨a0,a1,rfl,rfl⟩
 refine ⟨nle rfl,?_,?_⟩
 ·exact (lsC (fA _) (lsC (lsI _ _) lsN))
 refine aB dCo rfl fun K hK=>?_;conv=>whnf
 refine hK _ _ _ ?_
 refine tC 2 ?_;(conv=>whnf);refine ⟨_,rfl,?_⟩
 refine tC 3 ?_;(conv=>whnf);refine ⟨_,rfl,?_⟩
 refine aB dCo rfl fun K hK=>?_;conv=>whnf
 refine hK _ _ _ ?_
 refine aJ ?_
 refine aE dCo fun K hK=>?_;conv=>whnf
 refine hK _ ?_
 exact Wk.refl _
  def eT (a9000:Type) (c900:bG) (c901:Int) (f9001:Int→a9000→Option a9000) (s1:Int×a9000):Option (Ct (Int×a9000) a9000):=cn (decide (s1.1<(c900.Edges.length:Int))) (ix c900.Edges default s1.1 fun e2=>
  jn (fun p3:a9000=>some (.nx ((wr (s1.1+1)),p3))) fun k4=>gd (0≤e2.From) (cn ((zF .i64 (zD .i64 c901 e2.From) 1) ==
  1) (gd (0≤e2.To) (cn ((zF .i64 (zD .i64 c901 e2.To) 1)==0) (bd (f9001 s1.1 s1.2) fun g5=>k4 g5) (k4 s1.2))) (k4 s1.2))) (some (.bk (s1.1,s1.2)))
  def iI (c900:bG) (c901:Int) (a9000:Type) (f9001:Int→a9000→Option a9000) (g9002:a9000):Option a9000:=bd (lp (eT a9000 c900 c901 f9001) FU (0,g9002)) fun c6=>
  smK c6 (fun s7=>some s7.2) (fun r8=>some r8)
def pB:List AV→(∀ σ:Type,(Int→σ→Option σ)→σ→Option σ)→Prop:=fun caps F=>∃ c900 c901,caps=[.ep [eI c900.N,(eL 3 bM default) c900.Edges] 0,.ep [eI c901] 0]∧F=iI c900 c901
theorem aAu {T:Tbl} (hT:TOk Tryz.prog T) (hpf:cI T PF):FOk Tryz.prog 92 (itR Tryz.prog (fun x=>[Value.int .i64 x]) pB):=by
 refine aMa hT hpf Tryz.func92 rfl Tryz.ntmps92 Tryz.results92 (by decide) ?_
 rintro caps F ⟨c900,c901,rfl,rfl⟩
 refine ⟨(lsC (lsE (lsC (lsI _ _) (lsC (lsL fun _=>(aC _)) lsN))) (lsC (lsE (lsC (lsI _ _) lsN)) lsN)),nle rfl,fun gS gG a9000 gi f9001 g9002 gfin hP hY h=>?_⟩
 rw [iI.eq_1] at h
 refine aB dCo rfl fun K hK=>?_;conv=>whnf
 refine gKo rfl ?_;conv=>whnf
 refine hK _ _ _ ?_
 refine aN ?_
 replace h:=bE h
 refine dS (body:=eT _ _ _ _) rfl h [0,2,7,8] [] [] (fun kl kh ids b s=>⟨ofL ([(9,eI s.1)]++kl),ofH ([(0,.gh gS gG (gi s.2))]++kh),b+64⟩) ?_;(conv=>whnf);refine And.intro ?_ (fun s m h=>dY ?_)
 ·refine aO ?_;conv=>whnf
  exact And.intro rfl (And.intro (aLc wkI (aLc (oH (fun _=>rfl)) (aLc (wkr (lsE (lsC (lsI _ _) lsN))) (aLc (wkr (lsL fun _=>(aC _))) (aLc wkI aLn))))) (aLc ⟨some _,rfl,xF rfl⟩ aLn))
 replace h:=bE h;rw [eT.eq_1] at h
 refine aB dCo rfl fun K hK=>?_;conv=>whnf
 refine hK _ _ _ ?_
 refine aL ?_
 refine aT fun K1 K2 hK1 hK2=>?_;conv=>whnf
 refine cLk h (fun _ h=>?_) (fun _ h=>?_)
 ·refine hK1 ?_
  refine aK ?_
  refine tHn ?_
  refine aL ?_
  refine aN ?_
  refine aB dCo rfl fun K hK=>?_;conv=>whnf
  refine cA h fun _ h=>?_;conv=>whnf
  refine nlA rfl ?_;conv=>whnf
  refine bKo rfl ?_;conv=>whnf
  refine And.intro rfl (And.intro (nle rfl) (And.intro rfl ?_));conv=>whnf
  refine hK _ _ _ ?_
  refine aB dCo rfl fun K hK=>?_;conv=>whnf
  replace h:=eW h
  refine gKo rfl ?_;conv=>whnf
  refine nlA rfl ?_;conv=>whnf
  refine bKo rfl ?_;conv=>whnf
  refine gKo rfl ?_;conv=>whnf
  refine kQ h fun _ h=>?_;conv=>whnf
  refine cLk h (fun _ h=>?_) (fun _ h=>?_)<;>(conv=>whnf)
  ·refine gKo rfl ?_;conv=>whnf
   refine nlA rfl ?_;conv=>whnf
   refine bKo rfl ?_;conv=>whnf
   refine gKo rfl ?_;conv=>whnf
   refine kQ h fun _ h=>?_;conv=>whnf
   refine cLk h (fun _ h=>?_) (fun _ h=>?_)<;>(conv=>whnf)
   ·refine aMz hY hP h rfl (aL0 _) (fun _ h=>?_);conv=>whnf
    refine hK _ _ _ ?_
    refine aT fun K1 K2 hK1 hK2=>?_;conv=>whnf
    refine hK2 ?_
    refine aK ?_
    refine iBn ?_
    refine tHn ?_
    refine cK dCo rfl fun K hK=>?_;conv=>whnf
    refine hK _ _ _ ?_
    refine tHn ?_
    replace h:=bY h
    refine ⟨_,h,?_⟩
    refine aO ?_;conv=>whnf
    exact And.intro rfl (And.intro (aLc wkI (aLc (oH (fun _=>rfl)) (aLc (wkr (lsE (lsC (lsI _ _) lsN))) (aLc (wkr (lsL fun _=>(aC _))) (aLc wkI aLn))))) (aLc ⟨some _,rfl,xF rfl⟩ aLn))
   refine hK _ _ _ ?_
   refine aT fun K1 K2 hK1 hK2=>?_;conv=>whnf
   refine hK2 ?_
   refine aK ?_
   refine iBn ?_
   refine tHn ?_
   refine cK dCo rfl fun K hK=>?_;conv=>whnf
   refine hK _ _ _ ?_
   refine tHn ?_
   replace h:=bY h
   refine ⟨_,h,?_⟩
   refine aO ?_;conv=>whnf
   exact And.intro rfl (And.intro (aLc wkI (aLc (oH (fun _=>rfl)) (aLc (wkr (lsE (lsC (lsI _ _) lsN))) (aLc (wkr (lsL fun _=>(aC _))) (aLc wkI aLn))))) (aLc ⟨some _,rfl,xF rfl⟩ aLn))
  refine hK _ _ _ ?_
  refine aT fun K1 K2 hK1 hK2=>?_;conv=>whnf
  refine hK2 ?_
  refine aK ?_
  refine iBn ?_
  refine tHn ?_
  refine cK dCo rfl fun K hK=>?_;conv=>whnf
  refine hK _ _ _ ?_
  refine tHn ?_
  replace h:=bY h
  refine ⟨_,h,?_⟩
  refine aO ?_;conv=>whnf
  exact And.intro rfl (And.intro (aLc wkI (aLc (oH (fun _=>rfl)) (aLc (wkr (lsE (lsC (lsI _ _) lsN))) (aLc (wkr (lsL fun _=>(aC _))) (aLc wkI aLn))))) (aLc ⟨some _,rfl,xF rfl⟩ aLn))
 refine hK2 ?_
 refine bN ?_
 refine aW ?_
 refine aW ?_
 refine aV ?_
 replace h:=eA h
 replace h:=dZ h
 replace h:=aI h
 cases h
 exact ⟨rfl,rfl⟩
def jS (a0:bG) (x1:Int) (s2:Int):Option Int:=ix a0.Edges default x1 fun e4=>some (wr (s2+e4.Capacity))
def gU (a0:bG) (a1:Int):Option Int:=bd (iI a0 a1 Int (jS a0) 0) fun s3=>some s3
def mX:List AV→AV→Prop:=fun args r=>∃ a0 a1,args=[fF a0,eI a1]∧W (gU a0 a1) fun y=>r=(eI y)
theorem aA0 {T:Tbl} (hT:TOk Tryz.prog T) (hpf:cI T PF) (h89:T 89=aH oO) (h92:T 92=itR Tryz.prog (fun x=>[Value.int .i64 x]) pB):FOk Tryz.prog 84 (aH mX):=by
 refine bB hT hpf Tryz.func84 rfl Tryz.ntmps84 Tryz.results84 (by decide) ?_
 rintro args r ⟨a0,a1,rfl,h⟩
 refine ⟨nle rfl,?_,?_⟩
 ·exact (lsC (fA _) (lsC (lsI _ _) lsN))
 rw [gU.eq_1] at h
 refine aB dCo rfl fun K hK=>?_;conv=>whnf
 refine hK _ _ _ ?_
 refine aB dCo rfl fun K hK=>?_;conv=>whnf
 refine bKo rfl ?_;conv=>whnf
 refine And.intro rfl (And.intro (nle rfl) (And.intro rfl ?_));conv=>whnf
 refine hK _ _ _ ?_
 refine aL ?_
 refine aB dCo rfl fun K hK=>?_;conv=>whnf
 refine nlA rfl ?_;conv=>whnf
 refine bKo rfl ?_;conv=>whnf
 refine nlA rfl ?_;conv=>whnf
 refine aS h89 (S:=oO) ⟨a0,_,rfl,rfl⟩ (lQ lsN (lsC (lsE (lsC (lsI _ _) (lsC (lsL fun _=>(aC _)) lsN))) (lsC (lsE (lsC (lsI _ _) lsN)) lsN))) (WkL.refl _) ?_;conv=>whnf
 refine hK _ _ _ ?_
 refine aN ?_
 refine aDt rfl rfl [2,5,9] [(2,32),(5,33)] ?_;conv=>whnf
 refine And.intro ?_ ?_
 ·refine aEn ?_;conv=>whnf
  exact And.intro rfl (And.intro (aLc (WkR.ptr (fun _=>rfl)) (aLc (WkR.ptr (fun _=>rfl)) (aLc (xQ kY (qA (wkr (lsE (lsC (lsI _ _) (lsC (lsL fun _=>(aC _)) lsN)))) (qA (wkr (lsE (lsC (lsI _ _) lsN))) kY))) aLn))) (aLc ⟨some _,rfl,bRc rfl (cKc wkI (cKc (wkr (lsL fun _=>(aC _))) cKn))⟩ (aLc ⟨some _,rfl,bRc rfl (cKc wkI cKn)⟩ aLn)))
 obtain ⟨gfin,hfin,h⟩:=dL (bE h)
 refine aKL rfl rfl (fun x=>[eI x]) aQm (fun _=>rfl) (by decide) h92 rfl (F:=iI _ _) hfin ⟨_,_,rfl,rfl⟩ (nle rfl) (aLc (aDY (by decide)) (aLc (aDY (by decide)) (aLc (aMx vN (oY (aFI (oY (rW (lsI _ _)) (oY (rW (lsL fun _=>(aC _))) vN))) (oY (aFI (oY (rW (lsI _ _)) vN)) vN))) aLn))) (fun s=>[(32,.cells [eI a0.N,(eL 3 bM default) a0.Edges]),(33,.cells [eI s])]) (fun s=>(aLc rfl (aLc rfl aLn))) (fun x s gfin h=>?_) ?_
 ·clear hfin
  rw [jS.eq_1] at h
  refine cK dCo rfl fun K hK=>?_;conv=>whnf
  refine hK _ _ _ ?_
  refine tHn ?_
  refine aN ?_
  refine zU dCo cJ rfl (by kernel_rfl) fun K hK=>?_;conv=>whnf
  refine nlA rfl ?_;conv=>whnf
  refine bKo rfl ?_;conv=>whnf
  refine gKo rfl ?_;conv=>whnf
  refine nlA rfl ?_;conv=>whnf
  refine bKo rfl ?_;conv=>whnf
  refine gKo rfl ?_;conv=>whnf
  refine cA h fun _ h=>?_;conv=>whnf
  refine gKo rfl ?_;conv=>whnf
  refine bKo rfl ?_;conv=>whnf
  refine And.intro rfl (And.intro (nle rfl) (And.intro rfl ?_));conv=>whnf
  refine hK _ _ _ ?_
  refine iBn ?_
  replace h:=aI h
  cases h
  refine ⟨rfl,?_⟩
  refine aO (l:=[]) ?_;conv=>whnf
  exact And.intro rfl (And.intro aLn (aLc ⟨some _,rfl,bRc rfl (cKc wkI (cKc (wkr (lsL fun _=>(aC _))) cKn))⟩ (aLc ⟨some _,rfl,bRc rfl (cKc wkI cKn)⟩ aLn)))
 clear hfin
 refine iBn ?_
 refine tHn ?_
 refine aB dCo rfl fun K hK=>?_;conv=>whnf
 refine nlA rfl ?_;conv=>whnf
 refine bKo rfl ?_;conv=>whnf
 refine gKo rfl ?_;conv=>whnf
 refine hK _ _ _ ?_
 refine aJ ?_
 replace h:=aI h
 refine aE dCo fun K hK=>?_;conv=>whnf
 refine hK _ ?_
 cases h
 exact Wk.refl _
theorem zR {T:Tbl} (hT:T 84=aH mX) {args:List AV} {hp:bF} {id:Nat} {k:AV→Prop} {a0:bG} {a1:Int} {Φ:Int→Prop} (h:W (gU a0 a1) Φ) (hw:WkL args [fF a0,eI a1]) (hk:∀ y,Φ y→k (eI y)):bZ T 84 args hp id k:=by
 obtain ⟨y,e,hy⟩:=dL h
 exact aS hT ⟨a0,a1,rfl,kS e rfl⟩ (by exact (lsI _ _)) hw (hk y hy)
def dF (a0:aD):Option Bool:=jn (fun p1:Bool=>cn p1 (some false) (jn (fun p6:Bool=>
  cn p6 (some false) (bd (bX a0.Calls a0) fun y10=>some (!y10))) fun k7=>cn ((a0.Urgent.length:Int) !=
  a0.Net.N) (k7 true) (bd (bW a0.Urgent 1000) fun y8=>cn y8 (k7 true) (cn ((a0.Centres.length:Int) !=
  a0.Net.N) (k7 true) (bd (bW a0.Centres 10000) fun y9=>k7 y9))))) fun k2=>bd (hU a0.Net) fun y3=>
  cn (!y3) (k2 true) (bd (cL a0.Net.N 1 8) fun y4=>cn (!y4) (k2 true) (cn (decide ((a0.Net.Edges.length:Int) >
  20)) (k2 true) (bd (cL a0.Faults 0 2) fun y5=>cn (!y5) (k2 true) (k2 (decide ((a0.Calls.length:Int)>8))))))
def gY:List AV→AV→Prop:=fun args r=>∃ a0,args=[bD a0]∧W (dF a0) fun y=>r=(eB y)
theorem aAY {T:Tbl} (hT:TOk Tryz.prog T) (hpf:cI T PF) (h33:T 33=aH mS) (h34:T 34=aH fS) (h35:T 35=aH dT) (h37:T 37=aH fH) (h38:T 38=aH dK):FOk Tryz.prog 8 (aH gY):=by
 refine bB hT hpf Tryz.func8 rfl Tryz.ntmps8 Tryz.results8 (by decide) ?_
 rintro args r ⟨a0,rfl,h⟩
 refine ⟨nle rfl,?_,?_⟩
 ·exact (lsC (aR _) lsN)
 rw [dF.eq_1] at h
 refine aB dCo rfl fun K hK=>?_;conv=>whnf
 refine hK _ _ _ ?_
 refine aL ?_
 refine aB9 rfl h [1] [1] [] (fun kl kh ids b s=>⟨ofL ([(33,eB s)]++kl),ofH ([]++kh),b+64⟩) ?_;(conv=>whnf);refine And.intro (fun s h=>dY ?_) (fun k h=>?_)
 ·refine aT fun K1 K2 hK1 hK2=>?_;conv=>whnf
  refine cLk h (fun _ h=>?_) (fun _ h=>?_)
  ·refine hK1 ?_
   refine aB dCo rfl fun K hK=>?_;conv=>whnf
   refine hK _ _ _ ?_
   refine aJ ?_
   refine aM ?_
   replace h:=aI h
   refine aE dCo fun K hK=>?_;conv=>whnf
   refine hK _ ?_
   cases h
   exact Wk.refl _
  refine hK2 ?_
  refine aK ?_
  refine tHn ?_
  refine aB dCo rfl fun K hK=>?_;conv=>whnf
  refine hK _ _ _ ?_
  refine aL ?_
  refine aH8 (.step 0 (.step 1 (.step 2 (.step 3 (.step 4 (.step 5 (.step 6 (.step 7 (.step 8 (.step 10 (.two 9 11 (.step 11 (.step 12 (.step 13 (.step 14 (.step 15 (.step 16 (.step 17 (.step 18 (.step 19 (.step 20 (.step 21 (.step 22 (.step 23 (.step 24 (.step 26 (.two 25 27 (.step 27 (.step 28 (.step 29 (.nil)))) (.step 25 (.step 28 (.step 29 (.nil)))))))))))))))))))) (.step 9 (.step 12 (.step 13 (.step 14 (.step 15 (.step 16 (.step 17 (.step 18 (.step 19 (.step 20 (.step 21 (.step 22 (.step 23 (.step 24 (.step 26 (.two 25 27 (.step 27 (.step 28 (.step 29 (.nil)))) (.step 25 (.step 28 (.step 29 (.nil))))))))))))))))))))))))))))))) dCo cJ rfl (by kernel_rfl) fun K hK=>?_;conv=>whnf
  replace h:=eW h
  refine nlA rfl ?_;conv=>whnf
  refine bKo rfl ?_;conv=>whnf
  refine gKo rfl ?_;conv=>whnf
  refine nlA rfl ?_;conv=>whnf
  refine bKo rfl ?_;conv=>whnf
  refine gKo rfl ?_;conv=>whnf
  refine cLk h (fun _ h=>?_) (fun _ h=>?_)<;>(conv=>whnf)
  ·refine And.intro ?_ ?_<;>(conv=>whnf)
   ·refine And.intro ?_ ?_<;>(conv=>whnf)
    ·refine hK _ _ _ ?_
     refine aT fun K1 K2 hK1 hK2=>?_;conv=>whnf
     refine hK1 ?_
     replace h:=kR h
     refine aB dCo rfl fun K hK=>?_;conv=>whnf
     refine hK _ _ _ ?_
     refine aJ ?_
     refine aM ?_
     replace h:=aI h
     refine aE dCo fun K hK=>?_;conv=>whnf
     refine hK _ ?_
     cases h
     exact Wk.refl _
    refine hK _ _ _ ?_
    refine aT fun K1 K2 hK1 hK2=>?_;conv=>whnf
    refine hK1 ?_
    replace h:=kR h
    refine aB dCo rfl fun K hK=>?_;conv=>whnf
    refine hK _ _ _ ?_
    refine aJ ?_
    refine aM ?_
    replace h:=aI h
    refine aE dCo fun K hK=>?_;conv=>whnf
    refine hK _ ?_
    cases h
    exact Wk.refl _
   refine And.intro ?_ ?_<;>(conv=>whnf)
   ·refine hK _ _ _ ?_
    refine aT fun K1 K2 hK1 hK2=>?_;conv=>whnf
    refine hK1 ?_
    replace h:=kR h
    refine aB dCo rfl fun K hK=>?_;conv=>whnf
    refine hK _ _ _ ?_
    refine aJ ?_
    refine aM ?_
    replace h:=aI h
    refine aE dCo fun K hK=>?_;conv=>whnf
    refine hK _ ?_
    cases h
    exact Wk.refl _
   refine hK _ _ _ ?_
   refine aT fun K1 K2 hK1 hK2=>?_;conv=>whnf
   refine hK1 ?_
   replace h:=kR h
   refine aB dCo rfl fun K hK=>?_;conv=>whnf
   refine hK _ _ _ ?_
   refine aJ ?_
   refine aM ?_
   replace h:=aI h
   refine aE dCo fun K hK=>?_;conv=>whnf
   refine hK _ ?_
   cases h
   exact Wk.refl _
  refine And.intro ?_ ?_<;>(conv=>whnf)
  ·refine nlA rfl ?_;conv=>whnf
   refine bKo rfl ?_;conv=>whnf
   refine gKo rfl ?_;conv=>whnf
   refine kM h35 (S:=dT) ⟨_,rfl,rfl⟩ (lQ lsN (lsC (lsE (lsC (lsI _ _) lsN)) lsN)) (WkL.refl _) ?_;conv=>whnf
   replace h:=bE h
   refine cM h37 h (WkL.refl _) (fun _ h=>?_);conv=>whnf
   refine cLk h (fun _ h=>?_) (fun _ h=>?_)<;>(conv=>whnf)
   ·refine And.intro ?_ ?_<;>(conv=>whnf)
    ·refine hK _ _ _ ?_
     refine aT fun K1 K2 hK1 hK2=>?_;conv=>whnf
     refine hK1 ?_
     replace h:=kR h
     refine aB dCo rfl fun K hK=>?_;conv=>whnf
     refine hK _ _ _ ?_
     refine aJ ?_
     refine aM ?_
     replace h:=aI h
     refine aE dCo fun K hK=>?_;conv=>whnf
     refine hK _ ?_
     cases h
     exact Wk.refl _
    refine hK _ _ _ ?_
    refine aT fun K1 K2 hK1 hK2=>?_;conv=>whnf
    refine hK1 ?_
    replace h:=kR h
    refine aB dCo rfl fun K hK=>?_;conv=>whnf
    refine hK _ _ _ ?_
    refine aJ ?_
    refine aM ?_
    replace h:=aI h
    refine aE dCo fun K hK=>?_;conv=>whnf
    refine hK _ ?_
    cases h
    exact Wk.refl _
   refine nlA rfl ?_;conv=>whnf
   refine bKo rfl ?_;conv=>whnf
   refine gKo rfl ?_;conv=>whnf
   refine nlA rfl ?_;conv=>whnf
   refine bKo rfl ?_;conv=>whnf
   refine gKo rfl ?_;conv=>whnf
   refine cLk h (fun _ h=>?_) (fun _ h=>?_)<;>(conv=>whnf)
   ·refine And.intro ?_ ?_<;>(conv=>whnf)
    ·refine hK _ _ _ ?_
     refine aT fun K1 K2 hK1 hK2=>?_;conv=>whnf
     refine hK1 ?_
     replace h:=kR h
     refine aB dCo rfl fun K hK=>?_;conv=>whnf
     refine hK _ _ _ ?_
     refine aJ ?_
     refine aM ?_
     replace h:=aI h
     refine aE dCo fun K hK=>?_;conv=>whnf
     refine hK _ ?_
     cases h
     exact Wk.refl _
    refine hK _ _ _ ?_
    refine aT fun K1 K2 hK1 hK2=>?_;conv=>whnf
    refine hK1 ?_
    replace h:=kR h
    refine aB dCo rfl fun K hK=>?_;conv=>whnf
    refine hK _ _ _ ?_
    refine aJ ?_
    refine aM ?_
    replace h:=aI h
    refine aE dCo fun K hK=>?_;conv=>whnf
    refine hK _ ?_
    cases h
    exact Wk.refl _
   refine And.intro ?_ ?_<;>(conv=>whnf)
   ·refine nlA rfl ?_;conv=>whnf
    refine bKo rfl ?_;conv=>whnf
    refine gKo rfl ?_;conv=>whnf
    refine kM h35 (S:=dT) ⟨_,rfl,rfl⟩ (lQ lsN (lsC (lsE (lsC (lsI _ _) lsN)) lsN)) (WkL.refl _) ?_;conv=>whnf
    replace h:=bE h
    refine cM h37 h (WkL.refl _) (fun _ h=>?_);conv=>whnf
    refine hK _ _ _ ?_
    refine aT fun K1 K2 hK1 hK2=>?_;conv=>whnf
    refine cLk h (fun _ h=>?_) (fun _ h=>?_)
    ·refine hK1 ?_
     refine aB dCo rfl fun K hK=>?_;conv=>whnf
     refine hK _ _ _ ?_
     refine aJ ?_
     refine aM ?_
     replace h:=aI h
     refine aE dCo fun K hK=>?_;conv=>whnf
     refine hK _ ?_
     cases h
     exact Wk.refl _
    refine hK2 ?_
    refine aK ?_
    refine tHn ?_
    refine tC 1 ?_;(conv=>whnf);refine ⟨_,rfl,?_⟩
    refine aB dCo rfl fun K hK=>?_;conv=>whnf
    refine gKo rfl ?_;conv=>whnf
    replace h:=bE h
    refine dJ h38 h (WkL.refl _) (fun _ h=>?_);conv=>whnf
    refine hK _ _ _ ?_
    refine aJ ?_
    replace h:=aI h
    refine aE dCo fun K hK=>?_;conv=>whnf
    refine hK _ ?_
    cases h
    exact Wk.refl _
   refine kM h35 (S:=dT) ⟨_,rfl,rfl⟩ (lQ lsN (lsC (lsE (lsC (lsI _ _) lsN)) lsN)) (WkL.refl _) ?_;conv=>whnf
   refine nlA rfl ?_;conv=>whnf
   refine bKo rfl ?_;conv=>whnf
   refine gKo rfl ?_;conv=>whnf
   replace h:=bE h
   refine cM h37 h (WkL.refl _) (fun _ h=>?_);conv=>whnf
   refine hK _ _ _ ?_
   refine aT fun K1 K2 hK1 hK2=>?_;conv=>whnf
   refine cLk h (fun _ h=>?_) (fun _ h=>?_)
   ·refine hK1 ?_
    refine aB dCo rfl fun K hK=>?_;conv=>whnf
    refine hK _ _ _ ?_
    refine aJ ?_
    refine aM ?_
    replace h:=aI h
    refine aE dCo fun K hK=>?_;conv=>whnf
    refine hK _ ?_
    cases h
    exact Wk.refl _
   refine hK2 ?_
   refine aK ?_
   refine tHn ?_
   refine tC 1 ?_;(conv=>whnf);refine ⟨_,rfl,?_⟩
   refine aB dCo rfl fun K hK=>?_;conv=>whnf
   refine gKo rfl ?_;conv=>whnf
   replace h:=bE h
   refine dJ h38 h (WkL.refl _) (fun _ h=>?_);conv=>whnf
   refine hK _ _ _ ?_
   refine aJ ?_
   replace h:=aI h
   refine aE dCo fun K hK=>?_;conv=>whnf
   refine hK _ ?_
   cases h
   exact Wk.refl _
  refine kM h35 (S:=dT) ⟨_,rfl,rfl⟩ (lQ lsN (lsC (lsE (lsC (lsI _ _) lsN)) lsN)) (WkL.refl _) ?_;conv=>whnf
  refine nlA rfl ?_;conv=>whnf
  refine bKo rfl ?_;conv=>whnf
  refine gKo rfl ?_;conv=>whnf
  replace h:=bE h
  refine cM h37 h (WkL.refl _) (fun _ h=>?_);conv=>whnf
  refine cLk h (fun _ h=>?_) (fun _ h=>?_)<;>(conv=>whnf)
  ·refine And.intro ?_ ?_<;>(conv=>whnf)
   ·refine hK _ _ _ ?_
    refine aT fun K1 K2 hK1 hK2=>?_;conv=>whnf
    refine hK1 ?_
    replace h:=kR h
    refine aB dCo rfl fun K hK=>?_;conv=>whnf
    refine hK _ _ _ ?_
    refine aJ ?_
    refine aM ?_
    replace h:=aI h
    refine aE dCo fun K hK=>?_;conv=>whnf
    refine hK _ ?_
    cases h
    exact Wk.refl _
   refine hK _ _ _ ?_
   refine aT fun K1 K2 hK1 hK2=>?_;conv=>whnf
   refine hK1 ?_
   replace h:=kR h
   refine aB dCo rfl fun K hK=>?_;conv=>whnf
   refine hK _ _ _ ?_
   refine aJ ?_
   refine aM ?_
   replace h:=aI h
   refine aE dCo fun K hK=>?_;conv=>whnf
   refine hK _ ?_
   cases h
   exact Wk.refl _
  refine nlA rfl ?_;conv=>whnf
  refine bKo rfl ?_;conv=>whnf
  refine gKo rfl ?_;conv=>whnf
  refine nlA rfl ?_;conv=>whnf
  refine bKo rfl ?_;conv=>whnf
  refine gKo rfl ?_;conv=>whnf
  refine cLk h (fun _ h=>?_) (fun _ h=>?_)<;>(conv=>whnf)
  ·refine And.intro ?_ ?_<;>(conv=>whnf)
   ·refine hK _ _ _ ?_
    refine aT fun K1 K2 hK1 hK2=>?_;conv=>whnf
    refine hK1 ?_
    replace h:=kR h
    refine aB dCo rfl fun K hK=>?_;conv=>whnf
    refine hK _ _ _ ?_
    refine aJ ?_
    refine aM ?_
    replace h:=aI h
    refine aE dCo fun K hK=>?_;conv=>whnf
    refine hK _ ?_
    cases h
    exact Wk.refl _
   refine hK _ _ _ ?_
   refine aT fun K1 K2 hK1 hK2=>?_;conv=>whnf
   refine hK1 ?_
   replace h:=kR h
   refine aB dCo rfl fun K hK=>?_;conv=>whnf
   refine hK _ _ _ ?_
   refine aJ ?_
   refine aM ?_
   replace h:=aI h
   refine aE dCo fun K hK=>?_;conv=>whnf
   refine hK _ ?_
   cases h
   exact Wk.refl _
  refine And.intro ?_ ?_<;>(conv=>whnf)
  ·refine nlA rfl ?_;conv=>whnf
   refine bKo rfl ?_;conv=>whnf
   refine gKo rfl ?_;conv=>whnf
   refine kM h35 (S:=dT) ⟨_,rfl,rfl⟩ (lQ lsN (lsC (lsE (lsC (lsI _ _) lsN)) lsN)) (WkL.refl _) ?_;conv=>whnf
   replace h:=bE h
   refine cM h37 h (WkL.refl _) (fun _ h=>?_);conv=>whnf
   refine hK _ _ _ ?_
   refine aT fun K1 K2 hK1 hK2=>?_;conv=>whnf
   refine cLk h (fun _ h=>?_) (fun _ h=>?_)
   ·refine hK1 ?_
    refine aB dCo rfl fun K hK=>?_;conv=>whnf
    refine hK _ _ _ ?_
    refine aJ ?_
    refine aM ?_
    replace h:=aI h
    refine aE dCo fun K hK=>?_;conv=>whnf
    refine hK _ ?_
    cases h
    exact Wk.refl _
   refine hK2 ?_
   refine aK ?_
   refine tHn ?_
   refine tC 1 ?_;(conv=>whnf);refine ⟨_,rfl,?_⟩
   refine aB dCo rfl fun K hK=>?_;conv=>whnf
   refine gKo rfl ?_;conv=>whnf
   replace h:=bE h
   refine dJ h38 h (WkL.refl _) (fun _ h=>?_);conv=>whnf
   refine hK _ _ _ ?_
   refine aJ ?_
   replace h:=aI h
   refine aE dCo fun K hK=>?_;conv=>whnf
   refine hK _ ?_
   cases h
   exact Wk.refl _
  refine kM h35 (S:=dT) ⟨_,rfl,rfl⟩ (lQ lsN (lsC (lsE (lsC (lsI _ _) lsN)) lsN)) (WkL.refl _) ?_;conv=>whnf
  refine nlA rfl ?_;conv=>whnf
  refine bKo rfl ?_;conv=>whnf
  refine gKo rfl ?_;conv=>whnf
  replace h:=bE h
  refine cM h37 h (WkL.refl _) (fun _ h=>?_);conv=>whnf
  refine hK _ _ _ ?_
  refine aT fun K1 K2 hK1 hK2=>?_;conv=>whnf
  refine cLk h (fun _ h=>?_) (fun _ h=>?_)
  ·refine hK1 ?_
   refine aB dCo rfl fun K hK=>?_;conv=>whnf
   refine hK _ _ _ ?_
   refine aJ ?_
   refine aM ?_
   replace h:=aI h
   refine aE dCo fun K hK=>?_;conv=>whnf
   refine hK _ ?_
   cases h
   exact Wk.refl _
  refine hK2 ?_
  refine aK ?_
  refine tHn ?_
  refine tC 1 ?_;(conv=>whnf);refine ⟨_,rfl,?_⟩
  refine aB dCo rfl fun K hK=>?_;conv=>whnf
  refine gKo rfl ?_;conv=>whnf
  replace h:=bE h
  refine dJ h38 h (WkL.refl _) (fun _ h=>?_);conv=>whnf
  refine hK _ _ _ ?_
  refine aJ ?_
  replace h:=aI h
  refine aE dCo fun K hK=>?_;conv=>whnf
  refine hK _ ?_
  cases h
  exact Wk.refl _
 refine cK dCo rfl fun K hK=>?_;conv=>whnf
 refine nlA rfl ?_;conv=>whnf
 refine bKo rfl ?_;conv=>whnf
 refine nlA rfl ?_;conv=>whnf
 replace h:=bE h
 refine tH h33 h (WkL.refl _) (fun _ h=>?_);conv=>whnf
 refine cLk h (fun _ h=>?_) (fun _ h=>?_)<;>(conv=>whnf)
 ·refine hK _ _ _ ?_
  refine tHn ?_
  refine ⟨_,h,?_⟩
  refine aO ?_;conv=>whnf
  exact And.intro rfl (And.intro (aLc (wkr (lsB _)) (aLc (WkR.ptr (fun _=>rfl)) aLn)) (aLc ⟨some _,rfl,bRc rfl (cKc wkI (cKc (wkr (lsL fun _=>(aC _))) (cKc (wkr (lsL fun _=>(lsI _ _))) (cKc (wkr (lsL fun _=>(lsI _ _))) (cKc wkI (cKc (wkr (lsL fun _=>(aA _))) cKn))))))⟩ aLn))
 refine nlA rfl ?_;conv=>whnf
 refine bKo rfl ?_;conv=>whnf
 refine gKo rfl ?_;conv=>whnf
 replace h:=bE h
 refine cU h34 h (WkL.refl _) (fun _ h=>?_);conv=>whnf
 refine cLk h (fun _ h=>?_) (fun _ h=>?_)<;>(conv=>whnf)
 ·refine hK _ _ _ ?_
  refine tHn ?_
  refine ⟨_,h,?_⟩
  refine aO ?_;conv=>whnf
  exact And.intro rfl (And.intro (aLc (wkr (lsB _)) (aLc (WkR.ptr (fun _=>rfl)) aLn)) (aLc ⟨some _,rfl,bRc rfl (cKc wkI (cKc (wkr (lsL fun _=>(aC _))) (cKc (wkr (lsL fun _=>(lsI _ _))) (cKc (wkr (lsL fun _=>(lsI _ _))) (cKc wkI (cKc (wkr (lsL fun _=>(aA _))) cKn))))))⟩ aLn))
 refine nlA rfl ?_;conv=>whnf
 refine bKo rfl ?_;conv=>whnf
 refine gKo rfl ?_;conv=>whnf
 refine cLk h (fun _ h=>?_) (fun _ h=>?_)<;>(conv=>whnf)
 ·refine hK _ _ _ ?_
  refine tHn ?_
  refine ⟨_,h,?_⟩
  refine aO ?_;conv=>whnf
  exact And.intro rfl (And.intro (aLc (wkr (lsB _)) (aLc (WkR.ptr (fun _=>rfl)) aLn)) (aLc ⟨some _,rfl,bRc rfl (cKc wkI (cKc (wkr (lsL fun _=>(aC _))) (cKc (wkr (lsL fun _=>(lsI _ _))) (cKc (wkr (lsL fun _=>(lsI _ _))) (cKc wkI (cKc (wkr (lsL fun _=>(aA _))) cKn))))))⟩ aLn))
 refine nlA rfl ?_;conv=>whnf
 refine bKo rfl ?_;conv=>whnf
 refine gKo rfl ?_;conv=>whnf
 replace h:=bE h
 refine cU h34 h (WkL.refl _) (fun _ h=>?_);conv=>whnf
 refine cLk h (fun _ h=>?_) (fun _ h=>?_)<;>(conv=>whnf)
 ·refine hK _ _ _ ?_
  refine tHn ?_
  refine ⟨_,h,?_⟩
  refine aO ?_;conv=>whnf
  exact And.intro rfl (And.intro (aLc (wkr (lsB _)) (aLc (WkR.ptr (fun _=>rfl)) aLn)) (aLc ⟨some _,rfl,bRc rfl (cKc wkI (cKc (wkr (lsL fun _=>(aC _))) (cKc (wkr (lsL fun _=>(lsI _ _))) (cKc (wkr (lsL fun _=>(lsI _ _))) (cKc wkI (cKc (wkr (lsL fun _=>(aA _))) cKn))))))⟩ aLn))
 refine nlA rfl ?_;conv=>whnf
 refine bKo rfl ?_;conv=>whnf
 refine gKo rfl ?_;conv=>whnf
 refine hK _ _ _ ?_
 refine tHn ?_
 refine ⟨_,h,?_⟩
 refine aO ?_;conv=>whnf
 exact And.intro rfl (And.intro (aLc (wkr (lsB _)) (aLc (WkR.ptr (fun _=>rfl)) aLn)) (aLc ⟨some _,rfl,bRc rfl (cKc wkI (cKc (wkr (lsL fun _=>(aC _))) (cKc (wkr (lsL fun _=>(lsI _ _))) (cKc (wkr (lsL fun _=>(lsI _ _))) (cKc wkI (cKc (wkr (lsL fun _=>(aA _))) cKn))))))⟩ aLn))
theorem jY {T:Tbl} (hT:T 8=aH gY) {args:List AV} {hp:bF} {id:Nat} {k:AV→Prop} {a0:aD} {Φ:Bool→Prop} (h:W (dF a0) Φ) (hw:WkL args [bD a0]) (hk:∀ y,Φ y→k (eB y)):bZ T 8 args hp id k:=by
 obtain ⟨y,e,hy⟩:=dL h
 exact aS hT ⟨a0,rfl,kS e rfl⟩ (by exact (lsB _)) hw (hk y hy)
theorem zT {M:List (Nat×Nat)} {q k n:Nat} {b:AB} {α:Type} {ce:α→List AV} {l:List α} {hp:bF} (h1:[q][k]?=some n) (h2:[AB.cells (flE ce l)][k]?=some b) (h:hp q=some (.cells (flE ce l))) (hl:∀ x,∀ a∈ce x,a.loose):∃ b0,hp n=some b0∧BkX (WkB M) b0 b:=by
 cases k with
 | zero=>simp only [List.getElem?_cons_zero,Option.some.injEq] at h1 h2;subst h1 h2;exact ⟨_,h,aDb hl l⟩
 | succ k=>simp at h1
theorem xE {T:Tbl} (hT:TOk Tryz.prog T) (hpf:cI T PF):FOk Tryz.prog 73 (xN 3 bM default):=by
 refine aEc hT hpf Tryz.func73 rfl Tryz.ntmps73 Tryz.results73 (by decide) ?_
 rintro args H base r H' ⟨l,rfl,hl,rfl,rfl⟩
 refine ⟨[],[eL 3 bM default l],[],[],[.cells (flE (ceE bM) l)],nle rfl,Nat.zero_le _,nle rfl,.nil,rfl,rfl,.cons (zL (lsL fun _=>(aC _))) .nil,(fun j i b h=>by cases h),(fun k b h=>?_),(fun j=>rfl),(fun i b h=>?_),?_⟩
 ·cases k with
  | zero=>cases h;rfl
  | succ k=>cases h
 ·by_cases e:i=base
  ·subst e;rw [oW] at h;exact .inr (.inr ⟨0,rfl,h⟩)
  ·rw [aU _ _ e] at h;exact .inl ⟨by simp,h⟩
 refine aB dCo rfl fun K hK=>?_;conv=>whnf
 refine hK _ _ _ ?_
 refine aL ?_
 refine aHt rfl rfl rfl rfl rfl rfl Tryz.underlying28 rfl rfl fun b hb=>?_
 cases b
 ·refine aT fun K1 K2 hK1 hK2=>?_;conv=>whnf
  refine hK2 ?_
  refine aK ?_
  refine tHn ?_
  refine aB dCo rfl fun K hK=>?_;conv=>whnf
  refine hZ (enc:=bM) (d:=default) (l:=[]) (f:=some) (Φ:=fun _=>True) dCo (kS (a:=[]) (by unfold lt;rfl) trivial) rfl rfl rfl ⟨nle rfl,nle rfl,rfl⟩ rfl trivial (fun _=>?_);conv=>whnf
  refine xW (enc:=bM) (d:=default) dCo rfl rfl rfl ⟨rfl,nle rfl,nle rfl,nle rfl,rfl⟩ (fun _=>rfl) (fun _=>nofun) hl ?_;conv=>whnf
  refine hK _ _ _ ?_
  refine aJ ?_
  refine ⟨_,[256],rfl,by simp,by simp,rfl,aGd (by simp [mm]),fun j b h=>by simp at h,fun k n b h1 h2=>?_⟩;exact zT h1 h2 rfl (fun _=>(lsC (lsI _ _) (lsC (lsI _ _) (lsC (lsI _ _) lsN))))
 refine aT fun K1 K2 hK1 hK2=>?_;conv=>whnf
 refine hK1 ?_
 refine aB dCo rfl fun K hK=>?_;conv=>whnf
 refine hK _ _ _ ?_
 have hn:=List.length_eq_zero_iff.1 (hb rfl)
 subst hn
 refine aFe rfl (σ':=⟨ofL [(2,.so 64 0 0 3)],ofH [(64,.cells [])],1024⟩) (aFa [(64,none)] ⟨WkR.nilso (fun _=>rfl),trivial⟩ ⟨⟨_,rfl,yM⟩,trivial⟩ rfl) ?_
 refine aJ ?_
 refine aM ?_
 refine ⟨_,[64],rfl,by simp,by simp,rfl,aGd (by simp [mm]),fun j b h=>by simp at h,fun k n b h1 h2=>?_⟩;exact zT h1 h2 rfl (fun _=>(lsC (lsI _ _) (lsC (lsI _ _) (lsC (lsI _ _) lsN))))
theorem yA {T:Tbl} (hT:TOk Tryz.prog T) (hpf:cI T PF):FOk Tryz.prog 76 (xN 1 eI default):=by
 refine aEc hT hpf Tryz.func76 rfl Tryz.ntmps76 Tryz.results76 (by decide) ?_
 rintro args H base r H' ⟨l,rfl,hl,rfl,rfl⟩
 refine ⟨[],[eL 1 eI default l],[],[],[.cells (flE (ceE eI) l)],nle rfl,Nat.zero_le _,nle rfl,.nil,rfl,rfl,.cons (zL (lsL fun _=>(lsI _ _))) .nil,(fun j i b h=>by cases h),(fun k b h=>?_),(fun j=>rfl),(fun i b h=>?_),?_⟩
 ·cases k with
  | zero=>cases h;rfl
  | succ k=>cases h
 ·by_cases e:i=base
  ·subst e;rw [oW] at h;exact .inr (.inr ⟨0,rfl,h⟩)
  ·rw [aU _ _ e] at h;exact .inl ⟨by simp,h⟩
 refine aB dCo rfl fun K hK=>?_;conv=>whnf
 refine hK _ _ _ ?_
 refine aL ?_
 refine aHt rfl rfl rfl rfl rfl rfl Tryz.underlying23 rfl rfl fun b hb=>?_
 cases b
 ·refine aT fun K1 K2 hK1 hK2=>?_;conv=>whnf
  refine hK2 ?_
  refine aK ?_
  refine tHn ?_
  refine aB dCo rfl fun K hK=>?_;conv=>whnf
  refine hZ (enc:=eI) (d:=default) (l:=[]) (f:=some) (Φ:=fun _=>True) dCo (kS (a:=[]) (by unfold lt;rfl) trivial) rfl rfl rfl ⟨nle rfl,nle rfl,rfl⟩ rfl trivial (fun _=>?_);conv=>whnf
  refine xW (enc:=eI) (d:=default) dCo rfl rfl rfl ⟨rfl,nle rfl,nle rfl,nle rfl,rfl⟩ (fun _=>rfl) (fun _=>nofun) hl ?_;conv=>whnf
  refine hK _ _ _ ?_
  refine aJ ?_
  refine ⟨_,[256],rfl,by simp,by simp,rfl,aGd (by simp [mm]),fun j b h=>by simp at h,fun k n b h1 h2=>?_⟩;exact zT h1 h2 rfl (fun _=>(lsC (lsI _ _) lsN))
 refine aT fun K1 K2 hK1 hK2=>?_;conv=>whnf
 refine hK1 ?_
 refine aB dCo rfl fun K hK=>?_;conv=>whnf
 refine hK _ _ _ ?_
 have hn:=List.length_eq_zero_iff.1 (hb rfl)
 subst hn
 refine aFe rfl (σ':=⟨ofL [(2,.so 64 0 0 1)],ofH [(64,.cells [])],1024⟩) (aFa [(64,none)] ⟨WkR.nilso (fun _=>rfl),trivial⟩ ⟨⟨_,rfl,yM⟩,trivial⟩ rfl) ?_
 refine aJ ?_
 refine aM ?_
 refine ⟨_,[64],rfl,by simp,by simp,rfl,aGd (by simp [mm]),fun j b h=>by simp at h,fun k n b h1 h2=>?_⟩;exact zT h1 h2 rfl (fun _=>(lsC (lsI _ _) lsN))
  def jE (a0:aD) (s16:Int×Int×bG):Option (Ct (Int×Int×bG) (bG×(List Int)×Int)):=cn (decide (s16.2.1<(a0.Centres.length:Int))) (ix a0.Centres default s16.2.1 fun e17=>
  lt ([(⟨s16.2.1,a0.Net.N,e17⟩:dE)]:List dE) fun l18=>ap s16.2.2.Edges l18 fun l19=>ix a0.Urgent default s16.2.1 fun e20=>
  some (.nx ((wr (s16.1+e20)),(wr (s16.2.1+1)),(⟨s16.2.2.N,l19⟩:bG)))) (some (.bk (s16.1,s16.2.1,s16.2.2)))
  def jN (e3:bI) (s6:Int×bG):Option (Ct (Int×bG) (bG×(List Int)×Int)):=cn (decide (s6.1<(e3.Edges.length:Int))) (ix e3.Edges default s6.1 fun e7=>
  gd ((0:Int)≤e7∧e7<(s6.2.Edges.length:Int)) (gd ((0:Int)≤e7∧e7<(s6.2.Edges.length:Int)) (st s6.2.Edges (e7) (⟨(s6.2.Edges.getD (e7).toNat default).From,(s6.2.Edges.getD (e7).toNat default).To,(wr (((s6.2.Edges.getD (e7).toNat default).Capacity)-e3.Amount))⟩:dE) fun l8=>
  some (.nx ((wr (s6.1+1)),(⟨s6.2.N,l8⟩:bG)))))) (some (.bk (s6.1,s6.2)))
  def jL (a0:aD) (a1:Int) (s2:Int×bG):Option (Ct (Int×bG) (bG×(List Int)×Int)):=cn (decide (s2.1<(a0.Calls.length:Int))) (ix a0.Calls default s2.1 fun e3=>
  gd (0≤s2.1) (jn (fun p4:bG=>some (.nx ((wr (s2.1+1)),p4))) fun k5=>cn ((zF .i64 (zD .i64 a1 s2.1) 1)==1) (bd (lp (jN e3) FU (0,s2.2)) fun c9=>
  smK c9 (fun s10=>k5 s10.2) (fun r11=>some (.rt r11))) (k5 s2.2))) (some (.bk (s2.1,s2.2)))
def eP (a0:aD) (a1:Int):Option (bG×(List Int)×Int):=gd (a0.Net.Edges.length≤1048576) (lt a0.Net.Edges fun m1=>
  bd (lp (jL a0 a1) FU (0,(⟨(wr (a0.Net.N+1)),m1⟩:bG))) fun c12=>smK c12 (fun s13=>bd (eY s13.2.Edges) fun y15=>
  cn (decide (y15≥0)) (some ((⟨0,[]⟩:bG),[],y15)) (bd (lp (jE a0) FU (0,0,(⟨s13.2.N,s13.2.Edges⟩:bG))) fun c21=>smK c21 (fun s22=>
  gd (a0.Urgent.length≤1048576) (lt a0.Urgent fun m24=>lt ([(wr (0-s22.1))]:List Int) fun l25=>ap m24 l25 fun l26=>some (s22.2.2,l26,(-1)))) (fun r23=>
  some r23))) (fun r14=>some r14))
def kL:List AV→AV→Prop:=fun args r=>∃ a0 a1,args=[bD a0,eI a1]∧W (eP a0 a1) fun y=>r=(.tup [fF y.1,(eL 1 eI default) y.2.1,eI y.2.2])
theorem aBH {T:Tbl} (hT:TOk Tryz.prog T) (hpf:cI T PF) (h73:T 73=xN 3 bM default) (h74:T 74=aH cX) (h76:T 76=xN 1 eI default):FOk Tryz.prog 53 (aH kL):=by
 refine bB hT hpf Tryz.func53 rfl Tryz.ntmps53 Tryz.results53 (by decide) ?_
 rintro args r ⟨a0,a1,rfl,h⟩
 refine ⟨nle rfl,?_,?_⟩
 ·exact (lsC (aR _) (lsC (lsI _ _) lsN))
 rw [eP.eq_1] at h
 refine aB dCo rfl fun K hK=>?_;conv=>whnf
 refine hK _ _ _ ?_
 refine iZ dCo cJ rfl (by kernel_rfl) fun K hK=>?_;conv=>whnf
 refine nlA rfl ?_;conv=>whnf
 refine bKo rfl ?_;conv=>whnf
 refine gKo rfl ?_;conv=>whnf
 refine nlA rfl ?_;conv=>whnf
 refine bKo rfl ?_;conv=>whnf
 refine gKo rfl ?_;conv=>whnf
 refine vF h fun hg h=>?_
 replace h:=aKQ h
 refine wT h73 (aF (Wk.refl _) bO) hg (fun _=>(lsC (lsI _ _) (lsC (lsI _ _) (lsC (lsI _ _) lsN)))) ?_;conv=>whnf
 refine bKo rfl ?_;conv=>whnf
 refine And.intro rfl (And.intro (nle rfl) (And.intro rfl ?_));conv=>whnf
 refine hK _ _ _ ?_
 refine aL ?_
 refine aB dCo rfl fun K hK=>?_;conv=>whnf
 refine nlA rfl ?_;conv=>whnf
 refine bKo rfl ?_;conv=>whnf
 refine gKo rfl ?_;conv=>whnf
 refine hK _ _ _ ?_
 refine aN ?_
 replace h:=bE h
 refine xO (body:=jL _ _) rfl h [1,2,4,7,26,27] [2,4] [] [7] (fun kl kh kr ids b s=>⟨ofL ([(28,eI s.1)]++kl),ofH (([(aEe ids 0,.cells [eI s.2.N,.so (b+0) 0 s.2.Edges.length 3])]++kh)++([(b+0,.cells (flE (ceE bM) s.2.Edges))]++kr)),b+128⟩) ?_;(conv=>whnf);refine And.intro ?_ (fun s m h=>dY ?_)
 ·refine gQ ?_;conv=>whnf
  exact And.intro rfl (And.intro (aLc wkI (aLc wkI (aLc (WkR.ptr (fun _=>rfl)) (aLc (WkR.ptr (fun _=>rfl)) (aLc (WkR.ptr (fun _=>rfl)) (aLc (wkr (lsL fun _=>(aA _))) (aLc wkI aLn))))))) (aLc ⟨some _,rfl,bRc rfl (cKc wkI (cKc (WkR.so (fun _=>rfl)) cKn))⟩ (aLc ⟨some _,rfl,bRc rfl (cKc wkI (cKc (wkr (lsL fun _=>(aC _))) (cKc (wkr (lsL fun _=>(lsI _ _))) (cKc (wkr (lsL fun _=>(lsI _ _))) (cKc wkI (cKc (wkr (lsL fun _=>(aA _))) cKn))))))⟩ (aLc ⟨some _,rfl,bRc rfl (cKc wkI (cKc (wkr aG) cKn))⟩ (aLc ⟨some _,rfl,jP rfl (fun _=>(lsC (lsI _ _) (lsC (lsI _ _) (lsC (lsI _ _) lsN))))⟩ aLn)))))
 replace h:=bE h;rw [jL.eq_1] at h
 refine aB dCo rfl fun K hK=>?_;conv=>whnf
 refine hK _ _ _ ?_
 refine aL ?_
 refine aT fun K1 K2 hK1 hK2=>?_;conv=>whnf
 refine cLk h (fun _ h=>?_) (fun _ h=>?_)
 ·refine hK1 ?_
  refine aK ?_
  refine tHn ?_
  refine aL ?_
  refine aN ?_
  refine aB dCo rfl fun K hK=>?_;conv=>whnf
  refine cA h fun _ h=>?_;conv=>whnf
  refine nlA rfl ?_;conv=>whnf
  refine bKo rfl ?_;conv=>whnf
  refine And.intro rfl (And.intro (nle rfl) (And.intro rfl ?_));conv=>whnf
  refine hK _ _ _ ?_
  refine aB dCo rfl fun K hK=>?_;conv=>whnf
  refine kQ h fun _ h=>?_;conv=>whnf
  refine hK _ _ _ ?_
  replace h:=eW h
  refine aT fun K1 K2 hK1 hK2=>?_;conv=>whnf
  refine cLk h (fun _ h=>?_) (fun _ h=>?_)
  ·refine hK1 ?_
   refine aB dCo rfl fun K hK=>?_;conv=>whnf
   refine nlA rfl ?_;conv=>whnf
   refine bKo rfl ?_;conv=>whnf
   refine gKo rfl ?_;conv=>whnf
   refine hK _ _ _ ?_
   refine aN ?_
   replace h:=bE h
   refine xO (body:=jN _) rfl h [1,2,4,7,9,26,27,28,39,40] [2,4,9] [] [7] (fun kl kh kr ids b s=>⟨ofL ([(41,eI s.1)]++kl),ofH (([(aEe ids 0,.cells [eI s.2.N,.so (b+0) 0 s.2.Edges.length 3])]++kh)++([(b+0,.cells (flE (ceE bM) s.2.Edges))]++kr)),b+128⟩) ?_;(conv=>whnf);refine And.intro ?_ (fun s m h=>dY ?_)
   ·refine gQ ?_;conv=>whnf
    exact And.intro rfl (And.intro (aLc wkI (aLc wkI (aLc (WkR.ptr (fun _=>rfl)) (aLc (WkR.ptr (fun _=>rfl)) (aLc (WkR.ptr (fun _=>rfl)) (aLc (WkR.ptr (fun _=>rfl)) (aLc (wkr (lsL fun _=>(aA _))) (aLc wkI (aLc wkI (aLc (wkr (lsL fun _=>(lsI _ _))) (aLc wkI aLn))))))))))) (aLc ⟨some _,rfl,bRc rfl (cKc wkI (cKc (WkR.so (fun _=>rfl)) cKn))⟩ (aLc ⟨some _,rfl,bRc rfl (cKc wkI (cKc (wkr (lsL fun _=>(aC _))) (cKc (wkr (lsL fun _=>(lsI _ _))) (cKc (wkr (lsL fun _=>(lsI _ _))) (cKc wkI (cKc (wkr (lsL fun _=>(aA _))) cKn))))))⟩ (aLc ⟨some _,rfl,bRc rfl (cKc wkI (cKc (wkr aG) cKn))⟩ (aLc ⟨some _,rfl,bRc rfl (cKc (wkr (lsL fun _=>(lsI _ _))) (cKc wkI cKn))⟩ (aLc ⟨some _,rfl,jP rfl (fun _=>(lsC (lsI _ _) (lsC (lsI _ _) (lsC (lsI _ _) lsN))))⟩ aLn))))))
   replace h:=bE h;rw [jN.eq_1] at h
   refine aB dCo rfl fun K hK=>?_;conv=>whnf
   refine hK _ _ _ ?_
   refine aL ?_
   refine aT fun K1 K2 hK1 hK2=>?_;conv=>whnf
   refine cLk h (fun _ h=>?_) (fun _ h=>?_)
   ·refine hK1 ?_
    refine aK ?_
    refine tHn ?_
    refine aL ?_
    refine aN ?_
    refine aB dCo rfl fun K hK=>?_;conv=>whnf
    refine cA h fun _ h=>?_;conv=>whnf
    refine gKo rfl ?_;conv=>whnf
    refine hK _ _ _ ?_
    refine zU dCo cJ rfl (by kernel_rfl) fun K hK=>?_;conv=>whnf
    refine nlA rfl ?_;conv=>whnf
    refine bKo rfl ?_;conv=>whnf
    refine gKo rfl ?_;conv=>whnf
    refine lD h (rfl) fun hx757 h=>?_;conv=>whnf
    refine nlA rfl ?_;conv=>whnf
    refine bKo rfl ?_;conv=>whnf
    refine wM (enc:=bM) (d:=default) (q:=2) (fun _=>rfl) (rfl) hx757 (nle rfl) rfl ?_;conv=>whnf
    refine nlA rfl ?_;conv=>whnf
    refine bKo rfl ?_;conv=>whnf
    refine gKo rfl ?_;conv=>whnf
    refine lD h (rfl) fun hx758 h=>?_;conv=>whnf
    refine bKo rfl ?_;conv=>whnf
    refine yL (enc:=bM) (d:=default) (q:=2) h (fun _=>rfl) (rfl) hx758 rfl (nle rfl) rfl rfl (fun h=>?_);conv=>whnf
    refine hK _ _ _ ?_
    refine iBn ?_
    refine tHn ?_
    refine cK dCo rfl fun K hK=>?_;conv=>whnf
    refine hK _ _ _ ?_
    refine tHn ?_
    replace h:=bY h
    refine ⟨_,h,?_⟩
    refine gQ ?_;conv=>whnf
    exact And.intro rfl (And.intro (aLc wkI (aLc wkI (aLc (WkR.ptr (fun _=>rfl)) (aLc (WkR.ptr (fun _=>rfl)) (aLc (WkR.ptr (fun _=>rfl)) (aLc (WkR.ptr (fun _=>rfl)) (aLc (wkr (lsL fun _=>(aA _))) (aLc wkI (aLc wkI (aLc (wkr (lsL fun _=>(lsI _ _))) (aLc wkI aLn))))))))))) (aLc ⟨some _,rfl,bRc rfl (cKc wkI (cKc (WkR.soN (fun _=>rfl) (oQ rfl).symm) cKn))⟩ (aLc ⟨some _,rfl,bRc rfl (cKc wkI (cKc (wkr (lsL fun _=>(aC _))) (cKc (wkr (lsL fun _=>(lsI _ _))) (cKc (wkr (lsL fun _=>(lsI _ _))) (cKc wkI (cKc (wkr (lsL fun _=>(aA _))) cKn))))))⟩ (aLc ⟨some _,rfl,bRc rfl (cKc wkI (cKc (wkr aG) cKn))⟩ (aLc ⟨some _,rfl,bRc rfl (cKc (wkr (lsL fun _=>(lsI _ _))) (cKc wkI cKn))⟩ (aLc ⟨some _,rfl,jP rfl (fun _=>(lsC (lsI _ _) (lsC (lsI _ _) (lsC (lsI _ _) lsN))))⟩ aLn))))))
   refine hK2 ?_
   refine bN ?_
   refine aW ?_
   refine aW ?_
   refine aV ?_
   replace h:=eA h
   replace h:=dZ h
   refine iBn ?_
   refine tHn ?_
   refine cK dCo rfl fun K hK=>?_;conv=>whnf
   refine hK _ _ _ ?_
   refine tHn ?_
   replace h:=bY h
   refine ⟨_,h,?_⟩
   refine gQ ?_;conv=>whnf
   exact And.intro rfl (And.intro (aLc wkI (aLc wkI (aLc (WkR.ptr (fun _=>rfl)) (aLc (WkR.ptr (fun _=>rfl)) (aLc (WkR.ptr (fun _=>rfl)) (aLc (wkr (lsL fun _=>(aA _))) (aLc wkI aLn))))))) (aLc ⟨some _,rfl,bRc rfl (cKc wkI (cKc (WkR.so (fun _=>rfl)) cKn))⟩ (aLc ⟨some _,rfl,bRc rfl (cKc wkI (cKc (wkr (lsL fun _=>(aC _))) (cKc (wkr (lsL fun _=>(lsI _ _))) (cKc (wkr (lsL fun _=>(lsI _ _))) (cKc wkI (cKc (wkr (lsL fun _=>(aA _))) cKn))))))⟩ (aLc ⟨some _,rfl,bRc rfl (cKc wkI (cKc (wkr aG) cKn))⟩ (aLc ⟨some _,rfl,jP rfl (fun _=>(lsC (lsI _ _) (lsC (lsI _ _) (lsC (lsI _ _) lsN))))⟩ aLn)))))
  refine hK2 ?_
  refine aK ?_
  refine iBn ?_
  refine tHn ?_
  refine cK dCo rfl fun K hK=>?_;conv=>whnf
  refine hK _ _ _ ?_
  refine tHn ?_
  replace h:=bY h
  refine ⟨_,h,?_⟩
  refine gQ ?_;conv=>whnf
  exact And.intro rfl (And.intro (aLc wkI (aLc wkI (aLc (WkR.ptr (fun _=>rfl)) (aLc (WkR.ptr (fun _=>rfl)) (aLc (WkR.ptr (fun _=>rfl)) (aLc (wkr (lsL fun _=>(aA _))) (aLc wkI aLn))))))) (aLc ⟨some _,rfl,bRc rfl (cKc wkI (cKc (WkR.so (fun _=>rfl)) cKn))⟩ (aLc ⟨some _,rfl,bRc rfl (cKc wkI (cKc (wkr (lsL fun _=>(aC _))) (cKc (wkr (lsL fun _=>(lsI _ _))) (cKc (wkr (lsL fun _=>(lsI _ _))) (cKc wkI (cKc (wkr (lsL fun _=>(aA _))) cKn))))))⟩ (aLc ⟨some _,rfl,bRc rfl (cKc wkI (cKc (wkr aG) cKn))⟩ (aLc ⟨some _,rfl,jP rfl (fun _=>(lsC (lsI _ _) (lsC (lsI _ _) (lsC (lsI _ _) lsN))))⟩ aLn)))))
 refine hK2 ?_
 refine bN ?_
 refine aW ?_
 refine aW ?_
 refine aV ?_
 replace h:=eA h
 replace h:=dZ h
 refine tHn ?_
 refine aL ?_
 refine aLt 7 1 (enc:=bM) (e:=67) default (eV dCo rfl rfl (fun _=>rfl) (fun _=>rfl)) ?_;(conv=>whnf);refine ⟨_,_,_,(Nat.ne_of_beq_eq_false rfl),rfl,rfl,rfl,rfl,?_⟩;conv=>whnf
 refine aB dCo rfl fun K hK=>?_;conv=>whnf
 refine nlA rfl ?_;conv=>whnf
 refine bKo rfl ?_;conv=>whnf
 refine gKo rfl ?_;conv=>whnf
 replace h:=bE h
 refine sE h74 h (aF eD (aF (Wk.refl _) bO)) (fun _ h=>?_);conv=>whnf
 refine hK _ _ _ ?_
 refine aB dCo rfl fun K hK=>?_;conv=>whnf
 refine hK _ _ _ ?_
 refine aT fun K1 K2 hK1 hK2=>?_;conv=>whnf
 refine cLk h (fun _ h=>?_) (fun _ h=>?_)
 ·refine hK1 ?_
  refine aB dCo rfl fun K hK=>?_;conv=>whnf
  refine bKo rfl ?_;conv=>whnf
  refine And.intro rfl (And.intro (nle rfl) (And.intro rfl ?_));conv=>whnf
  refine hK _ _ _ ?_
  refine aJ ?_
  refine aM ?_
  replace h:=aI h
  refine aE dCo fun K hK=>?_;conv=>whnf
  refine nlA rfl ?_;conv=>whnf
  refine bKo rfl ?_;conv=>whnf
  refine nlA rfl ?_;conv=>whnf
  refine hK _ ?_
  cases h
  exact pV (aF (fL (aF (Wk.refl _) (aF jI bO))) (aF jI (aF (Wk.refl _) bO)))
 refine hK2 ?_
 refine aK ?_
 refine tHn ?_
 refine aB dCo rfl fun K hK=>?_;conv=>whnf
 refine hK _ _ _ ?_
 refine aL ?_
 refine aB dCo rfl fun K hK=>?_;conv=>whnf
 refine nlA rfl ?_;conv=>whnf
 refine bKo rfl ?_;conv=>whnf
 refine gKo rfl ?_;conv=>whnf
 refine hK _ _ _ ?_
 refine aN ?_
 replace h:=bE h
 refine dS (body:=jE _) rfl h [2,4,7,66,67] [2,4] [7] (fun kl kh ids b s=>⟨ofL ([(13,eI s.1),(68,eI s.2.1)]++kl),ofH ([(aEe ids 0,.cells [eI s.2.2.N,.lst (.tok (b+0)) 3 s.2.2.Edges.length (fun j=>bM (s.2.2.Edges.getD j default))]),(b+0,.cells [])]++kh),b+128⟩) ?_;(conv=>whnf);refine And.intro ?_ (fun s m h=>dY ?_)
 ·refine aO ?_;conv=>whnf
  exact And.intro rfl (And.intro (aLc wkI (aLc wkI (aLc (WkR.ptr (fun _=>rfl)) (aLc (WkR.ptr (fun _=>rfl)) (aLc (WkR.ptr (fun _=>rfl)) (aLc (wkr (lsL fun _=>(lsI _ _))) (aLc wkI aLn))))))) (aLc ⟨some _,rfl,bRc rfl (cKc wkI (cKc (WkR.tok (fun _=>rfl) rfl (fun _ _=>Wk.refl _) (fun _=>(aC _))) cKn))⟩ (aLc ⟨some _,rfl,bRc rfl cKn⟩ (aLc ⟨some _,rfl,bRc rfl (cKc wkI (cKc (wkr (lsL fun _=>(aC _))) (cKc (wkr (lsL fun _=>(lsI _ _))) (cKc (wkr (lsL fun _=>(lsI _ _))) (cKc wkI (cKc (wkr (lsL fun _=>(aA _))) cKn))))))⟩ (aLc ⟨some _,rfl,bRc rfl (cKc wkI (cKc (wkr aG) cKn))⟩ aLn)))))
 replace h:=bE h;rw [jE.eq_1] at h
 refine aB dCo rfl fun K hK=>?_;conv=>whnf
 refine hK _ _ _ ?_
 refine aL ?_
 refine aT fun K1 K2 hK1 hK2=>?_;conv=>whnf
 refine cLk h (fun _ h=>?_) (fun _ h=>?_)
 ·refine hK1 ?_
  refine aK ?_
  refine tHn ?_
  refine aL ?_
  refine aN ?_
  refine aB dCo rfl fun K hK=>?_;conv=>whnf
  refine cA h fun _ h=>?_;conv=>whnf
  refine gKo rfl ?_;conv=>whnf
  refine hK _ _ _ ?_
  refine aB dCo rfl fun K hK=>?_;conv=>whnf
  refine nlA rfl ?_;conv=>whnf
  refine bKo rfl ?_;conv=>whnf
  refine gKo rfl ?_;conv=>whnf
  refine nlA rfl ?_;conv=>whnf
  refine bKo rfl ?_;conv=>whnf
  refine gKo rfl ?_;conv=>whnf
  refine hZ (enc:=bM) (d:=default) dCo h rfl rfl rfl ⟨nle rfl,nle rfl,rfl⟩ rfl ⟨⟨rfl,nle rfl⟩,trivial⟩ (fun h=>?_);conv=>whnf
  refine sV (enc:=bM) (d:=default) dCo h (.inl rfl) rfl rfl rfl ⟨rfl,nle rfl,nle rfl,nle rfl,rfl⟩ (fun _=>rfl) (.inr (.inr ⟨_,_,rfl,rfl,rfl⟩)) (fun h=>?_);conv=>whnf
  refine bKo rfl ?_;conv=>whnf
  refine And.intro rfl (And.intro (nle rfl) (And.intro rfl ?_));conv=>whnf
  refine hK _ _ _ ?_
  refine cK dCo rfl fun K hK=>?_;conv=>whnf
  refine nlA rfl ?_;conv=>whnf
  refine bKo rfl ?_;conv=>whnf
  refine gKo rfl ?_;conv=>whnf
  refine cA h fun _ h=>?_;conv=>whnf
  refine gKo rfl ?_;conv=>whnf
  refine hK _ _ _ ?_
  refine iBn ?_
  refine tHn ?_
  refine cK dCo rfl fun K hK=>?_;conv=>whnf
  refine hK _ _ _ ?_
  refine tHn ?_
  replace h:=bY h
  refine ⟨_,h,?_⟩
  refine aO ?_;conv=>whnf
  exact And.intro rfl (And.intro (aLc wkI (aLc wkI (aLc (WkR.ptr (fun _=>rfl)) (aLc (WkR.ptr (fun _=>rfl)) (aLc (WkR.ptr (fun _=>rfl)) (aLc (wkr (lsL fun _=>(lsI _ _))) (aLc wkI aLn))))))) (aLc ⟨some _,rfl,bRc rfl (cKc wkI (cKc (WkR.tok (fun _=>rfl) rfl (fun _ _=>Wk.refl _) (fun _=>(aC _))) cKn))⟩ (aLc ⟨some _,rfl,bRc rfl cKn⟩ (aLc ⟨some _,rfl,bRc rfl (cKc wkI (cKc (wkr (lsL fun _=>(aC _))) (cKc (wkr (lsL fun _=>(lsI _ _))) (cKc (wkr (lsL fun _=>(lsI _ _))) (cKc wkI (cKc (wkr (lsL fun _=>(aA _))) cKn))))))⟩ (aLc ⟨some _,rfl,bRc rfl (cKc wkI (cKc (wkr aG) cKn))⟩ aLn)))))
 refine hK2 ?_
 refine bN ?_
 refine aW ?_
 refine aW ?_
 refine aV ?_
 replace h:=eA h
 replace h:=dZ h
 refine tHn ?_
 refine aH8 (.step 1 (.step 2 (.step 3 (.step 4 (.step 5 (.step 6 (.two 0 7 (.step 7 (.step 8 (.step 9 (.step 10 (.nil))))) (.step 0 (.step 8 (.step 9 (.step 10 (.nil)))))))))))) dCo cJ rfl (by kernel_rfl) fun K hK=>?_;conv=>whnf
 refine nlA rfl ?_;conv=>whnf
 refine bKo rfl ?_;conv=>whnf
 refine gKo rfl ?_;conv=>whnf
 refine vF h fun hg h=>?_
 replace h:=aKQ h
 refine wT h76 (aF (Wk.refl _) bO) hg (fun _=>(lsC (lsI _ _) lsN)) ?_;conv=>whnf
 refine hZ (enc:=eI) (d:=default) dCo h rfl rfl rfl ⟨nle rfl,nle rfl,rfl⟩ rfl ⟨⟨rfl,rfl,rfl⟩,trivial⟩ (fun h=>?_);conv=>whnf
 refine And.intro ?_ ?_<;>(conv=>whnf)
 ·refine nlA rfl ?_;conv=>whnf
  refine bKo rfl ?_;conv=>whnf
  refine nlA rfl ?_;conv=>whnf
  refine aCi (enc:=eI) (d:=default) dCo h rfl rfl rfl ⟨rfl,nle rfl,nle rfl,nle rfl,rfl⟩ (fun _=>rfl) (fun _=>rfl) (fun _=>nofun) rfl (rfl) (fun h=>?_);conv=>whnf
  refine bKo rfl ?_;conv=>whnf
  refine And.intro rfl (And.intro (nle rfl) (And.intro rfl ?_));conv=>whnf
  refine hK _ _ _ ?_
  refine vL 5 (enc:=eI) (e:=3) default (fI dCo rfl rfl rfl (fun _=>⟨rfl,rfl⟩)) ?_;(conv=>whnf);refine ⟨_,_,rfl,rfl,rfl,?_⟩
  refine aJ ?_
  replace h:=aI h
  refine aE dCo fun K hK=>?_;conv=>whnf
  refine nlA rfl ?_;conv=>whnf
  refine bKo rfl ?_;conv=>whnf
  refine nlA rfl ?_;conv=>whnf
  refine hK _ ?_
  cases h
  exact pV (aF (fL (aF (Wk.refl _) (aF eD bO))) (aF (Wk.refl _) (aF (Wk.refl _) bO)))
 refine aCi (enc:=eI) (d:=default) dCo h rfl rfl rfl ⟨rfl,nle rfl,nle rfl,nle rfl,rfl⟩ (fun _=>rfl) (fun _=>rfl) (fun _=>nofun) rfl (rfl) (fun h=>?_);conv=>whnf
 refine nlA rfl ?_;conv=>whnf
 refine bKo rfl ?_;conv=>whnf
 refine nlA rfl ?_;conv=>whnf
 refine bKo rfl ?_;conv=>whnf
 refine And.intro rfl (And.intro (nle rfl) (And.intro rfl ?_));conv=>whnf
 refine hK _ _ _ ?_
 refine vL 5 (enc:=eI) (e:=3) default (fI dCo rfl rfl rfl (fun _=>⟨rfl,rfl⟩)) ?_;(conv=>whnf);refine ⟨_,_,rfl,rfl,rfl,?_⟩
 refine aJ ?_
 replace h:=aI h
 refine aE dCo fun K hK=>?_;conv=>whnf
 refine nlA rfl ?_;conv=>whnf
 refine bKo rfl ?_;conv=>whnf
 refine nlA rfl ?_;conv=>whnf
 refine hK _ ?_
 cases h
 exact pV (aF (fL (aF (Wk.refl _) (aF eD bO))) (aF (Wk.refl _) (aF (Wk.refl _) bO)))
theorem iW {T:Tbl} (hT:T 53=aH kL) {args:List AV} {hp:bF} {id:Nat} {k:AV→Prop} {a0:aD} {a1:Int} {Φ:bG×(List Int)×Int→Prop} (h:W (eP a0 a1) Φ) (hw:WkL args [bD a0,eI a1]) (hk:∀ y,Φ y→k (.tup [fF y.1,(eL 1 eI default) y.2.1,eI y.2.2])):bZ T 53 args hp id k:=by
 obtain ⟨y,e,hy⟩:=dL h
 exact aS hT ⟨a0,a1,rfl,kS e rfl⟩ (by exact lH (lsC (fA _) (lsC (lsL fun _=>(lsI _ _)) (lsC (lsI _ _) lsN)))) hw (hk y hy)
def eM (a0:aD) (a1:Int):Option Bool:=jn (fun p1:Bool=>some p1) fun k2=>bd (dF a0) fun y3=>
  cn y3 (gd (0≤(a0.Calls.length:Int)) (bd (cL a1 0 (wr ((aAw .i64 1 (a0.Calls.length:Int))-1))) fun y4=>k2 y4)) (k2 false)
def lI:List AV→AV→Prop:=fun args r=>∃ a0 a1,args=[bD a0,eI a1]∧W (eM a0 a1) fun y=>r=(eB y)
theorem aA4 {T:Tbl} (hT:TOk Tryz.prog T) (hpf:cI T PF) (h8:T 8=aH gY) (h34:T 34=aH fS):FOk Tryz.prog 52 (aH lI):=by
 refine bB hT hpf Tryz.func52 rfl Tryz.ntmps52 Tryz.results52 (by decide) ?_
 rintro args r ⟨a0,a1,rfl,h⟩
 refine ⟨nle rfl,?_,?_⟩
 ·exact (lsC (aR _) (lsC (lsI _ _) lsN))
 rw [eM.eq_1] at h
 refine aB dCo rfl fun K hK=>?_;conv=>whnf
 refine hK _ _ _ ?_
 refine aB dCo rfl fun K hK=>?_;conv=>whnf
 replace h:=eW h
 refine nlA rfl ?_;conv=>whnf
 refine bKo rfl ?_;conv=>whnf
 refine nlA rfl ?_;conv=>whnf
 replace h:=bE h
 refine jY h8 h (WkL.refl _) (fun _ h=>?_);conv=>whnf
 refine cLk h (fun _ h=>?_) (fun _ h=>?_)<;>(conv=>whnf)
 ·refine nlA rfl ?_;conv=>whnf
  refine bKo rfl ?_;conv=>whnf
  refine gKo rfl ?_;conv=>whnf
  refine kQ h fun _ h=>?_;conv=>whnf
  replace h:=bE h
  refine cU h34 h (WkL.refl _) (fun _ h=>?_);conv=>whnf
  refine hK _ _ _ ?_
  refine aJ ?_
  replace h:=aI h
  refine aE dCo fun K hK=>?_;conv=>whnf
  refine hK _ ?_
  cases h
  exact Wk.refl _
 refine hK _ _ _ ?_
 refine aJ ?_
 replace h:=aI h
 refine aE dCo fun K hK=>?_;conv=>whnf
 refine hK _ ?_
 cases h
 exact Wk.refl _
theorem tZ {T:Tbl} (hT:T 52=aH lI) {args:List AV} {hp:bF} {id:Nat} {k:AV→Prop} {a0:aD} {a1:Int} {Φ:Bool→Prop} (h:W (eM a0 a1) Φ) (hw:WkL args [bD a0,eI a1]) (hk:∀ y,Φ y→k (eB y)):bZ T 52 args hp id k:=by
 obtain ⟨y,e,hy⟩:=dL h
 exact aS hT ⟨a0,a1,rfl,kS e rfl⟩ (by exact (lsB _)) hw (hk y hy)
def dV (a0:aD) (a1:Int):Option (bG×(List Int)×Int):=bd (eM a0 a1) fun y1=>jn (fun p2:Unit=>
  some ((⟨0,[]⟩:bG),[],330)) fun k3=>cn y1 (bd (eP a0 a1) fun y4=>cn (decide (y4.2.2<0)) (some (y4.1,y4.2.1,0)) (k3 ())) (k3 ())
def kK:List AV→AV→Prop:=fun args r=>∃ a0 a1,args=[bD a0,eI a1]∧W (dV a0 a1) fun y=>r=(.tup [fF y.1,(eL 1 eI default) y.2.1,eI y.2.2])
theorem aB5 {T:Tbl} (hT:TOk Tryz.prog T) (hpf:cI T PF) (h52:T 52=aH lI) (h53:T 53=aH kL):FOk Tryz.prog 17 (aH kK):=by
 refine bB hT hpf Tryz.func17 rfl Tryz.ntmps17 Tryz.results17 (by decide) ?_
 rintro args r ⟨a0,a1,rfl,h⟩
 refine ⟨nle rfl,?_,?_⟩
 ·exact (lsC (aR _) (lsC (lsI _ _) lsN))
 rw [dV.eq_1] at h
 refine aB dCo rfl fun K hK=>?_;conv=>whnf
 refine hK _ _ _ ?_
 refine aL ?_
 refine aB dCo rfl fun K hK=>?_;conv=>whnf
 refine nlA rfl ?_;conv=>whnf
 refine bKo rfl ?_;conv=>whnf
 refine nlA rfl ?_;conv=>whnf
 replace h:=bE h
 refine tZ h52 h (WkL.refl _) (fun _ h=>?_);conv=>whnf
 refine hK _ _ _ ?_
 replace h:=eW h
 refine aT fun K1 K2 hK1 hK2=>?_;conv=>whnf
 refine cLk h (fun _ h=>?_) (fun _ h=>?_)
 ·refine hK1 ?_
  refine aB dCo rfl fun K hK=>?_;conv=>whnf
  refine nlA rfl ?_;conv=>whnf
  refine bKo rfl ?_;conv=>whnf
  refine nlA rfl ?_;conv=>whnf
  replace h:=bE h
  refine iW h53 h (WkL.refl _) (fun _ h=>?_);conv=>whnf
  refine bKo rfl ?_;conv=>whnf
  refine And.intro rfl (And.intro (nle rfl) (And.intro rfl ?_));conv=>whnf
  refine hK _ _ _ ?_
  refine aB dCo rfl fun K hK=>?_;conv=>whnf
  refine hK _ _ _ ?_
  refine aT fun K1 K2 hK1 hK2=>?_;conv=>whnf
  refine cLk h (fun _ h=>?_) (fun _ h=>?_)
  ·refine hK1 ?_
   refine aB dCo rfl fun K hK=>?_;conv=>whnf
   refine nlA rfl ?_;conv=>whnf
   refine bKo rfl ?_;conv=>whnf
   refine nlA rfl ?_;conv=>whnf
   refine bKo rfl ?_;conv=>whnf
   refine And.intro rfl (And.intro (nle rfl) (And.intro rfl ?_));conv=>whnf
   refine hK _ _ _ ?_
   refine aJ ?_
   refine aM ?_
   replace h:=aI h
   refine aE dCo fun K hK=>?_;conv=>whnf
   refine nlA rfl ?_;conv=>whnf
   refine bKo rfl ?_;conv=>whnf
   refine nlA rfl ?_;conv=>whnf
   refine hK _ ?_
   cases h
   exact Wk.refl _
  refine hK2 ?_
  refine aK ?_
  refine tHn ?_
  refine aB dCo rfl fun K hK=>?_;conv=>whnf
  refine bKo rfl ?_;conv=>whnf
  refine And.intro rfl (And.intro (nle rfl) (And.intro rfl ?_));conv=>whnf
  refine hK _ _ _ ?_
  refine aJ ?_
  replace h:=aI h
  refine aE dCo fun K hK=>?_;conv=>whnf
  refine nlA rfl ?_;conv=>whnf
  refine bKo rfl ?_;conv=>whnf
  refine nlA rfl ?_;conv=>whnf
  refine hK _ ?_
  cases h
  exact pV (aF (fL (aF (Wk.refl _) (aF jI bO))) (aF jI (aF (Wk.refl _) bO)))
 refine hK2 ?_
 refine aK ?_
 refine tHn ?_
 refine aB dCo rfl fun K hK=>?_;conv=>whnf
 refine bKo rfl ?_;conv=>whnf
 refine And.intro rfl (And.intro (nle rfl) (And.intro rfl ?_));conv=>whnf
 refine hK _ _ _ ?_
 refine aJ ?_
 replace h:=aI h
 refine aE dCo fun K hK=>?_;conv=>whnf
 refine nlA rfl ?_;conv=>whnf
 refine bKo rfl ?_;conv=>whnf
 refine nlA rfl ?_;conv=>whnf
 refine hK _ ?_
 cases h
 exact pV (aF (fL (aF (Wk.refl _) (aF jI bO))) (aF jI (aF (Wk.refl _) bO)))
theorem qW {T:Tbl} (hT:T 17=aH kK) {args:List AV} {hp:bF} {id:Nat} {k:AV→Prop} {a0:aD} {a1:Int} {Φ:bG×(List Int)×Int→Prop} (h:W (dV a0 a1) Φ) (hw:WkL args [bD a0,eI a1]) (hk:∀ y,Φ y→k (.tup [fF y.1,(eL 1 eI default) y.2.1,eI y.2.2])):bZ T 17 args hp id k:=by
 obtain ⟨y,e,hy⟩:=dL h
 exact aS hT ⟨a0,a1,rfl,kS e rfl⟩ (by exact lH (lsC (fA _) (lsC (lsL fun _=>(lsI _ _)) (lsC (lsI _ _) lsN)))) hw (hk y hy)
def fX (a1:Int) (m1:List dE) (s2:Int×bG):Option (Ct (Int×bG) bG):=cn (decide (s2.1<(m1.length:Int))) (gd (0≤s2.1) (jn (fun p3:bG=>
  some (.nx ((wr (s2.1+1)),p3))) fun k4=>cn ((zF .i64 (zD .i64 a1 s2.1) 1) ==
  1) (gd ((0:Int)≤s2.1∧s2.1<(s2.2.Edges.length:Int)) (st s2.2.Edges (s2.1) (⟨(s2.2.Edges.getD (s2.1).toNat default).From,(s2.2.Edges.getD (s2.1).toNat default).To,0⟩:dE) fun l5=>
  k4 (⟨s2.2.N,l5⟩:bG))) (k4 s2.2))) (some (.bk (s2.1,s2.2)))
def iT (a0:bG) (a1:Int):Option bG:=gd (a0.Edges.length≤1048576) (lt a0.Edges fun m1=>
  bd (lp (fX a1 m1) FU (0,(⟨a0.N,m1⟩:bG))) fun c6=>smK c6 (fun s7=>some (⟨s7.2.N,s7.2.Edges⟩:bG)) (fun r8=>some r8))
def oS:List AV→AV→Prop:=fun args r=>∃ a0 a1,args=[fF a0,eI a1]∧W (iT a0 a1) fun y=>r=(fF y)
theorem aCk {T:Tbl} (hT:TOk Tryz.prog T) (hpf:cI T PF) (h73:T 73=xN 3 bM default):FOk Tryz.prog 78 (aH oS):=by
 refine bB hT hpf Tryz.func78 rfl Tryz.ntmps78 Tryz.results78 (by decide) ?_
 rintro args r ⟨a0,a1,rfl,h⟩
 refine ⟨nle rfl,?_,?_⟩
 ·exact (lsC (fA _) (lsC (lsI _ _) lsN))
 rw [iT.eq_1] at h
 refine aB dCo rfl fun K hK=>?_;conv=>whnf
 refine hK _ _ _ ?_
 refine iZ dCo cJ rfl (by kernel_rfl) fun K hK=>?_;conv=>whnf
 refine nlA rfl ?_;conv=>whnf
 refine bKo rfl ?_;conv=>whnf
 refine gKo rfl ?_;conv=>whnf
 refine nlA rfl ?_;conv=>whnf
 refine bKo rfl ?_;conv=>whnf
 refine gKo rfl ?_;conv=>whnf
 refine vF h fun hg h=>?_
 replace h:=aKQ h
 refine wT h73 (aF (Wk.refl _) bO) hg (fun _=>(lsC (lsI _ _) (lsC (lsI _ _) (lsC (lsI _ _) lsN)))) ?_;conv=>whnf
 refine bKo rfl ?_;conv=>whnf
 refine And.intro rfl (And.intro (nle rfl) (And.intro rfl ?_));conv=>whnf
 refine hK _ _ _ ?_
 refine aL ?_
 refine aB dCo rfl fun K hK=>?_;conv=>whnf
 refine nlA rfl ?_;conv=>whnf
 refine bKo rfl ?_;conv=>whnf
 refine gKo rfl ?_;conv=>whnf
 refine hK _ _ _ ?_
 refine aN ?_
 replace h:=bE h
 refine xO (body:=fX _ _) rfl h [1,4,5,15] [4] [] [5] (fun kl kh kr ids b s=>⟨ofL ([(16,eI s.1)]++kl),ofH (([(aEe ids 0,.cells [eI s.2.N,.so (b+0) 0 s.2.Edges.length 3])]++kh)++([(b+0,.cells (flE (ceE bM) s.2.Edges))]++kr)),b+128⟩) ?_;(conv=>whnf);refine And.intro ?_ (fun s m h=>dY ?_)
 ·refine gQ ?_;conv=>whnf
  exact And.intro rfl (And.intro (aLc wkI (aLc wkI (aLc (WkR.ptr (fun _=>rfl)) (aLc (WkR.ptr (fun _=>rfl)) (aLc wkI aLn))))) (aLc ⟨some _,rfl,bRc rfl (cKc wkI (cKc (WkR.so (fun _=>rfl)) cKn))⟩ (aLc ⟨some _,rfl,bRc rfl (cKc wkI (cKc (wkr aG) cKn))⟩ (aLc ⟨some _,rfl,jP rfl (fun _=>(lsC (lsI _ _) (lsC (lsI _ _) (lsC (lsI _ _) lsN))))⟩ aLn))))
 replace h:=bE h;rw [fX.eq_1] at h
 refine aB dCo rfl fun K hK=>?_;conv=>whnf
 refine hK _ _ _ ?_
 refine aL ?_
 refine aT fun K1 K2 hK1 hK2=>?_;conv=>whnf
 refine cLk h (fun _ h=>?_) (fun _ h=>?_)
 ·refine hK1 ?_
  refine aK ?_
  refine tHn ?_
  refine aL ?_
  refine aN ?_
  refine aB dCo rfl fun K hK=>?_;conv=>whnf
  refine hK _ _ _ ?_
  refine aB dCo rfl fun K hK=>?_;conv=>whnf
  refine kQ h fun _ h=>?_;conv=>whnf
  refine hK _ _ _ ?_
  replace h:=eW h
  refine aT fun K1 K2 hK1 hK2=>?_;conv=>whnf
  refine cLk h (fun _ h=>?_) (fun _ h=>?_)
  ·refine hK1 ?_
   refine cK dCo rfl fun K hK=>?_;conv=>whnf
   refine nlA rfl ?_;conv=>whnf
   refine bKo rfl ?_;conv=>whnf
   refine gKo rfl ?_;conv=>whnf
   refine lD h (rfl) fun hx804 h=>?_;conv=>whnf
   refine bKo rfl ?_;conv=>whnf
   refine yL (enc:=bM) (d:=default) (q:=2) h (fun _=>rfl) (rfl) hx804 rfl (nle rfl) rfl rfl (fun h=>?_);conv=>whnf
   refine hK _ _ _ ?_
   refine iBn ?_
   refine tHn ?_
   refine cK dCo rfl fun K hK=>?_;conv=>whnf
   refine hK _ _ _ ?_
   refine tHn ?_
   replace h:=bY h
   refine ⟨_,h,?_⟩
   refine gQ ?_;conv=>whnf
   exact And.intro rfl (And.intro (aLc wkI (aLc wkI (aLc (WkR.ptr (fun _=>rfl)) (aLc (WkR.ptr (fun _=>rfl)) (aLc wkI aLn))))) (aLc ⟨some _,rfl,bRc rfl (cKc wkI (cKc (WkR.soN (fun _=>rfl) (oQ rfl).symm) cKn))⟩ (aLc ⟨some _,rfl,bRc rfl (cKc wkI (cKc (wkr aG) cKn))⟩ (aLc ⟨some _,rfl,jP rfl (fun _=>(lsC (lsI _ _) (lsC (lsI _ _) (lsC (lsI _ _) lsN))))⟩ aLn))))
  refine hK2 ?_
  refine aK ?_
  refine iBn ?_
  refine tHn ?_
  refine cK dCo rfl fun K hK=>?_;conv=>whnf
  refine hK _ _ _ ?_
  refine tHn ?_
  replace h:=bY h
  refine ⟨_,h,?_⟩
  refine gQ ?_;conv=>whnf
  exact And.intro rfl (And.intro (aLc wkI (aLc wkI (aLc (WkR.ptr (fun _=>rfl)) (aLc (WkR.ptr (fun _=>rfl)) (aLc wkI aLn))))) (aLc ⟨some _,rfl,bRc rfl (cKc wkI (cKc (WkR.so (fun _=>rfl)) cKn))⟩ (aLc ⟨some _,rfl,bRc rfl (cKc wkI (cKc (wkr aG) cKn))⟩ (aLc ⟨some _,rfl,jP rfl (fun _=>(lsC (lsI _ _) (lsC (lsI _ _) (lsC (lsI _ _) lsN))))⟩ aLn))))
 refine hK2 ?_
 refine bN ?_
 refine aW ?_
 refine aW ?_
 refine aV ?_
 replace h:=eA h
 replace h:=dZ h
 refine tHn ?_
 refine cG 5 1 (enc:=bM) (e:=67) default (eV dCo rfl rfl (fun _=>rfl) (fun _=>rfl)) ?_;(conv=>whnf);refine ⟨_,_,_,(Nat.ne_of_beq_eq_false rfl),rfl,rfl,rfl,rfl,?_⟩;conv=>whnf
 refine aB dCo rfl fun K hK=>?_;conv=>whnf
 refine nlA rfl ?_;conv=>whnf
 refine bKo rfl ?_;conv=>whnf
 refine nlA rfl ?_;conv=>whnf
 refine bKo rfl ?_;conv=>whnf
 refine And.intro rfl (And.intro (nle rfl) (And.intro rfl ?_));conv=>whnf
 refine hK _ _ _ ?_
 refine aJ ?_
 replace h:=aI h
 refine aE dCo fun K hK=>?_;conv=>whnf
 refine nlA rfl ?_;conv=>whnf
 refine bKo rfl ?_;conv=>whnf
 refine nlA rfl ?_;conv=>whnf
 refine hK _ ?_
 cases h
 exact Wk.refl _
theorem aAJ {T:Tbl} (hT:T 78=aH oS) {args:List AV} {hp:bF} {id:Nat} {k:AV→Prop} {a0:bG} {a1:Int} {Φ:bG→Prop} (h:W (iT a0 a1) Φ) (hw:WkL args [fF a0,eI a1]) (hk:∀ y,Φ y→k (fF y)):bZ T 78 args hp id k:=by
 obtain ⟨y,e,hy⟩:=dL h
 exact aS hT ⟨a0,a1,rfl,kS e rfl⟩ (by exact (fA _)) hw (hk y hy)
def dB (a0:bG) (a1:Int):Option (bG×Int):=jn (fun p1:Bool=>cn p1 (some ((⟨0,[]⟩:bG),270)) (bd (iT a0 a1) fun y5=>
  some (y5,0))) fun k2=>bd (hU a0) fun y3=>
  cn (!y3) (k2 true) (gd (0≤(a0.Edges.length:Int)) (bd (fY a1 0 (wr ((aAw .i64 1 (a0.Edges.length:Int))-1))) fun y4=>k2 (!y4)))
def oU:List AV→AV→Prop:=fun args r=>∃ a0 a1,args=[fF a0,eI a1]∧W (dB a0 a1) fun y=>r=(.tup [fF y.1,eI y.2])
theorem aB2 {T:Tbl} (hT:TOk Tryz.prog T) (hpf:cI T PF) (h33:T 33=aH mS) (h61:T 61=aH kJ) (h78:T 78=aH oS):FOk Tryz.prog 57 (aH oU):=by
 refine bB hT hpf Tryz.func57 rfl Tryz.ntmps57 Tryz.results57 (by decide) ?_
 rintro args r ⟨a0,a1,rfl,h⟩
 refine ⟨nle rfl,?_,?_⟩
 ·exact (lsC (fA _) (lsC (lsI _ _) lsN))
 rw [dB.eq_1] at h
 refine aB dCo rfl fun K hK=>?_;conv=>whnf
 refine hK _ _ _ ?_
 refine aL ?_
 refine aB dCo rfl fun K hK=>?_;conv=>whnf
 replace h:=eW h
 refine nlA rfl ?_;conv=>whnf
 refine bKo rfl ?_;conv=>whnf
 refine nlA rfl ?_;conv=>whnf
 replace h:=bE h
 refine tH h33 h (WkL.refl _) (fun _ h=>?_);conv=>whnf
 refine cLk h (fun _ h=>?_) (fun _ h=>?_)<;>(conv=>whnf)
 ·refine hK _ _ _ ?_
  refine aT fun K1 K2 hK1 hK2=>?_;conv=>whnf
  refine hK1 ?_
  replace h:=kR h
  refine aB dCo rfl fun K hK=>?_;conv=>whnf
  refine bKo rfl ?_;conv=>whnf
  refine And.intro rfl (And.intro (nle rfl) (And.intro rfl ?_));conv=>whnf
  refine hK _ _ _ ?_
  refine aJ ?_
  refine aM ?_
  replace h:=aI h
  refine aE dCo fun K hK=>?_;conv=>whnf
  refine nlA rfl ?_;conv=>whnf
  refine bKo rfl ?_;conv=>whnf
  refine nlA rfl ?_;conv=>whnf
  refine hK _ ?_
  cases h
  exact pV (aF (fL (aF (Wk.refl _) (aF jI bO))) (aF (Wk.refl _) bO))
 refine nlA rfl ?_;conv=>whnf
 refine bKo rfl ?_;conv=>whnf
 refine gKo rfl ?_;conv=>whnf
 refine kQ h fun _ h=>?_;conv=>whnf
 replace h:=bE h
 refine iS h61 h (WkL.refl _) (fun _ h=>?_);conv=>whnf
 refine hK _ _ _ ?_
 refine aT fun K1 K2 hK1 hK2=>?_;conv=>whnf
 refine cLk h (fun _ h=>?_) (fun _ h=>?_)
 ·refine hK1 ?_
  refine aB dCo rfl fun K hK=>?_;conv=>whnf
  refine bKo rfl ?_;conv=>whnf
  refine And.intro rfl (And.intro (nle rfl) (And.intro rfl ?_));conv=>whnf
  refine hK _ _ _ ?_
  refine aJ ?_
  refine aM ?_
  replace h:=aI h
  refine aE dCo fun K hK=>?_;conv=>whnf
  refine nlA rfl ?_;conv=>whnf
  refine bKo rfl ?_;conv=>whnf
  refine nlA rfl ?_;conv=>whnf
  refine hK _ ?_
  cases h
  exact pV (aF (fL (aF (Wk.refl _) (aF jI bO))) (aF (Wk.refl _) bO))
 refine hK2 ?_
 refine aK ?_
 refine tHn ?_
 refine aB dCo rfl fun K hK=>?_;conv=>whnf
 refine nlA rfl ?_;conv=>whnf
 refine bKo rfl ?_;conv=>whnf
 refine nlA rfl ?_;conv=>whnf
 replace h:=bE h
 refine aAJ h78 h (WkL.refl _) (fun _ h=>?_);conv=>whnf
 refine bKo rfl ?_;conv=>whnf
 refine And.intro rfl (And.intro (nle rfl) (And.intro rfl ?_));conv=>whnf
 refine hK _ _ _ ?_
 refine aJ ?_
 replace h:=aI h
 refine aE dCo fun K hK=>?_;conv=>whnf
 refine nlA rfl ?_;conv=>whnf
 refine bKo rfl ?_;conv=>whnf
 refine nlA rfl ?_;conv=>whnf
 refine hK _ ?_
 cases h
 exact Wk.refl _
theorem oD {T:Tbl} (hT:T 57=aH oU) {args:List AV} {hp:bF} {id:Nat} {k:AV→Prop} {a0:bG} {a1:Int} {Φ:bG×Int→Prop} (h:W (dB a0 a1) Φ) (hw:WkL args [fF a0,eI a1]) (hk:∀ y,Φ y→k (.tup [fF y.1,eI y.2])):bZ T 57 args hp id k:=by
 obtain ⟨y,e,hy⟩:=dL h
 exact aS hT ⟨a0,a1,rfl,kS e rfl⟩ (by exact lH (lsC (fA _) (lsC (lsI _ _) lsN))) hw (hk y hy)
def gA (a1:List Int) (s4:Int×Int):Option (Ct (Int×Int) Bool):=cn (decide (s4.2<(a1.length:Int))) (ix a1 default s4.2 fun e5=>
  bd (fY e5 (-100000) 100000) fun y6=>cn (!y6) (some (.rt false)) (some (.nx ((wr (s4.1+e5)),(wr (s4.2+1)))))) (some (.bk (s4.1,s4.2)))
def gT (a0:bG) (a1:List Int):Option Bool:=jn (fun p1:Bool=>cn p1 (some false) (bd (lp (gA a1) FU (0,0)) fun c7=>smK c7 (fun s8=>
  some (s8.1==0)) (fun r9=>some r9))) fun k2=>bd (hU a0) fun y3=>cn (!y3) (k2 true) (k2 ((a1.length:Int) != a0.N))
def mW:List AV→AV→Prop:=fun args r=>∃ a0 a1,args=[fF a0,(eL 1 eI default) a1]∧W (gT a0 a1) fun y=>r=(eB y)
theorem aA1 {T:Tbl} (hT:TOk Tryz.prog T) (hpf:cI T PF) (h33:T 33=aH mS) (h61:T 61=aH kJ):FOk Tryz.prog 81 (aH mW):=by
 refine bB hT hpf Tryz.func81 rfl Tryz.ntmps81 Tryz.results81 (by decide) ?_
 rintro args r ⟨a0,a1,rfl,h⟩
 refine ⟨nle rfl,?_,?_⟩
 ·exact (lsC (fA _) (lsC (lsL fun _=>(lsI _ _)) lsN))
 rw [gT.eq_1] at h
 refine aB dCo rfl fun K hK=>?_;conv=>whnf
 refine hK _ _ _ ?_
 refine aL ?_
 refine aB dCo rfl fun K hK=>?_;conv=>whnf
 replace h:=eW h
 refine nlA rfl ?_;conv=>whnf
 refine bKo rfl ?_;conv=>whnf
 refine nlA rfl ?_;conv=>whnf
 replace h:=bE h
 refine tH h33 h (WkL.refl _) (fun _ h=>?_);conv=>whnf
 refine cLk h (fun _ h=>?_) (fun _ h=>?_)<;>(conv=>whnf)
 ·refine hK _ _ _ ?_
  refine aT fun K1 K2 hK1 hK2=>?_;conv=>whnf
  refine hK1 ?_
  replace h:=kR h
  refine aB dCo rfl fun K hK=>?_;conv=>whnf
  refine hK _ _ _ ?_
  refine aJ ?_
  refine aM ?_
  replace h:=aI h
  refine aE dCo fun K hK=>?_;conv=>whnf
  refine hK _ ?_
  cases h
  exact Wk.refl _
 refine nlA rfl ?_;conv=>whnf
 refine bKo rfl ?_;conv=>whnf
 refine gKo rfl ?_;conv=>whnf
 refine hK _ _ _ ?_
 refine aT fun K1 K2 hK1 hK2=>?_;conv=>whnf
 refine cLk h (fun _ h=>?_) (fun _ h=>?_)
 ·refine hK1 ?_
  refine aB dCo rfl fun K hK=>?_;conv=>whnf
  refine hK _ _ _ ?_
  refine aJ ?_
  refine aM ?_
  replace h:=aI h
  refine aE dCo fun K hK=>?_;conv=>whnf
  refine hK _ ?_
  cases h
  exact Wk.refl _
 refine hK2 ?_
 refine aK ?_
 refine tHn ?_
 refine aB dCo rfl fun K hK=>?_;conv=>whnf
 refine hK _ _ _ ?_
 refine aL ?_
 refine aB dCo rfl fun K hK=>?_;conv=>whnf
 refine hK _ _ _ ?_
 refine aN ?_
 replace h:=bE h
 refine dS (body:=gA _) rfl h [18,19] [] [] (fun kl kh ids b s=>⟨ofL ([(5,eI s.1),(20,eI s.2)]++kl),ofH ([]++kh),b+64⟩) ?_;(conv=>whnf);refine And.intro ?_ (fun s m h=>dY ?_)
 ·refine aO ?_;conv=>whnf
  exact And.intro rfl (And.intro (aLc wkI (aLc wkI (aLc (wkr (lsL fun _=>(lsI _ _))) (aLc wkI aLn)))) aLn)
 replace h:=bE h;rw [gA.eq_1] at h
 refine aB dCo rfl fun K hK=>?_;conv=>whnf
 refine hK _ _ _ ?_
 refine aL ?_
 refine aT fun K1 K2 hK1 hK2=>?_;conv=>whnf
 refine cLk h (fun _ h=>?_) (fun _ h=>?_)
 ·refine hK1 ?_
  refine aK ?_
  refine tHn ?_
  refine aL ?_
  refine aN ?_
  refine aB dCo rfl fun K hK=>?_;conv=>whnf
  refine cA h fun _ h=>?_;conv=>whnf
  refine gKo rfl ?_;conv=>whnf
  refine hK _ _ _ ?_
  refine aL ?_
  refine aB dCo rfl fun K hK=>?_;conv=>whnf
  replace h:=bE h
  refine iS h61 h (WkL.refl _) (fun _ h=>?_);conv=>whnf
  refine hK _ _ _ ?_
  refine aT fun K1 K2 hK1 hK2=>?_;conv=>whnf
  refine cLk h (fun _ h=>?_) (fun _ h=>?_)
  ·refine hK1 ?_
   refine aB dCo rfl fun K hK=>?_;conv=>whnf
   refine hK _ _ _ ?_
   refine aJ ?_
   refine aM ?_
   refine aP ?_
   refine aM ?_
   refine aM ?_
   refine aP ?_
   refine aM ?_
   replace h:=iG h
   replace h:=iF h
   replace h:=aI h
   refine aE dCo fun K hK=>?_;conv=>whnf
   refine hK _ ?_
   cases h
   exact Wk.refl _
  refine hK2 ?_
  refine aK ?_
  refine tHn ?_
  refine cK dCo rfl fun K hK=>?_;conv=>whnf
  refine hK _ _ _ ?_
  refine iBn ?_
  refine tHn ?_
  refine cK dCo rfl fun K hK=>?_;conv=>whnf
  refine hK _ _ _ ?_
  refine tHn ?_
  replace h:=bY h
  refine ⟨_,h,?_⟩
  refine aO ?_;conv=>whnf
  exact And.intro rfl (And.intro (aLc wkI (aLc wkI (aLc (wkr (lsL fun _=>(lsI _ _))) (aLc wkI aLn)))) aLn)
 refine hK2 ?_
 refine bN ?_
 refine aW ?_
 refine aW ?_
 refine aV ?_
 replace h:=eA h
 replace h:=dZ h
 refine tHn ?_
 refine aB dCo rfl fun K hK=>?_;conv=>whnf
 refine hK _ _ _ ?_
 refine aJ ?_
 replace h:=aI h
 refine aE dCo fun K hK=>?_;conv=>whnf
 refine hK _ ?_
 cases h
 exact Wk.refl _
theorem yW {T:Tbl} (hT:T 81=aH mW) {args:List AV} {hp:bF} {id:Nat} {k:AV→Prop} {a0:bG} {a1:List Int} {Φ:Bool→Prop} (h:W (gT a0 a1) Φ) (hw:WkL args [fF a0,(eL 1 eI default) a1]) (hk:∀ y,Φ y→k (eB y)):bZ T 81 args hp id k:=by
 obtain ⟨y,e,hy⟩:=dL h
 exact aS hT ⟨a0,a1,rfl,kS e rfl⟩ (by exact (lsB _)) hw (hk y hy)
  def qM (a0:bG) (a1:List Int) (s2:Int×(List Int)):Option (Ct (Int×(List Int)) ((List Int)×Bool)):=cn (decide (s2.1<(a0.Edges.length:Int))) (ix a0.Edges default s2.1 fun e3=>
  ix a1 default s2.1 fun e4=>bd (fY e4 0 e3.Capacity) fun y5=>
  cn (!y5) (some (.rt ([],false))) (gd ((0:Int)≤e3.From∧e3.From<(s2.2.length:Int)) (ix a1 default s2.1 fun e6=>
  gd ((0:Int)≤e3.From∧e3.From<(s2.2.length:Int)) (st s2.2 (e3.From) (wr ((s2.2.getD (e3.From).toNat default)+e6)) fun l7=>
  gd ((0:Int)≤e3.To∧e3.To<(l7.length:Int)) (ix a1 default s2.1 fun e8=>
  gd ((0:Int)≤e3.To∧e3.To<(l7.length:Int)) (st l7 (e3.To) (wr ((l7.getD (e3.To).toNat default)-e8)) fun l9=>
  some (.nx ((wr (s2.1+1)),l9)))))))) (some (.bk (s2.1,s2.2)))
def nH (a0:bG) (a1:List Int):Option ((List Int)×Bool):=cn ((a1.length:Int) !=
  (a0.Edges.length:Int)) (some ([],false)) (gd ((0:Int)≤a0.N∧a0.N≤(1048576:Int)) (lt (List.replicate (a0.N).toNat (0:Int)) fun l1=>
  bd (lp (qM a0 a1) FU (0,l1)) fun c10=>smK c10 (fun s11=>some (s11.2,true)) (fun r12=>some r12)))
def rL:List AV→AV→Prop:=fun args r=>∃ a0 a1,args=[fF a0,(eL 1 eI default) a1]∧W (nH a0 a1) fun y=>r=(.tup [(eL 1 eI default) y.1,eB y.2])
theorem aEh {T:Tbl} (hT:TOk Tryz.prog T) (hpf:cI T PF) (h61:T 61=aH kJ):FOk Tryz.prog 82 (aH rL):=by
 refine bB hT hpf Tryz.func82 rfl Tryz.ntmps82 Tryz.results82 (by decide) ?_
 rintro args r ⟨a0,a1,rfl,h⟩
 refine ⟨nle rfl,?_,?_⟩
 ·exact (lsC (fA _) (lsC (lsL fun _=>(lsI _ _)) lsN))
 rw [nH.eq_1] at h
 refine aB dCo rfl fun K hK=>?_;conv=>whnf
 refine hK _ _ _ ?_
 refine aL ?_
 refine aB dCo rfl fun K hK=>?_;conv=>whnf
 refine nlA rfl ?_;conv=>whnf
 refine bKo rfl ?_;conv=>whnf
 refine gKo rfl ?_;conv=>whnf
 refine hK _ _ _ ?_
 refine aT fun K1 K2 hK1 hK2=>?_;conv=>whnf
 refine cLk h (fun _ h=>?_) (fun _ h=>?_)
 ·refine hK1 ?_
  refine aB dCo rfl fun K hK=>?_;conv=>whnf
  refine hK _ _ _ ?_
  refine aJ ?_
  refine aM ?_
  replace h:=aI h
  refine aE dCo fun K hK=>?_;conv=>whnf
  refine hK _ ?_
  cases h
  exact pV (aF jI (aF (Wk.refl _) bO))
 refine hK2 ?_
 refine aK ?_
 refine tHn ?_
 refine aB dCo rfl fun K hK=>?_;conv=>whnf
 refine nlA rfl ?_;conv=>whnf
 refine bKo rfl ?_;conv=>whnf
 refine gKo rfl ?_;conv=>whnf
 refine aMd (enc:=eI) dCo (0:Int) h rfl rfl ⟨nle rfl,nle rfl,rfl⟩ rfl (fun h=>?_);conv=>whnf
 refine hK _ _ _ ?_
 refine aL ?_
 refine aB dCo rfl fun K hK=>?_;conv=>whnf
 refine nlA rfl ?_;conv=>whnf
 refine bKo rfl ?_;conv=>whnf
 refine gKo rfl ?_;conv=>whnf
 refine hK _ _ _ ?_
 refine aN ?_
 replace h:=bE h
 refine xO (body:=qM _ _) rfl h [1,19,20] [] [] [] (fun kl kh kr ids b s=>⟨ofL ([(21,eI s.1),(6,.so (b+0) 0 s.2.length 1)]++kl),ofH (([]++kh)++([(b+0,.cells (flE (ceE eI) s.2))]++kr)),b+128⟩) ?_;(conv=>whnf);refine And.intro ?_ (fun s m h=>dY ?_)
 ·refine gQ ?_;conv=>whnf
  exact And.intro rfl (And.intro (aLc wkI (aLc (WkR.so (fun _=>rfl)) (aLc (wkr (lsL fun _=>(lsI _ _))) (aLc (wkr (lsL fun _=>(aC _))) (aLc wkI aLn))))) (aLc ⟨some _,rfl,jP rfl (fun _=>(lsC (lsI _ _) lsN))⟩ aLn))
 replace h:=bE h;rw [qM.eq_1] at h
 refine aB dCo rfl fun K hK=>?_;conv=>whnf
 refine hK _ _ _ ?_
 refine aL ?_
 refine aT fun K1 K2 hK1 hK2=>?_;conv=>whnf
 refine cLk h (fun _ h=>?_) (fun _ h=>?_)
 ·refine hK1 ?_
  refine aK ?_
  refine tHn ?_
  refine aL ?_
  refine aN ?_
  refine aB dCo rfl fun K hK=>?_;conv=>whnf
  refine cA h fun _ h=>?_;conv=>whnf
  refine nlA rfl ?_;conv=>whnf
  refine bKo rfl ?_;conv=>whnf
  refine And.intro rfl (And.intro (nle rfl) (And.intro rfl ?_));conv=>whnf
  refine hK _ _ _ ?_
  refine aL ?_
  refine iZ dCo cJ rfl (by kernel_rfl) fun K hK=>?_;conv=>whnf
  refine cA h fun _ h=>?_;conv=>whnf
  refine gKo rfl ?_;conv=>whnf
  refine nlA rfl ?_;conv=>whnf
  refine bKo rfl ?_;conv=>whnf
  refine gKo rfl ?_;conv=>whnf
  replace h:=bE h
  refine iS h61 h (WkL.refl _) (fun _ h=>?_);conv=>whnf
  refine hK _ _ _ ?_
  refine aT fun K1 K2 hK1 hK2=>?_;conv=>whnf
  refine cLk h (fun _ h=>?_) (fun _ h=>?_)
  ·refine hK1 ?_
   refine aB dCo rfl fun K hK=>?_;conv=>whnf
   refine hK _ _ _ ?_
   refine aJ ?_
   refine aM ?_
   refine aP ?_
   refine aM ?_
   refine aM ?_
   refine aP ?_
   refine aM ?_
   replace h:=iG h
   replace h:=iF h
   replace h:=aI h
   refine aE dCo fun K hK=>?_;conv=>whnf
   refine hK _ ?_
   cases h
   exact pV (aF jI (aF (Wk.refl _) bO))
  refine hK2 ?_
  refine aK ?_
  refine tHn ?_
  refine iZ dCo cJ rfl (by kernel_rfl) fun K hK=>?_;conv=>whnf
  refine nlA rfl ?_;conv=>whnf
  refine bKo rfl ?_;conv=>whnf
  refine gKo rfl ?_;conv=>whnf
  refine lD h (rfl) fun hx893 h=>?_;conv=>whnf
  refine nlA rfl ?_;conv=>whnf
  refine bKo rfl ?_;conv=>whnf
  refine wM (enc:=eI) (d:=default) (q:=0) (fun _=>rfl) (rfl) hx893 (nle rfl) rfl ?_;conv=>whnf
  refine cA h fun _ h=>?_;conv=>whnf
  refine gKo rfl ?_;conv=>whnf
  refine lD h (rfl) fun hx894 h=>?_;conv=>whnf
  refine bKo rfl ?_;conv=>whnf
  refine yL (enc:=eI) (d:=default) (q:=0) h (fun _=>rfl) (rfl) hx894 rfl (nle rfl) rfl rfl (fun h=>?_);conv=>whnf
  refine hK _ _ _ ?_
  refine zU dCo cJ rfl (by kernel_rfl) fun K hK=>?_;conv=>whnf
  refine nlA rfl ?_;conv=>whnf
  refine bKo rfl ?_;conv=>whnf
  refine gKo rfl ?_;conv=>whnf
  refine lD h (oQ rfl) fun hx895 h=>?_;conv=>whnf
  refine nlA rfl ?_;conv=>whnf
  refine bKo rfl ?_;conv=>whnf
  refine wM (enc:=eI) (d:=default) (q:=0) (fun _=>rfl) (oQ rfl) hx895 (nle rfl) rfl ?_;conv=>whnf
  refine cA h fun _ h=>?_;conv=>whnf
  refine gKo rfl ?_;conv=>whnf
  refine lD h (oQ rfl) fun hx896 h=>?_;conv=>whnf
  refine bKo rfl ?_;conv=>whnf
  refine yL (enc:=eI) (d:=default) (q:=0) h (fun _=>rfl) (oQ rfl) hx896 rfl (nle rfl) rfl rfl (fun h=>?_);conv=>whnf
  refine hK _ _ _ ?_
  refine iBn ?_
  refine tHn ?_
  refine cK dCo rfl fun K hK=>?_;conv=>whnf
  refine hK _ _ _ ?_
  refine tHn ?_
  replace h:=bY h
  refine ⟨_,h,?_⟩
  refine gQ ?_;conv=>whnf
  exact And.intro rfl (And.intro (aLc wkI (aLc (WkR.soN (fun _=>rfl) (oQ (oQ rfl)).symm) (aLc (wkr (lsL fun _=>(lsI _ _))) (aLc (wkr (lsL fun _=>(aC _))) (aLc wkI aLn))))) (aLc ⟨some _,rfl,jP rfl (fun _=>(lsC (lsI _ _) lsN))⟩ aLn))
 refine hK2 ?_
 refine bN ?_
 refine aW ?_
 refine aW ?_
 refine aV ?_
 replace h:=eA h
 replace h:=dZ h
 refine tHn ?_
 refine aB dCo rfl fun K hK=>?_;conv=>whnf
 refine hK _ _ _ ?_
 refine vL 4 (enc:=eI) (e:=3) default (fI dCo rfl rfl rfl (fun _=>⟨rfl,rfl⟩)) ?_;(conv=>whnf);refine ⟨_,_,rfl,rfl,rfl,?_⟩
 refine aJ ?_
 replace h:=aI h
 refine aE dCo fun K hK=>?_;conv=>whnf
 refine hK _ ?_
 cases h
 exact Wk.refl _
theorem aBI {T:Tbl} (hT:T 82=aH rL) {args:List AV} {hp:bF} {id:Nat} {k:AV→Prop} {a0:bG} {a1:List Int} {Φ:(List Int)×Bool→Prop} (h:W (nH a0 a1) Φ) (hw:WkL args [fF a0,(eL 1 eI default) a1]) (hk:∀ y,Φ y→k (.tup [(eL 1 eI default) y.1,eB y.2])):bZ T 82 args hp id k:=by
 obtain ⟨y,e,hy⟩:=dL h
 exact aS hT ⟨a0,a1,rfl,kS e rfl⟩ (by exact lH (lsC (lsL fun _=>(lsI _ _)) (lsC (lsB _) lsN))) hw (hk y hy)
def eU (a1:List Int) (a2:lG) (s9:Int×Int):Option (Ct (Int×Int) Bool):=cn (decide (s9.2<(a1.length:Int))) (ix a1 default s9.2 fun e10=>
  gd (0≤s9.2) (jn (fun p11:Int=>some (.nx (p11,(wr (s9.2+1))))) fun k12=>cn ((zF .i64 (zD .i64 a2.Set s9.2) 1) ==
  1) (k12 (wr (s9.1+e10))) (k12 s9.1))) (some (.bk (s9.1,s9.2)))
def cV (a0:bG) (a1:List Int) (a2:lG):Option Bool:=bd (gT a0 a1) fun y1=>
  cn (!y1) (some false) (cn a2.Met (bd (nH a0 a2.Amounts) fun y2=>jn (fun p3:Bool=>some p3) fun k4=>cn y2.2 (cn (a2.Set ==
  0) (bd (iC y2.1 a1) fun y5=>k4 y5) (k4 false)) (k4 false)) (jn (fun p6:Bool=>cn p6 (some false) (bd (lp (eU a1 a2) FU (0,0)) fun c13=>
  smK c13 (fun s14=>bd (gU a0 a2.Set) fun y16=>some (decide (s14.1>y16))) (fun r15=>some r15))) fun k7=>cn (decide ((a2.Amounts.length:Int) >
  0)) (k7 true) (gd (0≤a0.N) (bd (fY a2.Set 0 (wr ((aAw .i64 1 a0.N)-1))) fun y8=>k7 (!y8)))))
def mA:List AV→AV→Prop:=fun args r=>∃ a0 a1 a2,args=[fF a0,(eL 1 eI default) a1,zV a2]∧W (cV a0 a1 a2) fun y=>r=(eB y)
theorem aAl {T:Tbl} (hT:TOk Tryz.prog T) (hpf:cI T PF) (h61:T 61=aH kJ) (h81:T 81=aH mW) (h82:T 82=aH rL) (h83:T 83=aH kF) (h84:T 84=aH mX):FOk Tryz.prog 59 (aH mA):=by
 refine bB hT hpf Tryz.func59 rfl Tryz.ntmps59 Tryz.results59 (by decide) ?_
 rintro args r ⟨a0,a1,a2,rfl,h⟩
 refine ⟨nle rfl,?_,?_⟩
 ·exact (lsC (fA _) (lsC (lsL fun _=>(lsI _ _)) (lsC (aC1 _) lsN)))
 rw [cV.eq_1] at h
 refine aB dCo rfl fun K hK=>?_;conv=>whnf
 refine hK _ _ _ ?_
 refine aL ?_
 refine aB dCo rfl fun K hK=>?_;conv=>whnf
 refine nlA rfl ?_;conv=>whnf
 refine bKo rfl ?_;conv=>whnf
 refine nlA rfl ?_;conv=>whnf
 replace h:=bE h
 refine yW h81 h (WkL.refl _) (fun _ h=>?_);conv=>whnf
 refine hK _ _ _ ?_
 refine aT fun K1 K2 hK1 hK2=>?_;conv=>whnf
 refine cLk h (fun _ h=>?_) (fun _ h=>?_)
 ·refine hK1 ?_
  refine aB dCo rfl fun K hK=>?_;conv=>whnf
  refine hK _ _ _ ?_
  refine aJ ?_
  refine aM ?_
  replace h:=aI h
  refine aE dCo fun K hK=>?_;conv=>whnf
  refine hK _ ?_
  cases h
  exact Wk.refl _
 refine hK2 ?_
 refine aK ?_
 refine tHn ?_
 refine aL ?_
 refine aB dCo rfl fun K hK=>?_;conv=>whnf
 refine nlA rfl ?_;conv=>whnf
 refine bKo rfl ?_;conv=>whnf
 refine gKo rfl ?_;conv=>whnf
 refine hK _ _ _ ?_
 refine aT fun K1 K2 hK1 hK2=>?_;conv=>whnf
 refine cLk h (fun _ h=>?_) (fun _ h=>?_)
 ·refine hK1 ?_
  refine aB dCo rfl fun K hK=>?_;conv=>whnf
  refine nlA rfl ?_;conv=>whnf
  refine bKo rfl ?_;conv=>whnf
  refine nlA rfl ?_;conv=>whnf
  refine nlA rfl ?_;conv=>whnf
  refine bKo rfl ?_;conv=>whnf
  refine gKo rfl ?_;conv=>whnf
  replace h:=bE h
  refine aBI h82 h (WkL.refl _) (fun _ h=>?_);conv=>whnf
  refine hK _ _ _ ?_
  refine aB dCo rfl fun K hK=>?_;conv=>whnf
  replace h:=eW h
  refine cLk h (fun _ h=>?_) (fun _ h=>?_)<;>(conv=>whnf)
  ·refine nlA rfl ?_;conv=>whnf
   refine bKo rfl ?_;conv=>whnf
   refine gKo rfl ?_;conv=>whnf
   refine cLk h (fun _ h=>?_) (fun _ h=>?_)<;>(conv=>whnf)
   ·replace h:=bE h
    refine wD h83 h (WkL.refl _) (fun _ h=>?_);conv=>whnf
    refine hK _ _ _ ?_
    refine aJ ?_
    refine aM ?_
    replace h:=aI h
    refine aE dCo fun K hK=>?_;conv=>whnf
    refine hK _ ?_
    cases h
    exact Wk.refl _
   refine hK _ _ _ ?_
   refine aJ ?_
   refine aM ?_
   replace h:=aI h
   refine aE dCo fun K hK=>?_;conv=>whnf
   refine hK _ ?_
   cases h
   exact Wk.refl _
  refine hK _ _ _ ?_
  refine aJ ?_
  refine aM ?_
  replace h:=aI h
  refine aE dCo fun K hK=>?_;conv=>whnf
  refine hK _ ?_
  cases h
  exact Wk.refl _
 refine hK2 ?_
 refine aK ?_
 refine tHn ?_
 refine aL ?_
 refine iZ dCo cJ rfl (by kernel_rfl) fun K hK=>?_;conv=>whnf
 replace h:=eW h
 refine nlA rfl ?_;conv=>whnf
 refine bKo rfl ?_;conv=>whnf
 refine gKo rfl ?_;conv=>whnf
 refine cLk h (fun _ h=>?_) (fun _ h=>?_)<;>(conv=>whnf)
 ·refine hK _ _ _ ?_
  refine aT fun K1 K2 hK1 hK2=>?_;conv=>whnf
  refine hK1 ?_
  replace h:=kR h
  refine aB dCo rfl fun K hK=>?_;conv=>whnf
  refine hK _ _ _ ?_
  refine aJ ?_
  refine aM ?_
  replace h:=aI h
  refine aE dCo fun K hK=>?_;conv=>whnf
  refine hK _ ?_
  cases h
  exact Wk.refl _
 refine nlA rfl ?_;conv=>whnf
 refine bKo rfl ?_;conv=>whnf
 refine gKo rfl ?_;conv=>whnf
 refine nlA rfl ?_;conv=>whnf
 refine bKo rfl ?_;conv=>whnf
 refine gKo rfl ?_;conv=>whnf
 refine kQ h fun _ h=>?_;conv=>whnf
 replace h:=bE h
 refine iS h61 h (WkL.refl _) (fun _ h=>?_);conv=>whnf
 refine hK _ _ _ ?_
 refine aT fun K1 K2 hK1 hK2=>?_;conv=>whnf
 refine cLk h (fun _ h=>?_) (fun _ h=>?_)
 ·refine hK1 ?_
  refine aB dCo rfl fun K hK=>?_;conv=>whnf
  refine hK _ _ _ ?_
  refine aJ ?_
  refine aM ?_
  replace h:=aI h
  refine aE dCo fun K hK=>?_;conv=>whnf
  refine hK _ ?_
  cases h
  exact Wk.refl _
 refine hK2 ?_
 refine aK ?_
 refine tHn ?_
 refine aB dCo rfl fun K hK=>?_;conv=>whnf
 refine hK _ _ _ ?_
 refine aL ?_
 refine aB dCo rfl fun K hK=>?_;conv=>whnf
 refine hK _ _ _ ?_
 refine aN ?_
 replace h:=bE h
 refine dS (body:=eU _ _) rfl h [3,5,50,51] [3,5] [] (fun kl kh ids b s=>⟨ofL ([(9,eI s.1),(52,eI s.2)]++kl),ofH ([]++kh),b+64⟩) ?_;(conv=>whnf);refine And.intro ?_ (fun s m h=>dY ?_)
 ·refine aO ?_;conv=>whnf
  exact And.intro rfl (And.intro (aLc wkI (aLc wkI (aLc (WkR.ptr (fun _=>rfl)) (aLc (WkR.ptr (fun _=>rfl)) (aLc (wkr (lsL fun _=>(lsI _ _))) (aLc wkI aLn)))))) (aLc ⟨some _,rfl,bRc rfl (cKc wkI (cKc (wkr (lsL fun _=>(aC _))) cKn))⟩ (aLc ⟨some _,rfl,bRc rfl (cKc (wkr (lsB _)) (cKc (wkr (lsL fun _=>(lsI _ _))) (cKc wkI cKn)))⟩ aLn)))
 replace h:=bE h;rw [eU.eq_1] at h
 refine aB dCo rfl fun K hK=>?_;conv=>whnf
 refine hK _ _ _ ?_
 refine aL ?_
 refine aT fun K1 K2 hK1 hK2=>?_;conv=>whnf
 refine cLk h (fun _ h=>?_) (fun _ h=>?_)
 ·refine hK1 ?_
  refine aK ?_
  refine tHn ?_
  refine aL ?_
  refine aN ?_
  refine aB dCo rfl fun K hK=>?_;conv=>whnf
  refine cA h fun _ h=>?_;conv=>whnf
  refine gKo rfl ?_;conv=>whnf
  refine hK _ _ _ ?_
  refine aB dCo rfl fun K hK=>?_;conv=>whnf
  refine nlA rfl ?_;conv=>whnf
  refine bKo rfl ?_;conv=>whnf
  refine gKo rfl ?_;conv=>whnf
  refine kQ h fun _ h=>?_;conv=>whnf
  refine hK _ _ _ ?_
  replace h:=eW h
  refine aT fun K1 K2 hK1 hK2=>?_;conv=>whnf
  refine cLk h (fun _ h=>?_) (fun _ h=>?_)
  ·refine hK1 ?_
   refine cK dCo rfl fun K hK=>?_;conv=>whnf
   refine hK _ _ _ ?_
   refine iBn ?_
   refine tHn ?_
   refine cK dCo rfl fun K hK=>?_;conv=>whnf
   refine hK _ _ _ ?_
   refine tHn ?_
   replace h:=bY h
   refine ⟨_,h,?_⟩
   refine aO ?_;conv=>whnf
   exact And.intro rfl (And.intro (aLc wkI (aLc wkI (aLc (WkR.ptr (fun _=>rfl)) (aLc (WkR.ptr (fun _=>rfl)) (aLc (wkr (lsL fun _=>(lsI _ _))) (aLc wkI aLn)))))) (aLc ⟨some _,rfl,bRc rfl (cKc wkI (cKc (wkr (lsL fun _=>(aC _))) cKn))⟩ (aLc ⟨some _,rfl,bRc rfl (cKc (wkr (lsB _)) (cKc (wkr (lsL fun _=>(lsI _ _))) (cKc wkI cKn)))⟩ aLn)))
  refine hK2 ?_
  refine aK ?_
  refine iBn ?_
  refine tHn ?_
  refine cK dCo rfl fun K hK=>?_;conv=>whnf
  refine hK _ _ _ ?_
  refine tHn ?_
  replace h:=bY h
  refine ⟨_,h,?_⟩
  refine aO ?_;conv=>whnf
  exact And.intro rfl (And.intro (aLc wkI (aLc wkI (aLc (WkR.ptr (fun _=>rfl)) (aLc (WkR.ptr (fun _=>rfl)) (aLc (wkr (lsL fun _=>(lsI _ _))) (aLc wkI aLn)))))) (aLc ⟨some _,rfl,bRc rfl (cKc wkI (cKc (wkr (lsL fun _=>(aC _))) cKn))⟩ (aLc ⟨some _,rfl,bRc rfl (cKc (wkr (lsB _)) (cKc (wkr (lsL fun _=>(lsI _ _))) (cKc wkI cKn)))⟩ aLn)))
 refine hK2 ?_
 refine bN ?_
 refine aW ?_
 refine aW ?_
 refine aV ?_
 replace h:=eA h
 replace h:=dZ h
 refine tHn ?_
 refine aB dCo rfl fun K hK=>?_;conv=>whnf
 refine nlA rfl ?_;conv=>whnf
 refine bKo rfl ?_;conv=>whnf
 refine nlA rfl ?_;conv=>whnf
 refine nlA rfl ?_;conv=>whnf
 refine bKo rfl ?_;conv=>whnf
 refine gKo rfl ?_;conv=>whnf
 replace h:=bE h
 refine zR h84 h (WkL.refl _) (fun _ h=>?_);conv=>whnf
 refine hK _ _ _ ?_
 refine aJ ?_
 replace h:=aI h
 refine aE dCo fun K hK=>?_;conv=>whnf
 refine hK _ ?_
 cases h
 exact Wk.refl _
theorem lU {T:Tbl} (hT:T 59=aH mA) {args:List AV} {hp:bF} {id:Nat} {k:AV→Prop} {a0:bG} {a1:List Int} {a2:lG} {Φ:Bool→Prop} (h:W (cV a0 a1 a2) Φ) (hw:WkL args [fF a0,(eL 1 eI default) a1,zV a2]) (hk:∀ y,Φ y→k (eB y)):bZ T 59 args hp id k:=by
 obtain ⟨y,e,hy⟩:=dL h
 exact aS hT ⟨a0,a1,a2,rfl,kS e rfl⟩ (by exact (lsB _)) hw (hk y hy)
def pY (a0:Int) (a1:Int) (c900:bG):Option Int:=ix c900.Edges default a1 fun e1=>ix c900.Edges default a0 fun e2=>
  let v3:=(wr (e1.Capacity-e2.Capacity));some v3
def tY:List AV→AV→Prop:=fun args r=>∃ a0 a1 c900,args=[eI a0,eI a1,.ep [eI c900.N,(eL 3 bM default) c900.Edges] 0]∧W (pY a0 a1 c900) fun y=>r=(eI y)
theorem yH {T:Tbl} (hT:TOk Tryz.prog T) (hpf:cI T PF):FOk Tryz.prog 88 (aH tY):=by
 refine bB hT hpf Tryz.func88 rfl Tryz.ntmps88 Tryz.results88 (by decide) ?_
 rintro args r ⟨a0,a1,c900,rfl,h⟩
 refine ⟨nle rfl,?_,?_⟩
 ·exact (lsC (lsI _ _) (lsC (lsI _ _) (lsC (lsE (lsC (lsI _ _) (lsC (lsL fun _=>(aC _)) lsN))) lsN)))
 rw [pY.eq_1] at h
 refine aB dCo rfl fun K hK=>?_;conv=>whnf
 refine hK _ _ _ ?_
 refine iZ dCo cJ rfl (by kernel_rfl) fun K hK=>?_;conv=>whnf
 refine gKo rfl ?_;conv=>whnf
 refine cA h fun _ h=>?_;conv=>whnf
 refine gKo rfl ?_;conv=>whnf
 refine gKo rfl ?_;conv=>whnf
 refine cA h fun _ h=>?_;conv=>whnf
 refine gKo rfl ?_;conv=>whnf
 refine hK _ _ _ ?_
 refine aJ ?_
 replace h:=aI h
 refine aE dCo fun K hK=>?_;conv=>whnf
 refine hK _ ?_
 cases h
 exact Wk.refl _
end Go.Proofs.YtkjccabdpeldhaaGreat
