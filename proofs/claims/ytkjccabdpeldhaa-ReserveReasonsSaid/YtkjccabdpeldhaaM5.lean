import Derived.Test.YtkjccabdpeldhaaProg
import Derived.Test.YtkjccabdpeldhaaM3
import Derived.KernelRfl
import Derived.Test.YtkjccabdpeldhaaM4
import Derived.Laws.StructEq
set_option linter.unusedVariables false
set_option linter.unusedSimpArgs false
set_option linter.unusedSectionVars false
namespace Go.Proofs.Ytkjccabdpeldhaa
open Go Go.Eng

def tdL:List (Nat×TD):=[
 (3,⟨.int .i64,1,[.int .i64 0],8⟩),
 (4,⟨.bool,1,[.bool false],1⟩),
 (22,⟨.slice 119,1,[.nils],24⟩),
 (23,⟨.slice 3,1,[.nils],24⟩),
 (24,⟨.slice 83,1,[.nils],24⟩),
 (26,⟨.struct [(3,0),(22,1),(23,2),(23,3),(3,4),(24,5)],6,[.int .i64 0,.nils,.nils,.nils,.int .i64 0,.nils],112⟩),
 (28,⟨.slice 53,1,[.nils],24⟩),
 (30,⟨.struct [(3,0),(28,1)],2,[.int .i64 0,.nils],32⟩),
 (31,⟨.slice 56,1,[.nils],24⟩),
 (33,⟨.struct [(30,0),(23,2),(23,3),(3,4),(31,5)],6,[.int .i64 0,.nils,.nils,.nils,.int .i64 0,.nils],112⟩),
 (35,⟨.slice 45,1,[.nils],24⟩),
 (37,⟨.struct [(3,0),(35,1)],2,[.int .i64 0,.nils],32⟩),
 (38,⟨.int .i64,1,[.int .i64 0],8⟩),
 (45,⟨.struct [(3,0),(3,1),(3,2),(3,3)],4,[.int .i64 0,.int .i64 0,.int .i64 0,.int .i64 0],32⟩),
 (53,⟨.struct [(3,0),(3,1),(3,2)],3,[.int .i64 0,.int .i64 0,.int .i64 0],24⟩),
 (56,⟨.struct [(23,0),(3,1)],2,[.nils,.int .i64 0],32⟩),
 (61,⟨.struct [(3,0),(3,1),(3,2)],3,[.int .i64 0,.int .i64 0,.int .i64 0],24⟩),
 (65,⟨.array 2 3,2,[.int .i64 0,.int .i64 0],16⟩),
 (71,⟨.struct [(4,0),(23,1),(3,2)],3,[.bool false,.nils,.int .i64 0],40⟩),
 (83,⟨.array 4 3,4,[.int .i64 0,.int .i64 0,.int .i64 0,.int .i64 0],32⟩),
 (86,⟨.struct [(3,0),(3,1),(3,2)],3,[.int .i64 0,.int .i64 0,.int .i64 0],24⟩),
 (98,⟨.int .u64,1,[.int .u64 0],8⟩),
 (109,⟨.other,1,[.nilp],8⟩),
 (111,⟨.array 14 3,14,[.int .i64 0,.int .i64 0,.int .i64 0,.int .i64 0,.int .i64 0,.int .i64 0,.int .i64 0,.int .i64 0,.int .i64 0,.int .i64 0,.int .i64 0,.int .i64 0,.int .i64 0,.int .i64 0],112⟩),
 (119,⟨.array 3 3,3,[.int .i64 0,.int .i64 0,.int .i64 0],24⟩),
 (130,⟨.int .u32,1,[.int .u32 0],4⟩),
 (132,⟨.int .u64,1,[.int .u64 0],8⟩),
 (138,⟨.array 14 111,196,[.int .i64 0,.int .i64 0,.int .i64 0,.int .i64 0,.int .i64 0,.int .i64 0,.int .i64 0,.int .i64 0,.int .i64 0,.int .i64 0,.int .i64 0,.int .i64 0,.int .i64 0,.int .i64 0,.int .i64 0,.int .i64 0,.int .i64 0,.int .i64 0,.int .i64 0,.int .i64 0,.int .i64 0,.int .i64 0,.int .i64 0,.int .i64 0,.int .i64 0,.int .i64 0,.int .i64 0,.int .i64 0,.int .i64 0,.int .i64 0,.int .i64 0,.int .i64 0,.int .i64 0,.int .i64 0,.int .i64 0,.int .i64 0,.int .i64 0,.int .i64 0,.int .i64 0,.int .i64 0,.int .i64 0,.int .i64 0,.int .i64 0,.int .i64 0,.int .i64 0,.int .i64 0,.int .i64 0,.int .i64 0,.int .i64 0,.int .i64 0,.int .i64 0,.int .i64 0,.int .i64 0,.int .i64 0,.int .i64 0,.int .i64 0,.int .i64 0,.int .i64 0,.int .i64 0,.int .i64 0,.int .i64 0,.int .i64 0,.int .i64 0,.int .i64 0,.int .i64 0,.int .i64 0,.int .i64 0,.int .i64 0,.int .i64 0,.int .i64 0,.int .i64 0,.int .i64 0,.int .i64 0,.int .i64 0,.int .i64 0,.int .i64 0,.int .i64 0,.int .i64 0,.int .i64 0,.int .i64 0,.int .i64 0,.int .i64 0,.int .i64 0,.int .i64 0,.int .i64 0,.int .i64 0,.int .i64 0,.int .i64 0,.int .i64 0,.int .i64 0,.int .i64 0,.int .i64 0,.int .i64 0,.int .i64 0,.int .i64 0,.int .i64 0,.int .i64 0,.int .i64 0,.int .i64 0,.int .i64 0,.int .i64 0,.int .i64 0,.int .i64 0,.int .i64 0,.int .i64 0,.int .i64 0,.int .i64 0,.int .i64 0,.int .i64 0,.int .i64 0,.int .i64 0,.int .i64 0,.int .i64 0,.int .i64 0,.int .i64 0,.int .i64 0,.int .i64 0,.int .i64 0,.int .i64 0,.int .i64 0,.int .i64 0,.int .i64 0,.int .i64 0,.int .i64 0,.int .i64 0,.int .i64 0,.int .i64 0,.int .i64 0,.int .i64 0,.int .i64 0,.int .i64 0,.int .i64 0,.int .i64 0,.int .i64 0,.int .i64 0,.int .i64 0,.int .i64 0,.int .i64 0,.int .i64 0,.int .i64 0,.int .i64 0,.int .i64 0,.int .i64 0,.int .i64 0,.int .i64 0,.int .i64 0,.int .i64 0,.int .i64 0,.int .i64 0,.int .i64 0,.int .i64 0,.int .i64 0,.int .i64 0,.int .i64 0,.int .i64 0,.int .i64 0,.int .i64 0,.int .i64 0,.int .i64 0,.int .i64 0,.int .i64 0,.int .i64 0,.int .i64 0,.int .i64 0,.int .i64 0,.int .i64 0,.int .i64 0,.int .i64 0,.int .i64 0,.int .i64 0,.int .i64 0,.int .i64 0,.int .i64 0,.int .i64 0,.int .i64 0,.int .i64 0,.int .i64 0,.int .i64 0,.int .i64 0,.int .i64 0,.int .i64 0,.int .i64 0,.int .i64 0,.int .i64 0,.int .i64 0,.int .i64 0,.int .i64 0,.int .i64 0,.int .i64 0,.int .i64 0,.int .i64 0,.int .i64 0,.int .i64 0,.int .i64 0,.int .i64 0,.int .i64 0],1568⟩)]
def DC:DT:=ofTD tdL
theorem td3:TDok Try.prog 3 ⟨.int .i64,1,[.int .i64 0],8⟩:=⟨by kernel_rfl,by kernel_rfl,by kernel_rfl,Try.underlying3⟩
theorem td4:TDok Try.prog 4 ⟨.bool,1,[.bool false],1⟩:=⟨by kernel_rfl,by kernel_rfl,by kernel_rfl,Try.underlying4⟩
theorem td22:TDok Try.prog 22 ⟨.slice 119,1,[.nils],24⟩:=⟨by kernel_rfl,by kernel_rfl,by kernel_rfl,Try.underlying22⟩
theorem td23:TDok Try.prog 23 ⟨.slice 3,1,[.nils],24⟩:=⟨by kernel_rfl,by kernel_rfl,by kernel_rfl,Try.underlying23⟩
theorem td24:TDok Try.prog 24 ⟨.slice 83,1,[.nils],24⟩:=⟨by kernel_rfl,by kernel_rfl,by kernel_rfl,Try.underlying24⟩
theorem td26:TDok Try.prog 26 ⟨.struct [(3,0),(22,1),(23,2),(23,3),(3,4),(24,5)],6,[.int .i64 0,.nils,.nils,.nils,.int .i64 0,.nils],112⟩:=⟨by kernel_rfl,by kernel_rfl,by kernel_rfl,⟨_,Try.underlying26,rfl⟩⟩
theorem td28:TDok Try.prog 28 ⟨.slice 53,1,[.nils],24⟩:=⟨by kernel_rfl,by kernel_rfl,by kernel_rfl,Try.underlying28⟩
theorem td30:TDok Try.prog 30 ⟨.struct [(3,0),(28,1)],2,[.int .i64 0,.nils],32⟩:=⟨by kernel_rfl,by kernel_rfl,by kernel_rfl,⟨_,Try.underlying30,rfl⟩⟩
theorem td31:TDok Try.prog 31 ⟨.slice 56,1,[.nils],24⟩:=⟨by kernel_rfl,by kernel_rfl,by kernel_rfl,Try.underlying31⟩
theorem td33:TDok Try.prog 33 ⟨.struct [(30,0),(23,2),(23,3),(3,4),(31,5)],6,[.int .i64 0,.nils,.nils,.nils,.int .i64 0,.nils],112⟩:=⟨by kernel_rfl,by kernel_rfl,by kernel_rfl,⟨_,Try.underlying33,rfl⟩⟩
theorem td35:TDok Try.prog 35 ⟨.slice 45,1,[.nils],24⟩:=⟨by kernel_rfl,by kernel_rfl,by kernel_rfl,Try.underlying35⟩
theorem td37:TDok Try.prog 37 ⟨.struct [(3,0),(35,1)],2,[.int .i64 0,.nils],32⟩:=⟨by kernel_rfl,by kernel_rfl,by kernel_rfl,⟨_,Try.underlying37,rfl⟩⟩
theorem td38:TDok Try.prog 38 ⟨.int .i64,1,[.int .i64 0],8⟩:=⟨by kernel_rfl,by kernel_rfl,by kernel_rfl,Try.underlying38⟩
theorem td45:TDok Try.prog 45 ⟨.struct [(3,0),(3,1),(3,2),(3,3)],4,[.int .i64 0,.int .i64 0,.int .i64 0,.int .i64 0],32⟩:=⟨by kernel_rfl,by kernel_rfl,by kernel_rfl,⟨_,Try.underlying45,rfl⟩⟩
theorem td53:TDok Try.prog 53 ⟨.struct [(3,0),(3,1),(3,2)],3,[.int .i64 0,.int .i64 0,.int .i64 0],24⟩:=⟨by kernel_rfl,by kernel_rfl,by kernel_rfl,⟨_,Try.underlying53,rfl⟩⟩
theorem td56:TDok Try.prog 56 ⟨.struct [(23,0),(3,1)],2,[.nils,.int .i64 0],32⟩:=⟨by kernel_rfl,by kernel_rfl,by kernel_rfl,⟨_,Try.underlying56,rfl⟩⟩
theorem td61:TDok Try.prog 61 ⟨.struct [(3,0),(3,1),(3,2)],3,[.int .i64 0,.int .i64 0,.int .i64 0],24⟩:=⟨by kernel_rfl,by kernel_rfl,by kernel_rfl,⟨_,Try.underlying61,rfl⟩⟩
theorem td65:TDok Try.prog 65 ⟨.array 2 3,2,[.int .i64 0,.int .i64 0],16⟩:=⟨by kernel_rfl,by kernel_rfl,by kernel_rfl,Try.underlying65⟩
theorem td71:TDok Try.prog 71 ⟨.struct [(4,0),(23,1),(3,2)],3,[.bool false,.nils,.int .i64 0],40⟩:=⟨by kernel_rfl,by kernel_rfl,by kernel_rfl,⟨_,Try.underlying71,rfl⟩⟩
theorem td83:TDok Try.prog 83 ⟨.array 4 3,4,[.int .i64 0,.int .i64 0,.int .i64 0,.int .i64 0],32⟩:=⟨by kernel_rfl,by kernel_rfl,by kernel_rfl,Try.underlying83⟩
theorem td86:TDok Try.prog 86 ⟨.struct [(3,0),(3,1),(3,2)],3,[.int .i64 0,.int .i64 0,.int .i64 0],24⟩:=⟨by kernel_rfl,by kernel_rfl,by kernel_rfl,⟨_,Try.underlying86,rfl⟩⟩
theorem td98:TDok Try.prog 98 ⟨.int .u64,1,[.int .u64 0],8⟩:=⟨by kernel_rfl,by kernel_rfl,by kernel_rfl,Try.underlying98⟩
theorem td109:TDok Try.prog 109 ⟨.other,1,[.nilp],8⟩:=⟨by kernel_rfl,by kernel_rfl,by kernel_rfl,(by show aggT _ _=some false;kernel_rfl)⟩
theorem td111:TDok Try.prog 111 ⟨.array 14 3,14,[.int .i64 0,.int .i64 0,.int .i64 0,.int .i64 0,.int .i64 0,.int .i64 0,.int .i64 0,.int .i64 0,.int .i64 0,.int .i64 0,.int .i64 0,.int .i64 0,.int .i64 0,.int .i64 0],112⟩:=⟨by kernel_rfl,by kernel_rfl,by kernel_rfl,Try.underlying111⟩
theorem td119:TDok Try.prog 119 ⟨.array 3 3,3,[.int .i64 0,.int .i64 0,.int .i64 0],24⟩:=⟨by kernel_rfl,by kernel_rfl,by kernel_rfl,Try.underlying119⟩
theorem td130:TDok Try.prog 130 ⟨.int .u32,1,[.int .u32 0],4⟩:=⟨by kernel_rfl,by kernel_rfl,by kernel_rfl,Try.underlying130⟩
theorem td132:TDok Try.prog 132 ⟨.int .u64,1,[.int .u64 0],8⟩:=⟨by kernel_rfl,by kernel_rfl,by kernel_rfl,Try.underlying132⟩
theorem td138:TDok Try.prog 138 ⟨.array 14 111,196,[.int .i64 0,.int .i64 0,.int .i64 0,.int .i64 0,.int .i64 0,.int .i64 0,.int .i64 0,.int .i64 0,.int .i64 0,.int .i64 0,.int .i64 0,.int .i64 0,.int .i64 0,.int .i64 0,.int .i64 0,.int .i64 0,.int .i64 0,.int .i64 0,.int .i64 0,.int .i64 0,.int .i64 0,.int .i64 0,.int .i64 0,.int .i64 0,.int .i64 0,.int .i64 0,.int .i64 0,.int .i64 0,.int .i64 0,.int .i64 0,.int .i64 0,.int .i64 0,.int .i64 0,.int .i64 0,.int .i64 0,.int .i64 0,.int .i64 0,.int .i64 0,.int .i64 0,.int .i64 0,.int .i64 0,.int .i64 0,.int .i64 0,.int .i64 0,.int .i64 0,.int .i64 0,.int .i64 0,.int .i64 0,.int .i64 0,.int .i64 0,.int .i64 0,.int .i64 0,.int .i64 0,.int .i64 0,.int .i64 0,.int .i64 0,.int .i64 0,.int .i64 0,.int .i64 0,.int .i64 0,.int .i64 0,.int .i64 0,.int .i64 0,.int .i64 0,.int .i64 0,.int .i64 0,.int .i64 0,.int .i64 0,.int .i64 0,.int .i64 0,.int .i64 0,.int .i64 0,.int .i64 0,.int .i64 0,.int .i64 0,.int .i64 0,.int .i64 0,.int .i64 0,.int .i64 0,.int .i64 0,.int .i64 0,.int .i64 0,.int .i64 0,.int .i64 0,.int .i64 0,.int .i64 0,.int .i64 0,.int .i64 0,.int .i64 0,.int .i64 0,.int .i64 0,.int .i64 0,.int .i64 0,.int .i64 0,.int .i64 0,.int .i64 0,.int .i64 0,.int .i64 0,.int .i64 0,.int .i64 0,.int .i64 0,.int .i64 0,.int .i64 0,.int .i64 0,.int .i64 0,.int .i64 0,.int .i64 0,.int .i64 0,.int .i64 0,.int .i64 0,.int .i64 0,.int .i64 0,.int .i64 0,.int .i64 0,.int .i64 0,.int .i64 0,.int .i64 0,.int .i64 0,.int .i64 0,.int .i64 0,.int .i64 0,.int .i64 0,.int .i64 0,.int .i64 0,.int .i64 0,.int .i64 0,.int .i64 0,.int .i64 0,.int .i64 0,.int .i64 0,.int .i64 0,.int .i64 0,.int .i64 0,.int .i64 0,.int .i64 0,.int .i64 0,.int .i64 0,.int .i64 0,.int .i64 0,.int .i64 0,.int .i64 0,.int .i64 0,.int .i64 0,.int .i64 0,.int .i64 0,.int .i64 0,.int .i64 0,.int .i64 0,.int .i64 0,.int .i64 0,.int .i64 0,.int .i64 0,.int .i64 0,.int .i64 0,.int .i64 0,.int .i64 0,.int .i64 0,.int .i64 0,.int .i64 0,.int .i64 0,.int .i64 0,.int .i64 0,.int .i64 0,.int .i64 0,.int .i64 0,.int .i64 0,.int .i64 0,.int .i64 0,.int .i64 0,.int .i64 0,.int .i64 0,.int .i64 0,.int .i64 0,.int .i64 0,.int .i64 0,.int .i64 0,.int .i64 0,.int .i64 0,.int .i64 0,.int .i64 0,.int .i64 0,.int .i64 0,.int .i64 0,.int .i64 0,.int .i64 0,.int .i64 0,.int .i64 0,.int .i64 0,.int .i64 0,.int .i64 0,.int .i64 0,.int .i64 0,.int .i64 0,.int .i64 0,.int .i64 0,.int .i64 0],1568⟩:=⟨by kernel_rfl,by kernel_rfl,by kernel_rfl,Try.underlying138⟩
theorem dCo:DOk Try.prog DC:=(DOk_cons td3 (DOk_cons td4 (DOk_cons td22 (DOk_cons td23 (DOk_cons td24 (DOk_cons td26 (DOk_cons td28 (DOk_cons td30 (DOk_cons td31 (DOk_cons td33 (DOk_cons td35 (DOk_cons td37 (DOk_cons td38 (DOk_cons td45 (DOk_cons td53 (DOk_cons td56 (DOk_cons td61 (DOk_cons td65 (DOk_cons td71 (DOk_cons td83 (DOk_cons td86 (DOk_cons td98 (DOk_cons td109 (DOk_cons td111 (DOk_cons td119 (DOk_cons td130 (DOk_cons td132 (DOk_cons td138 (DOk_nil _)))))))))))))))))))))))))))))
theorem mix_ok:Try.prog.follows .mixedOrders=true:=by kernel_rfl
end Go.Proofs.Ytkjccabdpeldhaa
namespace Go.Proofs.Ytkjccabdpeldhaa
open Go Go.Eng
def eA119 (x:Int×Int×Int):AV:=.agg [eI x.1,eI x.2.1,eI x.2.2]
theorem lo_A119 (x:Int×Int×Int):(eA119 x).loose:=(loose_agg (lsC (lsI _ _) (lsC (lsI _ _) (lsC (lsI _ _) lsN))))
def eA83 (x:Int×Int×Int×Int):AV:=.agg [eI x.1,eI x.2.1,eI x.2.2.1,eI x.2.2.2]
theorem lo_A83 (x:Int×Int×Int×Int):(eA83 x).loose:=(loose_agg (lsC (lsI _ _) (lsC (lsI _ _) (lsC (lsI _ _) (lsC (lsI _ _) lsN)))))
structure TNumbers where
 Nodes:Int
 Edges:List (Int×Int×Int)
 Urgent:List Int
 Centres:List Int
 Faults:Int
 Calls:List (Int×Int×Int×Int)
instance:Inhabited TNumbers:=⟨⟨default,default,default,default,default,default⟩⟩
def eTNumbers (x:TNumbers):AV:=.agg [eI x.Nodes,(eL 3 eA119 default) x.Edges,(eL 1 eI default) x.Urgent,(eL 1 eI default) x.Centres,eI x.Faults,(eL 4 eA83 default) x.Calls]
theorem lo_TNumbers (x:TNumbers):(eTNumbers x).loose:=(loose_agg (lsC (lsI _ _) (lsC (lsL fun _=>(lo_A119 _)) (lsC (lsL fun _=>(lsI _ _)) (lsC (lsL fun _=>(lsI _ _)) (lsC (lsI _ _) (lsC (lsL fun _=>(lo_A83 _)) lsN)))))))
structure TEdge where
 From:Int
 To:Int
 Capacity:Int
instance:Inhabited TEdge:=⟨⟨default,default,default⟩⟩
def eTEdge (x:TEdge):AV:=.agg [eI x.From,eI x.To,eI x.Capacity]
theorem lo_TEdge (x:TEdge):(eTEdge x).loose:=(loose_agg (lsC (lsI _ _) (lsC (lsI _ _) (lsC (lsI _ _) lsN))))
structure TNet where
 N:Int
 Edges:List TEdge
instance:Inhabited TNet:=⟨⟨default,default⟩⟩
def eTNet (x:TNet):AV:=.agg [eI x.N,(eL 3 eTEdge default) x.Edges]
theorem lo_TNet (x:TNet):(eTNet x).loose:=(loose_agg (lsC (lsI _ _) (lsC (lsL fun _=>(lo_TEdge _)) lsN)))
structure TOrdinary where
 Edges:List Int
 Amount:Int
instance:Inhabited TOrdinary:=⟨⟨default,default⟩⟩
def eTOrdinary (x:TOrdinary):AV:=.agg [(eL 1 eI default) x.Edges,eI x.Amount]
theorem lo_TOrdinary (x:TOrdinary):(eTOrdinary x).loose:=(loose_agg (lsC (lsL fun _=>(lsI _ _)) (lsC (lsI _ _) lsN)))
structure TReserve where
 Net:TNet
 Urgent:List Int
 Centres:List Int
 Faults:Int
 Calls:List TOrdinary
instance:Inhabited TReserve:=⟨⟨default,default,default,default,default⟩⟩
def eTReserve (x:TReserve):AV:=.agg [eI x.Net.N,(eL 3 eTEdge default) x.Net.Edges,(eL 1 eI default) x.Urgent,(eL 1 eI default) x.Centres,eI x.Faults,(eL 2 eTOrdinary default) x.Calls]
theorem lo_TReserve (x:TReserve):(eTReserve x).loose:=(loose_agg (lsC (lsI _ _) (lsC (lsL fun _=>(lo_TEdge _)) (lsC (lsL fun _=>(lsI _ _)) (lsC (lsL fun _=>(lsI _ _)) (lsC (lsI _ _) (lsC (lsL fun _=>(lo_TOrdinary _)) lsN)))))))
structure TDenied where
 Call:Int
 Edge:Int
 Failed:Int
 Set:Int
instance:Inhabited TDenied:=⟨⟨default,default,default,default⟩⟩
def eTDenied (x:TDenied):AV:=.agg [eI x.Call,eI x.Edge,eI x.Failed,eI x.Set]
theorem lo_TDenied (x:TDenied):(eTDenied x).loose:=(loose_agg (lsC (lsI _ _) (lsC (lsI _ _) (lsC (lsI _ _) (lsC (lsI _ _) lsN)))))
structure TAdmission where
 Admitted:Int
 Denied:List TDenied
instance:Inhabited TAdmission:=⟨⟨default,default⟩⟩
def eTAdmission (x:TAdmission):AV:=.agg [eI x.Admitted,(eL 4 eTDenied default) x.Denied]
theorem lo_TAdmission (x:TAdmission):(eTAdmission x).loose:=(loose_agg (lsC (lsI _ _) (lsC (lsL fun _=>(lo_TDenied _)) lsN)))
structure TFailure where
 Failed:Int
 Value:Int
 Cut:Int
instance:Inhabited TFailure:=⟨⟨default,default,default⟩⟩
structure TSupply where
 Met:Bool
 Amounts:List Int
 Set:Int
instance:Inhabited TSupply:=⟨⟨default,default,default⟩⟩
def eTSupply (x:TSupply):AV:=.agg [eB x.Met,(eL 1 eI default) x.Amounts,eI x.Set]
theorem lo_TSupply (x:TSupply):(eTSupply x).loose:=(loose_agg (lsC (lsB _) (lsC (lsL fun _=>(lsI _ _)) (lsC (lsI _ _) lsN))))
structure TCut where
 nodes_f:Int
 failed_f:Int
 margin_f:Int
instance:Inhabited TCut:=⟨⟨default,default,default⟩⟩
def eTCut (x:TCut):AV:=.agg [eI x.nodes_f,eI x.failed_f,eI x.margin_f]
theorem lo_TCut (x:TCut):(eTCut x).loose:=(loose_agg (lsC (lsI _ _) (lsC (lsI _ _) (lsC (lsI _ _) lsN))))
theorem vinv_int (x:Int):∀ b vs,Vs b [eI x] vs→vs=[Value.int .i64 x]:=fun b vs h=>by simpa [Vs,V,eI] using h
theorem vx_int (b:Beta) (x:Int):Vs b [eI x] [Value.int .i64 x]:=⟨_,_,rfl,by simp [V,eI],rfl⟩
def vTCut (x:TCut):List Value:=[.agg #[.int .i64 x.nodes_f,.int .i64 x.failed_f,.int .i64 x.margin_f]]
theorem vinv_86 (x:TCut):∀ b vs,Vs b [eTCut x] vs→vs=vTCut x:=fun b vs h=>by
 simp only [Vs,V,eTCut,eI] at h
 obtain ⟨v,vs',rfl,⟨l,rfl,⟨_,_,rfl,rfl,⟨_,_,rfl,rfl,⟨_,_,rfl,rfl,rfl⟩⟩⟩⟩,rfl⟩:=h
 simp only [vTCut]
theorem vx_86 (b:Beta) (x:TCut):Vs b [eTCut x] (vTCut x):=⟨_,_,rfl,⟨_,rfl,⟨_,_,rfl,rfl,⟨_,_,rfl,rfl,⟨_,_,rfl,rfl,rfl⟩⟩⟩⟩,rfl⟩
def PF:FuncId→Bool:=fun f=>[3,4,5,6,7,8,9,10,11,12,13,14,15,16,17,18,20,21,22,23,24,25,26,27,28,29,30,32,33,34,35,36,37,38,39,40,42,44,45,46,47,48,49,50,51,52,53,54,55,56,60,61,62,63,64,65,67,68,75,76,77,78,79,80,85,100066,100069].contains f
end Go.Proofs.Ytkjccabdpeldhaa
namespace Go.Proofs.Ytkjccabdpeldhaa
open Go Go.Eng
theorem eqv45 (x0:Int) (x1:Int) (x2:Int) (x3:Int) (y0:Int) (y1:Int) (y2:Int) (y3:Int):EqV Try.prog 45 (.agg [eI x0,eI x1,eI x2,eI x3]) (.agg [eI y0,eI y1,eI y2,eI y3]) ((x0==y0)&&((x1==y1)&&((x2==y2)&&(x3==y3)))):=by
 intro β w u v ox oy hu hv
 simp only [V,Vs,eI,eB] at hu hv
 obtain ⟨_,rfl,_,_,rfl,rfl,_,_,rfl,rfl,_,_,rfl,rfl,_,_,rfl,rfl,rfl⟩:=hu
 obtain ⟨_,rfl,_,_,rfl,rfl,_,_,rfl,rfl,_,_,rfl,rfl,_,_,rfl,rfl,rfl⟩:=hv
 have u3:=Try.underlying3
 have a3:=Try.isAgg3
 have z3:=Try.sizeOf3
 have hS:Try.prog.underlying 45=some (.struct (Try.prog.fieldsOf 45)):=by kernel_rfl
 have hp:Try.prog.stoodInHeld 45=false:=by kernel_rfl
 have hm:Try.prog.eqGuardType Try.prog.depth 45=false:=by kernel_rfl
 have key:(Op.equalIn 10000 45 (.agg #[.int .i64 x0,.int .i64 x1,.int .i64 x2,.int .i64 x3]) (.agg #[.int .i64 y0,.int .i64 y1,.int .i64 y2,.int .i64 y3])).run Try.prog w=.ok ((x0==y0)&&((x1==y1)&&((x2==y2)&&(x3==y3)))) w:=by
   rw [show (10000:Nat)=9999+1 from rfl,run_equalIn_agg w 9999 45 _ _ hS hp]
   simp only [Program.fieldsOf,Try.underlying45]
   go_simp
   by_cases h0:x0=y0<;>by_cases h1:x1=y1<;>by_cases h2:x2=y2<;>by_cases h3:x3=y3<;>simp [h0,h1,h2,h3]
 constructor
 · simp only [Sem.run_bind,run_eqGuard_agg w _ 45 _ _ _ _ hm,Result.andThen_ok,run_eql_struct,key]
 · simp only [Sem.run_bind,run_eqGuard_agg w _ 45 _ _ _ _ hm,Result.andThen_ok,run_neq_struct,key]
theorem eqv86 (x0:Int) (x1:Int) (x2:Int) (y0:Int) (y1:Int) (y2:Int):EqV Try.prog 86 (.agg [eI x0,eI x1,eI x2]) (.agg [eI y0,eI y1,eI y2]) ((x0==y0)&&((x1==y1)&&(x2==y2))):=by
 intro β w u v ox oy hu hv
 simp only [V,Vs,eI,eB] at hu hv
 obtain ⟨_,rfl,_,_,rfl,rfl,_,_,rfl,rfl,_,_,rfl,rfl,rfl⟩:=hu
 obtain ⟨_,rfl,_,_,rfl,rfl,_,_,rfl,rfl,_,_,rfl,rfl,rfl⟩:=hv
 have u3:=Try.underlying3
 have a3:=Try.isAgg3
 have z3:=Try.sizeOf3
 have hS:Try.prog.underlying 86=some (.struct (Try.prog.fieldsOf 86)):=by kernel_rfl
 have hp:Try.prog.stoodInHeld 86=false:=by kernel_rfl
 have hm:Try.prog.eqGuardType Try.prog.depth 86=false:=by kernel_rfl
 have key:(Op.equalIn 10000 86 (.agg #[.int .i64 x0,.int .i64 x1,.int .i64 x2]) (.agg #[.int .i64 y0,.int .i64 y1,.int .i64 y2])).run Try.prog w=.ok ((x0==y0)&&((x1==y1)&&(x2==y2))) w:=by
   rw [show (10000:Nat)=9999+1 from rfl,run_equalIn_agg w 9999 86 _ _ hS hp]
   simp only [Program.fieldsOf,Try.underlying86]
   go_simp
   by_cases h0:x0=y0<;>by_cases h1:x1=y1<;>by_cases h2:x2=y2<;>simp [h0,h1,h2]
 constructor
 · simp only [Sem.run_bind,run_eqGuard_agg w _ 86 _ _ _ _ hm,Result.andThen_ok,run_eql_struct,key]
 · simp only [Sem.run_bind,run_eqGuard_agg w _ 86 _ _ _ _ hm,Result.andThen_ok,run_neq_struct,key]
end Go.Proofs.Ytkjccabdpeldhaa
namespace Go.Proofs.Ytkjccabdpeldhaa
open Go Go.Eng
set_option maxHeartbeats 0
set_option maxRecDepth 100000
def law33_pick_F (a0:Int) (a1:Int):Option Int:=jn (fun p1:Int=>gd (a1≠0) (some (Int.tmod p1 a1))) fun k2=>cn (decide (a0<0)) (k2 (wr (0-(wr (a0+1))))) (k2 a0)
def law33_pick_S:List AV→AV→Prop:=fun args r=>∃ a0 a1,args=[eI a0,eI a1]∧W (law33_pick_F a0 a1) fun y=>r=(eI y)
theorem law33_pick_ok {T:Tbl} (hT:TOk Try.prog T) (hpf:PfOk T PF):FOk Try.prog 16 (pureR law33_pick_S):=by
 refine FOk_pure hT hpf Try.func16 rfl Try.ntmps16 Try.results16 (by decide) ?_
 rintro args r ⟨a0,a1,rfl,h⟩
 refine ⟨nle rfl,?_,?_⟩
 · exact (lsC (lsI _ _) (lsC (lsI _ _) lsN))
 rw [law33_pick_F.eq_1] at h
 refine HT_fr dCo rfl fun K hK=>?_;conv=>whnf
 refine hK _ _ _ ?_;clear hK K
 refine HT_seq ?_
 refine HT_fr dCo rfl fun K hK=>?_;conv=>whnf
 refine hK _ _ _ ?_;clear hK K
 replace h:=W_jn h
 refine HT_if fun K1 K2 hK1 hK2=>?_;conv=>whnf
 refine cLk h (fun _ h=>?_) (fun _ h=>?_)
 · refine hK1 ?_;clear hK1 hK2 K1 K2
   refine HT_f dCo rfl fun K hK=>?_;conv=>whnf
   refine hK _ _ _ ?_;clear hK K
   refine tHn ?_
   refine HT_fr dCo rfl fun K hK=>?_;conv=>whnf
   refine gd_lk h fun _ h=>?_;conv=>whnf
   refine hK _ _ _ ?_;clear hK K
   refine HT_ret ?_
   replace h:=W_some h
   refine PostP_r dCo fun K hK=>?_;conv=>whnf
   refine hK _ ?_;clear hK K
   cases h
   exact Wk.refl _
 refine hK2 ?_;clear hK1 hK2 K1 K2
 refine HT_skip ?_
 refine tHn ?_
 refine HT_fr dCo rfl fun K hK=>?_;conv=>whnf
 refine gd_lk h fun _ h=>?_;conv=>whnf
 refine hK _ _ _ ?_;clear hK K
 refine HT_ret ?_
 replace h:=W_some h
 refine PostP_r dCo fun K hK=>?_;conv=>whnf
 refine hK _ ?_;clear hK K
 cases h
 exact Wk.refl _
theorem law33_pick_call {T:Tbl} (hT:T 16=pureR law33_pick_S) {args:List AV} {hp:Heap} {id:Nat} {k:AV→Prop} {a0:Int} {a1:Int} {Φ:Int→Prop} (h:W (law33_pick_F a0 a1) Φ) (hw:WkL args [eI a0,eI a1]) (hk:∀ y,Φ y→k (eI y)):callpK T 16 args hp id k:=by
 obtain ⟨y,e,hy⟩:=W_inv h
 exact callpK_pure hT ⟨a0,a1,rfl,W_of e rfl⟩ (by exact (lsI _ _)) hw (hk y hy)
def ref33_pick_F (a0:Int) (a1:Int):Option Int:=jn (fun p1:Int=>gd (a1≠0) (some (Int.tmod p1 a1))) fun k2=>cn (decide (a0<0)) (k2 (wr (0-(wr (a0+1))))) (k2 a0)
def ref33_pick_S:List AV→AV→Prop:=fun args r=>∃ a0 a1,args=[eI a0,eI a1]∧W (ref33_pick_F a0 a1) fun y=>r=(eI y)
theorem ref33_pick_ok {T:Tbl} (hT:TOk Try.prog T) (hpf:PfOk T PF):FOk Try.prog 34 (pureR ref33_pick_S):=by
 refine FOk_pure hT hpf Try.func34 rfl Try.ntmps34 Try.results34 (by decide) ?_
 rintro args r ⟨a0,a1,rfl,h⟩
 refine ⟨nle rfl,?_,?_⟩
 · exact (lsC (lsI _ _) (lsC (lsI _ _) lsN))
 rw [ref33_pick_F.eq_1] at h
 refine HT_fr dCo rfl fun K hK=>?_;conv=>whnf
 refine hK _ _ _ ?_;clear hK K
 refine HT_seq ?_
 refine HT_fr dCo rfl fun K hK=>?_;conv=>whnf
 refine hK _ _ _ ?_;clear hK K
 replace h:=W_jn h
 refine HT_if fun K1 K2 hK1 hK2=>?_;conv=>whnf
 refine cLk h (fun _ h=>?_) (fun _ h=>?_)
 · refine hK1 ?_;clear hK1 hK2 K1 K2
   refine HT_f dCo rfl fun K hK=>?_;conv=>whnf
   refine hK _ _ _ ?_;clear hK K
   refine tHn ?_
   refine HT_fr dCo rfl fun K hK=>?_;conv=>whnf
   refine gd_lk h fun _ h=>?_;conv=>whnf
   refine hK _ _ _ ?_;clear hK K
   refine HT_ret ?_
   replace h:=W_some h
   refine PostP_r dCo fun K hK=>?_;conv=>whnf
   refine hK _ ?_;clear hK K
   cases h
   exact Wk.refl _
 refine hK2 ?_;clear hK1 hK2 K1 K2
 refine HT_skip ?_
 refine tHn ?_
 refine HT_fr dCo rfl fun K hK=>?_;conv=>whnf
 refine gd_lk h fun _ h=>?_;conv=>whnf
 refine hK _ _ _ ?_;clear hK K
 refine HT_ret ?_
 replace h:=W_some h
 refine PostP_r dCo fun K hK=>?_;conv=>whnf
 refine hK _ ?_;clear hK K
 cases h
 exact Wk.refl _
theorem ref33_pick_call {T:Tbl} (hT:T 34=pureR ref33_pick_S) {args:List AV} {hp:Heap} {id:Nat} {k:AV→Prop} {a0:Int} {a1:Int} {Φ:Int→Prop} (h:W (ref33_pick_F a0 a1) Φ) (hw:WkL args [eI a0,eI a1]) (hk:∀ y,Φ y→k (eI y)):callpK T 34 args hp id k:=by
 obtain ⟨y,e,hy⟩:=W_inv h
 exact callpK_pure hT ⟨a0,a1,rfl,W_of e rfl⟩ (by exact (lsI _ _)) hw (hk y hy)
def ref27_pick_F (a0:Int) (a1:Int):Option Int:=jn (fun p1:Int=>gd (a1≠0) (some (Int.tmod p1 a1))) fun k2=>cn (decide (a0<0)) (k2 (wr (0-(wr (a0+1))))) (k2 a0)
def ref27_pick_S:List AV→AV→Prop:=fun args r=>∃ a0 a1,args=[eI a0,eI a1]∧W (ref27_pick_F a0 a1) fun y=>r=(eI y)
theorem ref27_pick_ok {T:Tbl} (hT:TOk Try.prog T) (hpf:PfOk T PF):FOk Try.prog 64 (pureR ref27_pick_S):=by
 refine FOk_pure hT hpf Try.func64 rfl Try.ntmps64 Try.results64 (by decide) ?_
 rintro args r ⟨a0,a1,rfl,h⟩
 refine ⟨nle rfl,?_,?_⟩
 · exact (lsC (lsI _ _) (lsC (lsI _ _) lsN))
 rw [ref27_pick_F.eq_1] at h
 refine HT_fr dCo rfl fun K hK=>?_;conv=>whnf
 refine hK _ _ _ ?_;clear hK K
 refine HT_seq ?_
 refine HT_fr dCo rfl fun K hK=>?_;conv=>whnf
 refine hK _ _ _ ?_;clear hK K
 replace h:=W_jn h
 refine HT_if fun K1 K2 hK1 hK2=>?_;conv=>whnf
 refine cLk h (fun _ h=>?_) (fun _ h=>?_)
 · refine hK1 ?_;clear hK1 hK2 K1 K2
   refine HT_f dCo rfl fun K hK=>?_;conv=>whnf
   refine hK _ _ _ ?_;clear hK K
   refine tHn ?_
   refine HT_fr dCo rfl fun K hK=>?_;conv=>whnf
   refine gd_lk h fun _ h=>?_;conv=>whnf
   refine hK _ _ _ ?_;clear hK K
   refine HT_ret ?_
   replace h:=W_some h
   refine PostP_r dCo fun K hK=>?_;conv=>whnf
   refine hK _ ?_;clear hK K
   cases h
   exact Wk.refl _
 refine hK2 ?_;clear hK1 hK2 K1 K2
 refine HT_skip ?_
 refine tHn ?_
 refine HT_fr dCo rfl fun K hK=>?_;conv=>whnf
 refine gd_lk h fun _ h=>?_;conv=>whnf
 refine hK _ _ _ ?_;clear hK K
 refine HT_ret ?_
 replace h:=W_some h
 refine PostP_r dCo fun K hK=>?_;conv=>whnf
 refine hK _ ?_;clear hK K
 cases h
 exact Wk.refl _
theorem ref27_pick_call {T:Tbl} (hT:T 64=pureR ref27_pick_S) {args:List AV} {hp:Heap} {id:Nat} {k:AV→Prop} {a0:Int} {a1:Int} {Φ:Int→Prop} (h:W (ref27_pick_F a0 a1) Φ) (hw:WkL args [eI a0,eI a1]) (hk:∀ y,Φ y→k (eI y)):callpK T 64 args hp id k:=by
 obtain ⟨y,e,hy⟩:=W_inv h
 exact callpK_pure hT ⟨a0,a1,rfl,W_of e rfl⟩ (by exact (lsI _ _)) hw (hk y hy)
def ref33_BentDenied_F (a0:TDenied) (a1:Int) (a2:Int):Option TDenied:=bd (ref33_pick_F a1 4) fun y1=>jn (fun p2:TDenied=>some p2) fun k3=>cn (y1 ==
   0) (k3 (⟨a2,a0.Edge,a0.Failed,a0.Set⟩:TDenied)) (jn (fun p4:TDenied=>k3 p4) fun k5=>cn (y1 ==
   1) (k5 (⟨a0.Call,a2,a0.Failed,a0.Set⟩:TDenied)) (jn (fun p6:TDenied=>k5 p6) fun k7=>cn (y1 ==
   2) (k7 (⟨a0.Call,a0.Edge,a2,a0.Set⟩:TDenied)) (k7 (⟨a0.Call,a0.Edge,a0.Failed,a2⟩:TDenied))))
def ref33_BentDenied_S:List AV→AV→Prop:=fun args r=>∃ a0 a1 a2,args=[eTDenied a0,eI a1,eI a2]∧W (ref33_BentDenied_F a0 a1 a2) fun y=>r=(eTDenied y)
theorem ref33_BentDenied_ok {T:Tbl} (hT:TOk Try.prog T) (hpf:PfOk T PF) (h34:T 34=pureR ref33_pick_S):FOk Try.prog 17 (pureR ref33_BentDenied_S):=by
 refine FOk_pure hT hpf Try.func17 rfl Try.ntmps17 Try.results17 (by decide) ?_
 rintro args r ⟨a0,a1,a2,rfl,h⟩
 refine ⟨nle rfl,?_,?_⟩
 · exact (lsC (lo_TDenied _) (lsC (lsI _ _) (lsC (lsI _ _) lsN)))
 rw [ref33_BentDenied_F.eq_1] at h
 refine HT_fr dCo rfl fun K hK=>?_;conv=>whnf
 refine hK _ _ _ ?_;clear hK K
 refine HT_seq ?_
 refine HT_fr dCo rfl fun K hK=>?_;conv=>whnf
 replace h:=W_bd h
 refine ref33_pick_call h34 h (WkL.refl _) (fun _ h=>?_);conv=>whnf
 refine hK _ _ _ ?_;clear hK K
 refine HT_block ?_
 refine HT_fr dCo rfl fun K hK=>?_;conv=>whnf
 refine hK _ _ _ ?_;clear hK K
 replace h:=W_jn h
 refine HT_if fun K1 K2 hK1 hK2=>?_;conv=>whnf
 refine cLk h (fun _ h=>?_) (fun _ h=>?_)
 · refine hK1 ?_;clear hK1 hK2 K1 K2
   refine HT_f dCo rfl fun K hK=>?_;conv=>whnf
   refine bKo rfl ?_;conv=>whnf
   refine And.intro rfl (And.intro (nle rfl) (And.intro rfl ?_));conv=>whnf
   refine hK _ _ _ ?_;clear hK K
   refine iBn ?_
   refine tHn ?_
   refine HT_fr dCo rfl fun K hK=>?_;conv=>whnf
   refine nlA rfl ?_;conv=>whnf
   refine bKo rfl ?_;conv=>whnf
   refine nlA rfl ?_;conv=>whnf
   refine bKo rfl ?_;conv=>whnf
   refine And.intro rfl (And.intro (nle rfl) (And.intro rfl ?_));conv=>whnf
   refine hK _ _ _ ?_;clear hK K
   refine HT_ret ?_
   replace h:=W_some h
   refine PostP_r dCo fun K hK=>?_;conv=>whnf
   refine nlA rfl ?_;conv=>whnf
   refine bKo rfl ?_;conv=>whnf
   refine nlA rfl ?_;conv=>whnf
   refine hK _ ?_;clear hK K
   cases h
   exact Wk.refl _
 refine hK2 ?_;clear hK1 hK2 K1 K2
 refine HT_fr dCo rfl fun K hK=>?_;conv=>whnf
 refine hK _ _ _ ?_;clear hK K
 replace h:=W_jn h
 refine HT_if fun K1 K2 hK1 hK2=>?_;conv=>whnf
 refine cLk h (fun _ h=>?_) (fun _ h=>?_)
 · refine hK1 ?_;clear hK1 hK2 K1 K2
   refine HT_f dCo rfl fun K hK=>?_;conv=>whnf
   refine bKo rfl ?_;conv=>whnf
   refine And.intro rfl (And.intro (nle rfl) (And.intro rfl ?_));conv=>whnf
   refine hK _ _ _ ?_;clear hK K
   refine iBn ?_
   refine tHn ?_
   refine HT_fr dCo rfl fun K hK=>?_;conv=>whnf
   refine nlA rfl ?_;conv=>whnf
   refine bKo rfl ?_;conv=>whnf
   refine nlA rfl ?_;conv=>whnf
   refine bKo rfl ?_;conv=>whnf
   refine And.intro rfl (And.intro (nle rfl) (And.intro rfl ?_));conv=>whnf
   refine hK _ _ _ ?_;clear hK K
   refine HT_ret ?_
   replace h:=W_some h
   refine PostP_r dCo fun K hK=>?_;conv=>whnf
   refine nlA rfl ?_;conv=>whnf
   refine bKo rfl ?_;conv=>whnf
   refine nlA rfl ?_;conv=>whnf
   refine hK _ ?_;clear hK K
   cases h
   exact Wk.refl _
 refine hK2 ?_;clear hK1 hK2 K1 K2
 refine HT_fr dCo rfl fun K hK=>?_;conv=>whnf
 refine hK _ _ _ ?_;clear hK K
 replace h:=W_jn h
 refine HT_if fun K1 K2 hK1 hK2=>?_;conv=>whnf
 refine cLk h (fun _ h=>?_) (fun _ h=>?_)
 · refine hK1 ?_;clear hK1 hK2 K1 K2
   refine HT_f dCo rfl fun K hK=>?_;conv=>whnf
   refine bKo rfl ?_;conv=>whnf
   refine And.intro rfl (And.intro (nle rfl) (And.intro rfl ?_));conv=>whnf
   refine hK _ _ _ ?_;clear hK K
   refine iBn ?_
   refine tHn ?_
   refine HT_fr dCo rfl fun K hK=>?_;conv=>whnf
   refine nlA rfl ?_;conv=>whnf
   refine bKo rfl ?_;conv=>whnf
   refine nlA rfl ?_;conv=>whnf
   refine bKo rfl ?_;conv=>whnf
   refine And.intro rfl (And.intro (nle rfl) (And.intro rfl ?_));conv=>whnf
   refine hK _ _ _ ?_;clear hK K
   refine HT_ret ?_
   replace h:=W_some h
   refine PostP_r dCo fun K hK=>?_;conv=>whnf
   refine nlA rfl ?_;conv=>whnf
   refine bKo rfl ?_;conv=>whnf
   refine nlA rfl ?_;conv=>whnf
   refine hK _ ?_;clear hK K
   cases h
   exact Wk.refl _
 refine hK2 ?_;clear hK1 hK2 K1 K2
 refine HT_f dCo rfl fun K hK=>?_;conv=>whnf
 refine bKo rfl ?_;conv=>whnf
 refine And.intro rfl (And.intro (nle rfl) (And.intro rfl ?_));conv=>whnf
 refine hK _ _ _ ?_;clear hK K
 refine iBn ?_
 refine tHn ?_
 refine HT_fr dCo rfl fun K hK=>?_;conv=>whnf
 refine nlA rfl ?_;conv=>whnf
 refine bKo rfl ?_;conv=>whnf
 refine nlA rfl ?_;conv=>whnf
 refine bKo rfl ?_;conv=>whnf
 refine And.intro rfl (And.intro (nle rfl) (And.intro rfl ?_));conv=>whnf
 refine hK _ _ _ ?_;clear hK K
 refine HT_ret ?_
 replace h:=W_some h
 refine PostP_r dCo fun K hK=>?_;conv=>whnf
 refine nlA rfl ?_;conv=>whnf
 refine bKo rfl ?_;conv=>whnf
 refine nlA rfl ?_;conv=>whnf
 refine hK _ ?_;clear hK K
 cases h
 exact Wk.refl _
theorem ref33_BentDenied_call {T:Tbl} (hT:T 17=pureR ref33_BentDenied_S) {args:List AV} {hp:Heap} {id:Nat} {k:AV→Prop} {a0:TDenied} {a1:Int} {a2:Int} {Φ:TDenied→Prop} (h:W (ref33_BentDenied_F a0 a1 a2) Φ) (hw:WkL args [eTDenied a0,eI a1,eI a2]) (hk:∀ y,Φ y→k (eTDenied y)):callpK T 17 args hp id k:=by
 obtain ⟨y,e,hy⟩:=W_inv h
 exact callpK_pure hT ⟨a0,a1,a2,rfl,W_of e rfl⟩ (by exact (lo_TDenied _)) hw (hk y hy)
def flow_isIn_F (a0:Int) (a1:Int) (a2:Int):Option Bool:=jn (fun p1:Bool=>some p1) fun k2=>cn (decide (a1≤a0)) (k2 (decide (a0≤a2))) (k2 false)
def flow_isIn_S:List AV→AV→Prop:=fun args r=>∃ a0 a1 a2,args=[eI a0,eI a1,eI a2]∧W (flow_isIn_F a0 a1 a2) fun y=>r=(eB y)
theorem flow_isIn_ok {T:Tbl} (hT:TOk Try.prog T) (hpf:PfOk T PF):FOk Try.prog 40 (pureR flow_isIn_S):=by
 refine FOk_pure hT hpf Try.func40 rfl Try.ntmps40 Try.results40 (by decide) ?_
 rintro args r ⟨a0,a1,a2,rfl,h⟩
 refine ⟨nle rfl,?_,?_⟩
 · exact (lsC (lsI _ _) (lsC (lsI _ _) (lsC (lsI _ _) lsN)))
 rw [flow_isIn_F.eq_1] at h
 refine HT_fr dCo rfl fun K hK=>?_;conv=>whnf
 refine hK _ _ _ ?_;clear hK K
 refine HT_fr dCo rfl fun K hK=>?_;conv=>whnf
 replace h:=W_jn h
 refine cLk h (fun _ h=>?_) (fun _ h=>?_)<;>(conv=>whnf)
 · refine hK _ _ _ ?_;clear hK K
   refine HT_ret ?_
   replace h:=W_some h
   refine PostP_r dCo fun K hK=>?_;conv=>whnf
   refine hK _ ?_;clear hK K
   cases h
   exact Wk.refl _
 refine hK _ _ _ ?_;clear hK K
 refine HT_ret ?_
 replace h:=W_some h
 refine PostP_r dCo fun K hK=>?_;conv=>whnf
 refine hK _ ?_;clear hK K
 cases h
 exact Wk.refl _
theorem flow_isIn_call {T:Tbl} (hT:T 40=pureR flow_isIn_S) {args:List AV} {hp:Heap} {id:Nat} {k:AV→Prop} {a0:Int} {a1:Int} {a2:Int} {Φ:Bool→Prop} (h:W (flow_isIn_F a0 a1 a2) Φ) (hw:WkL args [eI a0,eI a1,eI a2]) (hk:∀ y,Φ y→k (eB y)):callpK T 40 args hp id k:=by
 obtain ⟨y,e,hy⟩:=W_inv h
 exact callpK_pure hT ⟨a0,a1,a2,rfl,W_of e rfl⟩ (by exact (lsB _)) hw (hk y hy)
def reserve_isIn_F (a0:Int) (a1:Int) (a2:Int):Option Bool:=jn (fun p1:Bool=>some p1) fun k2=>cn (decide (a1≤a0)) (k2 (decide (a0≤a2))) (k2 false)
def reserve_isIn_S:List AV→AV→Prop:=fun args r=>∃ a0 a1 a2,args=[eI a0,eI a1,eI a2]∧W (reserve_isIn_F a0 a1 a2) fun y=>r=(eB y)
theorem reserve_isIn_ok {T:Tbl} (hT:TOk Try.prog T) (hpf:PfOk T PF):FOk Try.prog 48 (pureR reserve_isIn_S):=by
 refine FOk_pure hT hpf Try.func48 rfl Try.ntmps48 Try.results48 (by decide) ?_
 rintro args r ⟨a0,a1,a2,rfl,h⟩
 refine ⟨nle rfl,?_,?_⟩
 · exact (lsC (lsI _ _) (lsC (lsI _ _) (lsC (lsI _ _) lsN)))
 rw [reserve_isIn_F.eq_1] at h
 refine HT_fr dCo rfl fun K hK=>?_;conv=>whnf
 refine hK _ _ _ ?_;clear hK K
 refine HT_fr dCo rfl fun K hK=>?_;conv=>whnf
 replace h:=W_jn h
 refine cLk h (fun _ h=>?_) (fun _ h=>?_)<;>(conv=>whnf)
 · refine hK _ _ _ ?_;clear hK K
   refine HT_ret ?_
   replace h:=W_some h
   refine PostP_r dCo fun K hK=>?_;conv=>whnf
   refine hK _ ?_;clear hK K
   cases h
   exact Wk.refl _
 refine hK _ _ _ ?_;clear hK K
 refine HT_ret ?_
 replace h:=W_some h
 refine PostP_r dCo fun K hK=>?_;conv=>whnf
 refine hK _ ?_;clear hK K
 cases h
 exact Wk.refl _
theorem reserve_isIn_call {T:Tbl} (hT:T 48=pureR reserve_isIn_S) {args:List AV} {hp:Heap} {id:Nat} {k:AV→Prop} {a0:Int} {a1:Int} {a2:Int} {Φ:Bool→Prop} (h:W (reserve_isIn_F a0 a1 a2) Φ) (hw:WkL args [eI a0,eI a1,eI a2]) (hk:∀ y,Φ y→k (eB y)):callpK T 48 args hp id k:=by
 obtain ⟨y,e,hy⟩:=W_inv h
 exact callpK_pure hT ⟨a0,a1,a2,rfl,W_of e rfl⟩ (by exact (lsB _)) hw (hk y hy)
def math_bits_OnesCount64_F (a0:Int):Option Int:=let v1:=(IntKind.u64.wrap ((band .u64 (bshr .u64 a0 1) 6148914691236517205)+(band .u64 a0 6148914691236517205)));
   let v2:=(IntKind.u64.wrap ((band .u64 (bshr .u64 v1 2) 3689348814741910323)+(band .u64 v1 3689348814741910323)));
   let v3:=(band .u64 (IntKind.u64.wrap ((bshr .u64 v2 4)+v2)) 1085102592571150095);let v4:=(IntKind.u64.wrap (v3+(bshr .u64 v3 8)));
   let v5:=(IntKind.u64.wrap (v4+(bshr .u64 v4 16)));let v6:=(IntKind.u64.wrap (v5+(bshr .u64 v5 32)));let v7:=(band .i64 (wr (v6)) 127);some v7
def math_bits_OnesCount64_S:List AV→AV→Prop:=fun args r=>∃ a0,args=[(AV.int .u64) a0]∧W (math_bits_OnesCount64_F a0) fun y=>r=(eI y)
theorem math_bits_OnesCount64_ok {T:Tbl} (hT:TOk Try.prog T) (hpf:PfOk T PF):FOk Try.prog 75 (pureR math_bits_OnesCount64_S):=by
 refine FOk_pure hT hpf Try.func75 rfl Try.ntmps75 Try.results75 (by decide) ?_
 rintro args r ⟨a0,rfl,h⟩
 refine ⟨nle rfl,?_,?_⟩
 · exact (lsC (lsI _ _) lsN)
 rw [math_bits_OnesCount64_F.eq_1] at h
 refine HT_fr dCo rfl fun K hK=>?_;conv=>whnf
 refine hK _ _ _ ?_;clear hK K
 refine HT_fr dCo rfl fun K hK=>?_;conv=>whnf
 refine And.intro (by decide) ?_;conv=>whnf
 refine hK _ _ _ ?_;clear hK K
 refine HT_fr dCo rfl fun K hK=>?_;conv=>whnf
 refine And.intro (by decide) ?_;conv=>whnf
 refine hK _ _ _ ?_;clear hK K
 refine HT_fr dCo rfl fun K hK=>?_;conv=>whnf
 refine And.intro (by decide) ?_;conv=>whnf
 refine hK _ _ _ ?_;clear hK K
 refine HT_fr dCo rfl fun K hK=>?_;conv=>whnf
 refine And.intro (by decide) ?_;conv=>whnf
 refine hK _ _ _ ?_;clear hK K
 refine HT_fr dCo rfl fun K hK=>?_;conv=>whnf
 refine And.intro (by decide) ?_;conv=>whnf
 refine hK _ _ _ ?_;clear hK K
 refine HT_fr dCo rfl fun K hK=>?_;conv=>whnf
 refine And.intro (by decide) ?_;conv=>whnf
 refine hK _ _ _ ?_;clear hK K
 refine HT_fr dCo rfl fun K hK=>?_;conv=>whnf
 refine hK _ _ _ ?_;clear hK K
 refine HT_ret ?_
 replace h:=W_some h
 refine PostP_r dCo fun K hK=>?_;conv=>whnf
 refine hK _ ?_;clear hK K
 cases h
 exact Wk.refl _
theorem math_bits_OnesCount64_call {T:Tbl} (hT:T 75=pureR math_bits_OnesCount64_S) {args:List AV} {hp:Heap} {id:Nat} {k:AV→Prop} {a0:Int} {Φ:Int→Prop} (h:W (math_bits_OnesCount64_F a0) Φ) (hw:WkL args [(AV.int .u64) a0]) (hk:∀ y,Φ y→k (eI y)):callpK T 75 args hp id k:=by
 obtain ⟨y,e,hy⟩:=W_inv h
 exact callpK_pure hT ⟨a0,rfl,W_of e rfl⟩ (by exact (lsI _ _)) hw (hk y hy)
def math_bits_OnesCount_F (a0:Int):Option Int:=bd (math_bits_OnesCount64_F a0) fun y1=>some y1
def math_bits_OnesCount_S:List AV→AV→Prop:=fun args r=>∃ a0,args=[(AV.int .u64) a0]∧W (math_bits_OnesCount_F a0) fun y=>r=(eI y)
theorem math_bits_OnesCount_ok {T:Tbl} (hT:TOk Try.prog T) (hpf:PfOk T PF) (h75:T 75=pureR math_bits_OnesCount64_S):FOk Try.prog 45 (pureR math_bits_OnesCount_S):=by
 refine FOk_pure hT hpf Try.func45 rfl Try.ntmps45 Try.results45 (by decide) ?_
 rintro args r ⟨a0,rfl,h⟩
 refine ⟨nle rfl,?_,?_⟩
 · exact (lsC (lsI _ _) lsN)
 rw [math_bits_OnesCount_F.eq_1] at h
 refine HT_fr dCo rfl fun K hK=>?_;conv=>whnf
 refine hK _ _ _ ?_;clear hK K
 refine HT_seq ?_
 refine HT_if fun K1 K2 hK1 hK2=>?_;conv=>whnf
 refine hK2 ?_;clear hK1 hK2 K1 K2
 refine HT_skip ?_
 refine tHn ?_
 refine HT_fr dCo rfl fun K hK=>?_;conv=>whnf
 replace h:=W_bd h
 refine math_bits_OnesCount64_call h75 h (WkL.refl _) (fun _ h=>?_);conv=>whnf
 refine hK _ _ _ ?_;clear hK K
 refine HT_ret ?_
 replace h:=W_some h
 refine PostP_r dCo fun K hK=>?_;conv=>whnf
 refine hK _ ?_;clear hK K
 cases h
 exact Wk.refl _
theorem math_bits_OnesCount_call {T:Tbl} (hT:T 45=pureR math_bits_OnesCount_S) {args:List AV} {hp:Heap} {id:Nat} {k:AV→Prop} {a0:Int} {Φ:Int→Prop} (h:W (math_bits_OnesCount_F a0) Φ) (hw:WkL args [(AV.int .u64) a0]) (hk:∀ y,Φ y→k (eI y)):callpK T 45 args hp id k:=by
 obtain ⟨y,e,hy⟩:=W_inv h
 exact callpK_pure hT ⟨a0,rfl,W_of e rfl⟩ (by exact (lsI _ _)) hw (hk y hy)
def slices_Index_int_b1 (a0:List Int) (a1:Int) (s1:Int):Option (Ct Int Int):=cn (decide (s1<(a0.length:Int))) (ix a0 default s1 fun e2=>cn (a1 ==
   e2) (some (.rt s1)) (some (.nx (wr (s1+1))))) (some (.bk s1))
theorem W_bslices_Index_int_b1 {a0:List Int} {a1:Int} {s1:Int} {Φ:Ct Int Int→Prop} (h:W (slices_Index_int_b1 a0 a1 s1) Φ):W (cn (decide (s1<(a0.length:Int))) (ix a0 default s1 fun e2=>cn (a1==e2) (some (.rt s1)) (some (.nx (wr (s1+1))))) (some (.bk s1))) Φ:=h
def slices_Index_int_F (a0:List Int) (a1:Int):Option Int:=bd (lp (slices_Index_int_b1 a0 a1) FU 0) fun c3=>smK c3 (fun s4=>some (-1)) (fun r5=>some r5)
def slices_Index_int_S:List AV→AV→Prop:=fun args r=>∃ a0 a1,args=[(eL 1 eI default) a0,eI a1]∧W (slices_Index_int_F a0 a1) fun y=>r=(eI y)
theorem slices_Index_int_ok {T:Tbl} (hT:TOk Try.prog T) (hpf:PfOk T PF):FOk Try.prog 80 (pureR slices_Index_int_S):=by
 refine FOk_pure hT hpf Try.func80 rfl Try.ntmps80 Try.results80 (by decide) ?_
 rintro args r ⟨a0,a1,rfl,h⟩
 refine ⟨nle rfl,?_,?_⟩
 · exact (lsC (lsL fun _=>(lsI _ _)) (lsC (lsI _ _) lsN))
 rw [slices_Index_int_F.eq_1] at h
 refine HT_fr dCo rfl fun K hK=>?_;conv=>whnf
 refine hK _ _ _ ?_;clear hK K
 refine HT_seq ?_
 refine HT_fr dCo rfl fun K hK=>?_;conv=>whnf
 refine hK _ _ _ ?_;clear hK K
 refine HT_block ?_
 replace h:=W_bd h
 refine HT_lpK (body:=slices_Index_int_b1 _ _) rfl h [0,1,7] [] [] (fun kl kh ids b s=>⟨ofL ([(8,eI s)]++kl),ofH ([]++kh),b+64⟩) ?_;(conv=>whnf);refine And.intro ?_ (fun s m h=>HT_st ?_)
 · refine weak_k ?_;conv=>whnf
   exact And.intro rfl (And.intro (aLc wkI (aLc (wkr (lsL fun _=>(lsI _ _))) (aLc wkI (aLc wkI aLn)))) aLn)
 replace h:=W_bslices_Index_int_b1 (W_bd h)
 refine HT_fr dCo rfl fun K hK=>?_;conv=>whnf
 refine hK _ _ _ ?_;clear hK K
 refine HT_seq ?_
 refine HT_if fun K1 K2 hK1 hK2=>?_;conv=>whnf
 refine cLk h (fun _ h=>?_) (fun _ h=>?_)
 · refine hK1 ?_;clear hK1 hK2 K1 K2
   refine HT_skip ?_
   refine tHn ?_
   refine HT_seq ?_
   refine HT_block ?_
   refine HT_fr dCo rfl fun K hK=>?_;conv=>whnf
   refine hK _ _ _ ?_;clear hK K
   refine HT_fr dCo rfl fun K hK=>?_;conv=>whnf
   refine ix_lk h fun _ h=>?_;conv=>whnf
   refine gKo rfl ?_;conv=>whnf
   refine hK _ _ _ ?_;clear hK K
   refine HT_if fun K1 K2 hK1 hK2=>?_;conv=>whnf
   refine cLk h (fun _ h=>?_) (fun _ h=>?_)
   · refine hK1 ?_;clear hK1 hK2 K1 K2
     refine HT_fr dCo rfl fun K hK=>?_;conv=>whnf
     refine hK _ _ _ ?_;clear hK K
     refine HT_ret ?_
     refine InBlock_r ?_
     refine Then_r ?_
     refine Then_r ?_
     refine InBlock_r ?_
     refine Then_r ?_
     replace h:=W_xrt h
     replace h:=W_inr h
     replace h:=W_some h
     refine PostP_r dCo fun K hK=>?_;conv=>whnf
     refine hK _ ?_;clear hK K
     cases h
     exact Wk.refl _
   refine hK2 ?_;clear hK1 hK2 K1 K2
   refine HT_skip ?_
   refine iBn ?_
   refine tHn ?_
   refine HT_f dCo rfl fun K hK=>?_;conv=>whnf
   refine hK _ _ _ ?_;clear hK K
   refine tHn ?_
   replace h:=W_xnx h
   refine ⟨_,h,?_⟩
   refine weak_k ?_;conv=>whnf
   exact And.intro rfl (And.intro (aLc wkI (aLc (wkr (lsL fun _=>(lsI _ _))) (aLc wkI (aLc wkI aLn)))) aLn)
 refine hK2 ?_;clear hK1 hK2 K1 K2
 refine HT_exit ?_
 refine Then_e ?_
 refine Then_e ?_
 refine InBlock_e ?_
 replace h:=W_xbk h
 replace h:=W_inl h
 refine tHn ?_
 refine HT_fr dCo rfl fun K hK=>?_;conv=>whnf
 refine hK _ _ _ ?_;clear hK K
 refine HT_ret ?_
 replace h:=W_some h
 refine PostP_r dCo fun K hK=>?_;conv=>whnf
 refine hK _ ?_;clear hK K
 cases h
 exact Wk.refl _
theorem slices_Index_int_call {T:Tbl} (hT:T 80=pureR slices_Index_int_S) {args:List AV} {hp:Heap} {id:Nat} {k:AV→Prop} {a0:List Int} {a1:Int} {Φ:Int→Prop} (h:W (slices_Index_int_F a0 a1) Φ) (hw:WkL args [(eL 1 eI default) a0,eI a1]) (hk:∀ y,Φ y→k (eI y)):callpK T 80 args hp id k:=by
 obtain ⟨y,e,hy⟩:=W_inv h
 exact callpK_pure hT ⟨a0,a1,rfl,W_of e rfl⟩ (by exact (lsI _ _)) hw (hk y hy)
def slices_Contains_int_F (a0:List Int) (a1:Int):Option Bool:=bd (slices_Index_int_F a0 a1) fun y1=>some (decide (y1≥0))
def slices_Contains_int_S:List AV→AV→Prop:=fun args r=>∃ a0 a1,args=[(eL 1 eI default) a0,eI a1]∧W (slices_Contains_int_F a0 a1) fun y=>r=(eB y)
theorem slices_Contains_int_ok {T:Tbl} (hT:TOk Try.prog T) (hpf:PfOk T PF) (h80:T 80=pureR slices_Index_int_S):FOk Try.prog 63 (pureR slices_Contains_int_S):=by
 refine FOk_pure hT hpf Try.func63 rfl Try.ntmps63 Try.results63 (by decide) ?_
 rintro args r ⟨a0,a1,rfl,h⟩
 refine ⟨nle rfl,?_,?_⟩
 · exact (lsC (lsL fun _=>(lsI _ _)) (lsC (lsI _ _) lsN))
 rw [slices_Contains_int_F.eq_1] at h
 refine HT_fr dCo rfl fun K hK=>?_;conv=>whnf
 refine hK _ _ _ ?_;clear hK K
 refine HT_fr dCo rfl fun K hK=>?_;conv=>whnf
 replace h:=W_bd h
 refine slices_Index_int_call h80 h (WkL.refl _) (fun _ h=>?_);conv=>whnf
 refine hK _ _ _ ?_;clear hK K
 refine HT_ret ?_
 replace h:=W_some h
 refine PostP_r dCo fun K hK=>?_;conv=>whnf
 refine hK _ ?_;clear hK K
 cases h
 exact Wk.refl _
theorem slices_Contains_int_call {T:Tbl} (hT:T 63=pureR slices_Contains_int_S) {args:List AV} {hp:Heap} {id:Nat} {k:AV→Prop} {a0:List Int} {a1:Int} {Φ:Bool→Prop} (h:W (slices_Contains_int_F a0 a1) Φ) (hw:WkL args [(eL 1 eI default) a0,eI a1]) (hk:∀ y,Φ y→k (eB y)):callpK T 63 args hp id k:=by
 obtain ⟨y,e,hy⟩:=W_inv h
 exact callpK_pure hT ⟨a0,a1,rfl,W_of e rfl⟩ (by exact (lsB _)) hw (hk y hy)
def slices_Equal_int_b1 (a0:List Int) (a1:List Int) (s1:Int):Option (Ct Int Bool):=cn (decide (s1<(a0.length:Int))) (ix a0 default s1 fun e2=>
   ix a1 default s1 fun e3=>cn (e2 != e3) (some (.rt false)) (some (.nx (wr (s1+1))))) (some (.bk s1))
theorem W_bslices_Equal_int_b1 {a0:List Int} {a1:List Int} {s1:Int} {Φ:Ct Int Bool→Prop} (h:W (slices_Equal_int_b1 a0 a1 s1) Φ):W (cn (decide (s1<(a0.length:Int))) (ix a0 default s1 fun e2=>ix a1 default s1 fun e3=>cn (e2 != e3) (some (.rt false)) (some (.nx (wr (s1+1))))) (some (.bk s1))) Φ:=h
def slices_Equal_int_F (a0:List Int) (a1:List Int):Option Bool:=cn ((a0.length:Int) != (a1.length:Int)) (some false) (bd (lp (slices_Equal_int_b1 a0 a1) FU 0) fun c4=>
   smK c4 (fun s5=>some true) (fun r6=>some r6))
def slices_Equal_int_S:List AV→AV→Prop:=fun args r=>∃ a0 a1,args=[(eL 1 eI default) a0,(eL 1 eI default) a1]∧W (slices_Equal_int_F a0 a1) fun y=>r=(eB y)
theorem slices_Equal_int_ok {T:Tbl} (hT:TOk Try.prog T) (hpf:PfOk T PF):FOk Try.prog 61 (pureR slices_Equal_int_S):=by
 refine FOk_pure hT hpf Try.func61 rfl Try.ntmps61 Try.results61 (by decide) ?_
 rintro args r ⟨a0,a1,rfl,h⟩
 refine ⟨nle rfl,?_,?_⟩
 · exact (lsC (lsL fun _=>(lsI _ _)) (lsC (lsL fun _=>(lsI _ _)) lsN))
 rw [slices_Equal_int_F.eq_1] at h
 refine HT_fr dCo rfl fun K hK=>?_;conv=>whnf
 refine hK _ _ _ ?_;clear hK K
 refine HT_seq ?_
 refine HT_fr dCo rfl fun K hK=>?_;conv=>whnf
 refine hK _ _ _ ?_;clear hK K
 refine HT_if fun K1 K2 hK1 hK2=>?_;conv=>whnf
 refine cLk h (fun _ h=>?_) (fun _ h=>?_)
 · refine hK1 ?_;clear hK1 hK2 K1 K2
   refine HT_fr dCo rfl fun K hK=>?_;conv=>whnf
   refine hK _ _ _ ?_;clear hK K
   refine HT_ret ?_
   refine Then_r ?_
   replace h:=W_some h
   refine PostP_r dCo fun K hK=>?_;conv=>whnf
   refine hK _ ?_;clear hK K
   cases h
   exact Wk.refl _
 refine hK2 ?_;clear hK1 hK2 K1 K2
 refine HT_skip ?_
 refine tHn ?_
 refine HT_seq ?_
 refine HT_fr dCo rfl fun K hK=>?_;conv=>whnf
 refine hK _ _ _ ?_;clear hK K
 refine HT_block ?_
 replace h:=W_bd h
 refine HT_lpK (body:=slices_Equal_int_b1 _ _) rfl h [0,1,12] [] [] (fun kl kh ids b s=>⟨ofL ([(13,eI s)]++kl),ofH ([]++kh),b+64⟩) ?_;(conv=>whnf);refine And.intro ?_ (fun s m h=>HT_st ?_)
 · refine weak_k ?_;conv=>whnf
   exact And.intro rfl (And.intro (aLc wkI (aLc (wkr (lsL fun _=>(lsI _ _))) (aLc (wkr (lsL fun _=>(lsI _ _))) (aLc wkI aLn)))) aLn)
 replace h:=W_bslices_Equal_int_b1 (W_bd h)
 refine HT_fr dCo rfl fun K hK=>?_;conv=>whnf
 refine hK _ _ _ ?_;clear hK K
 refine HT_seq ?_
 refine HT_if fun K1 K2 hK1 hK2=>?_;conv=>whnf
 refine cLk h (fun _ h=>?_) (fun _ h=>?_)
 · refine hK1 ?_;clear hK1 hK2 K1 K2
   refine HT_skip ?_
   refine tHn ?_
   refine HT_seq ?_
   refine HT_block ?_
   refine HT_fr dCo rfl fun K hK=>?_;conv=>whnf
   refine hK _ _ _ ?_;clear hK K
   refine HT_fd dCo mix_ok rfl (by kernel_rfl) fun K hK=>?_;conv=>whnf
   refine ix_lk h fun _ h=>?_;conv=>whnf
   refine gKo rfl ?_;conv=>whnf
   refine ix_lk h fun _ h=>?_;conv=>whnf
   refine gKo rfl ?_;conv=>whnf
   refine hK _ _ _ ?_;clear hK K
   refine HT_if fun K1 K2 hK1 hK2=>?_;conv=>whnf
   refine cLk h (fun _ h=>?_) (fun _ h=>?_)
   · refine hK1 ?_;clear hK1 hK2 K1 K2
     refine HT_fr dCo rfl fun K hK=>?_;conv=>whnf
     refine hK _ _ _ ?_;clear hK K
     refine HT_ret ?_
     refine InBlock_r ?_
     refine Then_r ?_
     refine Then_r ?_
     refine InBlock_r ?_
     refine Then_r ?_
     replace h:=W_xrt h
     replace h:=W_inr h
     replace h:=W_some h
     refine PostP_r dCo fun K hK=>?_;conv=>whnf
     refine hK _ ?_;clear hK K
     cases h
     exact Wk.refl _
   refine hK2 ?_;clear hK1 hK2 K1 K2
   refine HT_skip ?_
   refine iBn ?_
   refine tHn ?_
   refine HT_f dCo rfl fun K hK=>?_;conv=>whnf
   refine hK _ _ _ ?_;clear hK K
   refine tHn ?_
   replace h:=W_xnx h
   refine ⟨_,h,?_⟩
   refine weak_k ?_;conv=>whnf
   exact And.intro rfl (And.intro (aLc wkI (aLc (wkr (lsL fun _=>(lsI _ _))) (aLc (wkr (lsL fun _=>(lsI _ _))) (aLc wkI aLn)))) aLn)
 refine hK2 ?_;clear hK1 hK2 K1 K2
 refine HT_exit ?_
 refine Then_e ?_
 refine Then_e ?_
 refine InBlock_e ?_
 replace h:=W_xbk h
 replace h:=W_inl h
 refine tHn ?_
 refine HT_fr dCo rfl fun K hK=>?_;conv=>whnf
 refine hK _ _ _ ?_;clear hK K
 refine HT_ret ?_
 replace h:=W_some h
 refine PostP_r dCo fun K hK=>?_;conv=>whnf
 refine hK _ ?_;clear hK K
 cases h
 exact Wk.refl _
theorem slices_Equal_int_call {T:Tbl} (hT:T 61=pureR slices_Equal_int_S) {args:List AV} {hp:Heap} {id:Nat} {k:AV→Prop} {a0:List Int} {a1:List Int} {Φ:Bool→Prop} (h:W (slices_Equal_int_F a0 a1) Φ) (hw:WkL args [(eL 1 eI default) a0,(eL 1 eI default) a1]) (hk:∀ y,Φ y→k (eB y)):callpK T 61 args hp id k:=by
 obtain ⟨y,e,hy⟩:=W_inv h
 exact callpK_pure hT ⟨a0,a1,rfl,W_of e rfl⟩ (by exact (lsB _)) hw (hk y hy)
def ref33_Ints_b1 (a0:List Int) (a1:List Int) (s1:Int):Option (Ct Int Bool):=cn (decide (s1<(a0.length:Int))) (ix a0 default s1 fun e2=>ix a1 default s1 fun e3=>
   cn (e2 != e3) (some (.rt false)) (some (.nx (wr (s1+1))))) (some (.bk s1))
theorem W_bref33_Ints_b1 {a0:List Int} {a1:List Int} {s1:Int} {Φ:Ct Int Bool→Prop} (h:W (ref33_Ints_b1 a0 a1 s1) Φ):W (cn (decide (s1<(a0.length:Int))) (ix a0 default s1 fun e2=>ix a1 default s1 fun e3=>cn (e2 != e3) (some (.rt false)) (some (.nx (wr (s1+1))))) (some (.bk s1))) Φ:=h
def ref33_Ints_F (a0:List Int) (a1:List Int):Option Bool:=cn ((a0.length:Int) != (a1.length:Int)) (some false) (bd (lp (ref33_Ints_b1 a0 a1) FU 0) fun c4=>
   smK c4 (fun s5=>some true) (fun r6=>some r6))
def ref33_Ints_S:List AV→AV→Prop:=fun args r=>∃ a0 a1,args=[(eL 1 eI default) a0,(eL 1 eI default) a1]∧W (ref33_Ints_F a0 a1) fun y=>r=(eB y)
theorem ref33_Ints_ok {T:Tbl} (hT:TOk Try.prog T) (hpf:PfOk T PF):FOk Try.prog 32 (pureR ref33_Ints_S):=by
 refine FOk_pure hT hpf Try.func32 rfl Try.ntmps32 Try.results32 (by decide) ?_
 rintro args r ⟨a0,a1,rfl,h⟩
 refine ⟨nle rfl,?_,?_⟩
 · exact (lsC (lsL fun _=>(lsI _ _)) (lsC (lsL fun _=>(lsI _ _)) lsN))
 rw [ref33_Ints_F.eq_1] at h
 refine HT_fr dCo rfl fun K hK=>?_;conv=>whnf
 refine hK _ _ _ ?_;clear hK K
 refine HT_seq ?_
 refine HT_fr dCo rfl fun K hK=>?_;conv=>whnf
 refine hK _ _ _ ?_;clear hK K
 refine HT_if fun K1 K2 hK1 hK2=>?_;conv=>whnf
 refine cLk h (fun _ h=>?_) (fun _ h=>?_)
 · refine hK1 ?_;clear hK1 hK2 K1 K2
   refine HT_fr dCo rfl fun K hK=>?_;conv=>whnf
   refine hK _ _ _ ?_;clear hK K
   refine HT_ret ?_
   refine Then_r ?_
   replace h:=W_some h
   refine PostP_r dCo fun K hK=>?_;conv=>whnf
   refine hK _ ?_;clear hK K
   cases h
   exact Wk.refl _
 refine hK2 ?_;clear hK1 hK2 K1 K2
 refine HT_skip ?_
 refine tHn ?_
 refine HT_seq ?_
 refine HT_fr dCo rfl fun K hK=>?_;conv=>whnf
 refine hK _ _ _ ?_;clear hK K
 refine HT_block ?_
 replace h:=W_bd h
 refine HT_lpK (body:=ref33_Ints_b1 _ _) rfl h [0,1] [] [] (fun kl kh ids b s=>⟨ofL ([(5,eI s)]++kl),ofH ([]++kh),b+64⟩) ?_;(conv=>whnf);refine And.intro ?_ (fun s m h=>HT_st ?_)
 · refine weak_k ?_;conv=>whnf
   exact And.intro rfl (And.intro (aLc wkI (aLc (wkr (lsL fun _=>(lsI _ _))) (aLc (wkr (lsL fun _=>(lsI _ _))) aLn))) aLn)
 replace h:=W_bref33_Ints_b1 (W_bd h)
 refine HT_seq ?_
 refine HT_fr dCo rfl fun K hK=>?_;conv=>whnf
 refine hK _ _ _ ?_;clear hK K
 refine HT_if fun K1 K2 hK1 hK2=>?_;conv=>whnf
 refine cLk h (fun _ h=>?_) (fun _ h=>?_)
 · refine hK1 ?_;clear hK1 hK2 K1 K2
   refine HT_skip ?_
   refine tHn ?_
   refine HT_seq ?_
   refine HT_block ?_
   refine HT_fd dCo mix_ok rfl (by kernel_rfl) fun K hK=>?_;conv=>whnf
   refine ix_lk h fun _ h=>?_;conv=>whnf
   refine gKo rfl ?_;conv=>whnf
   refine ix_lk h fun _ h=>?_;conv=>whnf
   refine gKo rfl ?_;conv=>whnf
   refine hK _ _ _ ?_;clear hK K
   refine HT_if fun K1 K2 hK1 hK2=>?_;conv=>whnf
   refine cLk h (fun _ h=>?_) (fun _ h=>?_)
   · refine hK1 ?_;clear hK1 hK2 K1 K2
     refine HT_fr dCo rfl fun K hK=>?_;conv=>whnf
     refine hK _ _ _ ?_;clear hK K
     refine HT_ret ?_
     refine InBlock_r ?_
     refine Then_r ?_
     refine Then_r ?_
     refine InBlock_r ?_
     refine Then_r ?_
     replace h:=W_xrt h
     replace h:=W_inr h
     replace h:=W_some h
     refine PostP_r dCo fun K hK=>?_;conv=>whnf
     refine hK _ ?_;clear hK K
     cases h
     exact Wk.refl _
   refine hK2 ?_;clear hK1 hK2 K1 K2
   refine HT_skip ?_
   refine iBn ?_
   refine tHn ?_
   refine HT_f dCo rfl fun K hK=>?_;conv=>whnf
   refine hK _ _ _ ?_;clear hK K
   refine tHn ?_
   replace h:=W_xnx h
   refine ⟨_,h,?_⟩
   refine weak_k ?_;conv=>whnf
   exact And.intro rfl (And.intro (aLc wkI (aLc (wkr (lsL fun _=>(lsI _ _))) (aLc (wkr (lsL fun _=>(lsI _ _))) aLn))) aLn)
 refine hK2 ?_;clear hK1 hK2 K1 K2
 refine HT_exit ?_
 refine Then_e ?_
 refine Then_e ?_
 refine InBlock_e ?_
 replace h:=W_xbk h
 replace h:=W_inl h
 refine tHn ?_
 refine HT_fr dCo rfl fun K hK=>?_;conv=>whnf
 refine hK _ _ _ ?_;clear hK K
 refine HT_ret ?_
 replace h:=W_some h
 refine PostP_r dCo fun K hK=>?_;conv=>whnf
 refine hK _ ?_;clear hK K
 cases h
 exact Wk.refl _
theorem ref33_Ints_call {T:Tbl} (hT:T 32=pureR ref33_Ints_S) {args:List AV} {hp:Heap} {id:Nat} {k:AV→Prop} {a0:List Int} {a1:List Int} {Φ:Bool→Prop} (h:W (ref33_Ints_F a0 a1) Φ) (hw:WkL args [(eL 1 eI default) a0,(eL 1 eI default) a1]) (hk:∀ y,Φ y→k (eB y)):callpK T 32 args hp id k:=by
 obtain ⟨y,e,hy⟩:=W_inv h
 exact callpK_pure hT ⟨a0,a1,rfl,W_of e rfl⟩ (by exact (lsB _)) hw (hk y hy)
def ref27_Made_b1 (a1:List (Int×Int×Int)) (s2:Int×TNet):Option (Ct (Int×TNet) TNet):=jn (fun p3:Bool=>cn p3 (ix a1 default s2.1 fun e5=>
   bd (ref27_pick_F e5.1 s2.2.N) fun y6=>ix a1 default s2.1 fun e7=>bd (ref27_pick_F e7.2.1 (wr (s2.2.N-1))) fun y8=>
   gd (s2.2.N≠0) (let v9:=(Int.tmod (wr ((wr (y6+1))+y8)) s2.2.N);ix a1 default s2.1 fun e10=>bd (ref27_pick_F e10.2.2 20) fun y11=>
   lt ([(⟨y6,v9,y11⟩:TEdge)]:List TEdge) fun l12=>ap s2.2.Edges l12 fun l13=>some (.nx ((wr (s2.1+1)),(⟨s2.2.N,l13⟩:TNet))))) (some (.bk (s2.1,s2.2)))) fun k4=>
   cn (decide (s2.1<(a1.length:Int))) (k4 (decide (s2.1<16))) (k4 false)
theorem W_bref27_Made_b1 {a1:List (Int×Int×Int)} {s2:Int×TNet} {Φ:Ct (Int×TNet) TNet→Prop} (h:W (ref27_Made_b1 a1 s2) Φ):W (jn (fun p3:Bool=>cn p3 (ix a1 default s2.1 fun e5=>bd (ref27_pick_F e5.1 s2.2.N) fun y6=>ix a1 default s2.1 fun e7=>bd (ref27_pick_F e7.2.1 (wr (s2.2.N-1))) fun y8=>
   gd (s2.2.N≠0) (let v9:=(Int.tmod (wr ((wr (y6+1))+y8)) s2.2.N);ix a1 default s2.1 fun e10=>bd (ref27_pick_F e10.2.2 20) fun y11=>
   lt ([(⟨y6,v9,y11⟩:TEdge)]:List TEdge) fun l12=>ap s2.2.Edges l12 fun l13=>some (.nx ((wr (s2.1+1)),(⟨s2.2.N,l13⟩:TNet))))) (some (.bk (s2.1,s2.2)))) fun k4=>
   cn (decide (s2.1<(a1.length:Int))) (k4 (decide (s2.1<16))) (k4 false)) Φ:=h
def ref27_Made_F (a0:Int) (a1:List (Int×Int×Int)):Option TNet:=bd (ref27_pick_F a0 6) fun y1=>
   bd (lp (ref27_Made_b1 a1) FU (0,(⟨(wr (2+y1)),[]⟩:TNet))) fun c14=>smK c14 (fun s15=>some s15.2) (fun r16=>some r16)
def ref27_Made_S:List AV→AV→Prop:=fun args r=>∃ a0 a1,args=[eI a0,(eL 3 eA119 default) a1]∧W (ref27_Made_F a0 a1) fun y=>r=(eTNet y)
theorem ref27_Made_ok {T:Tbl} (hT:TOk Try.prog T) (hpf:PfOk T PF) (h64:T 64=pureR ref27_pick_S):FOk Try.prog 33 (pureR ref27_Made_S):=by
 refine FOk_pure hT hpf Try.func33 rfl Try.ntmps33 Try.results33 (by decide) ?_
 rintro args r ⟨a0,a1,rfl,h⟩
 refine ⟨nle rfl,?_,?_⟩
 · exact (lsC (lsI _ _) (lsC (lsL fun _=>(lo_A119 _)) lsN))
 rw [ref27_Made_F.eq_1] at h
 refine HT_fr dCo rfl fun K hK=>?_;conv=>whnf
 refine hK _ _ _ ?_;clear hK K
 refine HT_fr dCo rfl fun K hK=>?_;conv=>whnf
 replace h:=W_bd h
 refine ref27_pick_call h64 h (WkL.refl _) (fun _ h=>?_);conv=>whnf
 refine bKo rfl ?_;conv=>whnf
 refine And.intro rfl (And.intro (nle rfl) (And.intro rfl ?_));conv=>whnf
 refine hK _ _ _ ?_;clear hK K
 refine HT_seq ?_
 refine HT_fr dCo rfl fun K hK=>?_;conv=>whnf
 refine hK _ _ _ ?_;clear hK K
 refine HT_block ?_
 replace h:=W_bd h
 refine HT_lpK (body:=ref27_Made_b1 _) rfl h [1,4,5] [4] [5] (fun kl kh ids b s=>⟨ofL ([(6,eI s.1)]++kl),ofH ([(nthN ids 0,.cells [eI s.2.N,.lst (.tok (b+0)) 3 s.2.Edges.length (fun j=>eTEdge (s.2.Edges.getD j default))]),(b+0,.cells [])]++kh),b+128⟩) ?_;(conv=>whnf);refine And.intro ?_ (fun s m h=>HT_st ?_)
 · refine weak_k ?_;conv=>whnf
   exact And.intro rfl (And.intro (aLc wkI (aLc (wkr (lsL fun _=>(lo_A119 _))) (aLc (WkR.ptr (fun _=>rfl)) (aLc (WkR.ptr (fun _=>rfl)) aLn)))) (aLc ⟨some _,rfl,bRc rfl (cKc wkI (cKc (WkR.nil (fun _=>rfl)) cKn))⟩ (aLc ⟨none,rfl,BkR_n⟩ (aLc ⟨some _,rfl,bRc rfl (cKc wkI (cKc (wkr loose_nils) cKn))⟩ aLn))))
 replace h:=W_bref27_Made_b1 (W_bd h)
 refine HT_seq ?_
 refine HT_fr dCo rfl fun K hK=>?_;conv=>whnf
 replace h:=W_jn h
 refine cLk h (fun _ h=>?_) (fun _ h=>?_)<;>(conv=>whnf)
 · refine hK _ _ _ ?_;clear hK K
   refine HT_if fun K1 K2 hK1 hK2=>?_;conv=>whnf
   refine cLk h (fun _ h=>?_) (fun _ h=>?_)
   · refine hK1 ?_;clear hK1 hK2 K1 K2
     refine HT_skip ?_
     refine tHn ?_
     refine HT_seq ?_
     refine HT_block ?_
     refine HT_fd dCo mix_ok rfl (by kernel_rfl) fun K hK=>?_;conv=>whnf
     refine ix_lk h fun _ h=>?_;conv=>whnf
     refine And.intro (by decide) ?_;conv=>whnf
     refine gKo rfl ?_;conv=>whnf
     refine nlA rfl ?_;conv=>whnf
     refine bKo rfl ?_;conv=>whnf
     refine gKo rfl ?_;conv=>whnf
     replace h:=W_bd h
     refine ref27_pick_call h64 h (WkL.refl _) (fun _ h=>?_);conv=>whnf
     refine hK _ _ _ ?_;clear hK K
     refine HT_fd dCo mix_ok rfl (by kernel_rfl) fun K hK=>?_;conv=>whnf
     refine ix_lk h fun _ h=>?_;conv=>whnf
     refine And.intro (by decide) ?_;conv=>whnf
     refine gKo rfl ?_;conv=>whnf
     refine nlA rfl ?_;conv=>whnf
     refine bKo rfl ?_;conv=>whnf
     refine gKo rfl ?_;conv=>whnf
     replace h:=W_bd h
     refine ref27_pick_call h64 h (WkL.refl _) (fun _ h=>?_);conv=>whnf
     refine nlA rfl ?_;conv=>whnf
     refine bKo rfl ?_;conv=>whnf
     refine gKo rfl ?_;conv=>whnf
     refine gd_lk h fun _ h=>?_;conv=>whnf
     refine hK _ _ _ ?_;clear hK K
     refine HT_fD dCo mix_ok rfl (by kernel_rfl) fun K hK=>?_;conv=>whnf
     refine nlA rfl ?_;conv=>whnf
     refine bKo rfl ?_;conv=>whnf
     refine gKo rfl ?_;conv=>whnf
     refine ix_lk h fun _ h=>?_;conv=>whnf
     refine And.intro (by decide) ?_;conv=>whnf
     refine gKo rfl ?_;conv=>whnf
     replace h:=W_bd h
     refine ref27_pick_call h64 h (WkL.refl _) (fun _ h=>?_);conv=>whnf
     refine lt_lk (enc:=eTEdge) (d:=default) dCo h rfl rfl rfl ⟨nle rfl,nle rfl,rfl⟩ rfl ⟨⟨rfl,nle rfl⟩,trivial⟩ (fun h=>?_);conv=>whnf
     refine ap_lk (enc:=eTEdge) (d:=default) dCo h (.inl rfl) rfl rfl rfl ⟨rfl,nle rfl,nle rfl,nle rfl,rfl⟩ (fun _=>rfl) (.inr (.inr ⟨_,_,rfl,rfl,rfl⟩)) (fun h=>?_);conv=>whnf
     refine bKo rfl ?_;conv=>whnf
     refine And.intro rfl (And.intro (nle rfl) (And.intro rfl ?_));conv=>whnf
     refine hK _ _ _ ?_;clear hK K
     refine iBn ?_
     refine tHn ?_
     refine HT_f dCo rfl fun K hK=>?_;conv=>whnf
     refine hK _ _ _ ?_;clear hK K
     refine tHn ?_
     replace h:=W_xnx h
     refine ⟨_,h,?_⟩
     refine weak_k ?_;conv=>whnf
     exact And.intro rfl (And.intro (aLc wkI (aLc (wkr (lsL fun _=>(lo_A119 _))) (aLc (WkR.ptr (fun _=>rfl)) (aLc (WkR.ptr (fun _=>rfl)) aLn)))) (aLc ⟨some _,rfl,bRc rfl (cKc wkI (cKc (WkR.tok (fun _=>rfl) rfl (fun _ _=>Wk.refl _) (fun _=>(lo_TEdge _))) cKn))⟩ (aLc ⟨some _,rfl,bRc rfl cKn⟩ (aLc ⟨some _,rfl,bRc rfl (cKc wkI (cKc (wkr loose_nils) cKn))⟩ aLn))))
   refine hK2 ?_;clear hK1 hK2 K1 K2
   refine HT_exit ?_
   refine Then_e ?_
   refine Then_e ?_
   refine InBlock_e ?_
   replace h:=W_xbk h
   replace h:=W_inl h
   refine tHn ?_
   refine HT_fr dCo rfl fun K hK=>?_;conv=>whnf
   refine nlA rfl ?_;conv=>whnf
   refine bKo rfl ?_;conv=>whnf
   refine nlA rfl ?_;conv=>whnf
   refine bKo rfl ?_;conv=>whnf
   refine And.intro rfl (And.intro (nle rfl) (And.intro rfl ?_));conv=>whnf
   refine hK _ _ _ ?_;clear hK K
   refine HT_ret ?_
   replace h:=W_some h
   refine PostP_r dCo fun K hK=>?_;conv=>whnf
   refine nlA rfl ?_;conv=>whnf
   refine bKo rfl ?_;conv=>whnf
   refine nlA rfl ?_;conv=>whnf
   refine hK _ ?_;clear hK K
   cases h
   exact (Wk_agg (WkL_cons (Wk.refl _) (WkL_cons Wk_free WkL_nil)))
 refine hK _ _ _ ?_;clear hK K
 refine HT_if fun K1 K2 hK1 hK2=>?_;conv=>whnf
 refine hK2 ?_;clear hK1 hK2 K1 K2
 replace h:=W_cnF h
 refine HT_exit ?_
 refine Then_e ?_
 refine Then_e ?_
 refine InBlock_e ?_
 replace h:=W_xbk h
 replace h:=W_inl h
 refine tHn ?_
 refine HT_fr dCo rfl fun K hK=>?_;conv=>whnf
 refine nlA rfl ?_;conv=>whnf
 refine bKo rfl ?_;conv=>whnf
 refine nlA rfl ?_;conv=>whnf
 refine bKo rfl ?_;conv=>whnf
 refine And.intro rfl (And.intro (nle rfl) (And.intro rfl ?_));conv=>whnf
 refine hK _ _ _ ?_;clear hK K
 refine HT_ret ?_
 replace h:=W_some h
 refine PostP_r dCo fun K hK=>?_;conv=>whnf
 refine nlA rfl ?_;conv=>whnf
 refine bKo rfl ?_;conv=>whnf
 refine nlA rfl ?_;conv=>whnf
 refine hK _ ?_;clear hK K
 cases h
 exact (Wk_agg (WkL_cons (Wk.refl _) (WkL_cons Wk_free WkL_nil)))
theorem ref27_Made_call {T:Tbl} (hT:T 33=pureR ref27_Made_S) {args:List AV} {hp:Heap} {id:Nat} {k:AV→Prop} {a0:Int} {a1:List (Int×Int×Int)} {Φ:TNet→Prop} (h:W (ref27_Made_F a0 a1) Φ) (hw:WkL args [eI a0,(eL 3 eA119 default) a1]) (hk:∀ y,Φ y→k (eTNet y)):callpK T 33 args hp id k:=by
 obtain ⟨y,e,hy⟩:=W_inv h
 exact callpK_pure hT ⟨a0,a1,rfl,W_of e rfl⟩ (by exact (lo_TNet _)) hw (hk y hy)
def flow_Valid_1_F (a0:TEdge) (c900:TNet):Option Bool:=jn (fun p1:Bool=>some p1) fun k2=>bd (flow_isIn_F a0.From 0 (wr (c900.N-1))) fun y3=>
   cn (!y3) (k2 true) (bd (flow_isIn_F a0.To 0 (wr (c900.N-1))) fun y4=>cn (!y4) (k2 true) (cn (a0.From==a0.To) (k2 true) (bd (flow_isIn_F a0.Capacity 0 10000) fun y5=>
   k2 (!y5))))
def flow_Valid_1_S:List AV→AV→Prop:=fun args r=>∃ a0 c900,args=[eTEdge a0,.ep [eI c900.N,(eL 3 eTEdge default) c900.Edges] 0]∧W (flow_Valid_1_F a0 c900) fun y=>r=(eB y)
theorem flow_Valid_1_ok {T:Tbl} (hT:TOk Try.prog T) (hpf:PfOk T PF) (h40:T 40=pureR flow_isIn_S):FOk Try.prog 76 (pureR flow_Valid_1_S):=by
 refine FOk_pure hT hpf Try.func76 rfl Try.ntmps76 Try.results76 (by decide) ?_
 rintro args r ⟨a0,c900,rfl,h⟩
 refine ⟨nle rfl,?_,?_⟩
 · exact (lsC (lo_TEdge _) (lsC (lsE (lsC (lsI _ _) (lsC (lsL fun _=>(lo_TEdge _)) lsN))) lsN))
 rw [flow_Valid_1_F.eq_1] at h
 refine HT_fr dCo rfl fun K hK=>?_;conv=>whnf
 refine hK _ _ _ ?_;clear hK K
 refine HT_fr dCo rfl fun K hK=>?_;conv=>whnf
 replace h:=W_jn h
 refine nlA rfl ?_;conv=>whnf
 refine bKo rfl ?_;conv=>whnf
 refine gKo rfl ?_;conv=>whnf
 refine gKo rfl ?_;conv=>whnf
 replace h:=W_bd h
 refine flow_isIn_call h40 h (WkL.refl _) (fun _ h=>?_);conv=>whnf
 refine cLk h (fun _ h=>?_) (fun _ h=>?_)<;>(conv=>whnf)
 · refine hK _ _ _ ?_;clear hK K
   refine HT_ret ?_
   replace h:=W_some h
   refine PostP_r dCo fun K hK=>?_;conv=>whnf
   refine hK _ ?_;clear hK K
   cases h
   exact Wk.refl _
 refine nlA rfl ?_;conv=>whnf
 refine bKo rfl ?_;conv=>whnf
 refine gKo rfl ?_;conv=>whnf
 refine gKo rfl ?_;conv=>whnf
 replace h:=W_bd h
 refine flow_isIn_call h40 h (WkL.refl _) (fun _ h=>?_);conv=>whnf
 refine cLk h (fun _ h=>?_) (fun _ h=>?_)<;>(conv=>whnf)
 · refine hK _ _ _ ?_;clear hK K
   refine HT_ret ?_
   replace h:=W_some h
   refine PostP_r dCo fun K hK=>?_;conv=>whnf
   refine hK _ ?_;clear hK K
   cases h
   exact Wk.refl _
 refine nlA rfl ?_;conv=>whnf
 refine bKo rfl ?_;conv=>whnf
 refine gKo rfl ?_;conv=>whnf
 refine nlA rfl ?_;conv=>whnf
 refine bKo rfl ?_;conv=>whnf
 refine gKo rfl ?_;conv=>whnf
 refine cLk h (fun _ h=>?_) (fun _ h=>?_)<;>(conv=>whnf)
 · refine hK _ _ _ ?_;clear hK K
   refine HT_ret ?_
   replace h:=W_some h
   refine PostP_r dCo fun K hK=>?_;conv=>whnf
   refine hK _ ?_;clear hK K
   cases h
   exact Wk.refl _
 refine nlA rfl ?_;conv=>whnf
 refine bKo rfl ?_;conv=>whnf
 refine gKo rfl ?_;conv=>whnf
 replace h:=W_bd h
 refine flow_isIn_call h40 h (WkL.refl _) (fun _ h=>?_);conv=>whnf
 refine hK _ _ _ ?_;clear hK K
 refine HT_ret ?_
 replace h:=W_some h
 refine PostP_r dCo fun K hK=>?_;conv=>whnf
 refine hK _ ?_;clear hK K
 cases h
 exact Wk.refl _
theorem flow_Valid_1_calls {T:Tbl} (hT:T 76=pureR flow_Valid_1_S) {args:List AV} {hp:Heap} {id:Nat} {k:AV→Heap→Prop} {a0:TEdge} {c900:TNet} {Φ:Bool→Prop} (h:W (flow_Valid_1_F a0 c900) Φ) (hw:WkL args [eTEdge a0,.ep [eI c900.N,(eL 3 eTEdge default) c900.Edges] 0]) (hk:∀ y,Φ y→k (eB y) hp):callsK T 76 args hp id k:=by
 obtain ⟨y,e,hy⟩:=W_inv h
 exact callsK_pure hT ⟨a0,c900,rfl,W_of e rfl⟩ (by exact (lsB _)) hw (hk y hy)
def reserve_Valid_1_1_F (a0:Int) (c900:Int):Option Bool:=bd (reserve_isIn_F a0 0 c900) fun y1=>some (!y1)
def reserve_Valid_1_1_S:List AV→AV→Prop:=fun args r=>∃ a0 c900,args=[eI a0,.ep [eI c900] 0]∧W (reserve_Valid_1_1_F a0 c900) fun y=>r=(eB y)
theorem reserve_Valid_1_1_ok {T:Tbl} (hT:TOk Try.prog T) (hpf:PfOk T PF) (h48:T 48=pureR reserve_isIn_S):FOk Try.prog 50 (pureR reserve_Valid_1_1_S):=by
 refine FOk_pure hT hpf Try.func50 rfl Try.ntmps50 Try.results50 (by decide) ?_
 rintro args r ⟨a0,c900,rfl,h⟩
 refine ⟨nle rfl,?_,?_⟩
 · exact (lsC (lsI _ _) (lsC (lsE (lsC (lsI _ _) lsN)) lsN))
 rw [reserve_Valid_1_1_F.eq_1] at h
 refine HT_fr dCo rfl fun K hK=>?_;conv=>whnf
 refine hK _ _ _ ?_;clear hK K
 refine HT_fr dCo rfl fun K hK=>?_;conv=>whnf
 refine gKo rfl ?_;conv=>whnf
 replace h:=W_bd h
 refine reserve_isIn_call h48 h (WkL.refl _) (fun _ h=>?_);conv=>whnf
 refine hK _ _ _ ?_;clear hK K
 refine HT_ret ?_
 replace h:=W_some h
 refine PostP_r dCo fun K hK=>?_;conv=>whnf
 refine hK _ ?_;clear hK K
 cases h
 exact Wk.refl _
theorem reserve_Valid_1_1_calls {T:Tbl} (hT:T 50=pureR reserve_Valid_1_1_S) {args:List AV} {hp:Heap} {id:Nat} {k:AV→Heap→Prop} {a0:Int} {c900:Int} {Φ:Bool→Prop} (h:W (reserve_Valid_1_1_F a0 c900) Φ) (hw:WkL args [eI a0,.ep [eI c900] 0]) (hk:∀ y,Φ y→k (eB y) hp):callsK T 50 args hp id k:=by
 obtain ⟨y,e,hy⟩:=W_inv h
 exact callsK_pure hT ⟨a0,c900,rfl,W_of e rfl⟩ (by exact (lsB _)) hw (hk y hy)
def reserve_isWay_b1 (a0:TNet) (a1:List Int) (s2:Int):Option (Ct Int Bool):=cn (decide (s2<(a1.length:Int))) (ix a1 default s2 fun e3=>jn (fun p4:Bool=>
   cn p4 (some (.rt false)) (some (.nx (wr (s2+1))))) fun k5=>bd (reserve_isIn_F e3 0 (wr ((a0.Edges.length:Int)-1))) fun y6=>
   cn (!y6) (k5 true) (bd (slices_Index_int_F a1 e3) fun y7=>cn (y7 != s2) (k5 true) (cn (decide (s2>0)) (ix a1 default (wr (s2-1)) fun e8=>ix a0.Edges default e8 fun e9=>
   ix a0.Edges default e3 fun e10=>k5 (e9.To != e10.From)) (k5 false)))) (some (.bk s2))
theorem W_breserve_isWay_b1 {a0:TNet} {a1:List Int} {s2:Int} {Φ:Ct Int Bool→Prop} (h:W (reserve_isWay_b1 a0 a1 s2) Φ):W (cn (decide (s2<(a1.length:Int))) (ix a1 default s2 fun e3=>jn (fun p4:Bool=>cn p4 (some (.rt false)) (some (.nx (wr (s2+1))))) fun k5=>
   bd (reserve_isIn_F e3 0 (wr ((a0.Edges.length:Int)-1))) fun y6=>cn (!y6) (k5 true) (bd (slices_Index_int_F a1 e3) fun y7=>cn (y7 != s2) (k5 true) (cn (decide (s2 >
   0)) (ix a1 default (wr (s2-1)) fun e8=>ix a0.Edges default e8 fun e9=>ix a0.Edges default e3 fun e10=>k5 (e9.To != e10.From)) (k5 false)))) (some (.bk s2))) Φ:=h
def reserve_isWay_F (a0:TNet) (a1:List Int):Option Bool:=bd (reserve_isIn_F (a1.length:Int) 1 6) fun y1=>
   cn (!y1) (some false) (bd (lp (reserve_isWay_b1 a0 a1) FU 0) fun c11=>smK c11 (fun s12=>some true) (fun r13=>some r13))
def reserve_isWay_S:List AV→AV→Prop:=fun args r=>∃ a0 a1,args=[eTNet a0,(eL 1 eI default) a1]∧W (reserve_isWay_F a0 a1) fun y=>r=(eB y)
theorem reserve_isWay_ok {T:Tbl} (hT:TOk Try.prog T) (hpf:PfOk T PF) (h48:T 48=pureR reserve_isIn_S) (h80:T 80=pureR slices_Index_int_S):FOk Try.prog 54 (pureR reserve_isWay_S):=by
 refine FOk_pure hT hpf Try.func54 rfl Try.ntmps54 Try.results54 (by decide) ?_
 rintro args r ⟨a0,a1,rfl,h⟩
 refine ⟨nle rfl,?_,?_⟩
 · exact (lsC (lo_TNet _) (lsC (lsL fun _=>(lsI _ _)) lsN))
 rw [reserve_isWay_F.eq_1] at h
 refine HT_fr dCo rfl fun K hK=>?_;conv=>whnf
 refine hK _ _ _ ?_;clear hK K
 refine HT_seq ?_
 refine HT_fr dCo rfl fun K hK=>?_;conv=>whnf
 replace h:=W_bd h
 refine reserve_isIn_call h48 h (WkL.refl _) (fun _ h=>?_);conv=>whnf
 refine hK _ _ _ ?_;clear hK K
 refine HT_if fun K1 K2 hK1 hK2=>?_;conv=>whnf
 refine cLk h (fun _ h=>?_) (fun _ h=>?_)
 · refine hK1 ?_;clear hK1 hK2 K1 K2
   refine HT_fr dCo rfl fun K hK=>?_;conv=>whnf
   refine hK _ _ _ ?_;clear hK K
   refine HT_ret ?_
   refine Then_r ?_
   replace h:=W_some h
   refine PostP_r dCo fun K hK=>?_;conv=>whnf
   refine hK _ ?_;clear hK K
   cases h
   exact Wk.refl _
 refine hK2 ?_;clear hK1 hK2 K1 K2
 refine HT_skip ?_
 refine tHn ?_
 refine HT_seq ?_
 refine HT_fr dCo rfl fun K hK=>?_;conv=>whnf
 refine hK _ _ _ ?_;clear hK K
 refine HT_block ?_
 replace h:=W_bd h
 refine HT_lpK (body:=reserve_isWay_b1 _ _) rfl h [1,2,11,12] [2] [] (fun kl kh ids b s=>⟨ofL ([(13,eI s)]++kl),ofH ([]++kh),b+64⟩) ?_;(conv=>whnf);refine And.intro ?_ (fun s m h=>HT_st ?_)
 · refine weak_k ?_;conv=>whnf
   exact And.intro rfl (And.intro (aLc wkI (aLc (wkr (lsL fun _=>(lsI _ _))) (aLc (WkR.ptr (fun _=>rfl)) (aLc (wkr (lsL fun _=>(lsI _ _))) (aLc wkI aLn))))) (aLc ⟨some _,rfl,bRc rfl (cKc wkI (cKc (wkr (lsL fun _=>(lo_TEdge _))) cKn))⟩ aLn))
 replace h:=W_breserve_isWay_b1 (W_bd h)
 refine HT_fr dCo rfl fun K hK=>?_;conv=>whnf
 refine hK _ _ _ ?_;clear hK K
 refine HT_seq ?_
 refine HT_if fun K1 K2 hK1 hK2=>?_;conv=>whnf
 refine cLk h (fun _ h=>?_) (fun _ h=>?_)
 · refine hK1 ?_;clear hK1 hK2 K1 K2
   refine HT_skip ?_
   refine tHn ?_
   refine HT_seq ?_
   refine HT_block ?_
   refine HT_fr dCo rfl fun K hK=>?_;conv=>whnf
   refine ix_lk h fun _ h=>?_;conv=>whnf
   refine gKo rfl ?_;conv=>whnf
   refine hK _ _ _ ?_;clear hK K
   refine HT_fd dCo mix_ok rfl (by kernel_rfl) fun K hK=>?_;conv=>whnf
   replace h:=W_jn h
   refine nlA rfl ?_;conv=>whnf
   refine bKo rfl ?_;conv=>whnf
   refine gKo rfl ?_;conv=>whnf
   replace h:=W_bd h
   refine reserve_isIn_call h48 h (WkL.refl _) (fun _ h=>?_);conv=>whnf
   refine cLk h (fun _ h=>?_) (fun _ h=>?_)<;>(conv=>whnf)
   · refine hK _ _ _ ?_;clear hK K
     refine HT_if fun K1 K2 hK1 hK2=>?_;conv=>whnf
     refine hK1 ?_;clear hK1 hK2 K1 K2
     replace h:=W_cnT h
     refine HT_fr dCo rfl fun K hK=>?_;conv=>whnf
     refine hK _ _ _ ?_;clear hK K
     refine HT_ret ?_
     refine InBlock_r ?_
     refine Then_r ?_
     refine Then_r ?_
     refine InBlock_r ?_
     refine Then_r ?_
     replace h:=W_xrt h
     replace h:=W_inr h
     replace h:=W_some h
     refine PostP_r dCo fun K hK=>?_;conv=>whnf
     refine hK _ ?_;clear hK K
     cases h
     exact Wk.refl _
   replace h:=W_bd h
   refine slices_Index_int_call h80 h (WkL.refl _) (fun _ h=>?_);conv=>whnf
   refine cLk h (fun _ h=>?_) (fun _ h=>?_)<;>(conv=>whnf)
   · refine hK _ _ _ ?_;clear hK K
     refine HT_if fun K1 K2 hK1 hK2=>?_;conv=>whnf
     refine hK1 ?_;clear hK1 hK2 K1 K2
     replace h:=W_cnT h
     refine HT_fr dCo rfl fun K hK=>?_;conv=>whnf
     refine hK _ _ _ ?_;clear hK K
     refine HT_ret ?_
     refine InBlock_r ?_
     refine Then_r ?_
     refine Then_r ?_
     refine InBlock_r ?_
     refine Then_r ?_
     replace h:=W_xrt h
     replace h:=W_inr h
     replace h:=W_some h
     refine PostP_r dCo fun K hK=>?_;conv=>whnf
     refine hK _ ?_;clear hK K
     cases h
     exact Wk.refl _
   refine cLk h (fun _ h=>?_) (fun _ h=>?_)<;>(conv=>whnf)
   · refine nlA rfl ?_;conv=>whnf
     refine bKo rfl ?_;conv=>whnf
     refine gKo rfl ?_;conv=>whnf
     refine ix_lk h fun _ h=>?_;conv=>whnf
     refine gKo rfl ?_;conv=>whnf
     refine ix_lk h fun _ h=>?_;conv=>whnf
     refine gKo rfl ?_;conv=>whnf
     refine nlA rfl ?_;conv=>whnf
     refine bKo rfl ?_;conv=>whnf
     refine gKo rfl ?_;conv=>whnf
     refine ix_lk h fun _ h=>?_;conv=>whnf
     refine gKo rfl ?_;conv=>whnf
     refine hK _ _ _ ?_;clear hK K
     refine HT_if fun K1 K2 hK1 hK2=>?_;conv=>whnf
     refine cLk h (fun _ h=>?_) (fun _ h=>?_)
     · refine hK1 ?_;clear hK1 hK2 K1 K2
       refine HT_fr dCo rfl fun K hK=>?_;conv=>whnf
       refine hK _ _ _ ?_;clear hK K
       refine HT_ret ?_
       refine InBlock_r ?_
       refine Then_r ?_
       refine Then_r ?_
       refine InBlock_r ?_
       refine Then_r ?_
       replace h:=W_xrt h
       replace h:=W_inr h
       replace h:=W_some h
       refine PostP_r dCo fun K hK=>?_;conv=>whnf
       refine hK _ ?_;clear hK K
       cases h
       exact Wk.refl _
     refine hK2 ?_;clear hK1 hK2 K1 K2
     refine HT_skip ?_
     refine iBn ?_
     refine tHn ?_
     refine HT_f dCo rfl fun K hK=>?_;conv=>whnf
     refine hK _ _ _ ?_;clear hK K
     refine tHn ?_
     replace h:=W_xnx h
     refine ⟨_,h,?_⟩
     refine weak_k ?_;conv=>whnf
     exact And.intro rfl (And.intro (aLc wkI (aLc (wkr (lsL fun _=>(lsI _ _))) (aLc (WkR.ptr (fun _=>rfl)) (aLc (wkr (lsL fun _=>(lsI _ _))) (aLc wkI aLn))))) (aLc ⟨some _,rfl,bRc rfl (cKc wkI (cKc (wkr (lsL fun _=>(lo_TEdge _))) cKn))⟩ aLn))
   refine hK _ _ _ ?_;clear hK K
   refine HT_if fun K1 K2 hK1 hK2=>?_;conv=>whnf
   refine hK2 ?_;clear hK1 hK2 K1 K2
   replace h:=W_cnF h
   refine HT_skip ?_
   refine iBn ?_
   refine tHn ?_
   refine HT_f dCo rfl fun K hK=>?_;conv=>whnf
   refine hK _ _ _ ?_;clear hK K
   refine tHn ?_
   replace h:=W_xnx h
   refine ⟨_,h,?_⟩
   refine weak_k ?_;conv=>whnf
   exact And.intro rfl (And.intro (aLc wkI (aLc (wkr (lsL fun _=>(lsI _ _))) (aLc (WkR.ptr (fun _=>rfl)) (aLc (wkr (lsL fun _=>(lsI _ _))) (aLc wkI aLn))))) (aLc ⟨some _,rfl,bRc rfl (cKc wkI (cKc (wkr (lsL fun _=>(lo_TEdge _))) cKn))⟩ aLn))
 refine hK2 ?_;clear hK1 hK2 K1 K2
 refine HT_exit ?_
 refine Then_e ?_
 refine Then_e ?_
 refine InBlock_e ?_
 replace h:=W_xbk h
 replace h:=W_inl h
 refine tHn ?_
 refine HT_fr dCo rfl fun K hK=>?_;conv=>whnf
 refine hK _ _ _ ?_;clear hK K
 refine HT_ret ?_
 replace h:=W_some h
 refine PostP_r dCo fun K hK=>?_;conv=>whnf
 refine hK _ ?_;clear hK K
 cases h
 exact Wk.refl _
theorem reserve_isWay_call {T:Tbl} (hT:T 54=pureR reserve_isWay_S) {args:List AV} {hp:Heap} {id:Nat} {k:AV→Prop} {a0:TNet} {a1:List Int} {Φ:Bool→Prop} (h:W (reserve_isWay_F a0 a1) Φ) (hw:WkL args [eTNet a0,(eL 1 eI default) a1]) (hk:∀ y,Φ y→k (eB y)):callpK T 54 args hp id k:=by
 obtain ⟨y,e,hy⟩:=W_inv h
 exact callpK_pure hT ⟨a0,a1,rfl,W_of e rfl⟩ (by exact (lsB _)) hw (hk y hy)
def reserve_Valid_2_F (a0:TOrdinary) (c900:TReserve):Option Bool:=jn (fun p1:Bool=>some p1) fun k2=>bd (reserve_isIn_F a0.Amount 1 10000) fun y3=>
   cn (!y3) (k2 true) (bd (reserve_isWay_F c900.Net a0.Edges) fun y4=>k2 (!y4))
def reserve_Valid_2_S:List AV→AV→Prop:=fun args r=>∃ a0 c900,args=[eTOrdinary a0,.ep [eI c900.Net.N,(eL 3 eTEdge default) c900.Net.Edges,(eL 1 eI default) c900.Urgent,(eL 1 eI default) c900.Centres,eI c900.Faults,(eL 2 eTOrdinary default) c900.Calls] 0]∧W (reserve_Valid_2_F a0 c900) fun y=>r=(eB y)
theorem reserve_Valid_2_ok {T:Tbl} (hT:TOk Try.prog T) (hpf:PfOk T PF) (h48:T 48=pureR reserve_isIn_S) (h54:T 54=pureR reserve_isWay_S):FOk Try.prog 53 (pureR reserve_Valid_2_S):=by
 refine FOk_pure hT hpf Try.func53 rfl Try.ntmps53 Try.results53 (by decide) ?_
 rintro args r ⟨a0,c900,rfl,h⟩
 refine ⟨nle rfl,?_,?_⟩
 · exact (lsC (lo_TOrdinary _) (lsC (lsE (lsC (lsI _ _) (lsC (lsL fun _=>(lo_TEdge _)) (lsC (lsL fun _=>(lsI _ _)) (lsC (lsL fun _=>(lsI _ _)) (lsC (lsI _ _) (lsC (lsL fun _=>(lo_TOrdinary _)) lsN))))))) lsN))
 rw [reserve_Valid_2_F.eq_1] at h
 refine HT_fr dCo rfl fun K hK=>?_;conv=>whnf
 refine hK _ _ _ ?_;clear hK K
 refine HT_fr dCo rfl fun K hK=>?_;conv=>whnf
 replace h:=W_jn h
 refine nlA rfl ?_;conv=>whnf
 refine bKo rfl ?_;conv=>whnf
 refine gKo rfl ?_;conv=>whnf
 replace h:=W_bd h
 refine reserve_isIn_call h48 h (WkL.refl _) (fun _ h=>?_);conv=>whnf
 refine cLk h (fun _ h=>?_) (fun _ h=>?_)<;>(conv=>whnf)
 · refine hK _ _ _ ?_;clear hK K
   refine HT_ret ?_
   replace h:=W_some h
   refine PostP_r dCo fun K hK=>?_;conv=>whnf
   refine hK _ ?_;clear hK K
   cases h
   exact Wk.refl _
 refine nlA rfl ?_;conv=>whnf
 refine nlA rfl ?_;conv=>whnf
 refine bKo rfl ?_;conv=>whnf
 refine gKo rfl ?_;conv=>whnf
 replace h:=W_bd h
 refine reserve_isWay_call h54 h (WkL.refl _) (fun _ h=>?_);conv=>whnf
 refine hK _ _ _ ?_;clear hK K
 refine HT_ret ?_
 replace h:=W_some h
 refine PostP_r dCo fun K hK=>?_;conv=>whnf
 refine hK _ ?_;clear hK K
 cases h
 exact Wk.refl _
theorem reserve_Valid_2_calls {T:Tbl} (hT:T 53=pureR reserve_Valid_2_S) {args:List AV} {hp:Heap} {id:Nat} {k:AV→Heap→Prop} {a0:TOrdinary} {c900:TReserve} {Φ:Bool→Prop} (h:W (reserve_Valid_2_F a0 c900) Φ) (hw:WkL args [eTOrdinary a0,.ep [eI c900.Net.N,(eL 3 eTEdge default) c900.Net.Edges,(eL 1 eI default) c900.Urgent,(eL 1 eI default) c900.Centres,eI c900.Faults,(eL 2 eTOrdinary default) c900.Calls] 0]) (hk:∀ y,Φ y→k (eB y) hp):callsK T 53 args hp id k:=by
 obtain ⟨y,e,hy⟩:=W_inv h
 exact callsK_pure hT ⟨a0,c900,rfl,W_of e rfl⟩ (by exact (lsB _)) hw (hk y hy)
end Go.Proofs.Ytkjccabdpeldhaa
namespace Go.Proofs.Ytkjccabdpeldhaa
open Go Go.Eng
set_option maxHeartbeats 0
set_option maxRecDepth 100000
def ref33_Copy_b1 (a0:TReserve) (s7:Int×TReserve):Option (Ct (Int×TReserve) TReserve):=cn (decide (s7.1<(a0.Calls.length:Int))) (lt ([]:List Int) fun l8=>
   ix a0.Calls default s7.1 fun e9=>ap l8 e9.Edges fun l10=>ix a0.Calls default s7.1 fun e11=>lt ([(⟨l10,e11.Amount⟩:TOrdinary)]:List TOrdinary) fun l12=>
   ap s7.2.Calls l12 fun l13=>some (.nx ((wr (s7.1+1)),(⟨s7.2.Net,s7.2.Urgent,s7.2.Centres,s7.2.Faults,l13⟩:TReserve)))) (some (.bk (s7.1,s7.2)))
theorem W_bref33_Copy_b1 {a0:TReserve} {s7:Int×TReserve} {Φ:Ct (Int×TReserve) TReserve→Prop} (h:W (ref33_Copy_b1 a0 s7) Φ):W (cn (decide (s7.1<(a0.Calls.length:Int))) (lt ([]:List Int) fun l8=>ix a0.Calls default s7.1 fun e9=>ap l8 e9.Edges fun l10=>ix a0.Calls default s7.1 fun e11=>
   lt ([(⟨l10,e11.Amount⟩:TOrdinary)]:List TOrdinary) fun l12=>ap s7.2.Calls l12 fun l13=>
   some (.nx ((wr (s7.1+1)),(⟨s7.2.Net,s7.2.Urgent,s7.2.Centres,s7.2.Faults,l13⟩:TReserve)))) (some (.bk (s7.1,s7.2)))) Φ:=h
def ref33_Copy_F (a0:TReserve):Option TReserve:=lt ([]:List TEdge) fun l1=>gd (a0.Net.Edges.length≤1048576) (lt a0.Net.Edges fun l2=>lt ([]:List Int) fun l3=>
   gd (a0.Urgent.length≤1048576) (lt a0.Urgent fun l4=>lt ([]:List Int) fun l5=>gd (a0.Centres.length≤1048576) (lt a0.Centres fun l6=>
   bd (lp (ref33_Copy_b1 a0) FU (0,(⟨(⟨a0.Net.N,l2⟩:TNet),l4,l6,a0.Faults,[]⟩:TReserve))) fun c14=>smK c14 (fun s15=>some s15.2) (fun r16=>some r16))))
def ref33_Copy_res (y:TReserve) (b:Nat):AV:=.agg [eI y.Net.N,.so b 0 y.Net.Edges.length 3,.so (b+1) 0 y.Urgent.length 1,.so (b+2) 0 y.Centres.length 1,eI y.Faults,.so (b+3) 0 y.Calls.length 2]
def ref33_Copy_blk (y:TReserve):List AB:=[.cells (flE (ceE eTEdge) y.Net.Edges),.cells (flE (ceE eI) y.Urgent),.cells (flE (ceE eI) y.Centres),.cells (flE (ceE eTOrdinary) y.Calls)]
def ref33_Copy_S:List AV→TReserve→Prop:=fun args y=>∃ a0,args=[eTReserve a0]∧ref33_Copy_F a0=some y
theorem ref33_Copy_ok {T:Tbl} (hT:TOk Try.prog T) (hpf:PfOk T PF):FOk Try.prog 19 (ownR ref33_Copy_res ref33_Copy_blk ref33_Copy_S):=by
 refine FOk_own hT hpf Try.func19 rfl Try.ntmps19 Try.results19 (by decide) (fun y=>⟨by simp [ref33_Copy_blk],by simp [ref33_Copy_blk,noGh]⟩) ?_
 rintro args y ⟨a0,rfl,hF⟩
 refine ⟨nle rfl,(lsC (lo_TReserve _) lsN),fun base=>?_⟩
 have h:W (ref33_Copy_F a0) (fun z=>z=y):=W_of hF rfl
 rw [ref33_Copy_F.eq_1] at h
 refine HT_fr dCo rfl fun K hK=>?_;conv=>whnf
 refine hK _ _ _ ?_;clear hK K
 refine HT_fd dCo mix_ok rfl (by kernel_rfl) fun K hK=>?_;conv=>whnf
 refine nlA rfl ?_;conv=>whnf
 refine bKo rfl ?_;conv=>whnf
 refine gKo rfl ?_;conv=>whnf
 refine lt_lk (enc:=eTEdge) (d:=default) dCo h rfl rfl rfl ⟨nle rfl,nle rfl,rfl⟩ rfl trivial (fun h=>?_);conv=>whnf
 refine nlA rfl ?_;conv=>whnf
 refine bKo rfl ?_;conv=>whnf
 refine gKo rfl ?_;conv=>whnf
 refine gd_lk_u h fun hg h=>?_
 replace h:=W_lt h
 refine apcf_lk (enc:=eTEdge) (d:=default) dCo rfl rfl rfl ⟨rfl,nle rfl,nle rfl,nle rfl,rfl⟩ (fun _=>rfl) (fun _=>nofun) hg ?_;conv=>whnf
 refine lt_lk (enc:=eI) (d:=default) dCo h rfl rfl rfl ⟨nle rfl,nle rfl,rfl⟩ rfl trivial (fun h=>?_);conv=>whnf
 refine nlA rfl ?_;conv=>whnf
 refine bKo rfl ?_;conv=>whnf
 refine gKo rfl ?_;conv=>whnf
 refine gd_lk_u h fun hg h=>?_
 replace h:=W_lt h
 refine apcf_lk (enc:=eI) (d:=default) dCo rfl rfl rfl ⟨rfl,nle rfl,nle rfl,nle rfl,rfl⟩ (fun _=>rfl) (fun _=>nofun) hg ?_;conv=>whnf
 refine lt_lk (enc:=eI) (d:=default) dCo h rfl rfl rfl ⟨nle rfl,nle rfl,rfl⟩ rfl trivial (fun h=>?_);conv=>whnf
 refine nlA rfl ?_;conv=>whnf
 refine bKo rfl ?_;conv=>whnf
 refine gKo rfl ?_;conv=>whnf
 refine gd_lk_u h fun hg h=>?_
 replace h:=W_lt h
 refine apcf_lk (enc:=eI) (d:=default) dCo rfl rfl rfl ⟨rfl,nle rfl,nle rfl,nle rfl,rfl⟩ (fun _=>rfl) (fun _=>nofun) hg ?_;conv=>whnf
 refine nlA rfl ?_;conv=>whnf
 refine bKo rfl ?_;conv=>whnf
 refine gKo rfl ?_;conv=>whnf
 refine bKo rfl ?_;conv=>whnf
 refine And.intro rfl (And.intro (nle rfl) (And.intro rfl ?_));conv=>whnf
 refine hK _ _ _ ?_;clear hK K
 refine HT_seq ?_
 refine HT_fr dCo rfl fun K hK=>?_;conv=>whnf
 refine hK _ _ _ ?_;clear hK K
 refine HT_block ?_
 replace h:=W_bd h
 refine HT_lpR (body:=ref33_Copy_b1 _) rfl h [1,2,3] [1,2] [] [3] (fun kl kh kr ids b s=>⟨ofL ([(4,eI s.1)]++kl),ofH (([(nthN ids 0,.cells [eI s.2.Net.N,.so (b+0) 0 s.2.Net.Edges.length 3,.so (b+64) 0 s.2.Urgent.length 1,.so (b+128) 0 s.2.Centres.length 1,eI s.2.Faults,.so (b+192) 0 s.2.Calls.length 2])]++kh)++([(b+0,.cells (flE (ceE eTEdge) s.2.Net.Edges)),(b+64,.cells (flE (ceE eI) s.2.Urgent)),(b+128,.cells (flE (ceE eI) s.2.Centres)),(b+192,.cells (flE (ceE eTOrdinary) s.2.Calls))]++kr)),b+320⟩) ?_;(conv=>whnf);refine And.intro ?_ (fun s m h=>HT_st ?_)
 · refine weak_r ?_;conv=>whnf
   exact And.intro rfl (And.intro (aLc wkI (aLc (WkR.ptr (fun _=>rfl)) (aLc (WkR.ptr (fun _=>rfl)) (aLc (WkR.ptr (fun _=>rfl)) aLn)))) (aLc ⟨some _,rfl,bRc rfl (cKc wkI (cKc (WkR.so (fun _=>rfl)) (cKc (WkR.so (fun _=>rfl)) (cKc (WkR.so (fun _=>rfl)) (cKc wkI (cKc (WkR.nilso (fun _=>rfl)) cKn))))))⟩ (aLc ⟨some _,rfl,bRc rfl (cKc wkI (cKc (wkr (lsL fun _=>(lo_TEdge _))) (cKc (wkr (lsL fun _=>(lsI _ _))) (cKc (wkr (lsL fun _=>(lsI _ _))) (cKc wkI (cKc (wkr (lsL fun _=>(lo_TOrdinary _))) cKn))))))⟩ (aLc ⟨some _,rfl,bRc rfl (cKc wkI (cKc (wkr loose_nils) (cKc (wkr loose_nils) (cKc (wkr loose_nils) (cKc wkI (cKc (wkr loose_nils) cKn))))))⟩ (aLc ⟨some _,rfl,BkR_r rfl (fun _=>(lsC (lsI _ _) (lsC (lsI _ _) (lsC (lsI _ _) lsN))))⟩ (aLc ⟨some _,rfl,BkR_r rfl (fun _=>(lsC (lsI _ _) lsN))⟩ (aLc ⟨some _,rfl,BkR_r rfl (fun _=>(lsC (lsI _ _) lsN))⟩ (aLc ⟨none,rfl,BkR_nr⟩ aLn))))))))
 replace h:=W_bref33_Copy_b1 (W_bd h)
 refine HT_seq ?_
 refine HT_fr dCo rfl fun K hK=>?_;conv=>whnf
 refine nlA rfl ?_;conv=>whnf
 refine bKo rfl ?_;conv=>whnf
 refine gKo rfl ?_;conv=>whnf
 refine hK _ _ _ ?_;clear hK K
 refine HT_if fun K1 K2 hK1 hK2=>?_;conv=>whnf
 refine cLk h (fun _ h=>?_) (fun _ h=>?_)
 · refine hK1 ?_;clear hK1 hK2 K1 K2
   refine HT_skip ?_
   refine tHn ?_
   refine HT_seq ?_
   refine HT_block ?_
   refine HT_fD dCo mix_ok rfl (by kernel_rfl) fun K hK=>?_;conv=>whnf
   refine nlA rfl ?_;conv=>whnf
   refine bKo rfl ?_;conv=>whnf
   refine gKo rfl ?_;conv=>whnf
   refine lt_lk (enc:=eI) (d:=default) dCo h rfl rfl rfl ⟨nle rfl,nle rfl,rfl⟩ rfl trivial (fun h=>?_);conv=>whnf
   refine nlA rfl ?_;conv=>whnf
   refine bKo rfl ?_;conv=>whnf
   refine gKo rfl ?_;conv=>whnf
   refine ix_lk h fun _ h=>?_;conv=>whnf
   refine gKo rfl ?_;conv=>whnf
   refine apf_lk (enc:=eI) (d:=default) dCo h rfl rfl rfl ⟨rfl,nle rfl,nle rfl,nle rfl,rfl⟩ (fun _=>rfl) (fun h=>?_);conv=>whnf
   refine nlA rfl ?_;conv=>whnf
   refine bKo rfl ?_;conv=>whnf
   refine gKo rfl ?_;conv=>whnf
   refine ix_lk h fun _ h=>?_;conv=>whnf
   refine gKo rfl ?_;conv=>whnf
   refine lt_lkW (enc:=eTOrdinary) (d:=default) dCo h rfl rfl rfl ⟨nle rfl,nle rfl,rfl⟩ rfl ⟨⟨_,⟨rfl,nle rfl⟩,(Wk_agg (WkL_cons Wk_free (WkL_cons (Wk.refl _) WkL_nil)))⟩,trivial⟩ (fun h=>?_);conv=>whnf
   refine apo_lk (enc:=eTOrdinary) (d:=default) dCo h rfl rfl rfl ⟨rfl,nle rfl,nle rfl,nle rfl,rfl⟩ (fun _=>rfl) (fun _=>rfl) (fun _=>nofun) rfl (rfl) (fun h=>?_);conv=>whnf
   refine bKo rfl ?_;conv=>whnf
   refine And.intro rfl (And.intro (nle rfl) (And.intro rfl ?_));conv=>whnf
   refine hK _ _ _ ?_;clear hK K
   refine iBn ?_
   refine tHn ?_
   refine HT_f dCo rfl fun K hK=>?_;conv=>whnf
   refine hK _ _ _ ?_;clear hK K
   refine tHn ?_
   replace h:=W_xnx h
   refine ⟨_,h,?_⟩
   refine weak_r ?_;conv=>whnf
   exact And.intro rfl (And.intro (aLc wkI (aLc (WkR.ptr (fun _=>rfl)) (aLc (WkR.ptr (fun _=>rfl)) (aLc (WkR.ptr (fun _=>rfl)) aLn)))) (aLc ⟨some _,rfl,bRc rfl (cKc wkI (cKc (WkR.so (fun _=>rfl)) (cKc (WkR.so (fun _=>rfl)) (cKc (WkR.so (fun _=>rfl)) (cKc wkI (cKc (WkR.so (fun _=>rfl)) cKn))))))⟩ (aLc ⟨some _,rfl,bRc rfl (cKc wkI (cKc (wkr (lsL fun _=>(lo_TEdge _))) (cKc (wkr (lsL fun _=>(lsI _ _))) (cKc (wkr (lsL fun _=>(lsI _ _))) (cKc wkI (cKc (wkr (lsL fun _=>(lo_TOrdinary _))) cKn))))))⟩ (aLc ⟨some _,rfl,bRc rfl (cKc wkI (cKc (wkr loose_nils) (cKc (wkr loose_nils) (cKc (wkr loose_nils) (cKc wkI (cKc (wkr loose_nils) cKn))))))⟩ (aLc ⟨some _,rfl,BkR_r rfl (fun _=>(lsC (lsI _ _) (lsC (lsI _ _) (lsC (lsI _ _) lsN))))⟩ (aLc ⟨some _,rfl,BkR_r rfl (fun _=>(lsC (lsI _ _) lsN))⟩ (aLc ⟨some _,rfl,BkR_r rfl (fun _=>(lsC (lsI _ _) lsN))⟩ (aLc ⟨some _,rfl,BkR_r rfl (fun _=>(lsC (lsL fun _=>(lsI _ _)) (lsC (lsI _ _) lsN)))⟩ aLn))))))))
 refine hK2 ?_;clear hK1 hK2 K1 K2
 refine HT_exit ?_
 refine Then_e ?_
 refine Then_e ?_
 refine InBlock_e ?_
 replace h:=W_xbk h
 replace h:=W_inl h
 refine tHn ?_
 refine HT_fr dCo rfl fun K hK=>?_;conv=>whnf
 refine nlA rfl ?_;conv=>whnf
 refine bKo rfl ?_;conv=>whnf
 refine nlA rfl ?_;conv=>whnf
 refine bKo rfl ?_;conv=>whnf
 refine And.intro rfl (And.intro (nle rfl) (And.intro rfl ?_));conv=>whnf
 refine hK _ _ _ ?_;clear hK K
 refine HT_ret ?_
 replace h:=W_some h
 refine PostO_r dCo fun K hK=>?_;conv=>whnf
 refine nlA rfl ?_;conv=>whnf
 refine bKo rfl ?_;conv=>whnf
 refine nlA rfl ?_;conv=>whnf
 refine hK _ ?_;clear hK K
 cases h
 refine ⟨rfl,rfl,rfl,(WkB_agg (VsB_cons (WkB_loose (Wk.refl _) (lsI _ _)) (VsB_cons (WkB_soN (mm_ns (k:=0) rfl) rfl) (VsB_cons (WkB_soN (mm_ns (k:=1) rfl) rfl) (VsB_cons (WkB_soN (mm_ns (k:=2) rfl) rfl) (VsB_cons (WkB_loose (Wk.refl _) (lsI _ _)) (VsB_cons (WkB_soN (mm_ns (k:=3) rfl) rfl) VsB_nil))))))),fun k n x h1 h2=>?_⟩
 exact match k,n,x,h1,h2 with | 0,n,x,h1,h2=>by cases h1;cases h2;exact ⟨_,rfl,BkX_fl (fun _=>(lsC (lsI _ _) (lsC (lsI _ _) (lsC (lsI _ _) lsN)))) _⟩ | 1,n,x,h1,h2=>by cases h1;cases h2;exact ⟨_,rfl,BkX_fl (fun _=>(lsC (lsI _ _) lsN)) _⟩ | 2,n,x,h1,h2=>by cases h1;cases h2;exact ⟨_,rfl,BkX_fl (fun _=>(lsC (lsI _ _) lsN)) _⟩ | 3,n,x,h1,h2=>by cases h1;cases h2;exact ⟨_,rfl,BkX_fl (fun _=>(lsC (lsL fun _=>(lsI _ _)) (lsC (lsI _ _) lsN))) _⟩ | k+4,n,x,h1,h2=>by cases h1
end Go.Proofs.Ytkjccabdpeldhaa
namespace Go.Proofs.Ytkjccabdpeldhaa
open Go Go.Eng
set_option maxHeartbeats 0
set_option maxRecDepth 100000
def reserve_left_1_F (a0:TEdge):Option Bool:=let v1:=(decide (a0.Capacity<0));some v1
def reserve_left_1_S:List AV→AV→Prop:=fun args r=>∃ a0,args=[eTEdge a0]∧W (reserve_left_1_F a0) fun y=>r=(eB y)
theorem reserve_left_1_ok {T:Tbl} (hT:TOk Try.prog T) (hpf:PfOk T PF):FOk Try.prog 68 (pureR reserve_left_1_S):=by
 refine FOk_pure hT hpf Try.func68 rfl Try.ntmps68 Try.results68 (by decide) ?_
 rintro args r ⟨a0,rfl,h⟩
 refine ⟨nle rfl,?_,?_⟩
 · exact (lsC (lo_TEdge _) lsN)
 rw [reserve_left_1_F.eq_1] at h
 refine HT_fr dCo rfl fun K hK=>?_;conv=>whnf
 refine hK _ _ _ ?_;clear hK K
 refine HT_fr dCo rfl fun K hK=>?_;conv=>whnf
 refine nlA rfl ?_;conv=>whnf
 refine bKo rfl ?_;conv=>whnf
 refine gKo rfl ?_;conv=>whnf
 refine hK _ _ _ ?_;clear hK K
 refine HT_ret ?_
 replace h:=W_some h
 refine PostP_r dCo fun K hK=>?_;conv=>whnf
 refine hK _ ?_;clear hK K
 cases h
 exact Wk.refl _
theorem reserve_left_1_calls {T:Tbl} (hT:T 68=pureR reserve_left_1_S) {args:List AV} {hp:Heap} {id:Nat} {k:AV→Heap→Prop} {a0:TEdge} {Φ:Bool→Prop} (h:W (reserve_left_1_F a0) Φ) (hw:WkL args [eTEdge a0]) (hk:∀ y,Φ y→k (eB y) hp):callsK T 68 args hp id k:=by
 obtain ⟨y,e,hy⟩:=W_inv h
 exact callsK_pure hT ⟨a0,rfl,W_of e rfl⟩ (by exact (lsB _)) hw (hk y hy)
def slices_IndexFunc_Edge_68_b1 (a0:List TEdge) (s1:Int):Option (Ct Int Int):=cn (decide (s1<(a0.length:Int))) (ix a0 default s1 fun e2=>
   bd (reserve_left_1_F e2) fun y3=>cn y3 (some (.rt s1)) (some (.nx (wr (s1+1))))) (some (.bk s1))
theorem W_bslices_IndexFunc_Edge_68_b1 {a0:List TEdge} {s1:Int} {Φ:Ct Int Int→Prop} (h:W (slices_IndexFunc_Edge_68_b1 a0 s1) Φ):W (cn (decide (s1<(a0.length:Int))) (ix a0 default s1 fun e2=>bd (reserve_left_1_F e2) fun y3=>cn y3 (some (.rt s1)) (some (.nx (wr (s1+1))))) (some (.bk s1))) Φ:=h
def slices_IndexFunc_Edge_68_F (a0:List TEdge):Option Int:=bd (lp (slices_IndexFunc_Edge_68_b1 a0) FU 0) fun c4=>smK c4 (fun s5=>some (-1)) (fun r6=>some r6)
def slices_IndexFunc_Edge_68_S:List AV→AV→Prop:=fun args r=>∃ a0,args=[(eL 3 eTEdge default) a0,.fn 68 [] []]∧W (slices_IndexFunc_Edge_68_F a0) fun y=>r=(eI y)
theorem slices_IndexFunc_Edge_68_ok {T:Tbl} (hT:TOk Try.prog T) (hpf:PfOk T PF) (h68:T 68=pureR reserve_left_1_S):FOk Try.prog 67 (pureR slices_IndexFunc_Edge_68_S):=by
 refine FOk_pure hT hpf Try.func67 rfl Try.ntmps67 Try.results67 (by decide) ?_
 rintro args r ⟨a0,rfl,h⟩
 refine ⟨nle rfl,?_,?_⟩
 · exact (lsC (lsL fun _=>(lo_TEdge _)) (lsC (loose_fn lsN lsN) lsN))
 rw [slices_IndexFunc_Edge_68_F.eq_1] at h
 refine HT_fr dCo rfl fun K hK=>?_;conv=>whnf
 refine hK _ _ _ ?_;clear hK K
 refine HT_seq ?_
 refine HT_fr dCo rfl fun K hK=>?_;conv=>whnf
 refine hK _ _ _ ?_;clear hK K
 refine HT_block ?_
 replace h:=W_bd h
 refine HT_lpK (body:=slices_IndexFunc_Edge_68_b1 _) rfl h [0,1,7] [] [] (fun kl kh ids b s=>⟨ofL ([(8,eI s)]++kl),ofH ([]++kh),b+64⟩) ?_;(conv=>whnf);refine And.intro ?_ (fun s m h=>HT_st ?_)
 · refine weak_k ?_;conv=>whnf
   exact And.intro rfl (And.intro (aLc wkI (aLc (wkr (lsL fun _=>(lo_TEdge _))) (aLc (WkR_fn VsR_nil VsR_nil) (aLc wkI aLn)))) aLn)
 replace h:=W_bslices_IndexFunc_Edge_68_b1 (W_bd h)
 refine HT_fr dCo rfl fun K hK=>?_;conv=>whnf
 refine hK _ _ _ ?_;clear hK K
 refine HT_seq ?_
 refine HT_if fun K1 K2 hK1 hK2=>?_;conv=>whnf
 refine cLk h (fun _ h=>?_) (fun _ h=>?_)
 · refine hK1 ?_;clear hK1 hK2 K1 K2
   refine HT_skip ?_
   refine tHn ?_
   refine HT_seq ?_
   refine HT_block ?_
   refine HT_fr dCo rfl fun K hK=>?_;conv=>whnf
   refine hK _ _ _ ?_;clear hK K
   refine HT_fr dCo rfl fun K hK=>?_;conv=>whnf
   refine ix_lk h fun _ h=>?_;conv=>whnf
   refine nlA rfl ?_;conv=>whnf
   replace h:=W_bd h
   refine reserve_left_1_calls h68 h (WkL.refl _) (fun _ h=>?_);conv=>whnf
   refine hK _ _ _ ?_;clear hK K
   refine HT_if fun K1 K2 hK1 hK2=>?_;conv=>whnf
   refine cLk h (fun _ h=>?_) (fun _ h=>?_)
   · refine hK1 ?_;clear hK1 hK2 K1 K2
     refine HT_fr dCo rfl fun K hK=>?_;conv=>whnf
     refine hK _ _ _ ?_;clear hK K
     refine HT_ret ?_
     refine InBlock_r ?_
     refine Then_r ?_
     refine Then_r ?_
     refine InBlock_r ?_
     refine Then_r ?_
     replace h:=W_xrt h
     replace h:=W_inr h
     replace h:=W_some h
     refine PostP_r dCo fun K hK=>?_;conv=>whnf
     refine hK _ ?_;clear hK K
     cases h
     exact Wk.refl _
   refine hK2 ?_;clear hK1 hK2 K1 K2
   refine HT_skip ?_
   refine iBn ?_
   refine tHn ?_
   refine HT_f dCo rfl fun K hK=>?_;conv=>whnf
   refine hK _ _ _ ?_;clear hK K
   refine tHn ?_
   replace h:=W_xnx h
   refine ⟨_,h,?_⟩
   refine weak_k ?_;conv=>whnf
   exact And.intro rfl (And.intro (aLc wkI (aLc (wkr (lsL fun _=>(lo_TEdge _))) (aLc (WkR_fn VsR_nil VsR_nil) (aLc wkI aLn)))) aLn)
 refine hK2 ?_;clear hK1 hK2 K1 K2
 refine HT_exit ?_
 refine Then_e ?_
 refine Then_e ?_
 refine InBlock_e ?_
 replace h:=W_xbk h
 replace h:=W_inl h
 refine tHn ?_
 refine HT_fr dCo rfl fun K hK=>?_;conv=>whnf
 refine hK _ _ _ ?_;clear hK K
 refine HT_ret ?_
 replace h:=W_some h
 refine PostP_r dCo fun K hK=>?_;conv=>whnf
 refine hK _ ?_;clear hK K
 cases h
 exact Wk.refl _
def slices_IndexFunc_Edge_76_b1 (a0:List TEdge) (c910:TNet) (s1:Int):Option (Ct Int Int):=cn (decide (s1<(a0.length:Int))) (ix a0 default s1 fun e2=>
   bd (flow_Valid_1_F e2 c910) fun y3=>cn y3 (some (.rt s1)) (some (.nx (wr (s1+1))))) (some (.bk s1))
theorem W_bslices_IndexFunc_Edge_76_b1 {a0:List TEdge} {c910:TNet} {s1:Int} {Φ:Ct Int Int→Prop} (h:W (slices_IndexFunc_Edge_76_b1 a0 c910 s1) Φ):W (cn (decide (s1<(a0.length:Int))) (ix a0 default s1 fun e2=>bd (flow_Valid_1_F e2 c910) fun y3=>cn y3 (some (.rt s1)) (some (.nx (wr (s1+1))))) (some (.bk s1))) Φ:=h
def slices_IndexFunc_Edge_76_F (a0:List TEdge) (c910:TNet):Option Int:=bd (lp (slices_IndexFunc_Edge_76_b1 a0 c910) FU 0) fun c4=>smK c4 (fun s5=>some (-1)) (fun r6=>
   some r6)
def slices_IndexFunc_Edge_76_S:List AV→AV→Prop:=fun args r=>∃ a0 c910,args=[(eL 3 eTEdge default) a0,.fn 76 [] [.ep [eI c910.N,(eL 3 eTEdge default) c910.Edges] 0]]∧W (slices_IndexFunc_Edge_76_F a0 c910) fun y=>r=(eI y)
theorem slices_IndexFunc_Edge_76_ok {T:Tbl} (hT:TOk Try.prog T) (hpf:PfOk T PF) (h76:T 76=pureR flow_Valid_1_S):FOk Try.prog 67 (pureR slices_IndexFunc_Edge_76_S):=by
 refine FOk_pure hT hpf Try.func67 rfl Try.ntmps67 Try.results67 (by decide) ?_
 rintro args r ⟨a0,c910,rfl,h⟩
 refine ⟨nle rfl,?_,?_⟩
 · exact (lsC (lsL fun _=>(lo_TEdge _)) (lsC (loose_fn lsN (lsC (lsE (lsC (lsI _ _) (lsC (lsL fun _=>(lo_TEdge _)) lsN))) lsN)) lsN))
 rw [slices_IndexFunc_Edge_76_F.eq_1] at h
 refine HT_fr dCo rfl fun K hK=>?_;conv=>whnf
 refine hK _ _ _ ?_;clear hK K
 refine HT_seq ?_
 refine HT_fr dCo rfl fun K hK=>?_;conv=>whnf
 refine hK _ _ _ ?_;clear hK K
 refine HT_block ?_
 replace h:=W_bd h
 refine HT_lpK (body:=slices_IndexFunc_Edge_76_b1 _ _) rfl h [0,1,7] [] [] (fun kl kh ids b s=>⟨ofL ([(8,eI s)]++kl),ofH ([]++kh),b+64⟩) ?_;(conv=>whnf);refine And.intro ?_ (fun s m h=>HT_st ?_)
 · refine weak_k ?_;conv=>whnf
   exact And.intro rfl (And.intro (aLc wkI (aLc (wkr (lsL fun _=>(lo_TEdge _))) (aLc (WkR_fn VsR_nil (VsR_cons (wkr (lsE (lsC (lsI _ _) (lsC (lsL fun _=>(lo_TEdge _)) lsN)))) VsR_nil)) (aLc wkI aLn)))) aLn)
 replace h:=W_bslices_IndexFunc_Edge_76_b1 (W_bd h)
 refine HT_fr dCo rfl fun K hK=>?_;conv=>whnf
 refine hK _ _ _ ?_;clear hK K
 refine HT_seq ?_
 refine HT_if fun K1 K2 hK1 hK2=>?_;conv=>whnf
 refine cLk h (fun _ h=>?_) (fun _ h=>?_)
 · refine hK1 ?_;clear hK1 hK2 K1 K2
   refine HT_skip ?_
   refine tHn ?_
   refine HT_seq ?_
   refine HT_block ?_
   refine HT_fr dCo rfl fun K hK=>?_;conv=>whnf
   refine hK _ _ _ ?_;clear hK K
   refine HT_fr dCo rfl fun K hK=>?_;conv=>whnf
   refine ix_lk h fun _ h=>?_;conv=>whnf
   refine nlA rfl ?_;conv=>whnf
   replace h:=W_bd h
   refine flow_Valid_1_calls h76 h (WkL.refl _) (fun _ h=>?_);conv=>whnf
   refine hK _ _ _ ?_;clear hK K
   refine HT_if fun K1 K2 hK1 hK2=>?_;conv=>whnf
   refine cLk h (fun _ h=>?_) (fun _ h=>?_)
   · refine hK1 ?_;clear hK1 hK2 K1 K2
     refine HT_fr dCo rfl fun K hK=>?_;conv=>whnf
     refine hK _ _ _ ?_;clear hK K
     refine HT_ret ?_
     refine InBlock_r ?_
     refine Then_r ?_
     refine Then_r ?_
     refine InBlock_r ?_
     refine Then_r ?_
     replace h:=W_xrt h
     replace h:=W_inr h
     replace h:=W_some h
     refine PostP_r dCo fun K hK=>?_;conv=>whnf
     refine hK _ ?_;clear hK K
     cases h
     exact Wk.refl _
   refine hK2 ?_;clear hK1 hK2 K1 K2
   refine HT_skip ?_
   refine iBn ?_
   refine tHn ?_
   refine HT_f dCo rfl fun K hK=>?_;conv=>whnf
   refine hK _ _ _ ?_;clear hK K
   refine tHn ?_
   replace h:=W_xnx h
   refine ⟨_,h,?_⟩
   refine weak_k ?_;conv=>whnf
   exact And.intro rfl (And.intro (aLc wkI (aLc (wkr (lsL fun _=>(lo_TEdge _))) (aLc (WkR_fn VsR_nil (VsR_cons (wkr (lsE (lsC (lsI _ _) (lsC (lsL fun _=>(lo_TEdge _)) lsN)))) VsR_nil)) (aLc wkI aLn)))) aLn)
 refine hK2 ?_;clear hK1 hK2 K1 K2
 refine HT_exit ?_
 refine Then_e ?_
 refine Then_e ?_
 refine InBlock_e ?_
 replace h:=W_xbk h
 replace h:=W_inl h
 refine tHn ?_
 refine HT_fr dCo rfl fun K hK=>?_;conv=>whnf
 refine hK _ _ _ ?_;clear hK K
 refine HT_ret ?_
 replace h:=W_some h
 refine PostP_r dCo fun K hK=>?_;conv=>whnf
 refine hK _ ?_;clear hK K
 cases h
 exact Wk.refl _
def slices_IndexFunc_Edge_S:List AV→AV→Prop:=fun args r=>slices_IndexFunc_Edge_68_S args r∨slices_IndexFunc_Edge_76_S args r
theorem slices_IndexFunc_Edge_68_call {T:Tbl} (hT:T 67=pureR slices_IndexFunc_Edge_S) {args:List AV} {hp:Heap} {id:Nat} {k:AV→Prop} {a0:List TEdge} {Φ:Int→Prop} (h:W (slices_IndexFunc_Edge_68_F a0) Φ) (hw:WkL args [(eL 3 eTEdge default) a0,.fn 68 [] []]) (hk:∀ y,Φ y→k (eI y)):callpK T 67 args hp id k:=by
 obtain ⟨y,e,hy⟩:=W_inv h
 exact callpK_pure hT (.inl ⟨a0,rfl,W_of e rfl⟩) (by exact (lsI _ _)) hw (hk y hy)
theorem slices_IndexFunc_Edge_76_call {T:Tbl} (hT:T 67=pureR slices_IndexFunc_Edge_S) {args:List AV} {hp:Heap} {id:Nat} {k:AV→Prop} {a0:List TEdge} {c910:TNet} {Φ:Int→Prop} (h:W (slices_IndexFunc_Edge_76_F a0 c910) Φ) (hw:WkL args [(eL 3 eTEdge default) a0,.fn 76 [] [.ep [eI c910.N,(eL 3 eTEdge default) c910.Edges] 0]]) (hk:∀ y,Φ y→k (eI y)):callpK T 67 args hp id k:=by
 obtain ⟨y,e,hy⟩:=W_inv h
 exact callpK_pure hT (.inr ⟨a0,c910,rfl,W_of e rfl⟩) (by exact (lsI _ _)) hw (hk y hy)
theorem slices_IndexFunc_Edge_ok {T:Tbl} (hT:TOk Try.prog T) (hpf:PfOk T PF) (h68:T 68=pureR reserve_left_1_S) (h76:T 76=pureR flow_Valid_1_S):FOk Try.prog 67 (pureR slices_IndexFunc_Edge_S):=(FOk_or (slices_IndexFunc_Edge_68_ok hT hpf h68) (slices_IndexFunc_Edge_76_ok hT hpf h76))
def slices_ContainsFunc_Edge_76_F (a0:List TEdge) (c910:TNet):Option Bool:=bd (slices_IndexFunc_Edge_76_F a0 c910) fun y1=>some (decide (y1≥0))
def slices_ContainsFunc_Edge_76_S:List AV→AV→Prop:=fun args r=>∃ a0 c910,args=[(eL 3 eTEdge default) a0,.fn 76 [] [.ep [eI c910.N,(eL 3 eTEdge default) c910.Edges] 0]]∧W (slices_ContainsFunc_Edge_76_F a0 c910) fun y=>r=(eB y)
theorem slices_ContainsFunc_Edge_76_ok {T:Tbl} (hT:TOk Try.prog T) (hpf:PfOk T PF) (h67:T 67=pureR slices_IndexFunc_Edge_S):FOk Try.prog 77 (pureR slices_ContainsFunc_Edge_76_S):=by
 refine FOk_pure hT hpf Try.func77 rfl Try.ntmps77 Try.results77 (by decide) ?_
 rintro args r ⟨a0,c910,rfl,h⟩
 refine ⟨nle rfl,?_,?_⟩
 · exact (lsC (lsL fun _=>(lo_TEdge _)) (lsC (loose_fn lsN (lsC (lsE (lsC (lsI _ _) (lsC (lsL fun _=>(lo_TEdge _)) lsN))) lsN)) lsN))
 rw [slices_ContainsFunc_Edge_76_F.eq_1] at h
 refine HT_fr dCo rfl fun K hK=>?_;conv=>whnf
 refine hK _ _ _ ?_;clear hK K
 refine HT_fr dCo rfl fun K hK=>?_;conv=>whnf
 replace h:=W_bd h
 refine slices_IndexFunc_Edge_76_call h67 h (WkL.refl _) (fun _ h=>?_);conv=>whnf
 refine hK _ _ _ ?_;clear hK K
 refine HT_ret ?_
 replace h:=W_some h
 refine PostP_r dCo fun K hK=>?_;conv=>whnf
 refine hK _ ?_;clear hK K
 cases h
 exact Wk.refl _
def slices_ContainsFunc_Edge_S:List AV→AV→Prop:=fun args r=>slices_ContainsFunc_Edge_76_S args r
theorem slices_ContainsFunc_Edge_76_call {T:Tbl} (hT:T 77=pureR slices_ContainsFunc_Edge_S) {args:List AV} {hp:Heap} {id:Nat} {k:AV→Prop} {a0:List TEdge} {c910:TNet} {Φ:Bool→Prop} (h:W (slices_ContainsFunc_Edge_76_F a0 c910) Φ) (hw:WkL args [(eL 3 eTEdge default) a0,.fn 76 [] [.ep [eI c910.N,(eL 3 eTEdge default) c910.Edges] 0]]) (hk:∀ y,Φ y→k (eB y)):callpK T 77 args hp id k:=by
 obtain ⟨y,e,hy⟩:=W_inv h
 exact callpK_pure hT ⟨a0,c910,rfl,W_of e rfl⟩ (by exact (lsB _)) hw (hk y hy)
theorem slices_ContainsFunc_Edge_ok {T:Tbl} (hT:TOk Try.prog T) (hpf:PfOk T PF) (h67:T 67=pureR slices_IndexFunc_Edge_S):FOk Try.prog 77 (pureR slices_ContainsFunc_Edge_S):=(slices_ContainsFunc_Edge_76_ok hT hpf h67)
def flow_Valid_F (a0:TNet):Option Bool:=jn (fun p1:Bool=>cn p1 (some false) (bd (slices_ContainsFunc_Edge_76_F a0.Edges a0) fun y4=>some (!y4))) fun k2=>
   bd (flow_isIn_F a0.N 0 12) fun y3=>cn (!y3) (k2 true) (k2 (decide ((a0.Edges.length:Int)>40)))
def flow_Valid_S:List AV→AV→Prop:=fun args r=>∃ a0,args=[eTNet a0]∧W (flow_Valid_F a0) fun y=>r=(eB y)
theorem flow_Valid_ok {T:Tbl} (hT:TOk Try.prog T) (hpf:PfOk T PF) (h40:T 40=pureR flow_isIn_S) (h77:T 77=pureR slices_ContainsFunc_Edge_S):FOk Try.prog 47 (pureR flow_Valid_S):=by
 refine FOk_pure hT hpf Try.func47 rfl Try.ntmps47 Try.results47 (by decide) ?_
 rintro args r ⟨a0,rfl,h⟩
 refine ⟨nle rfl,?_,?_⟩
 · exact (lsC (lo_TNet _) lsN)
 rw [flow_Valid_F.eq_1] at h
 refine HT_fr dCo rfl fun K hK=>?_;conv=>whnf
 refine hK _ _ _ ?_;clear hK K
 refine HT_seq ?_
 refine HT_fr dCo rfl fun K hK=>?_;conv=>whnf
 replace h:=W_jn h
 refine nlA rfl ?_;conv=>whnf
 refine bKo rfl ?_;conv=>whnf
 refine gKo rfl ?_;conv=>whnf
 replace h:=W_bd h
 refine flow_isIn_call h40 h (WkL.refl _) (fun _ h=>?_);conv=>whnf
 refine cLk h (fun _ h=>?_) (fun _ h=>?_)<;>(conv=>whnf)
 · refine hK _ _ _ ?_;clear hK K
   refine HT_if fun K1 K2 hK1 hK2=>?_;conv=>whnf
   refine hK1 ?_;clear hK1 hK2 K1 K2
   replace h:=W_cnT h
   refine HT_fr dCo rfl fun K hK=>?_;conv=>whnf
   refine hK _ _ _ ?_;clear hK K
   refine HT_ret ?_
   refine Then_r ?_
   replace h:=W_some h
   refine PostP_r dCo fun K hK=>?_;conv=>whnf
   refine hK _ ?_;clear hK K
   cases h
   exact Wk.refl _
 refine nlA rfl ?_;conv=>whnf
 refine bKo rfl ?_;conv=>whnf
 refine gKo rfl ?_;conv=>whnf
 refine hK _ _ _ ?_;clear hK K
 refine HT_if fun K1 K2 hK1 hK2=>?_;conv=>whnf
 refine cLk h (fun _ h=>?_) (fun _ h=>?_)
 · refine hK1 ?_;clear hK1 hK2 K1 K2
   refine HT_fr dCo rfl fun K hK=>?_;conv=>whnf
   refine hK _ _ _ ?_;clear hK K
   refine HT_ret ?_
   refine Then_r ?_
   replace h:=W_some h
   refine PostP_r dCo fun K hK=>?_;conv=>whnf
   refine hK _ ?_;clear hK K
   cases h
   exact Wk.refl _
 refine hK2 ?_;clear hK1 hK2 K1 K2
 refine HT_skip ?_
 refine tHn ?_
 refine HT_frzK 1 ?_;(conv=>whnf);refine ⟨_,rfl,?_⟩
 refine HT_fr dCo rfl fun K hK=>?_;conv=>whnf
 refine hK _ _ _ ?_;clear hK K
 refine HT_fr dCo rfl fun K hK=>?_;conv=>whnf
 refine gKo rfl ?_;conv=>whnf
 replace h:=W_bd h
 refine slices_ContainsFunc_Edge_76_call h77 h (WkL.refl _) (fun _ h=>?_);conv=>whnf
 refine hK _ _ _ ?_;clear hK K
 refine HT_ret ?_
 replace h:=W_some h
 refine PostP_r dCo fun K hK=>?_;conv=>whnf
 refine hK _ ?_;clear hK K
 cases h
 exact Wk.refl _
theorem flow_Valid_call {T:Tbl} (hT:T 47=pureR flow_Valid_S) {args:List AV} {hp:Heap} {id:Nat} {k:AV→Prop} {a0:TNet} {Φ:Bool→Prop} (h:W (flow_Valid_F a0) Φ) (hw:WkL args [eTNet a0]) (hk:∀ y,Φ y→k (eB y)):callpK T 47 args hp id k:=by
 obtain ⟨y,e,hy⟩:=W_inv h
 exact callpK_pure hT ⟨a0,rfl,W_of e rfl⟩ (by exact (lsB _)) hw (hk y hy)
def slices_IndexFunc_int_50_b1 (a0:List Int) (c910:Int) (s1:Int):Option (Ct Int Int):=cn (decide (s1<(a0.length:Int))) (ix a0 default s1 fun e2=>
   bd (reserve_Valid_1_1_F e2 c910) fun y3=>cn y3 (some (.rt s1)) (some (.nx (wr (s1+1))))) (some (.bk s1))
theorem W_bslices_IndexFunc_int_50_b1 {a0:List Int} {c910:Int} {s1:Int} {Φ:Ct Int Int→Prop} (h:W (slices_IndexFunc_int_50_b1 a0 c910 s1) Φ):W (cn (decide (s1<(a0.length:Int))) (ix a0 default s1 fun e2=>bd (reserve_Valid_1_1_F e2 c910) fun y3=>cn y3 (some (.rt s1)) (some (.nx (wr (s1+1))))) (some (.bk s1))) Φ:=h
def slices_IndexFunc_int_50_F (a0:List Int) (c910:Int):Option Int:=bd (lp (slices_IndexFunc_int_50_b1 a0 c910) FU 0) fun c4=>smK c4 (fun s5=>some (-1)) (fun r6=>
   some r6)
def slices_IndexFunc_int_50_S:List AV→AV→Prop:=fun args r=>∃ a0 c910,args=[(eL 1 eI default) a0,.fn 50 [] [.ep [eI c910] 0]]∧W (slices_IndexFunc_int_50_F a0 c910) fun y=>r=(eI y)
theorem slices_IndexFunc_int_50_ok {T:Tbl} (hT:TOk Try.prog T) (hpf:PfOk T PF) (h50:T 50=pureR reserve_Valid_1_1_S):FOk Try.prog 78 (pureR slices_IndexFunc_int_50_S):=by
 refine FOk_pure hT hpf Try.func78 rfl Try.ntmps78 Try.results78 (by decide) ?_
 rintro args r ⟨a0,c910,rfl,h⟩
 refine ⟨nle rfl,?_,?_⟩
 · exact (lsC (lsL fun _=>(lsI _ _)) (lsC (loose_fn lsN (lsC (lsE (lsC (lsI _ _) lsN)) lsN)) lsN))
 rw [slices_IndexFunc_int_50_F.eq_1] at h
 refine HT_fr dCo rfl fun K hK=>?_;conv=>whnf
 refine hK _ _ _ ?_;clear hK K
 refine HT_seq ?_
 refine HT_fr dCo rfl fun K hK=>?_;conv=>whnf
 refine hK _ _ _ ?_;clear hK K
 refine HT_block ?_
 replace h:=W_bd h
 refine HT_lpK (body:=slices_IndexFunc_int_50_b1 _ _) rfl h [0,1,7] [] [] (fun kl kh ids b s=>⟨ofL ([(8,eI s)]++kl),ofH ([]++kh),b+64⟩) ?_;(conv=>whnf);refine And.intro ?_ (fun s m h=>HT_st ?_)
 · refine weak_k ?_;conv=>whnf
   exact And.intro rfl (And.intro (aLc wkI (aLc (wkr (lsL fun _=>(lsI _ _))) (aLc (WkR_fn VsR_nil (VsR_cons (wkr (lsE (lsC (lsI _ _) lsN))) VsR_nil)) (aLc wkI aLn)))) aLn)
 replace h:=W_bslices_IndexFunc_int_50_b1 (W_bd h)
 refine HT_fr dCo rfl fun K hK=>?_;conv=>whnf
 refine hK _ _ _ ?_;clear hK K
 refine HT_seq ?_
 refine HT_if fun K1 K2 hK1 hK2=>?_;conv=>whnf
 refine cLk h (fun _ h=>?_) (fun _ h=>?_)
 · refine hK1 ?_;clear hK1 hK2 K1 K2
   refine HT_skip ?_
   refine tHn ?_
   refine HT_seq ?_
   refine HT_block ?_
   refine HT_fr dCo rfl fun K hK=>?_;conv=>whnf
   refine hK _ _ _ ?_;clear hK K
   refine HT_fr dCo rfl fun K hK=>?_;conv=>whnf
   refine ix_lk h fun _ h=>?_;conv=>whnf
   refine gKo rfl ?_;conv=>whnf
   replace h:=W_bd h
   refine reserve_Valid_1_1_calls h50 h (WkL.refl _) (fun _ h=>?_);conv=>whnf
   refine hK _ _ _ ?_;clear hK K
   refine HT_if fun K1 K2 hK1 hK2=>?_;conv=>whnf
   refine cLk h (fun _ h=>?_) (fun _ h=>?_)
   · refine hK1 ?_;clear hK1 hK2 K1 K2
     refine HT_fr dCo rfl fun K hK=>?_;conv=>whnf
     refine hK _ _ _ ?_;clear hK K
     refine HT_ret ?_
     refine InBlock_r ?_
     refine Then_r ?_
     refine Then_r ?_
     refine InBlock_r ?_
     refine Then_r ?_
     replace h:=W_xrt h
     replace h:=W_inr h
     replace h:=W_some h
     refine PostP_r dCo fun K hK=>?_;conv=>whnf
     refine hK _ ?_;clear hK K
     cases h
     exact Wk.refl _
   refine hK2 ?_;clear hK1 hK2 K1 K2
   refine HT_skip ?_
   refine iBn ?_
   refine tHn ?_
   refine HT_f dCo rfl fun K hK=>?_;conv=>whnf
   refine hK _ _ _ ?_;clear hK K
   refine tHn ?_
   replace h:=W_xnx h
   refine ⟨_,h,?_⟩
   refine weak_k ?_;conv=>whnf
   exact And.intro rfl (And.intro (aLc wkI (aLc (wkr (lsL fun _=>(lsI _ _))) (aLc (WkR_fn VsR_nil (VsR_cons (wkr (lsE (lsC (lsI _ _) lsN))) VsR_nil)) (aLc wkI aLn)))) aLn)
 refine hK2 ?_;clear hK1 hK2 K1 K2
 refine HT_exit ?_
 refine Then_e ?_
 refine Then_e ?_
 refine InBlock_e ?_
 replace h:=W_xbk h
 replace h:=W_inl h
 refine tHn ?_
 refine HT_fr dCo rfl fun K hK=>?_;conv=>whnf
 refine hK _ _ _ ?_;clear hK K
 refine HT_ret ?_
 replace h:=W_some h
 refine PostP_r dCo fun K hK=>?_;conv=>whnf
 refine hK _ ?_;clear hK K
 cases h
 exact Wk.refl _
def slices_IndexFunc_int_S:List AV→AV→Prop:=fun args r=>slices_IndexFunc_int_50_S args r
theorem slices_IndexFunc_int_50_call {T:Tbl} (hT:T 78=pureR slices_IndexFunc_int_S) {args:List AV} {hp:Heap} {id:Nat} {k:AV→Prop} {a0:List Int} {c910:Int} {Φ:Int→Prop} (h:W (slices_IndexFunc_int_50_F a0 c910) Φ) (hw:WkL args [(eL 1 eI default) a0,.fn 50 [] [.ep [eI c910] 0]]) (hk:∀ y,Φ y→k (eI y)):callpK T 78 args hp id k:=by
 obtain ⟨y,e,hy⟩:=W_inv h
 exact callpK_pure hT ⟨a0,c910,rfl,W_of e rfl⟩ (by exact (lsI _ _)) hw (hk y hy)
theorem slices_IndexFunc_int_ok {T:Tbl} (hT:TOk Try.prog T) (hpf:PfOk T PF) (h50:T 50=pureR reserve_Valid_1_1_S):FOk Try.prog 78 (pureR slices_IndexFunc_int_S):=(slices_IndexFunc_int_50_ok hT hpf h50)
def slices_ContainsFunc_int_50_F (a0:List Int) (c910:Int):Option Bool:=bd (slices_IndexFunc_int_50_F a0 c910) fun y1=>some (decide (y1≥0))
def slices_ContainsFunc_int_50_S:List AV→AV→Prop:=fun args r=>∃ a0 c910,args=[(eL 1 eI default) a0,.fn 50 [] [.ep [eI c910] 0]]∧W (slices_ContainsFunc_int_50_F a0 c910) fun y=>r=(eB y)
theorem slices_ContainsFunc_int_50_ok {T:Tbl} (hT:TOk Try.prog T) (hpf:PfOk T PF) (h78:T 78=pureR slices_IndexFunc_int_S):FOk Try.prog 51 (pureR slices_ContainsFunc_int_50_S):=by
 refine FOk_pure hT hpf Try.func51 rfl Try.ntmps51 Try.results51 (by decide) ?_
 rintro args r ⟨a0,c910,rfl,h⟩
 refine ⟨nle rfl,?_,?_⟩
 · exact (lsC (lsL fun _=>(lsI _ _)) (lsC (loose_fn lsN (lsC (lsE (lsC (lsI _ _) lsN)) lsN)) lsN))
 rw [slices_ContainsFunc_int_50_F.eq_1] at h
 refine HT_fr dCo rfl fun K hK=>?_;conv=>whnf
 refine hK _ _ _ ?_;clear hK K
 refine HT_fr dCo rfl fun K hK=>?_;conv=>whnf
 replace h:=W_bd h
 refine slices_IndexFunc_int_50_call h78 h (WkL.refl _) (fun _ h=>?_);conv=>whnf
 refine hK _ _ _ ?_;clear hK K
 refine HT_ret ?_
 replace h:=W_some h
 refine PostP_r dCo fun K hK=>?_;conv=>whnf
 refine hK _ ?_;clear hK K
 cases h
 exact Wk.refl _
def slices_ContainsFunc_int_S:List AV→AV→Prop:=fun args r=>slices_ContainsFunc_int_50_S args r
theorem slices_ContainsFunc_int_50_call {T:Tbl} (hT:T 51=pureR slices_ContainsFunc_int_S) {args:List AV} {hp:Heap} {id:Nat} {k:AV→Prop} {a0:List Int} {c910:Int} {Φ:Bool→Prop} (h:W (slices_ContainsFunc_int_50_F a0 c910) Φ) (hw:WkL args [(eL 1 eI default) a0,.fn 50 [] [.ep [eI c910] 0]]) (hk:∀ y,Φ y→k (eB y)):callpK T 51 args hp id k:=by
 obtain ⟨y,e,hy⟩:=W_inv h
 exact callpK_pure hT ⟨a0,c910,rfl,W_of e rfl⟩ (by exact (lsB _)) hw (hk y hy)
theorem slices_ContainsFunc_int_ok {T:Tbl} (hT:TOk Try.prog T) (hpf:PfOk T PF) (h78:T 78=pureR slices_IndexFunc_int_S):FOk Try.prog 51 (pureR slices_ContainsFunc_int_S):=(slices_ContainsFunc_int_50_ok hT hpf h78)
def reserve_Valid_1_S:List AV→AV→Prop:=fun args r=>∃ a0,args=[eI a0]∧r=.fn 50 [] [.ep [eI a0] 0]
theorem reserve_Valid_1_ok {T:Tbl} (hT:TOk Try.prog T) (hpf:PfOk T PF):FOk Try.prog 49 (pureR reserve_Valid_1_S):=by
 refine FOk_pure hT hpf Try.func49 rfl Try.ntmps49 Try.results49 (by decide) ?_
 rintro args r ⟨a0,rfl,rfl⟩
 refine ⟨nle rfl,?_,?_⟩
 · exact (lsC (lsI _ _) lsN)
 refine HT_fr dCo rfl fun K hK=>?_;conv=>whnf
 refine hK _ _ _ ?_;clear hK K
 refine HT_frzK 1 ?_;(conv=>whnf);refine ⟨_,rfl,?_⟩
 refine HT_fr dCo rfl fun K hK=>?_;conv=>whnf
 refine hK _ _ _ ?_;clear hK K
 refine HT_ret ?_
 refine PostP_r dCo fun K hK=>?_;conv=>whnf
 refine hK _ ?_;clear hK K
 exact Wk.refl _
def slices_IndexFunc_Ordinary_53_b1 (a0:List TOrdinary) (c910:TReserve) (s1:Int):Option (Ct Int Int):=cn (decide (s1<(a0.length:Int))) (ix a0 default s1 fun e2=>
   bd (reserve_Valid_2_F e2 c910) fun y3=>cn y3 (some (.rt s1)) (some (.nx (wr (s1+1))))) (some (.bk s1))
theorem W_bslices_IndexFunc_Ordinary_53_b1 {a0:List TOrdinary} {c910:TReserve} {s1:Int} {Φ:Ct Int Int→Prop} (h:W (slices_IndexFunc_Ordinary_53_b1 a0 c910 s1) Φ):W (cn (decide (s1<(a0.length:Int))) (ix a0 default s1 fun e2=>bd (reserve_Valid_2_F e2 c910) fun y3=>cn y3 (some (.rt s1)) (some (.nx (wr (s1+1))))) (some (.bk s1))) Φ:=h
def slices_IndexFunc_Ordinary_53_F (a0:List TOrdinary) (c910:TReserve):Option Int:=bd (lp (slices_IndexFunc_Ordinary_53_b1 a0 c910) FU 0) fun c4=>smK c4 (fun s5=>
   some (-1)) (fun r6=>some r6)
def slices_IndexFunc_Ordinary_53_S:List AV→AV→Prop:=fun args r=>∃ a0 c910,args=[(eL 2 eTOrdinary default) a0,.fn 53 [] [.ep [eI c910.Net.N,(eL 3 eTEdge default) c910.Net.Edges,(eL 1 eI default) c910.Urgent,(eL 1 eI default) c910.Centres,eI c910.Faults,(eL 2 eTOrdinary default) c910.Calls] 0]]∧W (slices_IndexFunc_Ordinary_53_F a0 c910) fun y=>r=(eI y)
theorem slices_IndexFunc_Ordinary_53_ok {T:Tbl} (hT:TOk Try.prog T) (hpf:PfOk T PF) (h53:T 53=pureR reserve_Valid_2_S):FOk Try.prog 79 (pureR slices_IndexFunc_Ordinary_53_S):=by
 refine FOk_pure hT hpf Try.func79 rfl Try.ntmps79 Try.results79 (by decide) ?_
 rintro args r ⟨a0,c910,rfl,h⟩
 refine ⟨nle rfl,?_,?_⟩
 · exact (lsC (lsL fun _=>(lo_TOrdinary _)) (lsC (loose_fn lsN (lsC (lsE (lsC (lsI _ _) (lsC (lsL fun _=>(lo_TEdge _)) (lsC (lsL fun _=>(lsI _ _)) (lsC (lsL fun _=>(lsI _ _)) (lsC (lsI _ _) (lsC (lsL fun _=>(lo_TOrdinary _)) lsN))))))) lsN)) lsN))
 rw [slices_IndexFunc_Ordinary_53_F.eq_1] at h
 refine HT_fr dCo rfl fun K hK=>?_;conv=>whnf
 refine hK _ _ _ ?_;clear hK K
 refine HT_seq ?_
 refine HT_fr dCo rfl fun K hK=>?_;conv=>whnf
 refine hK _ _ _ ?_;clear hK K
 refine HT_block ?_
 replace h:=W_bd h
 refine HT_lpK (body:=slices_IndexFunc_Ordinary_53_b1 _ _) rfl h [0,1,7] [] [] (fun kl kh ids b s=>⟨ofL ([(8,eI s)]++kl),ofH ([]++kh),b+64⟩) ?_;(conv=>whnf);refine And.intro ?_ (fun s m h=>HT_st ?_)
 · refine weak_k ?_;conv=>whnf
   exact And.intro rfl (And.intro (aLc wkI (aLc (wkr (lsL fun _=>(lo_TOrdinary _))) (aLc (WkR_fn VsR_nil (VsR_cons (wkr (lsE (lsC (lsI _ _) (lsC (lsL fun _=>(lo_TEdge _)) (lsC (lsL fun _=>(lsI _ _)) (lsC (lsL fun _=>(lsI _ _)) (lsC (lsI _ _) (lsC (lsL fun _=>(lo_TOrdinary _)) lsN)))))))) VsR_nil)) (aLc wkI aLn)))) aLn)
 replace h:=W_bslices_IndexFunc_Ordinary_53_b1 (W_bd h)
 refine HT_fr dCo rfl fun K hK=>?_;conv=>whnf
 refine hK _ _ _ ?_;clear hK K
 refine HT_seq ?_
 refine HT_if fun K1 K2 hK1 hK2=>?_;conv=>whnf
 refine cLk h (fun _ h=>?_) (fun _ h=>?_)
 · refine hK1 ?_;clear hK1 hK2 K1 K2
   refine HT_skip ?_
   refine tHn ?_
   refine HT_seq ?_
   refine HT_block ?_
   refine HT_fr dCo rfl fun K hK=>?_;conv=>whnf
   refine hK _ _ _ ?_;clear hK K
   refine HT_fr dCo rfl fun K hK=>?_;conv=>whnf
   refine ix_lk h fun _ h=>?_;conv=>whnf
   refine nlA rfl ?_;conv=>whnf
   replace h:=W_bd h
   refine reserve_Valid_2_calls h53 h (WkL.refl _) (fun _ h=>?_);conv=>whnf
   refine hK _ _ _ ?_;clear hK K
   refine HT_if fun K1 K2 hK1 hK2=>?_;conv=>whnf
   refine cLk h (fun _ h=>?_) (fun _ h=>?_)
   · refine hK1 ?_;clear hK1 hK2 K1 K2
     refine HT_fr dCo rfl fun K hK=>?_;conv=>whnf
     refine hK _ _ _ ?_;clear hK K
     refine HT_ret ?_
     refine InBlock_r ?_
     refine Then_r ?_
     refine Then_r ?_
     refine InBlock_r ?_
     refine Then_r ?_
     replace h:=W_xrt h
     replace h:=W_inr h
     replace h:=W_some h
     refine PostP_r dCo fun K hK=>?_;conv=>whnf
     refine hK _ ?_;clear hK K
     cases h
     exact Wk.refl _
   refine hK2 ?_;clear hK1 hK2 K1 K2
   refine HT_skip ?_
   refine iBn ?_
   refine tHn ?_
   refine HT_f dCo rfl fun K hK=>?_;conv=>whnf
   refine hK _ _ _ ?_;clear hK K
   refine tHn ?_
   replace h:=W_xnx h
   refine ⟨_,h,?_⟩
   refine weak_k ?_;conv=>whnf
   exact And.intro rfl (And.intro (aLc wkI (aLc (wkr (lsL fun _=>(lo_TOrdinary _))) (aLc (WkR_fn VsR_nil (VsR_cons (wkr (lsE (lsC (lsI _ _) (lsC (lsL fun _=>(lo_TEdge _)) (lsC (lsL fun _=>(lsI _ _)) (lsC (lsL fun _=>(lsI _ _)) (lsC (lsI _ _) (lsC (lsL fun _=>(lo_TOrdinary _)) lsN)))))))) VsR_nil)) (aLc wkI aLn)))) aLn)
 refine hK2 ?_;clear hK1 hK2 K1 K2
 refine HT_exit ?_
 refine Then_e ?_
 refine Then_e ?_
 refine InBlock_e ?_
 replace h:=W_xbk h
 replace h:=W_inl h
 refine tHn ?_
 refine HT_fr dCo rfl fun K hK=>?_;conv=>whnf
 refine hK _ _ _ ?_;clear hK K
 refine HT_ret ?_
 replace h:=W_some h
 refine PostP_r dCo fun K hK=>?_;conv=>whnf
 refine hK _ ?_;clear hK K
 cases h
 exact Wk.refl _
def slices_IndexFunc_Ordinary_S:List AV→AV→Prop:=fun args r=>slices_IndexFunc_Ordinary_53_S args r
theorem slices_IndexFunc_Ordinary_53_call {T:Tbl} (hT:T 79=pureR slices_IndexFunc_Ordinary_S) {args:List AV} {hp:Heap} {id:Nat} {k:AV→Prop} {a0:List TOrdinary} {c910:TReserve} {Φ:Int→Prop} (h:W (slices_IndexFunc_Ordinary_53_F a0 c910) Φ) (hw:WkL args [(eL 2 eTOrdinary default) a0,.fn 53 [] [.ep [eI c910.Net.N,(eL 3 eTEdge default) c910.Net.Edges,(eL 1 eI default) c910.Urgent,(eL 1 eI default) c910.Centres,eI c910.Faults,(eL 2 eTOrdinary default) c910.Calls] 0]]) (hk:∀ y,Φ y→k (eI y)):callpK T 79 args hp id k:=by
 obtain ⟨y,e,hy⟩:=W_inv h
 exact callpK_pure hT ⟨a0,c910,rfl,W_of e rfl⟩ (by exact (lsI _ _)) hw (hk y hy)
theorem slices_IndexFunc_Ordinary_ok {T:Tbl} (hT:TOk Try.prog T) (hpf:PfOk T PF) (h53:T 53=pureR reserve_Valid_2_S):FOk Try.prog 79 (pureR slices_IndexFunc_Ordinary_S):=(slices_IndexFunc_Ordinary_53_ok hT hpf h53)
def slices_ContainsFunc_Ordinary_53_F (a0:List TOrdinary) (c910:TReserve):Option Bool:=bd (slices_IndexFunc_Ordinary_53_F a0 c910) fun y1=>some (decide (y1≥0))
def slices_ContainsFunc_Ordinary_53_S:List AV→AV→Prop:=fun args r=>∃ a0 c910,args=[(eL 2 eTOrdinary default) a0,.fn 53 [] [.ep [eI c910.Net.N,(eL 3 eTEdge default) c910.Net.Edges,(eL 1 eI default) c910.Urgent,(eL 1 eI default) c910.Centres,eI c910.Faults,(eL 2 eTOrdinary default) c910.Calls] 0]]∧W (slices_ContainsFunc_Ordinary_53_F a0 c910) fun y=>r=(eB y)
theorem slices_ContainsFunc_Ordinary_53_ok {T:Tbl} (hT:TOk Try.prog T) (hpf:PfOk T PF) (h79:T 79=pureR slices_IndexFunc_Ordinary_S):FOk Try.prog 52 (pureR slices_ContainsFunc_Ordinary_53_S):=by
 refine FOk_pure hT hpf Try.func52 rfl Try.ntmps52 Try.results52 (by decide) ?_
 rintro args r ⟨a0,c910,rfl,h⟩
 refine ⟨nle rfl,?_,?_⟩
 · exact (lsC (lsL fun _=>(lo_TOrdinary _)) (lsC (loose_fn lsN (lsC (lsE (lsC (lsI _ _) (lsC (lsL fun _=>(lo_TEdge _)) (lsC (lsL fun _=>(lsI _ _)) (lsC (lsL fun _=>(lsI _ _)) (lsC (lsI _ _) (lsC (lsL fun _=>(lo_TOrdinary _)) lsN))))))) lsN)) lsN))
 rw [slices_ContainsFunc_Ordinary_53_F.eq_1] at h
 refine HT_fr dCo rfl fun K hK=>?_;conv=>whnf
 refine hK _ _ _ ?_;clear hK K
 refine HT_fr dCo rfl fun K hK=>?_;conv=>whnf
 replace h:=W_bd h
 refine slices_IndexFunc_Ordinary_53_call h79 h (WkL.refl _) (fun _ h=>?_);conv=>whnf
 refine hK _ _ _ ?_;clear hK K
 refine HT_ret ?_
 replace h:=W_some h
 refine PostP_r dCo fun K hK=>?_;conv=>whnf
 refine hK _ ?_;clear hK K
 cases h
 exact Wk.refl _
def slices_ContainsFunc_Ordinary_S:List AV→AV→Prop:=fun args r=>slices_ContainsFunc_Ordinary_53_S args r
theorem slices_ContainsFunc_Ordinary_53_call {T:Tbl} (hT:T 52=pureR slices_ContainsFunc_Ordinary_S) {args:List AV} {hp:Heap} {id:Nat} {k:AV→Prop} {a0:List TOrdinary} {c910:TReserve} {Φ:Bool→Prop} (h:W (slices_ContainsFunc_Ordinary_53_F a0 c910) Φ) (hw:WkL args [(eL 2 eTOrdinary default) a0,.fn 53 [] [.ep [eI c910.Net.N,(eL 3 eTEdge default) c910.Net.Edges,(eL 1 eI default) c910.Urgent,(eL 1 eI default) c910.Centres,eI c910.Faults,(eL 2 eTOrdinary default) c910.Calls] 0]]) (hk:∀ y,Φ y→k (eB y)):callpK T 52 args hp id k:=by
 obtain ⟨y,e,hy⟩:=W_inv h
 exact callpK_pure hT ⟨a0,c910,rfl,W_of e rfl⟩ (by exact (lsB _)) hw (hk y hy)
theorem slices_ContainsFunc_Ordinary_ok {T:Tbl} (hT:TOk Try.prog T) (hpf:PfOk T PF) (h79:T 79=pureR slices_IndexFunc_Ordinary_S):FOk Try.prog 52 (pureR slices_ContainsFunc_Ordinary_S):=(slices_ContainsFunc_Ordinary_53_ok hT hpf h79)
end Go.Proofs.Ytkjccabdpeldhaa
namespace Go.Proofs.Ytkjccabdpeldhaa
open Go Go.Eng
set_option maxHeartbeats 0
set_option maxRecDepth 100000
def flow_leaving_S:List AV→AV→Prop:=fun args r=>∃ a0 a1,args=[eTNet a0,eI a1]∧r=.fn 71 [] [.ep [eI a0.N,(eL 3 eTEdge default) a0.Edges] 0,.ep [eI a1] 0]
theorem flow_leaving_ok {T:Tbl} (hT:TOk Try.prog T) (hpf:PfOk T PF):FOk Try.prog 42 (pureR flow_leaving_S):=by
 refine FOk_pure hT hpf Try.func42 rfl Try.ntmps42 Try.results42 (by decide) ?_
 rintro args r ⟨a0,a1,rfl,rfl⟩
 refine ⟨nle rfl,?_,?_⟩
 · exact (lsC (lo_TNet _) (lsC (lsI _ _) lsN))
 refine HT_fr dCo rfl fun K hK=>?_;conv=>whnf
 refine hK _ _ _ ?_;clear hK K
 refine HT_frzK 2 ?_;(conv=>whnf);refine ⟨_,rfl,?_⟩
 refine HT_frzK 3 ?_;(conv=>whnf);refine ⟨_,rfl,?_⟩
 refine HT_fr dCo rfl fun K hK=>?_;conv=>whnf
 refine hK _ _ _ ?_;clear hK K
 refine HT_ret ?_
 refine PostP_r dCo fun K hK=>?_;conv=>whnf
 refine hK _ ?_;clear hK K
 exact Wk.refl _

   def flow_leaving_1_b1 (a9000:Type) (c900:TNet) (c901:Int) (f9001:Int→a9000→Option a9000) (s1:Int×a9000):Option (Ct (Int×a9000) a9000):=cn (decide (s1.1<(c900.Edges.length:Int))) (ix c900.Edges default s1.1 fun e2=>
   jn (fun p3:a9000=>some (.nx ((wr (s1.1+1)),p3))) fun k4=>gd (0≤e2.From) (cn ((band .i64 (bshr .i64 c901 e2.From) 1) ==
   1) (gd (0≤e2.To) (cn ((band .i64 (bshr .i64 c901 e2.To) 1)==0) (bd (f9001 s1.1 s1.2) fun g5=>k4 g5) (k4 s1.2))) (k4 s1.2))) (some (.bk (s1.1,s1.2)))
theorem W_bflow_leaving_1_b1 {a9000:Type} {c900:TNet} {c901:Int} {f9001:Int→a9000→Option a9000} {s1:Int×a9000} {Φ:Ct (Int×a9000) a9000→Prop} (h:W (flow_leaving_1_b1 a9000 c900 c901 f9001 s1) Φ):W (cn (decide (s1.1<(c900.Edges.length:Int))) (ix c900.Edges default s1.1 fun e2=>jn (fun p3:a9000=>some (.nx ((wr (s1.1+1)),p3))) fun k4=>
   gd (0≤e2.From) (cn ((band .i64 (bshr .i64 c901 e2.From) 1)==1) (gd (0≤e2.To) (cn ((band .i64 (bshr .i64 c901 e2.To) 1)==0) (bd (f9001 s1.1 s1.2) fun g5=>
   k4 g5) (k4 s1.2))) (k4 s1.2))) (some (.bk (s1.1,s1.2)))) Φ:=h

   def flow_leaving_1_F (c900:TNet) (c901:Int) (a9000:Type) (f9001:Int→a9000→Option a9000) (g9002:a9000):Option a9000:=bd (lp (flow_leaving_1_b1 a9000 c900 c901 f9001) FU (0,g9002)) fun c6=>
   smK c6 (fun s7=>some s7.2) (fun r8=>some r8)
def flow_leaving_1_C:List AV→(∀ σ:Type,(Int→σ→Option σ)→σ→Option σ)→Prop:=fun caps F=>∃ c900 c901,caps=[.ep [eI c900.N,(eL 3 eTEdge default) c900.Edges] 0,.ep [eI c901] 0]∧F=flow_leaving_1_F c900 c901
theorem flow_leaving_1_ok {T:Tbl} (hT:TOk Try.prog T) (hpf:PfOk T PF):FOk Try.prog 71 (itR Try.prog (fun x=>[Value.int .i64 x]) flow_leaving_1_C):=by
 refine FOk_it hT hpf Try.func71 rfl Try.ntmps71 Try.results71 (by decide) ?_
 rintro caps F ⟨c900,c901,rfl,rfl⟩
 refine ⟨(lsC (lsE (lsC (lsI _ _) (lsC (lsL fun _=>(lo_TEdge _)) lsN))) (lsC (lsE (lsC (lsI _ _) lsN)) lsN)),nle rfl,fun gS gG a9000 gi f9001 g9002 gfin hP hY h=>?_⟩
 rw [flow_leaving_1_F.eq_1] at h
 refine HT_fr dCo rfl fun K hK=>?_;conv=>whnf
 refine gKo rfl ?_;conv=>whnf
 refine hK _ _ _ ?_;clear hK K
 refine HT_block ?_
 replace h:=W_bd h
 refine HT_lpK (body:=flow_leaving_1_b1 _ _ _ _) rfl h [0,2,7,8] [] [] (fun kl kh ids b s=>⟨ofL ([(9,eI s.1)]++kl),ofH ([(0,.gh gS gG (gi s.2))]++kh),b+64⟩) ?_;(conv=>whnf);refine And.intro ?_ (fun s m h=>HT_st ?_)
 · refine weak_k ?_;conv=>whnf
   exact And.intro rfl (And.intro (aLc wkI (aLc (WkR_yld (fun _=>rfl)) (aLc (wkr (lsE (lsC (lsI _ _) lsN))) (aLc (wkr (lsL fun _=>(lo_TEdge _))) (aLc wkI aLn))))) (aLc ⟨some _,rfl,BkR_g rfl⟩ aLn))
 replace h:=W_bflow_leaving_1_b1 (W_bd h)
 refine HT_fr dCo rfl fun K hK=>?_;conv=>whnf
 refine hK _ _ _ ?_;clear hK K
 refine HT_seq ?_
 refine HT_if fun K1 K2 hK1 hK2=>?_;conv=>whnf
 refine cLk h (fun _ h=>?_) (fun _ h=>?_)
 · refine hK1 ?_;clear hK1 hK2 K1 K2
   refine HT_skip ?_
   refine tHn ?_
   refine HT_seq ?_
   refine HT_block ?_
   refine HT_fr dCo rfl fun K hK=>?_;conv=>whnf
   refine ix_lk h fun _ h=>?_;conv=>whnf
   refine nlA rfl ?_;conv=>whnf
   refine bKo rfl ?_;conv=>whnf
   refine And.intro rfl (And.intro (nle rfl) (And.intro rfl ?_));conv=>whnf
   refine hK _ _ _ ?_;clear hK K
   refine HT_fr dCo rfl fun K hK=>?_;conv=>whnf
   replace h:=W_jn h
   refine gKo rfl ?_;conv=>whnf
   refine nlA rfl ?_;conv=>whnf
   refine bKo rfl ?_;conv=>whnf
   refine gKo rfl ?_;conv=>whnf
   refine gd_lk h fun _ h=>?_;conv=>whnf
   refine cLk h (fun _ h=>?_) (fun _ h=>?_)<;>(conv=>whnf)
   · refine gKo rfl ?_;conv=>whnf
     refine nlA rfl ?_;conv=>whnf
     refine bKo rfl ?_;conv=>whnf
     refine gKo rfl ?_;conv=>whnf
     refine gd_lk h fun _ h=>?_;conv=>whnf
     refine cLk h (fun _ h=>?_) (fun _ h=>?_)<;>(conv=>whnf)
     · refine yld_lk hY hP h rfl (vinv_int _) (fun _ h=>?_);conv=>whnf
       refine hK _ _ _ ?_;clear hK K
       refine HT_if fun K1 K2 hK1 hK2=>?_;conv=>whnf
       refine hK2 ?_;clear hK1 hK2 K1 K2
       refine HT_skip ?_
       refine iBn ?_
       refine tHn ?_
       refine HT_f dCo rfl fun K hK=>?_;conv=>whnf
       refine hK _ _ _ ?_;clear hK K
       refine tHn ?_
       replace h:=W_xnx h
       refine ⟨_,h,?_⟩
       refine weak_k ?_;conv=>whnf
       exact And.intro rfl (And.intro (aLc wkI (aLc (WkR_yld (fun _=>rfl)) (aLc (wkr (lsE (lsC (lsI _ _) lsN))) (aLc (wkr (lsL fun _=>(lo_TEdge _))) (aLc wkI aLn))))) (aLc ⟨some _,rfl,BkR_g rfl⟩ aLn))
     refine hK _ _ _ ?_;clear hK K
     refine HT_if fun K1 K2 hK1 hK2=>?_;conv=>whnf
     refine hK2 ?_;clear hK1 hK2 K1 K2
     refine HT_skip ?_
     refine iBn ?_
     refine tHn ?_
     refine HT_f dCo rfl fun K hK=>?_;conv=>whnf
     refine hK _ _ _ ?_;clear hK K
     refine tHn ?_
     replace h:=W_xnx h
     refine ⟨_,h,?_⟩
     refine weak_k ?_;conv=>whnf
     exact And.intro rfl (And.intro (aLc wkI (aLc (WkR_yld (fun _=>rfl)) (aLc (wkr (lsE (lsC (lsI _ _) lsN))) (aLc (wkr (lsL fun _=>(lo_TEdge _))) (aLc wkI aLn))))) (aLc ⟨some _,rfl,BkR_g rfl⟩ aLn))
   refine hK _ _ _ ?_;clear hK K
   refine HT_if fun K1 K2 hK1 hK2=>?_;conv=>whnf
   refine hK2 ?_;clear hK1 hK2 K1 K2
   refine HT_skip ?_
   refine iBn ?_
   refine tHn ?_
   refine HT_f dCo rfl fun K hK=>?_;conv=>whnf
   refine hK _ _ _ ?_;clear hK K
   refine tHn ?_
   replace h:=W_xnx h
   refine ⟨_,h,?_⟩
   refine weak_k ?_;conv=>whnf
   exact And.intro rfl (And.intro (aLc wkI (aLc (WkR_yld (fun _=>rfl)) (aLc (wkr (lsE (lsC (lsI _ _) lsN))) (aLc (wkr (lsL fun _=>(lo_TEdge _))) (aLc wkI aLn))))) (aLc ⟨some _,rfl,BkR_g rfl⟩ aLn))
 refine hK2 ?_;clear hK1 hK2 K1 K2
 refine HT_exit ?_
 refine Then_e ?_
 refine Then_e ?_
 refine InBlock_e ?_
 replace h:=W_xbk h
 replace h:=W_inl h
 replace h:=W_some h
 cases h
 exact ⟨rfl,rfl⟩
def flow_capacity_b1 (a0:TNet) (x1:Int) (s2:Int):Option Int:=ix a0.Edges default x1 fun e4=>some (wr (s2+e4.Capacity))
def flow_capacity_F (a0:TNet) (a1:Int):Option Int:=bd (flow_leaving_1_F a0 a1 Int (flow_capacity_b1 a0) 0) fun s3=>some s3
def flow_capacity_S:List AV→AV→Prop:=fun args r=>∃ a0 a1,args=[eTNet a0,eI a1]∧W (flow_capacity_F a0 a1) fun y=>r=(eI y)
theorem flow_capacity_ok {T:Tbl} (hT:TOk Try.prog T) (hpf:PfOk T PF) (h42:T 42=pureR flow_leaving_S) (h71:T 71=itR Try.prog (fun x=>[Value.int .i64 x]) flow_leaving_1_C):FOk Try.prog 62 (pureR flow_capacity_S):=by
 refine FOk_pure hT hpf Try.func62 rfl Try.ntmps62 Try.results62 (by decide) ?_
 rintro args r ⟨a0,a1,rfl,h⟩
 refine ⟨nle rfl,?_,?_⟩
 · exact (lsC (lo_TNet _) (lsC (lsI _ _) lsN))
 rw [flow_capacity_F.eq_1] at h
 refine HT_fr dCo rfl fun K hK=>?_;conv=>whnf
 refine hK _ _ _ ?_;clear hK K
 refine HT_fr dCo rfl fun K hK=>?_;conv=>whnf
 refine bKo rfl ?_;conv=>whnf
 refine And.intro rfl (And.intro (nle rfl) (And.intro rfl ?_));conv=>whnf
 refine hK _ _ _ ?_;clear hK K
 refine HT_seq ?_
 refine HT_fr dCo rfl fun K hK=>?_;conv=>whnf
 refine nlA rfl ?_;conv=>whnf
 refine bKo rfl ?_;conv=>whnf
 refine nlA rfl ?_;conv=>whnf
 refine callpK_pure h42 (S:=flow_leaving_S) ⟨a0,a1,rfl,rfl⟩ (loose_fn lsN (lsC (lsE (lsC (lsI _ _) (lsC (lsL fun _=>(lo_TEdge _)) lsN))) (lsC (lsE (lsC (lsI _ _) lsN)) lsN))) (WkL.refl _) ?_;conv=>whnf
 refine hK _ _ _ ?_;clear hK K
 refine HT_block ?_
 refine HT_ancK rfl rfl [2,5,9] [(2,32),(5,33)] ?_;conv=>whnf
 refine And.intro ?_ ?_
 · refine weak_kN ?_;conv=>whnf
   exact And.intro rfl (And.intro (aLc (WkR.ptr (fun _=>rfl)) (aLc (WkR.ptr (fun _=>rfl)) (aLc (WkR_fn VsR_nil (VsR_cons (wkr (lsE (lsC (lsI _ _) (lsC (lsL fun _=>(lo_TEdge _)) lsN)))) (VsR_cons (wkr (lsE (lsC (lsI _ _) lsN))) VsR_nil))) aLn))) (aLc ⟨some _,rfl,bRc rfl (cKc wkI (cKc (wkr (lsL fun _=>(lo_TEdge _))) cKn))⟩ (aLc ⟨some _,rfl,bRc rfl (cKc wkI cKn)⟩ aLn)))
 obtain ⟨gfin,hfin,h⟩:=W_inv (W_bd h)
 refine HT_rngS rfl rfl (fun x=>[eI x]) vx_int (fun _=>rfl) (by decide) h71 rfl (F:=flow_leaving_1_F _ _) hfin ⟨_,_,rfl,rfl⟩ (nle rfl) (aLc (a64_ptr (by decide)) (aLc (a64_ptr (by decide)) (aLc (a64_fn a64_nil (a64_cons (a64_ep (a64_cons (a64_loose (lsI _ _)) (a64_cons (a64_loose (lsL fun _=>(lo_TEdge _))) a64_nil))) (a64_cons (a64_ep (a64_cons (a64_loose (lsI _ _)) a64_nil)) a64_nil))) aLn))) (fun s=>[(32,.cells [eI a0.N,(eL 3 eTEdge default) a0.Edges]),(33,.cells [eI s])]) (fun s=>(aLc rfl (aLc rfl aLn))) (fun x s gfin h=>?_) ?_
 · clear hfin
   rw [flow_capacity_b1.eq_1] at h
   refine HT_f dCo rfl fun K hK=>?_;conv=>whnf
   refine hK _ _ _ ?_;clear hK K
   refine tHn ?_
   refine HT_block ?_
   refine HT_fD dCo mix_ok rfl (by kernel_rfl) fun K hK=>?_;conv=>whnf
   refine nlA rfl ?_;conv=>whnf
   refine bKo rfl ?_;conv=>whnf
   refine gKo rfl ?_;conv=>whnf
   refine nlA rfl ?_;conv=>whnf
   refine bKo rfl ?_;conv=>whnf
   refine gKo rfl ?_;conv=>whnf
   refine ix_lk h fun _ h=>?_;conv=>whnf
   refine gKo rfl ?_;conv=>whnf
   refine bKo rfl ?_;conv=>whnf
   refine And.intro rfl (And.intro (nle rfl) (And.intro rfl ?_));conv=>whnf
   refine hK _ _ _ ?_;clear hK K
   refine iBn ?_
   replace h:=W_some h
   cases h
   refine ⟨rfl,?_⟩
   refine weak_k (l:=[]) ?_;conv=>whnf
   exact And.intro rfl (And.intro aLn (aLc ⟨some _,rfl,bRc rfl (cKc wkI (cKc (wkr (lsL fun _=>(lo_TEdge _))) cKn))⟩ (aLc ⟨some _,rfl,bRc rfl (cKc wkI cKn)⟩ aLn)))
 clear hfin
 refine iBn ?_
 refine tHn ?_
 refine HT_fr dCo rfl fun K hK=>?_;conv=>whnf
 refine nlA rfl ?_;conv=>whnf
 refine bKo rfl ?_;conv=>whnf
 refine gKo rfl ?_;conv=>whnf
 refine hK _ _ _ ?_;clear hK K
 refine HT_ret ?_
 replace h:=W_some h
 refine PostP_r dCo fun K hK=>?_;conv=>whnf
 refine hK _ ?_;clear hK K
 cases h
 exact Wk.refl _
theorem flow_capacity_call {T:Tbl} (hT:T 62=pureR flow_capacity_S) {args:List AV} {hp:Heap} {id:Nat} {k:AV→Prop} {a0:TNet} {a1:Int} {Φ:Int→Prop} (h:W (flow_capacity_F a0 a1) Φ) (hw:WkL args [eTNet a0,eI a1]) (hk:∀ y,Φ y→k (eI y)):callpK T 62 args hp id k:=by
 obtain ⟨y,e,hy⟩:=W_inv h
 exact callpK_pure hT ⟨a0,a1,rfl,W_of e rfl⟩ (by exact (lsI _ _)) hw (hk y hy)
end Go.Proofs.Ytkjccabdpeldhaa
namespace Go.Proofs.Ytkjccabdpeldhaa
open Go Go.Eng
set_option maxHeartbeats 0
set_option maxRecDepth 100000
def reserve_Valid_F (a0:TReserve):Option Bool:=jn (fun p1:Bool=>cn p1 (some false) (jn (fun p6:Bool=>
   cn p6 (some false) (bd (slices_ContainsFunc_Ordinary_53_F a0.Calls a0) fun y10=>some (!y10))) fun k7=>cn ((a0.Urgent.length:Int) !=
   a0.Net.N) (k7 true) (bd (slices_ContainsFunc_int_50_F a0.Urgent 1000) fun y8=>cn y8 (k7 true) (cn ((a0.Centres.length:Int) !=
   a0.Net.N) (k7 true) (bd (slices_ContainsFunc_int_50_F a0.Centres 10000) fun y9=>k7 y9))))) fun k2=>bd (flow_Valid_F a0.Net) fun y3=>
   cn (!y3) (k2 true) (bd (reserve_isIn_F a0.Net.N 1 8) fun y4=>cn (!y4) (k2 true) (cn (decide ((a0.Net.Edges.length:Int) >
   20)) (k2 true) (bd (reserve_isIn_F a0.Faults 0 2) fun y5=>cn (!y5) (k2 true) (k2 (decide ((a0.Calls.length:Int)>8))))))
def reserve_Valid_S:List AV→AV→Prop:=fun args r=>∃ a0,args=[eTReserve a0]∧W (reserve_Valid_F a0) fun y=>r=(eB y)
theorem reserve_Valid_ok {T:Tbl} (hT:TOk Try.prog T) (hpf:PfOk T PF) (h47:T 47=pureR flow_Valid_S) (h48:T 48=pureR reserve_isIn_S) (h49:T 49=pureR reserve_Valid_1_S) (h51:T 51=pureR slices_ContainsFunc_int_S) (h52:T 52=pureR slices_ContainsFunc_Ordinary_S):FOk Try.prog 23 (pureR reserve_Valid_S):=by
 refine FOk_pure hT hpf Try.func23 rfl Try.ntmps23 Try.results23 (by decide) ?_
 rintro args r ⟨a0,rfl,h⟩
 refine ⟨nle rfl,?_,?_⟩
 · exact (lsC (lo_TReserve _) lsN)
 rw [reserve_Valid_F.eq_1] at h
 refine HT_fr dCo rfl fun K hK=>?_;conv=>whnf
 refine hK _ _ _ ?_;clear hK K
 refine HT_seq ?_
 refine HT_jnK rfl h [1] [1] [] (fun kl kh ids b s=>⟨ofL ([(33,eB s)]++kl),ofH ([]++kh),b+64⟩) ?_;(conv=>whnf);refine And.intro (fun s h=>HT_st ?_) (fun k h=>?_)
 · refine HT_if fun K1 K2 hK1 hK2=>?_;conv=>whnf
   refine cLk h (fun _ h=>?_) (fun _ h=>?_)
   · refine hK1 ?_;clear hK1 hK2 K1 K2
     refine HT_fr dCo rfl fun K hK=>?_;conv=>whnf
     refine hK _ _ _ ?_;clear hK K
     refine HT_ret ?_
     refine Then_r ?_
     replace h:=W_some h
     refine PostP_r dCo fun K hK=>?_;conv=>whnf
     refine hK _ ?_;clear hK K
     cases h
     exact Wk.refl _
   refine hK2 ?_;clear hK1 hK2 K1 K2
   refine HT_skip ?_
   refine tHn ?_
   refine HT_fr dCo rfl fun K hK=>?_;conv=>whnf
   refine hK _ _ _ ?_;clear hK K
   refine HT_seq ?_
   refine HT_fdP (.step 0 (.step 1 (.step 2 (.step 3 (.step 4 (.step 5 (.step 6 (.step 7 (.step 8 (.step 10 (.two 9 11 (.step 11 (.step 12 (.step 13 (.step 14 (.step 15 (.step 16 (.step 17 (.step 18 (.step 19 (.step 20 (.step 21 (.step 22 (.step 23 (.step 24 (.step 26 (.two 25 27 (.step 27 (.step 28 (.step 29 (.nil)))) (.step 25 (.step 28 (.step 29 (.nil)))))))))))))))))))) (.step 9 (.step 12 (.step 13 (.step 14 (.step 15 (.step 16 (.step 17 (.step 18 (.step 19 (.step 20 (.step 21 (.step 22 (.step 23 (.step 24 (.step 26 (.two 25 27 (.step 27 (.step 28 (.step 29 (.nil)))) (.step 25 (.step 28 (.step 29 (.nil))))))))))))))))))))))))))))))) dCo mix_ok rfl (by kernel_rfl) fun K hK=>?_;conv=>whnf
   replace h:=W_jn h
   refine nlA rfl ?_;conv=>whnf
   refine bKo rfl ?_;conv=>whnf
   refine gKo rfl ?_;conv=>whnf
   refine nlA rfl ?_;conv=>whnf
   refine bKo rfl ?_;conv=>whnf
   refine gKo rfl ?_;conv=>whnf
   refine cLk h (fun _ h=>?_) (fun _ h=>?_)<;>(conv=>whnf)
   · refine And.intro ?_ ?_<;>(conv=>whnf)
     · refine And.intro ?_ ?_<;>(conv=>whnf)
       · refine hK _ _ _ ?_;clear hK K
         refine HT_if fun K1 K2 hK1 hK2=>?_;conv=>whnf
         refine hK1 ?_;clear hK1 hK2 K1 K2
         replace h:=W_cnT h
         refine HT_fr dCo rfl fun K hK=>?_;conv=>whnf
         refine hK _ _ _ ?_;clear hK K
         refine HT_ret ?_
         refine Then_r ?_
         replace h:=W_some h
         refine PostP_r dCo fun K hK=>?_;conv=>whnf
         refine hK _ ?_;clear hK K
         cases h
         exact Wk.refl _
       refine hK _ _ _ ?_;clear hK K
       refine HT_if fun K1 K2 hK1 hK2=>?_;conv=>whnf
       refine hK1 ?_;clear hK1 hK2 K1 K2
       replace h:=W_cnT h
       refine HT_fr dCo rfl fun K hK=>?_;conv=>whnf
       refine hK _ _ _ ?_;clear hK K
       refine HT_ret ?_
       refine Then_r ?_
       replace h:=W_some h
       refine PostP_r dCo fun K hK=>?_;conv=>whnf
       refine hK _ ?_;clear hK K
       cases h
       exact Wk.refl _
     refine And.intro ?_ ?_<;>(conv=>whnf)
     · refine hK _ _ _ ?_;clear hK K
       refine HT_if fun K1 K2 hK1 hK2=>?_;conv=>whnf
       refine hK1 ?_;clear hK1 hK2 K1 K2
       replace h:=W_cnT h
       refine HT_fr dCo rfl fun K hK=>?_;conv=>whnf
       refine hK _ _ _ ?_;clear hK K
       refine HT_ret ?_
       refine Then_r ?_
       replace h:=W_some h
       refine PostP_r dCo fun K hK=>?_;conv=>whnf
       refine hK _ ?_;clear hK K
       cases h
       exact Wk.refl _
     refine hK _ _ _ ?_;clear hK K
     refine HT_if fun K1 K2 hK1 hK2=>?_;conv=>whnf
     refine hK1 ?_;clear hK1 hK2 K1 K2
     replace h:=W_cnT h
     refine HT_fr dCo rfl fun K hK=>?_;conv=>whnf
     refine hK _ _ _ ?_;clear hK K
     refine HT_ret ?_
     refine Then_r ?_
     replace h:=W_some h
     refine PostP_r dCo fun K hK=>?_;conv=>whnf
     refine hK _ ?_;clear hK K
     cases h
     exact Wk.refl _
   refine And.intro ?_ ?_<;>(conv=>whnf)
   · refine nlA rfl ?_;conv=>whnf
     refine bKo rfl ?_;conv=>whnf
     refine gKo rfl ?_;conv=>whnf
     refine callsK_pure h49 (S:=reserve_Valid_1_S) ⟨1000,rfl,rfl⟩ (loose_fn lsN (lsC (lsE (lsC (lsI _ _) lsN)) lsN)) (WkL.refl _) ?_;conv=>whnf
     replace h:=W_bd h
     refine slices_ContainsFunc_int_50_call h51 h (WkL.refl _) (fun _ h=>?_);conv=>whnf
     refine cLk h (fun _ h=>?_) (fun _ h=>?_)<;>(conv=>whnf)
     · refine And.intro ?_ ?_<;>(conv=>whnf)
       · refine hK _ _ _ ?_;clear hK K
         refine HT_if fun K1 K2 hK1 hK2=>?_;conv=>whnf
         refine hK1 ?_;clear hK1 hK2 K1 K2
         replace h:=W_cnT h
         refine HT_fr dCo rfl fun K hK=>?_;conv=>whnf
         refine hK _ _ _ ?_;clear hK K
         refine HT_ret ?_
         refine Then_r ?_
         replace h:=W_some h
         refine PostP_r dCo fun K hK=>?_;conv=>whnf
         refine hK _ ?_;clear hK K
         cases h
         exact Wk.refl _
       refine hK _ _ _ ?_;clear hK K
       refine HT_if fun K1 K2 hK1 hK2=>?_;conv=>whnf
       refine hK1 ?_;clear hK1 hK2 K1 K2
       replace h:=W_cnT h
       refine HT_fr dCo rfl fun K hK=>?_;conv=>whnf
       refine hK _ _ _ ?_;clear hK K
       refine HT_ret ?_
       refine Then_r ?_
       replace h:=W_some h
       refine PostP_r dCo fun K hK=>?_;conv=>whnf
       refine hK _ ?_;clear hK K
       cases h
       exact Wk.refl _
     refine nlA rfl ?_;conv=>whnf
     refine bKo rfl ?_;conv=>whnf
     refine gKo rfl ?_;conv=>whnf
     refine nlA rfl ?_;conv=>whnf
     refine bKo rfl ?_;conv=>whnf
     refine gKo rfl ?_;conv=>whnf
     refine cLk h (fun _ h=>?_) (fun _ h=>?_)<;>(conv=>whnf)
     · refine And.intro ?_ ?_<;>(conv=>whnf)
       · refine hK _ _ _ ?_;clear hK K
         refine HT_if fun K1 K2 hK1 hK2=>?_;conv=>whnf
         refine hK1 ?_;clear hK1 hK2 K1 K2
         replace h:=W_cnT h
         refine HT_fr dCo rfl fun K hK=>?_;conv=>whnf
         refine hK _ _ _ ?_;clear hK K
         refine HT_ret ?_
         refine Then_r ?_
         replace h:=W_some h
         refine PostP_r dCo fun K hK=>?_;conv=>whnf
         refine hK _ ?_;clear hK K
         cases h
         exact Wk.refl _
       refine hK _ _ _ ?_;clear hK K
       refine HT_if fun K1 K2 hK1 hK2=>?_;conv=>whnf
       refine hK1 ?_;clear hK1 hK2 K1 K2
       replace h:=W_cnT h
       refine HT_fr dCo rfl fun K hK=>?_;conv=>whnf
       refine hK _ _ _ ?_;clear hK K
       refine HT_ret ?_
       refine Then_r ?_
       replace h:=W_some h
       refine PostP_r dCo fun K hK=>?_;conv=>whnf
       refine hK _ ?_;clear hK K
       cases h
       exact Wk.refl _
     refine And.intro ?_ ?_<;>(conv=>whnf)
     · refine nlA rfl ?_;conv=>whnf
       refine bKo rfl ?_;conv=>whnf
       refine gKo rfl ?_;conv=>whnf
       refine callsK_pure h49 (S:=reserve_Valid_1_S) ⟨10000,rfl,rfl⟩ (loose_fn lsN (lsC (lsE (lsC (lsI _ _) lsN)) lsN)) (WkL.refl _) ?_;conv=>whnf
       replace h:=W_bd h
       refine slices_ContainsFunc_int_50_call h51 h (WkL.refl _) (fun _ h=>?_);conv=>whnf
       refine hK _ _ _ ?_;clear hK K
       refine HT_if fun K1 K2 hK1 hK2=>?_;conv=>whnf
       refine cLk h (fun _ h=>?_) (fun _ h=>?_)
       · refine hK1 ?_;clear hK1 hK2 K1 K2
         refine HT_fr dCo rfl fun K hK=>?_;conv=>whnf
         refine hK _ _ _ ?_;clear hK K
         refine HT_ret ?_
         refine Then_r ?_
         replace h:=W_some h
         refine PostP_r dCo fun K hK=>?_;conv=>whnf
         refine hK _ ?_;clear hK K
         cases h
         exact Wk.refl _
       refine hK2 ?_;clear hK1 hK2 K1 K2
       refine HT_skip ?_
       refine tHn ?_
       refine HT_frzK 1 ?_;(conv=>whnf);refine ⟨_,rfl,?_⟩
       refine HT_fr dCo rfl fun K hK=>?_;conv=>whnf
       refine gKo rfl ?_;conv=>whnf
       replace h:=W_bd h
       refine slices_ContainsFunc_Ordinary_53_call h52 h (WkL.refl _) (fun _ h=>?_);conv=>whnf
       refine hK _ _ _ ?_;clear hK K
       refine HT_ret ?_
       replace h:=W_some h
       refine PostP_r dCo fun K hK=>?_;conv=>whnf
       refine hK _ ?_;clear hK K
       cases h
       exact Wk.refl _
     refine callsK_pure h49 (S:=reserve_Valid_1_S) ⟨10000,rfl,rfl⟩ (loose_fn lsN (lsC (lsE (lsC (lsI _ _) lsN)) lsN)) (WkL.refl _) ?_;conv=>whnf
     refine nlA rfl ?_;conv=>whnf
     refine bKo rfl ?_;conv=>whnf
     refine gKo rfl ?_;conv=>whnf
     replace h:=W_bd h
     refine slices_ContainsFunc_int_50_call h51 h (WkL.refl _) (fun _ h=>?_);conv=>whnf
     refine hK _ _ _ ?_;clear hK K
     refine HT_if fun K1 K2 hK1 hK2=>?_;conv=>whnf
     refine cLk h (fun _ h=>?_) (fun _ h=>?_)
     · refine hK1 ?_;clear hK1 hK2 K1 K2
       refine HT_fr dCo rfl fun K hK=>?_;conv=>whnf
       refine hK _ _ _ ?_;clear hK K
       refine HT_ret ?_
       refine Then_r ?_
       replace h:=W_some h
       refine PostP_r dCo fun K hK=>?_;conv=>whnf
       refine hK _ ?_;clear hK K
       cases h
       exact Wk.refl _
     refine hK2 ?_;clear hK1 hK2 K1 K2
     refine HT_skip ?_
     refine tHn ?_
     refine HT_frzK 1 ?_;(conv=>whnf);refine ⟨_,rfl,?_⟩
     refine HT_fr dCo rfl fun K hK=>?_;conv=>whnf
     refine gKo rfl ?_;conv=>whnf
     replace h:=W_bd h
     refine slices_ContainsFunc_Ordinary_53_call h52 h (WkL.refl _) (fun _ h=>?_);conv=>whnf
     refine hK _ _ _ ?_;clear hK K
     refine HT_ret ?_
     replace h:=W_some h
     refine PostP_r dCo fun K hK=>?_;conv=>whnf
     refine hK _ ?_;clear hK K
     cases h
     exact Wk.refl _
   refine callsK_pure h49 (S:=reserve_Valid_1_S) ⟨1000,rfl,rfl⟩ (loose_fn lsN (lsC (lsE (lsC (lsI _ _) lsN)) lsN)) (WkL.refl _) ?_;conv=>whnf
   refine nlA rfl ?_;conv=>whnf
   refine bKo rfl ?_;conv=>whnf
   refine gKo rfl ?_;conv=>whnf
   replace h:=W_bd h
   refine slices_ContainsFunc_int_50_call h51 h (WkL.refl _) (fun _ h=>?_);conv=>whnf
   refine cLk h (fun _ h=>?_) (fun _ h=>?_)<;>(conv=>whnf)
   · refine And.intro ?_ ?_<;>(conv=>whnf)
     · refine hK _ _ _ ?_;clear hK K
       refine HT_if fun K1 K2 hK1 hK2=>?_;conv=>whnf
       refine hK1 ?_;clear hK1 hK2 K1 K2
       replace h:=W_cnT h
       refine HT_fr dCo rfl fun K hK=>?_;conv=>whnf
       refine hK _ _ _ ?_;clear hK K
       refine HT_ret ?_
       refine Then_r ?_
       replace h:=W_some h
       refine PostP_r dCo fun K hK=>?_;conv=>whnf
       refine hK _ ?_;clear hK K
       cases h
       exact Wk.refl _
     refine hK _ _ _ ?_;clear hK K
     refine HT_if fun K1 K2 hK1 hK2=>?_;conv=>whnf
     refine hK1 ?_;clear hK1 hK2 K1 K2
     replace h:=W_cnT h
     refine HT_fr dCo rfl fun K hK=>?_;conv=>whnf
     refine hK _ _ _ ?_;clear hK K
     refine HT_ret ?_
     refine Then_r ?_
     replace h:=W_some h
     refine PostP_r dCo fun K hK=>?_;conv=>whnf
     refine hK _ ?_;clear hK K
     cases h
     exact Wk.refl _
   refine nlA rfl ?_;conv=>whnf
   refine bKo rfl ?_;conv=>whnf
   refine gKo rfl ?_;conv=>whnf
   refine nlA rfl ?_;conv=>whnf
   refine bKo rfl ?_;conv=>whnf
   refine gKo rfl ?_;conv=>whnf
   refine cLk h (fun _ h=>?_) (fun _ h=>?_)<;>(conv=>whnf)
   · refine And.intro ?_ ?_<;>(conv=>whnf)
     · refine hK _ _ _ ?_;clear hK K
       refine HT_if fun K1 K2 hK1 hK2=>?_;conv=>whnf
       refine hK1 ?_;clear hK1 hK2 K1 K2
       replace h:=W_cnT h
       refine HT_fr dCo rfl fun K hK=>?_;conv=>whnf
       refine hK _ _ _ ?_;clear hK K
       refine HT_ret ?_
       refine Then_r ?_
       replace h:=W_some h
       refine PostP_r dCo fun K hK=>?_;conv=>whnf
       refine hK _ ?_;clear hK K
       cases h
       exact Wk.refl _
     refine hK _ _ _ ?_;clear hK K
     refine HT_if fun K1 K2 hK1 hK2=>?_;conv=>whnf
     refine hK1 ?_;clear hK1 hK2 K1 K2
     replace h:=W_cnT h
     refine HT_fr dCo rfl fun K hK=>?_;conv=>whnf
     refine hK _ _ _ ?_;clear hK K
     refine HT_ret ?_
     refine Then_r ?_
     replace h:=W_some h
     refine PostP_r dCo fun K hK=>?_;conv=>whnf
     refine hK _ ?_;clear hK K
     cases h
     exact Wk.refl _
   refine And.intro ?_ ?_<;>(conv=>whnf)
   · refine nlA rfl ?_;conv=>whnf
     refine bKo rfl ?_;conv=>whnf
     refine gKo rfl ?_;conv=>whnf
     refine callsK_pure h49 (S:=reserve_Valid_1_S) ⟨10000,rfl,rfl⟩ (loose_fn lsN (lsC (lsE (lsC (lsI _ _) lsN)) lsN)) (WkL.refl _) ?_;conv=>whnf
     replace h:=W_bd h
     refine slices_ContainsFunc_int_50_call h51 h (WkL.refl _) (fun _ h=>?_);conv=>whnf
     refine hK _ _ _ ?_;clear hK K
     refine HT_if fun K1 K2 hK1 hK2=>?_;conv=>whnf
     refine cLk h (fun _ h=>?_) (fun _ h=>?_)
     · refine hK1 ?_;clear hK1 hK2 K1 K2
       refine HT_fr dCo rfl fun K hK=>?_;conv=>whnf
       refine hK _ _ _ ?_;clear hK K
       refine HT_ret ?_
       refine Then_r ?_
       replace h:=W_some h
       refine PostP_r dCo fun K hK=>?_;conv=>whnf
       refine hK _ ?_;clear hK K
       cases h
       exact Wk.refl _
     refine hK2 ?_;clear hK1 hK2 K1 K2
     refine HT_skip ?_
     refine tHn ?_
     refine HT_frzK 1 ?_;(conv=>whnf);refine ⟨_,rfl,?_⟩
     refine HT_fr dCo rfl fun K hK=>?_;conv=>whnf
     refine gKo rfl ?_;conv=>whnf
     replace h:=W_bd h
     refine slices_ContainsFunc_Ordinary_53_call h52 h (WkL.refl _) (fun _ h=>?_);conv=>whnf
     refine hK _ _ _ ?_;clear hK K
     refine HT_ret ?_
     replace h:=W_some h
     refine PostP_r dCo fun K hK=>?_;conv=>whnf
     refine hK _ ?_;clear hK K
     cases h
     exact Wk.refl _
   refine callsK_pure h49 (S:=reserve_Valid_1_S) ⟨10000,rfl,rfl⟩ (loose_fn lsN (lsC (lsE (lsC (lsI _ _) lsN)) lsN)) (WkL.refl _) ?_;conv=>whnf
   refine nlA rfl ?_;conv=>whnf
   refine bKo rfl ?_;conv=>whnf
   refine gKo rfl ?_;conv=>whnf
   replace h:=W_bd h
   refine slices_ContainsFunc_int_50_call h51 h (WkL.refl _) (fun _ h=>?_);conv=>whnf
   refine hK _ _ _ ?_;clear hK K
   refine HT_if fun K1 K2 hK1 hK2=>?_;conv=>whnf
   refine cLk h (fun _ h=>?_) (fun _ h=>?_)
   · refine hK1 ?_;clear hK1 hK2 K1 K2
     refine HT_fr dCo rfl fun K hK=>?_;conv=>whnf
     refine hK _ _ _ ?_;clear hK K
     refine HT_ret ?_
     refine Then_r ?_
     replace h:=W_some h
     refine PostP_r dCo fun K hK=>?_;conv=>whnf
     refine hK _ ?_;clear hK K
     cases h
     exact Wk.refl _
   refine hK2 ?_;clear hK1 hK2 K1 K2
   refine HT_skip ?_
   refine tHn ?_
   refine HT_frzK 1 ?_;(conv=>whnf);refine ⟨_,rfl,?_⟩
   refine HT_fr dCo rfl fun K hK=>?_;conv=>whnf
   refine gKo rfl ?_;conv=>whnf
   replace h:=W_bd h
   refine slices_ContainsFunc_Ordinary_53_call h52 h (WkL.refl _) (fun _ h=>?_);conv=>whnf
   refine hK _ _ _ ?_;clear hK K
   refine HT_ret ?_
   replace h:=W_some h
   refine PostP_r dCo fun K hK=>?_;conv=>whnf
   refine hK _ ?_;clear hK K
   cases h
   exact Wk.refl _
 refine HT_f dCo rfl fun K hK=>?_;conv=>whnf
 refine nlA rfl ?_;conv=>whnf
 refine bKo rfl ?_;conv=>whnf
 refine nlA rfl ?_;conv=>whnf
 replace h:=W_bd h
 refine flow_Valid_call h47 h (WkL.refl _) (fun _ h=>?_);conv=>whnf
 refine cLk h (fun _ h=>?_) (fun _ h=>?_)<;>(conv=>whnf)
 · refine hK _ _ _ ?_;clear hK K
   refine tHn ?_
   refine ⟨_,h,?_⟩
   refine weak_k ?_;conv=>whnf
   exact And.intro rfl (And.intro (aLc (wkr (lsB _)) (aLc (WkR.ptr (fun _=>rfl)) aLn)) (aLc ⟨some _,rfl,bRc rfl (cKc wkI (cKc (wkr (lsL fun _=>(lo_TEdge _))) (cKc (wkr (lsL fun _=>(lsI _ _))) (cKc (wkr (lsL fun _=>(lsI _ _))) (cKc wkI (cKc (wkr (lsL fun _=>(lo_TOrdinary _))) cKn))))))⟩ aLn))
 refine nlA rfl ?_;conv=>whnf
 refine bKo rfl ?_;conv=>whnf
 refine gKo rfl ?_;conv=>whnf
 replace h:=W_bd h
 refine reserve_isIn_call h48 h (WkL.refl _) (fun _ h=>?_);conv=>whnf
 refine cLk h (fun _ h=>?_) (fun _ h=>?_)<;>(conv=>whnf)
 · refine hK _ _ _ ?_;clear hK K
   refine tHn ?_
   refine ⟨_,h,?_⟩
   refine weak_k ?_;conv=>whnf
   exact And.intro rfl (And.intro (aLc (wkr (lsB _)) (aLc (WkR.ptr (fun _=>rfl)) aLn)) (aLc ⟨some _,rfl,bRc rfl (cKc wkI (cKc (wkr (lsL fun _=>(lo_TEdge _))) (cKc (wkr (lsL fun _=>(lsI _ _))) (cKc (wkr (lsL fun _=>(lsI _ _))) (cKc wkI (cKc (wkr (lsL fun _=>(lo_TOrdinary _))) cKn))))))⟩ aLn))
 refine nlA rfl ?_;conv=>whnf
 refine bKo rfl ?_;conv=>whnf
 refine gKo rfl ?_;conv=>whnf
 refine cLk h (fun _ h=>?_) (fun _ h=>?_)<;>(conv=>whnf)
 · refine hK _ _ _ ?_;clear hK K
   refine tHn ?_
   refine ⟨_,h,?_⟩
   refine weak_k ?_;conv=>whnf
   exact And.intro rfl (And.intro (aLc (wkr (lsB _)) (aLc (WkR.ptr (fun _=>rfl)) aLn)) (aLc ⟨some _,rfl,bRc rfl (cKc wkI (cKc (wkr (lsL fun _=>(lo_TEdge _))) (cKc (wkr (lsL fun _=>(lsI _ _))) (cKc (wkr (lsL fun _=>(lsI _ _))) (cKc wkI (cKc (wkr (lsL fun _=>(lo_TOrdinary _))) cKn))))))⟩ aLn))
 refine nlA rfl ?_;conv=>whnf
 refine bKo rfl ?_;conv=>whnf
 refine gKo rfl ?_;conv=>whnf
 replace h:=W_bd h
 refine reserve_isIn_call h48 h (WkL.refl _) (fun _ h=>?_);conv=>whnf
 refine cLk h (fun _ h=>?_) (fun _ h=>?_)<;>(conv=>whnf)
 · refine hK _ _ _ ?_;clear hK K
   refine tHn ?_
   refine ⟨_,h,?_⟩
   refine weak_k ?_;conv=>whnf
   exact And.intro rfl (And.intro (aLc (wkr (lsB _)) (aLc (WkR.ptr (fun _=>rfl)) aLn)) (aLc ⟨some _,rfl,bRc rfl (cKc wkI (cKc (wkr (lsL fun _=>(lo_TEdge _))) (cKc (wkr (lsL fun _=>(lsI _ _))) (cKc (wkr (lsL fun _=>(lsI _ _))) (cKc wkI (cKc (wkr (lsL fun _=>(lo_TOrdinary _))) cKn))))))⟩ aLn))
 refine nlA rfl ?_;conv=>whnf
 refine bKo rfl ?_;conv=>whnf
 refine gKo rfl ?_;conv=>whnf
 refine hK _ _ _ ?_;clear hK K
 refine tHn ?_
 refine ⟨_,h,?_⟩
 refine weak_k ?_;conv=>whnf
 exact And.intro rfl (And.intro (aLc (wkr (lsB _)) (aLc (WkR.ptr (fun _=>rfl)) aLn)) (aLc ⟨some _,rfl,bRc rfl (cKc wkI (cKc (wkr (lsL fun _=>(lo_TEdge _))) (cKc (wkr (lsL fun _=>(lsI _ _))) (cKc (wkr (lsL fun _=>(lsI _ _))) (cKc wkI (cKc (wkr (lsL fun _=>(lo_TOrdinary _))) cKn))))))⟩ aLn))
theorem reserve_Valid_call {T:Tbl} (hT:T 23=pureR reserve_Valid_S) {args:List AV} {hp:Heap} {id:Nat} {k:AV→Prop} {a0:TReserve} {Φ:Bool→Prop} (h:W (reserve_Valid_F a0) Φ) (hw:WkL args [eTReserve a0]) (hk:∀ y,Φ y→k (eB y)):callpK T 23 args hp id k:=by
 obtain ⟨y,e,hy⟩:=W_inv h
 exact callpK_pure hT ⟨a0,rfl,W_of e rfl⟩ (by exact (lsB _)) hw (hk y hy)
end Go.Proofs.Ytkjccabdpeldhaa
namespace Go.Proofs.Ytkjccabdpeldhaa
open Go Go.Eng
set_option maxHeartbeats 0
set_option maxRecDepth 100000
theorem clone_end {M:List (Nat×Nat)} {q k n:Nat} {b:AB} {α:Type} {ce:α→List AV} {l:List α} {hp:Heap} (h1:[q][k]?=some n) (h2:[AB.cells (flE ce l)][k]?=some b) (h:hp q=some (.cells (flE ce l))) (hl:∀ x,∀ a∈ce x,a.loose):∃ b0,hp n=some b0∧BkX (WkB M) b0 b:=by
 cases k with
 | zero=>simp only [List.getElem?_cons_zero,Option.some.injEq] at h1 h2;subst h1 h2;exact ⟨_,h,BkX_fl hl l⟩
 | succ k=>simp at h1

theorem slices_Clone_Edge_ok {T:Tbl} (hT:TOk Try.prog T) (hpf:PfOk T PF):FOk Try.prog 66 (cloneR 3 eTEdge default):=by
 refine FOk_anc hT hpf Try.func66 rfl Try.ntmps66 Try.results66 (by decide) ?_
 rintro args H base r H' ⟨l,rfl,hl,rfl,rfl⟩
 refine ⟨[],[eL 3 eTEdge default l],[],[],[.cells (flE (ceE eTEdge) l)],nle rfl,Nat.zero_le _,nle rfl,.nil,rfl,rfl,.cons (WkA_loose (lsL fun _=>(lo_TEdge _))) .nil,(fun j i b h=>by cases h),(fun k b h=>?_),(fun j=>rfl),(fun i b h=>?_),?_⟩
 · cases k with
   | zero=>cases h;rfl
   | succ k=>cases h
 · by_cases e:i=base
   · subst e;rw [upd_same] at h;exact .inr (.inr ⟨0,rfl,h⟩)
   · rw [upd_other _ _ e] at h;exact .inl ⟨by simp,h⟩
 refine HT_fr dCo rfl fun K hK=>?_;conv=>whnf
 refine hK _ _ _ ?_;clear hK K
 refine HT_seq ?_
 refine HT_isnil rfl rfl rfl rfl rfl rfl Try.underlying28 rfl rfl fun b hb=>?_
 cases b
 · refine HT_if fun K1 K2 hK1 hK2=>?_;conv=>whnf
   refine hK2 ?_;clear hK1 hK2 K1 K2
   refine HT_skip ?_
   refine tHn ?_
   refine HT_fr dCo rfl fun K hK=>?_;conv=>whnf
   refine lt_lk (enc:=eTEdge) (d:=default) (l:=[]) (f:=some) (Φ:=fun _=>True) dCo (W_of (a:=[]) (by unfold lt;rfl) trivial) rfl rfl rfl ⟨nle rfl,nle rfl,rfl⟩ rfl trivial (fun _=>?_);conv=>whnf
   refine apcf_lk (enc:=eTEdge) (d:=default) dCo rfl rfl rfl ⟨rfl,nle rfl,nle rfl,nle rfl,rfl⟩ (fun _=>rfl) (fun _=>nofun) hl ?_;conv=>whnf
   refine hK _ _ _ ?_;clear hK K
   refine HT_ret ?_
   refine ⟨_,[256],rfl,by simp,by simp,rfl,WkB_so (by simp [mm]),fun j b h=>by simp at h,fun k n b h1 h2=>?_⟩;exact clone_end h1 h2 rfl (fun _=>(lsC (lsI _ _) (lsC (lsI _ _) (lsC (lsI _ _) lsN))))
 refine HT_if fun K1 K2 hK1 hK2=>?_;conv=>whnf
 refine hK1 ?_;clear hK1 hK2 K1 K2
 refine HT_fr dCo rfl fun K hK=>?_;conv=>whnf
 refine hK _ _ _ ?_;clear hK K
 have hn:=List.length_eq_zero_iff.1 (hb rfl)
 subst hn
 refine HT_weak rfl (σ':=⟨ofL [(2,.so 64 0 0 3)],ofH [(64,.cells [])],1024⟩) (weak_of [(64,none)] ⟨WkR.nilso (fun _=>rfl),trivial⟩ ⟨⟨_,rfl,BkR_n⟩,trivial⟩ rfl) ?_
 refine HT_ret ?_
 refine Then_r ?_
 refine ⟨_,[64],rfl,by simp,by simp,rfl,WkB_so (by simp [mm]),fun j b h=>by simp at h,fun k n b h1 h2=>?_⟩;exact clone_end h1 h2 rfl (fun _=>(lsC (lsI _ _) (lsC (lsI _ _) (lsC (lsI _ _) lsN))))


theorem slices_Clone_int_ok {T:Tbl} (hT:TOk Try.prog T) (hpf:PfOk T PF):FOk Try.prog 69 (cloneR 1 eI default):=by
 refine FOk_anc hT hpf Try.func69 rfl Try.ntmps69 Try.results69 (by decide) ?_
 rintro args H base r H' ⟨l,rfl,hl,rfl,rfl⟩
 refine ⟨[],[eL 1 eI default l],[],[],[.cells (flE (ceE eI) l)],nle rfl,Nat.zero_le _,nle rfl,.nil,rfl,rfl,.cons (WkA_loose (lsL fun _=>(lsI _ _))) .nil,(fun j i b h=>by cases h),(fun k b h=>?_),(fun j=>rfl),(fun i b h=>?_),?_⟩
 · cases k with
   | zero=>cases h;rfl
   | succ k=>cases h
 · by_cases e:i=base
   · subst e;rw [upd_same] at h;exact .inr (.inr ⟨0,rfl,h⟩)
   · rw [upd_other _ _ e] at h;exact .inl ⟨by simp,h⟩
 refine HT_fr dCo rfl fun K hK=>?_;conv=>whnf
 refine hK _ _ _ ?_;clear hK K
 refine HT_seq ?_
 refine HT_isnil rfl rfl rfl rfl rfl rfl Try.underlying23 rfl rfl fun b hb=>?_
 cases b
 · refine HT_if fun K1 K2 hK1 hK2=>?_;conv=>whnf
   refine hK2 ?_;clear hK1 hK2 K1 K2
   refine HT_skip ?_
   refine tHn ?_
   refine HT_fr dCo rfl fun K hK=>?_;conv=>whnf
   refine lt_lk (enc:=eI) (d:=default) (l:=[]) (f:=some) (Φ:=fun _=>True) dCo (W_of (a:=[]) (by unfold lt;rfl) trivial) rfl rfl rfl ⟨nle rfl,nle rfl,rfl⟩ rfl trivial (fun _=>?_);conv=>whnf
   refine apcf_lk (enc:=eI) (d:=default) dCo rfl rfl rfl ⟨rfl,nle rfl,nle rfl,nle rfl,rfl⟩ (fun _=>rfl) (fun _=>nofun) hl ?_;conv=>whnf
   refine hK _ _ _ ?_;clear hK K
   refine HT_ret ?_
   refine ⟨_,[256],rfl,by simp,by simp,rfl,WkB_so (by simp [mm]),fun j b h=>by simp at h,fun k n b h1 h2=>?_⟩;exact clone_end h1 h2 rfl (fun _=>(lsC (lsI _ _) lsN))
 refine HT_if fun K1 K2 hK1 hK2=>?_;conv=>whnf
 refine hK1 ?_;clear hK1 hK2 K1 K2
 refine HT_fr dCo rfl fun K hK=>?_;conv=>whnf
 refine hK _ _ _ ?_;clear hK K
 have hn:=List.length_eq_zero_iff.1 (hb rfl)
 subst hn
 refine HT_weak rfl (σ':=⟨ofL [(2,.so 64 0 0 1)],ofH [(64,.cells [])],1024⟩) (weak_of [(64,none)] ⟨WkR.nilso (fun _=>rfl),trivial⟩ ⟨⟨_,rfl,BkR_n⟩,trivial⟩ rfl) ?_
 refine HT_ret ?_
 refine Then_r ?_
 refine ⟨_,[64],rfl,by simp,by simp,rfl,WkB_so (by simp [mm]),fun j b h=>by simp at h,fun k n b h1 h2=>?_⟩;exact clone_end h1 h2 rfl (fun _=>(lsC (lsI _ _) lsN))


end Go.Proofs.Ytkjccabdpeldhaa
namespace Go.Proofs.Ytkjccabdpeldhaa
open Go Go.Eng
set_option maxHeartbeats 0
set_option maxRecDepth 100000

   def reserve_left_b3 (a0:TReserve) (s16:Int×Int×TNet):Option (Ct (Int×Int×TNet) (TNet×(List Int)×Int)):=cn (decide (s16.2.1<(a0.Centres.length:Int))) (ix a0.Centres default s16.2.1 fun e17=>
   lt ([(⟨s16.2.1,a0.Net.N,e17⟩:TEdge)]:List TEdge) fun l18=>ap s16.2.2.Edges l18 fun l19=>ix a0.Urgent default s16.2.1 fun e20=>
   some (.nx ((wr (s16.1+e20)),(wr (s16.2.1+1)),(⟨s16.2.2.N,l19⟩:TNet)))) (some (.bk (s16.1,s16.2.1,s16.2.2)))
theorem W_breserve_left_b3 {a0:TReserve} {s16:Int×Int×TNet} {Φ:Ct (Int×Int×TNet) (TNet×(List Int)×Int)→Prop} (h:W (reserve_left_b3 a0 s16) Φ):W (cn (decide (s16.2.1<(a0.Centres.length:Int))) (ix a0.Centres default s16.2.1 fun e17=>lt ([(⟨s16.2.1,a0.Net.N,e17⟩:TEdge)]:List TEdge) fun l18=>
   ap s16.2.2.Edges l18 fun l19=>ix a0.Urgent default s16.2.1 fun e20=>
   some (.nx ((wr (s16.1+e20)),(wr (s16.2.1+1)),(⟨s16.2.2.N,l19⟩:TNet)))) (some (.bk (s16.1,s16.2.1,s16.2.2)))) Φ:=h

   def reserve_left_b2 (e3:TOrdinary) (s6:Int×TNet):Option (Ct (Int×TNet) (TNet×(List Int)×Int)):=cn (decide (s6.1<(e3.Edges.length:Int))) (ix e3.Edges default s6.1 fun e7=>
   gd (0≤e7∧e7<(s6.2.Edges.length:Int)) (gd (0≤e7∧e7<(s6.2.Edges.length:Int)) (st s6.2.Edges (e7) (⟨(s6.2.Edges.getD (e7).toNat default).From,(s6.2.Edges.getD (e7).toNat default).To,(wr (((s6.2.Edges.getD (e7).toNat default).Capacity)-e3.Amount))⟩:TEdge) fun l8=>
   some (.nx ((wr (s6.1+1)),(⟨s6.2.N,l8⟩:TNet)))))) (some (.bk (s6.1,s6.2)))
theorem W_breserve_left_b2 {e3:TOrdinary} {s6:Int×TNet} {Φ:Ct (Int×TNet) (TNet×(List Int)×Int)→Prop} (h:W (reserve_left_b2 e3 s6) Φ):W (cn (decide (s6.1<(e3.Edges.length:Int))) (ix e3.Edges default s6.1 fun e7=>
   gd (0≤e7∧e7<(s6.2.Edges.length:Int)) (gd (0≤e7∧e7<(s6.2.Edges.length:Int)) (st s6.2.Edges (e7) (⟨(s6.2.Edges.getD (e7).toNat default).From,(s6.2.Edges.getD (e7).toNat default).To,(wr (((s6.2.Edges.getD (e7).toNat default).Capacity)-e3.Amount))⟩:TEdge) fun l8=>
   some (.nx ((wr (s6.1+1)),(⟨s6.2.N,l8⟩:TNet)))))) (some (.bk (s6.1,s6.2)))) Φ:=h

   def reserve_left_b1 (a0:TReserve) (a1:Int) (s2:Int×TNet):Option (Ct (Int×TNet) (TNet×(List Int)×Int)):=cn (decide (s2.1<(a0.Calls.length:Int))) (ix a0.Calls default s2.1 fun e3=>
   gd (0≤s2.1) (jn (fun p4:TNet=>some (.nx ((wr (s2.1+1)),p4))) fun k5=>cn ((band .i64 (bshr .i64 a1 s2.1) 1)==1) (bd (lp (reserve_left_b2 e3) FU (0,s2.2)) fun c9=>
   smK c9 (fun s10=>k5 s10.2) (fun r11=>some (.rt r11))) (k5 s2.2))) (some (.bk (s2.1,s2.2)))
theorem W_breserve_left_b1 {a0:TReserve} {a1:Int} {s2:Int×TNet} {Φ:Ct (Int×TNet) (TNet×(List Int)×Int)→Prop} (h:W (reserve_left_b1 a0 a1 s2) Φ):W (cn (decide (s2.1<(a0.Calls.length:Int))) (ix a0.Calls default s2.1 fun e3=>gd (0≤s2.1) (jn (fun p4:TNet=>some (.nx ((wr (s2.1+1)),p4))) fun k5=>
   cn ((band .i64 (bshr .i64 a1 s2.1) 1)==1) (bd (lp (reserve_left_b2 e3) FU (0,s2.2)) fun c9=>smK c9 (fun s10=>k5 s10.2) (fun r11=>
   some (.rt r11))) (k5 s2.2))) (some (.bk (s2.1,s2.2)))) Φ:=h
def reserve_left_F (a0:TReserve) (a1:Int):Option (TNet×(List Int)×Int):=gd (a0.Net.Edges.length≤1048576) (lt a0.Net.Edges fun m1=>
   bd (lp (reserve_left_b1 a0 a1) FU (0,(⟨(wr (a0.Net.N+1)),m1⟩:TNet))) fun c12=>smK c12 (fun s13=>bd (slices_IndexFunc_Edge_68_F s13.2.Edges) fun y15=>
   cn (decide (y15≥0)) (some ((⟨0,[]⟩:TNet),[],y15)) (bd (lp (reserve_left_b3 a0) FU (0,0,(⟨s13.2.N,s13.2.Edges⟩:TNet))) fun c21=>smK c21 (fun s22=>
   gd (a0.Urgent.length≤1048576) (lt a0.Urgent fun m24=>lt ([(wr (0-s22.1))]:List Int) fun l25=>ap m24 l25 fun l26=>some (s22.2.2,l26,(-1)))) (fun r23=>
   some r23))) (fun r14=>some r14))
def reserve_left_S:List AV→AV→Prop:=fun args r=>∃ a0 a1,args=[eTReserve a0,eI a1]∧W (reserve_left_F a0 a1) fun y=>r=(.tup [eTNet y.1,(eL 1 eI default) y.2.1,eI y.2.2])
theorem reserve_left_ok {T:Tbl} (hT:TOk Try.prog T) (hpf:PfOk T PF) (h66:T 66=cloneR 3 eTEdge default) (h67:T 67=pureR slices_IndexFunc_Edge_S) (h69:T 69=cloneR 1 eI default):FOk Try.prog 38 (pureR reserve_left_S):=by
 refine FOk_pure hT hpf Try.func38 rfl Try.ntmps38 Try.results38 (by decide) ?_
 rintro args r ⟨a0,a1,rfl,h⟩
 refine ⟨nle rfl,?_,?_⟩
 · exact (lsC (lo_TReserve _) (lsC (lsI _ _) lsN))
 rw [reserve_left_F.eq_1] at h
 refine HT_fr dCo rfl fun K hK=>?_;conv=>whnf
 refine hK _ _ _ ?_;clear hK K
 refine HT_fd dCo mix_ok rfl (by kernel_rfl) fun K hK=>?_;conv=>whnf
 refine nlA rfl ?_;conv=>whnf
 refine bKo rfl ?_;conv=>whnf
 refine gKo rfl ?_;conv=>whnf
 refine nlA rfl ?_;conv=>whnf
 refine bKo rfl ?_;conv=>whnf
 refine gKo rfl ?_;conv=>whnf
 refine gd_lk_u h fun hg h=>?_
 replace h:=W_lt h
 refine callaK_clone h66 (WkL_cons (Wk.refl _) WkL_nil) hg (fun _=>(lsC (lsI _ _) (lsC (lsI _ _) (lsC (lsI _ _) lsN)))) ?_;conv=>whnf
 refine bKo rfl ?_;conv=>whnf
 refine And.intro rfl (And.intro (nle rfl) (And.intro rfl ?_));conv=>whnf
 refine hK _ _ _ ?_;clear hK K
 refine HT_seq ?_
 refine HT_fr dCo rfl fun K hK=>?_;conv=>whnf
 refine nlA rfl ?_;conv=>whnf
 refine bKo rfl ?_;conv=>whnf
 refine gKo rfl ?_;conv=>whnf
 refine hK _ _ _ ?_;clear hK K
 refine HT_block ?_
 replace h:=W_bd h
 refine HT_lpR (body:=reserve_left_b1 _ _) rfl h [1,2,4,7,26,27] [2,4] [] [7] (fun kl kh kr ids b s=>⟨ofL ([(28,eI s.1)]++kl),ofH (([(nthN ids 0,.cells [eI s.2.N,.so (b+0) 0 s.2.Edges.length 3])]++kh)++([(b+0,.cells (flE (ceE eTEdge) s.2.Edges))]++kr)),b+128⟩) ?_;(conv=>whnf);refine And.intro ?_ (fun s m h=>HT_st ?_)
 · refine weak_r ?_;conv=>whnf
   exact And.intro rfl (And.intro (aLc wkI (aLc wkI (aLc (WkR.ptr (fun _=>rfl)) (aLc (WkR.ptr (fun _=>rfl)) (aLc (WkR.ptr (fun _=>rfl)) (aLc (wkr (lsL fun _=>(lo_TOrdinary _))) (aLc wkI aLn))))))) (aLc ⟨some _,rfl,bRc rfl (cKc wkI (cKc (WkR.so (fun _=>rfl)) cKn))⟩ (aLc ⟨some _,rfl,bRc rfl (cKc wkI (cKc (wkr (lsL fun _=>(lo_TEdge _))) (cKc (wkr (lsL fun _=>(lsI _ _))) (cKc (wkr (lsL fun _=>(lsI _ _))) (cKc wkI (cKc (wkr (lsL fun _=>(lo_TOrdinary _))) cKn))))))⟩ (aLc ⟨some _,rfl,bRc rfl (cKc wkI (cKc (wkr loose_nils) cKn))⟩ (aLc ⟨some _,rfl,BkR_r rfl (fun _=>(lsC (lsI _ _) (lsC (lsI _ _) (lsC (lsI _ _) lsN))))⟩ aLn)))))
 replace h:=W_breserve_left_b1 (W_bd h)
 refine HT_fr dCo rfl fun K hK=>?_;conv=>whnf
 refine hK _ _ _ ?_;clear hK K
 refine HT_seq ?_
 refine HT_if fun K1 K2 hK1 hK2=>?_;conv=>whnf
 refine cLk h (fun _ h=>?_) (fun _ h=>?_)
 · refine hK1 ?_;clear hK1 hK2 K1 K2
   refine HT_skip ?_
   refine tHn ?_
   refine HT_seq ?_
   refine HT_block ?_
   refine HT_fr dCo rfl fun K hK=>?_;conv=>whnf
   refine ix_lk h fun _ h=>?_;conv=>whnf
   refine nlA rfl ?_;conv=>whnf
   refine bKo rfl ?_;conv=>whnf
   refine And.intro rfl (And.intro (nle rfl) (And.intro rfl ?_));conv=>whnf
   refine hK _ _ _ ?_;clear hK K
   refine HT_fr dCo rfl fun K hK=>?_;conv=>whnf
   refine gd_lk h fun _ h=>?_;conv=>whnf
   refine hK _ _ _ ?_;clear hK K
   replace h:=W_jn h
   refine HT_if fun K1 K2 hK1 hK2=>?_;conv=>whnf
   refine cLk h (fun _ h=>?_) (fun _ h=>?_)
   · refine hK1 ?_;clear hK1 hK2 K1 K2
     refine HT_fr dCo rfl fun K hK=>?_;conv=>whnf
     refine nlA rfl ?_;conv=>whnf
     refine bKo rfl ?_;conv=>whnf
     refine gKo rfl ?_;conv=>whnf
     refine hK _ _ _ ?_;clear hK K
     refine HT_block ?_
     replace h:=W_bd h
     refine HT_lpR (body:=reserve_left_b2 _) rfl h [1,2,4,7,9,26,27,28,39,40] [2,4,9] [] [7] (fun kl kh kr ids b s=>⟨ofL ([(41,eI s.1)]++kl),ofH (([(nthN ids 0,.cells [eI s.2.N,.so (b+0) 0 s.2.Edges.length 3])]++kh)++([(b+0,.cells (flE (ceE eTEdge) s.2.Edges))]++kr)),b+128⟩) ?_;(conv=>whnf);refine And.intro ?_ (fun s m h=>HT_st ?_)
     · refine weak_r ?_;conv=>whnf
       exact And.intro rfl (And.intro (aLc wkI (aLc wkI (aLc (WkR.ptr (fun _=>rfl)) (aLc (WkR.ptr (fun _=>rfl)) (aLc (WkR.ptr (fun _=>rfl)) (aLc (WkR.ptr (fun _=>rfl)) (aLc (wkr (lsL fun _=>(lo_TOrdinary _))) (aLc wkI (aLc wkI (aLc (wkr (lsL fun _=>(lsI _ _))) (aLc wkI aLn))))))))))) (aLc ⟨some _,rfl,bRc rfl (cKc wkI (cKc (WkR.so (fun _=>rfl)) cKn))⟩ (aLc ⟨some _,rfl,bRc rfl (cKc wkI (cKc (wkr (lsL fun _=>(lo_TEdge _))) (cKc (wkr (lsL fun _=>(lsI _ _))) (cKc (wkr (lsL fun _=>(lsI _ _))) (cKc wkI (cKc (wkr (lsL fun _=>(lo_TOrdinary _))) cKn))))))⟩ (aLc ⟨some _,rfl,bRc rfl (cKc wkI (cKc (wkr loose_nils) cKn))⟩ (aLc ⟨some _,rfl,bRc rfl (cKc (wkr (lsL fun _=>(lsI _ _))) (cKc wkI cKn))⟩ (aLc ⟨some _,rfl,BkR_r rfl (fun _=>(lsC (lsI _ _) (lsC (lsI _ _) (lsC (lsI _ _) lsN))))⟩ aLn))))))
     replace h:=W_breserve_left_b2 (W_bd h)
     refine HT_fr dCo rfl fun K hK=>?_;conv=>whnf
     refine hK _ _ _ ?_;clear hK K
     refine HT_seq ?_
     refine HT_if fun K1 K2 hK1 hK2=>?_;conv=>whnf
     refine cLk h (fun _ h=>?_) (fun _ h=>?_)
     · refine hK1 ?_;clear hK1 hK2 K1 K2
       refine HT_skip ?_
       refine tHn ?_
       refine HT_seq ?_
       refine HT_block ?_
       refine HT_fr dCo rfl fun K hK=>?_;conv=>whnf
       refine ix_lk h fun _ h=>?_;conv=>whnf
       refine gKo rfl ?_;conv=>whnf
       refine hK _ _ _ ?_;clear hK K
       refine HT_fD dCo mix_ok rfl (by kernel_rfl) fun K hK=>?_;conv=>whnf
       refine nlA rfl ?_;conv=>whnf
       refine bKo rfl ?_;conv=>whnf
       refine gKo rfl ?_;conv=>whnf
       refine gd_lkN h (rfl) fun hx757 h=>?_;conv=>whnf
       refine nlA rfl ?_;conv=>whnf
       refine bKo rfl ?_;conv=>whnf
       refine get_flN (enc:=eTEdge) (d:=default) (q:=2) (fun _=>rfl) (rfl) hx757 (nle rfl) rfl ?_;conv=>whnf
       refine nlA rfl ?_;conv=>whnf
       refine bKo rfl ?_;conv=>whnf
       refine gKo rfl ?_;conv=>whnf
       refine gd_lkN h (rfl) fun hx758 h=>?_;conv=>whnf
       refine bKo rfl ?_;conv=>whnf
       refine st_lk (enc:=eTEdge) (d:=default) (q:=2) h (fun _=>rfl) (rfl) hx758 rfl (nle rfl) rfl rfl (fun h=>?_);conv=>whnf
       refine hK _ _ _ ?_;clear hK K
       refine iBn ?_
       refine tHn ?_
       refine HT_f dCo rfl fun K hK=>?_;conv=>whnf
       refine hK _ _ _ ?_;clear hK K
       refine tHn ?_
       replace h:=W_xnx h
       refine ⟨_,h,?_⟩
       refine weak_r ?_;conv=>whnf
       exact And.intro rfl (And.intro (aLc wkI (aLc wkI (aLc (WkR.ptr (fun _=>rfl)) (aLc (WkR.ptr (fun _=>rfl)) (aLc (WkR.ptr (fun _=>rfl)) (aLc (WkR.ptr (fun _=>rfl)) (aLc (wkr (lsL fun _=>(lo_TOrdinary _))) (aLc wkI (aLc wkI (aLc (wkr (lsL fun _=>(lsI _ _))) (aLc wkI aLn))))))))))) (aLc ⟨some _,rfl,bRc rfl (cKc wkI (cKc (WkR.soN (fun _=>rfl) (lenset rfl).symm) cKn))⟩ (aLc ⟨some _,rfl,bRc rfl (cKc wkI (cKc (wkr (lsL fun _=>(lo_TEdge _))) (cKc (wkr (lsL fun _=>(lsI _ _))) (cKc (wkr (lsL fun _=>(lsI _ _))) (cKc wkI (cKc (wkr (lsL fun _=>(lo_TOrdinary _))) cKn))))))⟩ (aLc ⟨some _,rfl,bRc rfl (cKc wkI (cKc (wkr loose_nils) cKn))⟩ (aLc ⟨some _,rfl,bRc rfl (cKc (wkr (lsL fun _=>(lsI _ _))) (cKc wkI cKn))⟩ (aLc ⟨some _,rfl,BkR_r rfl (fun _=>(lsC (lsI _ _) (lsC (lsI _ _) (lsC (lsI _ _) lsN))))⟩ aLn))))))
     refine hK2 ?_;clear hK1 hK2 K1 K2
     refine HT_exit ?_
     refine Then_e ?_
     refine Then_e ?_
     refine InBlock_e ?_
     replace h:=W_xbk h
     replace h:=W_inl h
     refine iBn ?_
     refine tHn ?_
     refine HT_f dCo rfl fun K hK=>?_;conv=>whnf
     refine hK _ _ _ ?_;clear hK K
     refine tHn ?_
     replace h:=W_xnx h
     refine ⟨_,h,?_⟩
     refine weak_r ?_;conv=>whnf
     exact And.intro rfl (And.intro (aLc wkI (aLc wkI (aLc (WkR.ptr (fun _=>rfl)) (aLc (WkR.ptr (fun _=>rfl)) (aLc (WkR.ptr (fun _=>rfl)) (aLc (wkr (lsL fun _=>(lo_TOrdinary _))) (aLc wkI aLn))))))) (aLc ⟨some _,rfl,bRc rfl (cKc wkI (cKc (WkR.so (fun _=>rfl)) cKn))⟩ (aLc ⟨some _,rfl,bRc rfl (cKc wkI (cKc (wkr (lsL fun _=>(lo_TEdge _))) (cKc (wkr (lsL fun _=>(lsI _ _))) (cKc (wkr (lsL fun _=>(lsI _ _))) (cKc wkI (cKc (wkr (lsL fun _=>(lo_TOrdinary _))) cKn))))))⟩ (aLc ⟨some _,rfl,bRc rfl (cKc wkI (cKc (wkr loose_nils) cKn))⟩ (aLc ⟨some _,rfl,BkR_r rfl (fun _=>(lsC (lsI _ _) (lsC (lsI _ _) (lsC (lsI _ _) lsN))))⟩ aLn)))))
   refine hK2 ?_;clear hK1 hK2 K1 K2
   refine HT_skip ?_
   refine iBn ?_
   refine tHn ?_
   refine HT_f dCo rfl fun K hK=>?_;conv=>whnf
   refine hK _ _ _ ?_;clear hK K
   refine tHn ?_
   replace h:=W_xnx h
   refine ⟨_,h,?_⟩
   refine weak_r ?_;conv=>whnf
   exact And.intro rfl (And.intro (aLc wkI (aLc wkI (aLc (WkR.ptr (fun _=>rfl)) (aLc (WkR.ptr (fun _=>rfl)) (aLc (WkR.ptr (fun _=>rfl)) (aLc (wkr (lsL fun _=>(lo_TOrdinary _))) (aLc wkI aLn))))))) (aLc ⟨some _,rfl,bRc rfl (cKc wkI (cKc (WkR.so (fun _=>rfl)) cKn))⟩ (aLc ⟨some _,rfl,bRc rfl (cKc wkI (cKc (wkr (lsL fun _=>(lo_TEdge _))) (cKc (wkr (lsL fun _=>(lsI _ _))) (cKc (wkr (lsL fun _=>(lsI _ _))) (cKc wkI (cKc (wkr (lsL fun _=>(lo_TOrdinary _))) cKn))))))⟩ (aLc ⟨some _,rfl,bRc rfl (cKc wkI (cKc (wkr loose_nils) cKn))⟩ (aLc ⟨some _,rfl,BkR_r rfl (fun _=>(lsC (lsI _ _) (lsC (lsI _ _) (lsC (lsI _ _) lsN))))⟩ aLn)))))
 refine hK2 ?_;clear hK1 hK2 K1 K2
 refine HT_exit ?_
 refine Then_e ?_
 refine Then_e ?_
 refine InBlock_e ?_
 replace h:=W_xbk h
 replace h:=W_inl h
 refine tHn ?_
 refine HT_seq ?_
 refine HT_frzBT 7 1 (enc:=eTEdge) (e:=53) default (ElOk_agg dCo rfl rfl (fun _=>rfl) (fun _=>rfl)) ?_;(conv=>whnf);refine ⟨_,_,_,(Nat.ne_of_beq_eq_false rfl),rfl,rfl,rfl,rfl,?_⟩;conv=>whnf
 refine HT_fr dCo rfl fun K hK=>?_;conv=>whnf
 refine nlA rfl ?_;conv=>whnf
 refine bKo rfl ?_;conv=>whnf
 refine gKo rfl ?_;conv=>whnf
 replace h:=W_bd h
 refine slices_IndexFunc_Edge_68_call h67 h (WkL_cons Wk_free (WkL_cons (Wk.refl _) WkL_nil)) (fun _ h=>?_);conv=>whnf
 refine hK _ _ _ ?_;clear hK K
 refine HT_fr dCo rfl fun K hK=>?_;conv=>whnf
 refine hK _ _ _ ?_;clear hK K
 refine HT_if fun K1 K2 hK1 hK2=>?_;conv=>whnf
 refine cLk h (fun _ h=>?_) (fun _ h=>?_)
 · refine hK1 ?_;clear hK1 hK2 K1 K2
   refine HT_fr dCo rfl fun K hK=>?_;conv=>whnf
   refine bKo rfl ?_;conv=>whnf
   refine And.intro rfl (And.intro (nle rfl) (And.intro rfl ?_));conv=>whnf
   refine hK _ _ _ ?_;clear hK K
   refine HT_ret ?_
   refine Then_r ?_
   replace h:=W_some h
   refine PostP_r dCo fun K hK=>?_;conv=>whnf
   refine nlA rfl ?_;conv=>whnf
   refine bKo rfl ?_;conv=>whnf
   refine nlA rfl ?_;conv=>whnf
   refine hK _ ?_;clear hK K
   cases h
   exact Wk_tup (WkL_cons (Wk_agg (WkL_cons (Wk.refl _) (WkL_cons Wk_nil WkL_nil))) (WkL_cons Wk_nil (WkL_cons (Wk.refl _) WkL_nil)))
 refine hK2 ?_;clear hK1 hK2 K1 K2
 refine HT_skip ?_
 refine tHn ?_
 refine HT_fr dCo rfl fun K hK=>?_;conv=>whnf
 refine hK _ _ _ ?_;clear hK K
 refine HT_seq ?_
 refine HT_fr dCo rfl fun K hK=>?_;conv=>whnf
 refine nlA rfl ?_;conv=>whnf
 refine bKo rfl ?_;conv=>whnf
 refine gKo rfl ?_;conv=>whnf
 refine hK _ _ _ ?_;clear hK K
 refine HT_block ?_
 replace h:=W_bd h
 refine HT_lpK (body:=reserve_left_b3 _) rfl h [2,4,7,66,67] [2,4] [7] (fun kl kh ids b s=>⟨ofL ([(13,eI s.1),(68,eI s.2.1)]++kl),ofH ([(nthN ids 0,.cells [eI s.2.2.N,.lst (.tok (b+0)) 3 s.2.2.Edges.length (fun j=>eTEdge (s.2.2.Edges.getD j default))]),(b+0,.cells [])]++kh),b+128⟩) ?_;(conv=>whnf);refine And.intro ?_ (fun s m h=>HT_st ?_)
 · refine weak_k ?_;conv=>whnf
   exact And.intro rfl (And.intro (aLc wkI (aLc wkI (aLc (WkR.ptr (fun _=>rfl)) (aLc (WkR.ptr (fun _=>rfl)) (aLc (WkR.ptr (fun _=>rfl)) (aLc (wkr (lsL fun _=>(lsI _ _))) (aLc wkI aLn))))))) (aLc ⟨some _,rfl,bRc rfl (cKc wkI (cKc (WkR.tok (fun _=>rfl) rfl (fun _ _=>Wk.refl _) (fun _=>(lo_TEdge _))) cKn))⟩ (aLc ⟨some _,rfl,bRc rfl cKn⟩ (aLc ⟨some _,rfl,bRc rfl (cKc wkI (cKc (wkr (lsL fun _=>(lo_TEdge _))) (cKc (wkr (lsL fun _=>(lsI _ _))) (cKc (wkr (lsL fun _=>(lsI _ _))) (cKc wkI (cKc (wkr (lsL fun _=>(lo_TOrdinary _))) cKn))))))⟩ (aLc ⟨some _,rfl,bRc rfl (cKc wkI (cKc (wkr loose_nils) cKn))⟩ aLn)))))
 replace h:=W_breserve_left_b3 (W_bd h)
 refine HT_fr dCo rfl fun K hK=>?_;conv=>whnf
 refine hK _ _ _ ?_;clear hK K
 refine HT_seq ?_
 refine HT_if fun K1 K2 hK1 hK2=>?_;conv=>whnf
 refine cLk h (fun _ h=>?_) (fun _ h=>?_)
 · refine hK1 ?_;clear hK1 hK2 K1 K2
   refine HT_skip ?_
   refine tHn ?_
   refine HT_seq ?_
   refine HT_block ?_
   refine HT_fr dCo rfl fun K hK=>?_;conv=>whnf
   refine ix_lk h fun _ h=>?_;conv=>whnf
   refine gKo rfl ?_;conv=>whnf
   refine hK _ _ _ ?_;clear hK K
   refine HT_fr dCo rfl fun K hK=>?_;conv=>whnf
   refine nlA rfl ?_;conv=>whnf
   refine bKo rfl ?_;conv=>whnf
   refine gKo rfl ?_;conv=>whnf
   refine nlA rfl ?_;conv=>whnf
   refine bKo rfl ?_;conv=>whnf
   refine gKo rfl ?_;conv=>whnf
   refine lt_lk (enc:=eTEdge) (d:=default) dCo h rfl rfl rfl ⟨nle rfl,nle rfl,rfl⟩ rfl ⟨⟨rfl,nle rfl⟩,trivial⟩ (fun h=>?_);conv=>whnf
   refine ap_lk (enc:=eTEdge) (d:=default) dCo h (.inl rfl) rfl rfl rfl ⟨rfl,nle rfl,nle rfl,nle rfl,rfl⟩ (fun _=>rfl) (.inr (.inr ⟨_,_,rfl,rfl,rfl⟩)) (fun h=>?_);conv=>whnf
   refine bKo rfl ?_;conv=>whnf
   refine And.intro rfl (And.intro (nle rfl) (And.intro rfl ?_));conv=>whnf
   refine hK _ _ _ ?_;clear hK K
   refine HT_f dCo rfl fun K hK=>?_;conv=>whnf
   refine nlA rfl ?_;conv=>whnf
   refine bKo rfl ?_;conv=>whnf
   refine gKo rfl ?_;conv=>whnf
   refine ix_lk h fun _ h=>?_;conv=>whnf
   refine gKo rfl ?_;conv=>whnf
   refine hK _ _ _ ?_;clear hK K
   refine iBn ?_
   refine tHn ?_
   refine HT_f dCo rfl fun K hK=>?_;conv=>whnf
   refine hK _ _ _ ?_;clear hK K
   refine tHn ?_
   replace h:=W_xnx h
   refine ⟨_,h,?_⟩
   refine weak_k ?_;conv=>whnf
   exact And.intro rfl (And.intro (aLc wkI (aLc wkI (aLc (WkR.ptr (fun _=>rfl)) (aLc (WkR.ptr (fun _=>rfl)) (aLc (WkR.ptr (fun _=>rfl)) (aLc (wkr (lsL fun _=>(lsI _ _))) (aLc wkI aLn))))))) (aLc ⟨some _,rfl,bRc rfl (cKc wkI (cKc (WkR.tok (fun _=>rfl) rfl (fun _ _=>Wk.refl _) (fun _=>(lo_TEdge _))) cKn))⟩ (aLc ⟨some _,rfl,bRc rfl cKn⟩ (aLc ⟨some _,rfl,bRc rfl (cKc wkI (cKc (wkr (lsL fun _=>(lo_TEdge _))) (cKc (wkr (lsL fun _=>(lsI _ _))) (cKc (wkr (lsL fun _=>(lsI _ _))) (cKc wkI (cKc (wkr (lsL fun _=>(lo_TOrdinary _))) cKn))))))⟩ (aLc ⟨some _,rfl,bRc rfl (cKc wkI (cKc (wkr loose_nils) cKn))⟩ aLn)))))
 refine hK2 ?_;clear hK1 hK2 K1 K2
 refine HT_exit ?_
 refine Then_e ?_
 refine Then_e ?_
 refine InBlock_e ?_
 replace h:=W_xbk h
 replace h:=W_inl h
 refine tHn ?_
 refine HT_fdP (.step 1 (.step 2 (.step 3 (.step 4 (.step 5 (.step 6 (.two 0 7 (.step 7 (.step 8 (.step 9 (.step 10 (.nil))))) (.step 0 (.step 8 (.step 9 (.step 10 (.nil)))))))))))) dCo mix_ok rfl (by kernel_rfl) fun K hK=>?_;conv=>whnf
 refine nlA rfl ?_;conv=>whnf
 refine bKo rfl ?_;conv=>whnf
 refine gKo rfl ?_;conv=>whnf
 refine gd_lk_u h fun hg h=>?_
 replace h:=W_lt h
 refine callaK_clone h69 (WkL_cons (Wk.refl _) WkL_nil) hg (fun _=>(lsC (lsI _ _) lsN)) ?_;conv=>whnf
 refine lt_lk (enc:=eI) (d:=default) dCo h rfl rfl rfl ⟨nle rfl,nle rfl,rfl⟩ rfl ⟨⟨rfl,rfl,rfl⟩,trivial⟩ (fun h=>?_);conv=>whnf
 refine And.intro ?_ ?_<;>(conv=>whnf)
 · refine nlA rfl ?_;conv=>whnf
   refine bKo rfl ?_;conv=>whnf
   refine nlA rfl ?_;conv=>whnf
   refine apo_lk (enc:=eI) (d:=default) dCo h rfl rfl rfl ⟨rfl,nle rfl,nle rfl,nle rfl,rfl⟩ (fun _=>rfl) (fun _=>rfl) (fun _=>nofun) rfl (rfl) (fun h=>?_);conv=>whnf
   refine bKo rfl ?_;conv=>whnf
   refine And.intro rfl (And.intro (nle rfl) (And.intro rfl ?_));conv=>whnf
   refine hK _ _ _ ?_;clear hK K
   refine HT_frzSK 5 (enc:=eI) (e:=3) default (ElOk_one dCo rfl rfl rfl (fun _=>⟨rfl,rfl⟩)) ?_;(conv=>whnf);refine ⟨_,_,rfl,rfl,rfl,?_⟩
   refine HT_ret ?_
   replace h:=W_some h
   refine PostP_r dCo fun K hK=>?_;conv=>whnf
   refine nlA rfl ?_;conv=>whnf
   refine bKo rfl ?_;conv=>whnf
   refine nlA rfl ?_;conv=>whnf
   refine hK _ ?_;clear hK K
   cases h
   exact Wk_tup (WkL_cons (Wk_agg (WkL_cons (Wk.refl _) (WkL_cons Wk_free WkL_nil))) (WkL_cons (Wk.refl _) (WkL_cons (Wk.refl _) WkL_nil)))
 refine apo_lk (enc:=eI) (d:=default) dCo h rfl rfl rfl ⟨rfl,nle rfl,nle rfl,nle rfl,rfl⟩ (fun _=>rfl) (fun _=>rfl) (fun _=>nofun) rfl (rfl) (fun h=>?_);conv=>whnf
 refine nlA rfl ?_;conv=>whnf
 refine bKo rfl ?_;conv=>whnf
 refine nlA rfl ?_;conv=>whnf
 refine bKo rfl ?_;conv=>whnf
 refine And.intro rfl (And.intro (nle rfl) (And.intro rfl ?_));conv=>whnf
 refine hK _ _ _ ?_;clear hK K
 refine HT_frzSK 5 (enc:=eI) (e:=3) default (ElOk_one dCo rfl rfl rfl (fun _=>⟨rfl,rfl⟩)) ?_;(conv=>whnf);refine ⟨_,_,rfl,rfl,rfl,?_⟩
 refine HT_ret ?_
 replace h:=W_some h
 refine PostP_r dCo fun K hK=>?_;conv=>whnf
 refine nlA rfl ?_;conv=>whnf
 refine bKo rfl ?_;conv=>whnf
 refine nlA rfl ?_;conv=>whnf
 refine hK _ ?_;clear hK K
 cases h
 exact Wk_tup (WkL_cons (Wk_agg (WkL_cons (Wk.refl _) (WkL_cons Wk_free WkL_nil))) (WkL_cons (Wk.refl _) (WkL_cons (Wk.refl _) WkL_nil)))
theorem reserve_left_call {T:Tbl} (hT:T 38=pureR reserve_left_S) {args:List AV} {hp:Heap} {id:Nat} {k:AV→Prop} {a0:TReserve} {a1:Int} {Φ:TNet×(List Int)×Int→Prop} (h:W (reserve_left_F a0 a1) Φ) (hw:WkL args [eTReserve a0,eI a1]) (hk:∀ y,Φ y→k (.tup [eTNet y.1,(eL 1 eI default) y.2.1,eI y.2.2])):callpK T 38 args hp id k:=by
 obtain ⟨y,e,hy⟩:=W_inv h
 exact callpK_pure hT ⟨a0,a1,rfl,W_of e rfl⟩ (by exact loose_tup (lsC (lo_TNet _) (lsC (lsL fun _=>(lsI _ _)) (lsC (lsI _ _) lsN)))) hw (hk y hy)
def reserve_isSet_F (a0:TReserve) (a1:Int):Option Bool:=jn (fun p1:Bool=>some p1) fun k2=>bd (reserve_Valid_F a0) fun y3=>
   cn y3 (gd (0≤(a0.Calls.length:Int)) (bd (reserve_isIn_F a1 0 (wr ((bshl .i64 1 (a0.Calls.length:Int))-1))) fun y4=>k2 y4)) (k2 false)
def reserve_isSet_S:List AV→AV→Prop:=fun args r=>∃ a0 a1,args=[eTReserve a0,eI a1]∧W (reserve_isSet_F a0 a1) fun y=>r=(eB y)
theorem reserve_isSet_ok {T:Tbl} (hT:TOk Try.prog T) (hpf:PfOk T PF) (h23:T 23=pureR reserve_Valid_S) (h48:T 48=pureR reserve_isIn_S):FOk Try.prog 37 (pureR reserve_isSet_S):=by
 refine FOk_pure hT hpf Try.func37 rfl Try.ntmps37 Try.results37 (by decide) ?_
 rintro args r ⟨a0,a1,rfl,h⟩
 refine ⟨nle rfl,?_,?_⟩
 · exact (lsC (lo_TReserve _) (lsC (lsI _ _) lsN))
 rw [reserve_isSet_F.eq_1] at h
 refine HT_fr dCo rfl fun K hK=>?_;conv=>whnf
 refine hK _ _ _ ?_;clear hK K
 refine HT_fr dCo rfl fun K hK=>?_;conv=>whnf
 replace h:=W_jn h
 refine nlA rfl ?_;conv=>whnf
 refine bKo rfl ?_;conv=>whnf
 refine nlA rfl ?_;conv=>whnf
 replace h:=W_bd h
 refine reserve_Valid_call h23 h (WkL.refl _) (fun _ h=>?_);conv=>whnf
 refine cLk h (fun _ h=>?_) (fun _ h=>?_)<;>(conv=>whnf)
 · refine nlA rfl ?_;conv=>whnf
   refine bKo rfl ?_;conv=>whnf
   refine gKo rfl ?_;conv=>whnf
   refine gd_lk h fun _ h=>?_;conv=>whnf
   replace h:=W_bd h
   refine reserve_isIn_call h48 h (WkL.refl _) (fun _ h=>?_);conv=>whnf
   refine hK _ _ _ ?_;clear hK K
   refine HT_ret ?_
   replace h:=W_some h
   refine PostP_r dCo fun K hK=>?_;conv=>whnf
   refine hK _ ?_;clear hK K
   cases h
   exact Wk.refl _
 refine hK _ _ _ ?_;clear hK K
 refine HT_ret ?_
 replace h:=W_some h
 refine PostP_r dCo fun K hK=>?_;conv=>whnf
 refine hK _ ?_;clear hK K
 cases h
 exact Wk.refl _
theorem reserve_isSet_call {T:Tbl} (hT:T 37=pureR reserve_isSet_S) {args:List AV} {hp:Heap} {id:Nat} {k:AV→Prop} {a0:TReserve} {a1:Int} {Φ:Bool→Prop} (h:W (reserve_isSet_F a0 a1) Φ) (hw:WkL args [eTReserve a0,eI a1]) (hk:∀ y,Φ y→k (eB y)):callpK T 37 args hp id k:=by
 obtain ⟨y,e,hy⟩:=W_inv h
 exact callpK_pure hT ⟨a0,a1,rfl,W_of e rfl⟩ (by exact (lsB _)) hw (hk y hy)
def reserve_Left_F (a0:TReserve) (a1:Int):Option (TNet×(List Int)×Int):=bd (reserve_isSet_F a0 a1) fun y1=>jn (fun p2:Unit=>
   some ((⟨0,[]⟩:TNet),[],330)) fun k3=>cn y1 (bd (reserve_left_F a0 a1) fun y4=>cn (decide (y4.2.2<0)) (some (y4.1,y4.2.1,0)) (k3 ())) (k3 ())
def reserve_Left_S:List AV→AV→Prop:=fun args r=>∃ a0 a1,args=[eTReserve a0,eI a1]∧W (reserve_Left_F a0 a1) fun y=>r=(.tup [eTNet y.1,(eL 1 eI default) y.2.1,eI y.2.2])
theorem reserve_Left_ok {T:Tbl} (hT:TOk Try.prog T) (hpf:PfOk T PF) (h37:T 37=pureR reserve_isSet_S) (h38:T 38=pureR reserve_left_S):FOk Try.prog 20 (pureR reserve_Left_S):=by
 refine FOk_pure hT hpf Try.func20 rfl Try.ntmps20 Try.results20 (by decide) ?_
 rintro args r ⟨a0,a1,rfl,h⟩
 refine ⟨nle rfl,?_,?_⟩
 · exact (lsC (lo_TReserve _) (lsC (lsI _ _) lsN))
 rw [reserve_Left_F.eq_1] at h
 refine HT_fr dCo rfl fun K hK=>?_;conv=>whnf
 refine hK _ _ _ ?_;clear hK K
 refine HT_seq ?_
 refine HT_fr dCo rfl fun K hK=>?_;conv=>whnf
 refine nlA rfl ?_;conv=>whnf
 refine bKo rfl ?_;conv=>whnf
 refine nlA rfl ?_;conv=>whnf
 replace h:=W_bd h
 refine reserve_isSet_call h37 h (WkL.refl _) (fun _ h=>?_);conv=>whnf
 refine hK _ _ _ ?_;clear hK K
 replace h:=W_jn h
 refine HT_if fun K1 K2 hK1 hK2=>?_;conv=>whnf
 refine cLk h (fun _ h=>?_) (fun _ h=>?_)
 · refine hK1 ?_;clear hK1 hK2 K1 K2
   refine HT_fr dCo rfl fun K hK=>?_;conv=>whnf
   refine nlA rfl ?_;conv=>whnf
   refine bKo rfl ?_;conv=>whnf
   refine nlA rfl ?_;conv=>whnf
   replace h:=W_bd h
   refine reserve_left_call h38 h (WkL.refl _) (fun _ h=>?_);conv=>whnf
   refine bKo rfl ?_;conv=>whnf
   refine And.intro rfl (And.intro (nle rfl) (And.intro rfl ?_));conv=>whnf
   refine hK _ _ _ ?_;clear hK K
   refine HT_fr dCo rfl fun K hK=>?_;conv=>whnf
   refine hK _ _ _ ?_;clear hK K
   refine HT_if fun K1 K2 hK1 hK2=>?_;conv=>whnf
   refine cLk h (fun _ h=>?_) (fun _ h=>?_)
   · refine hK1 ?_;clear hK1 hK2 K1 K2
     refine HT_fr dCo rfl fun K hK=>?_;conv=>whnf
     refine nlA rfl ?_;conv=>whnf
     refine bKo rfl ?_;conv=>whnf
     refine nlA rfl ?_;conv=>whnf
     refine bKo rfl ?_;conv=>whnf
     refine And.intro rfl (And.intro (nle rfl) (And.intro rfl ?_));conv=>whnf
     refine hK _ _ _ ?_;clear hK K
     refine HT_ret ?_
     refine Then_r ?_
     replace h:=W_some h
     refine PostP_r dCo fun K hK=>?_;conv=>whnf
     refine nlA rfl ?_;conv=>whnf
     refine bKo rfl ?_;conv=>whnf
     refine nlA rfl ?_;conv=>whnf
     refine hK _ ?_;clear hK K
     cases h
     exact Wk.refl _
   refine hK2 ?_;clear hK1 hK2 K1 K2
   refine HT_skip ?_
   refine tHn ?_
   refine HT_fr dCo rfl fun K hK=>?_;conv=>whnf
   refine bKo rfl ?_;conv=>whnf
   refine And.intro rfl (And.intro (nle rfl) (And.intro rfl ?_));conv=>whnf
   refine hK _ _ _ ?_;clear hK K
   refine HT_ret ?_
   replace h:=W_some h
   refine PostP_r dCo fun K hK=>?_;conv=>whnf
   refine nlA rfl ?_;conv=>whnf
   refine bKo rfl ?_;conv=>whnf
   refine nlA rfl ?_;conv=>whnf
   refine hK _ ?_;clear hK K
   cases h
   exact Wk_tup (WkL_cons (Wk_agg (WkL_cons (Wk.refl _) (WkL_cons Wk_nil WkL_nil))) (WkL_cons Wk_nil (WkL_cons (Wk.refl _) WkL_nil)))
 refine hK2 ?_;clear hK1 hK2 K1 K2
 refine HT_skip ?_
 refine tHn ?_
 refine HT_fr dCo rfl fun K hK=>?_;conv=>whnf
 refine bKo rfl ?_;conv=>whnf
 refine And.intro rfl (And.intro (nle rfl) (And.intro rfl ?_));conv=>whnf
 refine hK _ _ _ ?_;clear hK K
 refine HT_ret ?_
 replace h:=W_some h
 refine PostP_r dCo fun K hK=>?_;conv=>whnf
 refine nlA rfl ?_;conv=>whnf
 refine bKo rfl ?_;conv=>whnf
 refine nlA rfl ?_;conv=>whnf
 refine hK _ ?_;clear hK K
 cases h
 exact Wk_tup (WkL_cons (Wk_agg (WkL_cons (Wk.refl _) (WkL_cons Wk_nil WkL_nil))) (WkL_cons Wk_nil (WkL_cons (Wk.refl _) WkL_nil)))
theorem reserve_Left_call {T:Tbl} (hT:T 20=pureR reserve_Left_S) {args:List AV} {hp:Heap} {id:Nat} {k:AV→Prop} {a0:TReserve} {a1:Int} {Φ:TNet×(List Int)×Int→Prop} (h:W (reserve_Left_F a0 a1) Φ) (hw:WkL args [eTReserve a0,eI a1]) (hk:∀ y,Φ y→k (.tup [eTNet y.1,(eL 1 eI default) y.2.1,eI y.2.2])):callpK T 20 args hp id k:=by
 obtain ⟨y,e,hy⟩:=W_inv h
 exact callpK_pure hT ⟨a0,a1,rfl,W_of e rfl⟩ (by exact loose_tup (lsC (lo_TNet _) (lsC (lsL fun _=>(lsI _ _)) (lsC (lsI _ _) lsN)))) hw (hk y hy)
def flow_without_b1 (a1:Int) (m1:List TEdge) (s2:Int×TNet):Option (Ct (Int×TNet) TNet):=cn (decide (s2.1<(m1.length:Int))) (gd (0≤s2.1) (jn (fun p3:TNet=>
   some (.nx ((wr (s2.1+1)),p3))) fun k4=>cn ((band .i64 (bshr .i64 a1 s2.1) 1) ==
   1) (gd (0≤s2.1∧s2.1<(s2.2.Edges.length:Int)) (st s2.2.Edges (s2.1) (⟨(s2.2.Edges.getD (s2.1).toNat default).From,(s2.2.Edges.getD (s2.1).toNat default).To,0⟩:TEdge) fun l5=>
   k4 (⟨s2.2.N,l5⟩:TNet))) (k4 s2.2))) (some (.bk (s2.1,s2.2)))
theorem W_bflow_without_b1 {a1:Int} {m1:List TEdge} {s2:Int×TNet} {Φ:Ct (Int×TNet) TNet→Prop} (h:W (flow_without_b1 a1 m1 s2) Φ):W (cn (decide (s2.1<(m1.length:Int))) (gd (0≤s2.1) (jn (fun p3:TNet=>some (.nx ((wr (s2.1+1)),p3))) fun k4=>cn ((band .i64 (bshr .i64 a1 s2.1) 1) ==
   1) (gd (0≤s2.1∧s2.1<(s2.2.Edges.length:Int)) (st s2.2.Edges (s2.1) (⟨(s2.2.Edges.getD (s2.1).toNat default).From,(s2.2.Edges.getD (s2.1).toNat default).To,0⟩:TEdge) fun l5=>
   k4 (⟨s2.2.N,l5⟩:TNet))) (k4 s2.2))) (some (.bk (s2.1,s2.2)))) Φ:=h
def flow_without_F (a0:TNet) (a1:Int):Option TNet:=gd (a0.Edges.length≤1048576) (lt a0.Edges fun m1=>
   bd (lp (flow_without_b1 a1 m1) FU (0,(⟨a0.N,m1⟩:TNet))) fun c6=>smK c6 (fun s7=>some (⟨s7.2.N,s7.2.Edges⟩:TNet)) (fun r8=>some r8))
def flow_without_S:List AV→AV→Prop:=fun args r=>∃ a0 a1,args=[eTNet a0,eI a1]∧W (flow_without_F a0 a1) fun y=>r=(eTNet y)
theorem flow_without_ok {T:Tbl} (hT:TOk Try.prog T) (hpf:PfOk T PF) (h66:T 66=cloneR 3 eTEdge default):FOk Try.prog 55 (pureR flow_without_S):=by
 refine FOk_pure hT hpf Try.func55 rfl Try.ntmps55 Try.results55 (by decide) ?_
 rintro args r ⟨a0,a1,rfl,h⟩
 refine ⟨nle rfl,?_,?_⟩
 · exact (lsC (lo_TNet _) (lsC (lsI _ _) lsN))
 rw [flow_without_F.eq_1] at h
 refine HT_fr dCo rfl fun K hK=>?_;conv=>whnf
 refine hK _ _ _ ?_;clear hK K
 refine HT_fd dCo mix_ok rfl (by kernel_rfl) fun K hK=>?_;conv=>whnf
 refine nlA rfl ?_;conv=>whnf
 refine bKo rfl ?_;conv=>whnf
 refine gKo rfl ?_;conv=>whnf
 refine nlA rfl ?_;conv=>whnf
 refine bKo rfl ?_;conv=>whnf
 refine gKo rfl ?_;conv=>whnf
 refine gd_lk_u h fun hg h=>?_
 replace h:=W_lt h
 refine callaK_clone h66 (WkL_cons (Wk.refl _) WkL_nil) hg (fun _=>(lsC (lsI _ _) (lsC (lsI _ _) (lsC (lsI _ _) lsN)))) ?_;conv=>whnf
 refine bKo rfl ?_;conv=>whnf
 refine And.intro rfl (And.intro (nle rfl) (And.intro rfl ?_));conv=>whnf
 refine hK _ _ _ ?_;clear hK K
 refine HT_seq ?_
 refine HT_fr dCo rfl fun K hK=>?_;conv=>whnf
 refine nlA rfl ?_;conv=>whnf
 refine bKo rfl ?_;conv=>whnf
 refine gKo rfl ?_;conv=>whnf
 refine hK _ _ _ ?_;clear hK K
 refine HT_block ?_
 replace h:=W_bd h
 refine HT_lpR (body:=flow_without_b1 _ _) rfl h [1,4,5,15] [4] [] [5] (fun kl kh kr ids b s=>⟨ofL ([(16,eI s.1)]++kl),ofH (([(nthN ids 0,.cells [eI s.2.N,.so (b+0) 0 s.2.Edges.length 3])]++kh)++([(b+0,.cells (flE (ceE eTEdge) s.2.Edges))]++kr)),b+128⟩) ?_;(conv=>whnf);refine And.intro ?_ (fun s m h=>HT_st ?_)
 · refine weak_r ?_;conv=>whnf
   exact And.intro rfl (And.intro (aLc wkI (aLc wkI (aLc (WkR.ptr (fun _=>rfl)) (aLc (WkR.ptr (fun _=>rfl)) (aLc wkI aLn))))) (aLc ⟨some _,rfl,bRc rfl (cKc wkI (cKc (WkR.so (fun _=>rfl)) cKn))⟩ (aLc ⟨some _,rfl,bRc rfl (cKc wkI (cKc (wkr loose_nils) cKn))⟩ (aLc ⟨some _,rfl,BkR_r rfl (fun _=>(lsC (lsI _ _) (lsC (lsI _ _) (lsC (lsI _ _) lsN))))⟩ aLn))))
 replace h:=W_bflow_without_b1 (W_bd h)
 refine HT_fr dCo rfl fun K hK=>?_;conv=>whnf
 refine hK _ _ _ ?_;clear hK K
 refine HT_seq ?_
 refine HT_if fun K1 K2 hK1 hK2=>?_;conv=>whnf
 refine cLk h (fun _ h=>?_) (fun _ h=>?_)
 · refine hK1 ?_;clear hK1 hK2 K1 K2
   refine HT_skip ?_
   refine tHn ?_
   refine HT_seq ?_
   refine HT_block ?_
   refine HT_fr dCo rfl fun K hK=>?_;conv=>whnf
   refine hK _ _ _ ?_;clear hK K
   refine HT_fr dCo rfl fun K hK=>?_;conv=>whnf
   refine gd_lk h fun _ h=>?_;conv=>whnf
   refine hK _ _ _ ?_;clear hK K
   replace h:=W_jn h
   refine HT_if fun K1 K2 hK1 hK2=>?_;conv=>whnf
   refine cLk h (fun _ h=>?_) (fun _ h=>?_)
   · refine hK1 ?_;clear hK1 hK2 K1 K2
     refine HT_f dCo rfl fun K hK=>?_;conv=>whnf
     refine nlA rfl ?_;conv=>whnf
     refine bKo rfl ?_;conv=>whnf
     refine gKo rfl ?_;conv=>whnf
     refine gd_lkN h (rfl) fun hx804 h=>?_;conv=>whnf
     refine bKo rfl ?_;conv=>whnf
     refine st_lk (enc:=eTEdge) (d:=default) (q:=2) h (fun _=>rfl) (rfl) hx804 rfl (nle rfl) rfl rfl (fun h=>?_);conv=>whnf
     refine hK _ _ _ ?_;clear hK K
     refine iBn ?_
     refine tHn ?_
     refine HT_f dCo rfl fun K hK=>?_;conv=>whnf
     refine hK _ _ _ ?_;clear hK K
     refine tHn ?_
     replace h:=W_xnx h
     refine ⟨_,h,?_⟩
     refine weak_r ?_;conv=>whnf
     exact And.intro rfl (And.intro (aLc wkI (aLc wkI (aLc (WkR.ptr (fun _=>rfl)) (aLc (WkR.ptr (fun _=>rfl)) (aLc wkI aLn))))) (aLc ⟨some _,rfl,bRc rfl (cKc wkI (cKc (WkR.soN (fun _=>rfl) (lenset rfl).symm) cKn))⟩ (aLc ⟨some _,rfl,bRc rfl (cKc wkI (cKc (wkr loose_nils) cKn))⟩ (aLc ⟨some _,rfl,BkR_r rfl (fun _=>(lsC (lsI _ _) (lsC (lsI _ _) (lsC (lsI _ _) lsN))))⟩ aLn))))
   refine hK2 ?_;clear hK1 hK2 K1 K2
   refine HT_skip ?_
   refine iBn ?_
   refine tHn ?_
   refine HT_f dCo rfl fun K hK=>?_;conv=>whnf
   refine hK _ _ _ ?_;clear hK K
   refine tHn ?_
   replace h:=W_xnx h
   refine ⟨_,h,?_⟩
   refine weak_r ?_;conv=>whnf
   exact And.intro rfl (And.intro (aLc wkI (aLc wkI (aLc (WkR.ptr (fun _=>rfl)) (aLc (WkR.ptr (fun _=>rfl)) (aLc wkI aLn))))) (aLc ⟨some _,rfl,bRc rfl (cKc wkI (cKc (WkR.so (fun _=>rfl)) cKn))⟩ (aLc ⟨some _,rfl,bRc rfl (cKc wkI (cKc (wkr loose_nils) cKn))⟩ (aLc ⟨some _,rfl,BkR_r rfl (fun _=>(lsC (lsI _ _) (lsC (lsI _ _) (lsC (lsI _ _) lsN))))⟩ aLn))))
 refine hK2 ?_;clear hK1 hK2 K1 K2
 refine HT_exit ?_
 refine Then_e ?_
 refine Then_e ?_
 refine InBlock_e ?_
 replace h:=W_xbk h
 replace h:=W_inl h
 refine tHn ?_
 refine HT_frzBK 5 1 (enc:=eTEdge) (e:=53) default (ElOk_agg dCo rfl rfl (fun _=>rfl) (fun _=>rfl)) ?_;(conv=>whnf);refine ⟨_,_,_,(Nat.ne_of_beq_eq_false rfl),rfl,rfl,rfl,rfl,?_⟩;conv=>whnf
 refine HT_fr dCo rfl fun K hK=>?_;conv=>whnf
 refine nlA rfl ?_;conv=>whnf
 refine bKo rfl ?_;conv=>whnf
 refine nlA rfl ?_;conv=>whnf
 refine bKo rfl ?_;conv=>whnf
 refine And.intro rfl (And.intro (nle rfl) (And.intro rfl ?_));conv=>whnf
 refine hK _ _ _ ?_;clear hK K
 refine HT_ret ?_
 replace h:=W_some h
 refine PostP_r dCo fun K hK=>?_;conv=>whnf
 refine nlA rfl ?_;conv=>whnf
 refine bKo rfl ?_;conv=>whnf
 refine nlA rfl ?_;conv=>whnf
 refine hK _ ?_;clear hK K
 cases h
 exact Wk.refl _
theorem flow_without_call {T:Tbl} (hT:T 55=pureR flow_without_S) {args:List AV} {hp:Heap} {id:Nat} {k:AV→Prop} {a0:TNet} {a1:Int} {Φ:TNet→Prop} (h:W (flow_without_F a0 a1) Φ) (hw:WkL args [eTNet a0,eI a1]) (hk:∀ y,Φ y→k (eTNet y)):callpK T 55 args hp id k:=by
 obtain ⟨y,e,hy⟩:=W_inv h
 exact callpK_pure hT ⟨a0,a1,rfl,W_of e rfl⟩ (by exact (lo_TNet _)) hw (hk y hy)
def flow_Without_F (a0:TNet) (a1:Int):Option (TNet×Int):=jn (fun p1:Bool=>cn p1 (some ((⟨0,[]⟩:TNet),270)) (bd (flow_without_F a0 a1) fun y5=>
   some (y5,0))) fun k2=>bd (flow_Valid_F a0) fun y3=>
   cn (!y3) (k2 true) (gd (0≤(a0.Edges.length:Int)) (bd (flow_isIn_F a1 0 (wr ((bshl .i64 1 (a0.Edges.length:Int))-1))) fun y4=>k2 (!y4)))
def flow_Without_S:List AV→AV→Prop:=fun args r=>∃ a0 a1,args=[eTNet a0,eI a1]∧W (flow_Without_F a0 a1) fun y=>r=(.tup [eTNet y.1,eI y.2])
theorem flow_Without_ok {T:Tbl} (hT:TOk Try.prog T) (hpf:PfOk T PF) (h40:T 40=pureR flow_isIn_S) (h47:T 47=pureR flow_Valid_S) (h55:T 55=pureR flow_without_S):FOk Try.prog 25 (pureR flow_Without_S):=by
 refine FOk_pure hT hpf Try.func25 rfl Try.ntmps25 Try.results25 (by decide) ?_
 rintro args r ⟨a0,a1,rfl,h⟩
 refine ⟨nle rfl,?_,?_⟩
 · exact (lsC (lo_TNet _) (lsC (lsI _ _) lsN))
 rw [flow_Without_F.eq_1] at h
 refine HT_fr dCo rfl fun K hK=>?_;conv=>whnf
 refine hK _ _ _ ?_;clear hK K
 refine HT_seq ?_
 refine HT_fr dCo rfl fun K hK=>?_;conv=>whnf
 replace h:=W_jn h
 refine nlA rfl ?_;conv=>whnf
 refine bKo rfl ?_;conv=>whnf
 refine nlA rfl ?_;conv=>whnf
 replace h:=W_bd h
 refine flow_Valid_call h47 h (WkL.refl _) (fun _ h=>?_);conv=>whnf
 refine cLk h (fun _ h=>?_) (fun _ h=>?_)<;>(conv=>whnf)
 · refine hK _ _ _ ?_;clear hK K
   refine HT_if fun K1 K2 hK1 hK2=>?_;conv=>whnf
   refine hK1 ?_;clear hK1 hK2 K1 K2
   replace h:=W_cnT h
   refine HT_fr dCo rfl fun K hK=>?_;conv=>whnf
   refine bKo rfl ?_;conv=>whnf
   refine And.intro rfl (And.intro (nle rfl) (And.intro rfl ?_));conv=>whnf
   refine hK _ _ _ ?_;clear hK K
   refine HT_ret ?_
   refine Then_r ?_
   replace h:=W_some h
   refine PostP_r dCo fun K hK=>?_;conv=>whnf
   refine nlA rfl ?_;conv=>whnf
   refine bKo rfl ?_;conv=>whnf
   refine nlA rfl ?_;conv=>whnf
   refine hK _ ?_;clear hK K
   cases h
   exact Wk_tup (WkL_cons (Wk_agg (WkL_cons (Wk.refl _) (WkL_cons Wk_nil WkL_nil))) (WkL_cons (Wk.refl _) WkL_nil))
 refine nlA rfl ?_;conv=>whnf
 refine bKo rfl ?_;conv=>whnf
 refine gKo rfl ?_;conv=>whnf
 refine gd_lk h fun _ h=>?_;conv=>whnf
 replace h:=W_bd h
 refine flow_isIn_call h40 h (WkL.refl _) (fun _ h=>?_);conv=>whnf
 refine hK _ _ _ ?_;clear hK K
 refine HT_if fun K1 K2 hK1 hK2=>?_;conv=>whnf
 refine cLk h (fun _ h=>?_) (fun _ h=>?_)
 · refine hK1 ?_;clear hK1 hK2 K1 K2
   refine HT_fr dCo rfl fun K hK=>?_;conv=>whnf
   refine bKo rfl ?_;conv=>whnf
   refine And.intro rfl (And.intro (nle rfl) (And.intro rfl ?_));conv=>whnf
   refine hK _ _ _ ?_;clear hK K
   refine HT_ret ?_
   refine Then_r ?_
   replace h:=W_some h
   refine PostP_r dCo fun K hK=>?_;conv=>whnf
   refine nlA rfl ?_;conv=>whnf
   refine bKo rfl ?_;conv=>whnf
   refine nlA rfl ?_;conv=>whnf
   refine hK _ ?_;clear hK K
   cases h
   exact Wk_tup (WkL_cons (Wk_agg (WkL_cons (Wk.refl _) (WkL_cons Wk_nil WkL_nil))) (WkL_cons (Wk.refl _) WkL_nil))
 refine hK2 ?_;clear hK1 hK2 K1 K2
 refine HT_skip ?_
 refine tHn ?_
 refine HT_fr dCo rfl fun K hK=>?_;conv=>whnf
 refine nlA rfl ?_;conv=>whnf
 refine bKo rfl ?_;conv=>whnf
 refine nlA rfl ?_;conv=>whnf
 replace h:=W_bd h
 refine flow_without_call h55 h (WkL.refl _) (fun _ h=>?_);conv=>whnf
 refine bKo rfl ?_;conv=>whnf
 refine And.intro rfl (And.intro (nle rfl) (And.intro rfl ?_));conv=>whnf
 refine hK _ _ _ ?_;clear hK K
 refine HT_ret ?_
 replace h:=W_some h
 refine PostP_r dCo fun K hK=>?_;conv=>whnf
 refine nlA rfl ?_;conv=>whnf
 refine bKo rfl ?_;conv=>whnf
 refine nlA rfl ?_;conv=>whnf
 refine hK _ ?_;clear hK K
 cases h
 exact Wk.refl _
theorem flow_Without_call {T:Tbl} (hT:T 25=pureR flow_Without_S) {args:List AV} {hp:Heap} {id:Nat} {k:AV→Prop} {a0:TNet} {a1:Int} {Φ:TNet×Int→Prop} (h:W (flow_Without_F a0 a1) Φ) (hw:WkL args [eTNet a0,eI a1]) (hk:∀ y,Φ y→k (.tup [eTNet y.1,eI y.2])):callpK T 25 args hp id k:=by
 obtain ⟨y,e,hy⟩:=W_inv h
 exact callpK_pure hT ⟨a0,a1,rfl,W_of e rfl⟩ (by exact loose_tup (lsC (lo_TNet _) (lsC (lsI _ _) lsN))) hw (hk y hy)
def flow_isSupply_b1 (a1:List Int) (s4:Int×Int):Option (Ct (Int×Int) Bool):=cn (decide (s4.2<(a1.length:Int))) (ix a1 default s4.2 fun e5=>
   bd (flow_isIn_F e5 (-100000) 100000) fun y6=>cn (!y6) (some (.rt false)) (some (.nx ((wr (s4.1+e5)),(wr (s4.2+1)))))) (some (.bk (s4.1,s4.2)))
theorem W_bflow_isSupply_b1 {a1:List Int} {s4:Int×Int} {Φ:Ct (Int×Int) Bool→Prop} (h:W (flow_isSupply_b1 a1 s4) Φ):W (cn (decide (s4.2<(a1.length:Int))) (ix a1 default s4.2 fun e5=>bd (flow_isIn_F e5 (-100000) 100000) fun y6=>
   cn (!y6) (some (.rt false)) (some (.nx ((wr (s4.1+e5)),(wr (s4.2+1)))))) (some (.bk (s4.1,s4.2)))) Φ:=h
def flow_isSupply_F (a0:TNet) (a1:List Int):Option Bool:=jn (fun p1:Bool=>cn p1 (some false) (bd (lp (flow_isSupply_b1 a1) FU (0,0)) fun c7=>smK c7 (fun s8=>
   some (s8.1==0)) (fun r9=>some r9))) fun k2=>bd (flow_Valid_F a0) fun y3=>cn (!y3) (k2 true) (k2 ((a1.length:Int) != a0.N))
def flow_isSupply_S:List AV→AV→Prop:=fun args r=>∃ a0 a1,args=[eTNet a0,(eL 1 eI default) a1]∧W (flow_isSupply_F a0 a1) fun y=>r=(eB y)
theorem flow_isSupply_ok {T:Tbl} (hT:TOk Try.prog T) (hpf:PfOk T PF) (h40:T 40=pureR flow_isIn_S) (h47:T 47=pureR flow_Valid_S):FOk Try.prog 56 (pureR flow_isSupply_S):=by
 refine FOk_pure hT hpf Try.func56 rfl Try.ntmps56 Try.results56 (by decide) ?_
 rintro args r ⟨a0,a1,rfl,h⟩
 refine ⟨nle rfl,?_,?_⟩
 · exact (lsC (lo_TNet _) (lsC (lsL fun _=>(lsI _ _)) lsN))
 rw [flow_isSupply_F.eq_1] at h
 refine HT_fr dCo rfl fun K hK=>?_;conv=>whnf
 refine hK _ _ _ ?_;clear hK K
 refine HT_seq ?_
 refine HT_fr dCo rfl fun K hK=>?_;conv=>whnf
 replace h:=W_jn h
 refine nlA rfl ?_;conv=>whnf
 refine bKo rfl ?_;conv=>whnf
 refine nlA rfl ?_;conv=>whnf
 replace h:=W_bd h
 refine flow_Valid_call h47 h (WkL.refl _) (fun _ h=>?_);conv=>whnf
 refine cLk h (fun _ h=>?_) (fun _ h=>?_)<;>(conv=>whnf)
 · refine hK _ _ _ ?_;clear hK K
   refine HT_if fun K1 K2 hK1 hK2=>?_;conv=>whnf
   refine hK1 ?_;clear hK1 hK2 K1 K2
   replace h:=W_cnT h
   refine HT_fr dCo rfl fun K hK=>?_;conv=>whnf
   refine hK _ _ _ ?_;clear hK K
   refine HT_ret ?_
   refine Then_r ?_
   replace h:=W_some h
   refine PostP_r dCo fun K hK=>?_;conv=>whnf
   refine hK _ ?_;clear hK K
   cases h
   exact Wk.refl _
 refine nlA rfl ?_;conv=>whnf
 refine bKo rfl ?_;conv=>whnf
 refine gKo rfl ?_;conv=>whnf
 refine hK _ _ _ ?_;clear hK K
 refine HT_if fun K1 K2 hK1 hK2=>?_;conv=>whnf
 refine cLk h (fun _ h=>?_) (fun _ h=>?_)
 · refine hK1 ?_;clear hK1 hK2 K1 K2
   refine HT_fr dCo rfl fun K hK=>?_;conv=>whnf
   refine hK _ _ _ ?_;clear hK K
   refine HT_ret ?_
   refine Then_r ?_
   replace h:=W_some h
   refine PostP_r dCo fun K hK=>?_;conv=>whnf
   refine hK _ ?_;clear hK K
   cases h
   exact Wk.refl _
 refine hK2 ?_;clear hK1 hK2 K1 K2
 refine HT_skip ?_
 refine tHn ?_
 refine HT_fr dCo rfl fun K hK=>?_;conv=>whnf
 refine hK _ _ _ ?_;clear hK K
 refine HT_seq ?_
 refine HT_fr dCo rfl fun K hK=>?_;conv=>whnf
 refine hK _ _ _ ?_;clear hK K
 refine HT_block ?_
 replace h:=W_bd h
 refine HT_lpK (body:=flow_isSupply_b1 _) rfl h [18,19] [] [] (fun kl kh ids b s=>⟨ofL ([(5,eI s.1),(20,eI s.2)]++kl),ofH ([]++kh),b+64⟩) ?_;(conv=>whnf);refine And.intro ?_ (fun s m h=>HT_st ?_)
 · refine weak_k ?_;conv=>whnf
   exact And.intro rfl (And.intro (aLc wkI (aLc wkI (aLc (wkr (lsL fun _=>(lsI _ _))) (aLc wkI aLn)))) aLn)
 replace h:=W_bflow_isSupply_b1 (W_bd h)
 refine HT_fr dCo rfl fun K hK=>?_;conv=>whnf
 refine hK _ _ _ ?_;clear hK K
 refine HT_seq ?_
 refine HT_if fun K1 K2 hK1 hK2=>?_;conv=>whnf
 refine cLk h (fun _ h=>?_) (fun _ h=>?_)
 · refine hK1 ?_;clear hK1 hK2 K1 K2
   refine HT_skip ?_
   refine tHn ?_
   refine HT_seq ?_
   refine HT_block ?_
   refine HT_fr dCo rfl fun K hK=>?_;conv=>whnf
   refine ix_lk h fun _ h=>?_;conv=>whnf
   refine gKo rfl ?_;conv=>whnf
   refine hK _ _ _ ?_;clear hK K
   refine HT_seq ?_
   refine HT_fr dCo rfl fun K hK=>?_;conv=>whnf
   replace h:=W_bd h
   refine flow_isIn_call h40 h (WkL.refl _) (fun _ h=>?_);conv=>whnf
   refine hK _ _ _ ?_;clear hK K
   refine HT_if fun K1 K2 hK1 hK2=>?_;conv=>whnf
   refine cLk h (fun _ h=>?_) (fun _ h=>?_)
   · refine hK1 ?_;clear hK1 hK2 K1 K2
     refine HT_fr dCo rfl fun K hK=>?_;conv=>whnf
     refine hK _ _ _ ?_;clear hK K
     refine HT_ret ?_
     refine Then_r ?_
     refine InBlock_r ?_
     refine Then_r ?_
     refine Then_r ?_
     refine InBlock_r ?_
     refine Then_r ?_
     replace h:=W_xrt h
     replace h:=W_inr h
     replace h:=W_some h
     refine PostP_r dCo fun K hK=>?_;conv=>whnf
     refine hK _ ?_;clear hK K
     cases h
     exact Wk.refl _
   refine hK2 ?_;clear hK1 hK2 K1 K2
   refine HT_skip ?_
   refine tHn ?_
   refine HT_f dCo rfl fun K hK=>?_;conv=>whnf
   refine hK _ _ _ ?_;clear hK K
   refine iBn ?_
   refine tHn ?_
   refine HT_f dCo rfl fun K hK=>?_;conv=>whnf
   refine hK _ _ _ ?_;clear hK K
   refine tHn ?_
   replace h:=W_xnx h
   refine ⟨_,h,?_⟩
   refine weak_k ?_;conv=>whnf
   exact And.intro rfl (And.intro (aLc wkI (aLc wkI (aLc (wkr (lsL fun _=>(lsI _ _))) (aLc wkI aLn)))) aLn)
 refine hK2 ?_;clear hK1 hK2 K1 K2
 refine HT_exit ?_
 refine Then_e ?_
 refine Then_e ?_
 refine InBlock_e ?_
 replace h:=W_xbk h
 replace h:=W_inl h
 refine tHn ?_
 refine HT_fr dCo rfl fun K hK=>?_;conv=>whnf
 refine hK _ _ _ ?_;clear hK K
 refine HT_ret ?_
 replace h:=W_some h
 refine PostP_r dCo fun K hK=>?_;conv=>whnf
 refine hK _ ?_;clear hK K
 cases h
 exact Wk.refl _
theorem flow_isSupply_call {T:Tbl} (hT:T 56=pureR flow_isSupply_S) {args:List AV} {hp:Heap} {id:Nat} {k:AV→Prop} {a0:TNet} {a1:List Int} {Φ:Bool→Prop} (h:W (flow_isSupply_F a0 a1) Φ) (hw:WkL args [eTNet a0,(eL 1 eI default) a1]) (hk:∀ y,Φ y→k (eB y)):callpK T 56 args hp id k:=by
 obtain ⟨y,e,hy⟩:=W_inv h
 exact callpK_pure hT ⟨a0,a1,rfl,W_of e rfl⟩ (by exact (lsB _)) hw (hk y hy)

   def flow_given_b1 (a0:TNet) (a1:List Int) (s2:Int×(List Int)):Option (Ct (Int×(List Int)) ((List Int)×Bool)):=cn (decide (s2.1<(a0.Edges.length:Int))) (ix a0.Edges default s2.1 fun e3=>
   ix a1 default s2.1 fun e4=>bd (flow_isIn_F e4 0 e3.Capacity) fun y5=>
   cn (!y5) (some (.rt ([],false))) (gd (0≤e3.From∧e3.From<(s2.2.length:Int)) (ix a1 default s2.1 fun e6=>
   gd (0≤e3.From∧e3.From<(s2.2.length:Int)) (st s2.2 (e3.From) (wr ((s2.2.getD (e3.From).toNat default)+e6)) fun l7=>
   gd (0≤e3.To∧e3.To<(l7.length:Int)) (ix a1 default s2.1 fun e8=>
   gd (0≤e3.To∧e3.To<(l7.length:Int)) (st l7 (e3.To) (wr ((l7.getD (e3.To).toNat default)-e8)) fun l9=>some (.nx ((wr (s2.1+1)),l9)))))))) (some (.bk (s2.1,s2.2)))
theorem W_bflow_given_b1 {a0:TNet} {a1:List Int} {s2:Int×(List Int)} {Φ:Ct (Int×(List Int)) ((List Int)×Bool)→Prop} (h:W (flow_given_b1 a0 a1 s2) Φ):W (cn (decide (s2.1<(a0.Edges.length:Int))) (ix a0.Edges default s2.1 fun e3=>ix a1 default s2.1 fun e4=>bd (flow_isIn_F e4 0 e3.Capacity) fun y5=>
   cn (!y5) (some (.rt ([],false))) (gd (0≤e3.From∧e3.From<(s2.2.length:Int)) (ix a1 default s2.1 fun e6=>
   gd (0≤e3.From∧e3.From<(s2.2.length:Int)) (st s2.2 (e3.From) (wr ((s2.2.getD (e3.From).toNat default)+e6)) fun l7=>
   gd (0≤e3.To∧e3.To<(l7.length:Int)) (ix a1 default s2.1 fun e8=>
   gd (0≤e3.To∧e3.To<(l7.length:Int)) (st l7 (e3.To) (wr ((l7.getD (e3.To).toNat default)-e8)) fun l9=>some (.nx ((wr (s2.1+1)),l9)))))))) (some (.bk (s2.1,s2.2)))) Φ:=h
def flow_given_F (a0:TNet) (a1:List Int):Option ((List Int)×Bool):=cn ((a1.length:Int) !=
   (a0.Edges.length:Int)) (some ([],false)) (gd ((0:Int)≤a0.N∧a0.N≤(1048576:Int)) (lt (List.replicate (a0.N).toNat (0:Int)) fun l1=>
   bd (lp (flow_given_b1 a0 a1) FU (0,l1)) fun c10=>smK c10 (fun s11=>some (s11.2,true)) (fun r12=>some r12)))
def flow_given_S:List AV→AV→Prop:=fun args r=>∃ a0 a1,args=[eTNet a0,(eL 1 eI default) a1]∧W (flow_given_F a0 a1) fun y=>r=(.tup [(eL 1 eI default) y.1,eB y.2])
theorem flow_given_ok {T:Tbl} (hT:TOk Try.prog T) (hpf:PfOk T PF) (h40:T 40=pureR flow_isIn_S):FOk Try.prog 60 (pureR flow_given_S):=by
 refine FOk_pure hT hpf Try.func60 rfl Try.ntmps60 Try.results60 (by decide) ?_
 rintro args r ⟨a0,a1,rfl,h⟩
 refine ⟨nle rfl,?_,?_⟩
 · exact (lsC (lo_TNet _) (lsC (lsL fun _=>(lsI _ _)) lsN))
 rw [flow_given_F.eq_1] at h
 refine HT_fr dCo rfl fun K hK=>?_;conv=>whnf
 refine hK _ _ _ ?_;clear hK K
 refine HT_seq ?_
 refine HT_fr dCo rfl fun K hK=>?_;conv=>whnf
 refine nlA rfl ?_;conv=>whnf
 refine bKo rfl ?_;conv=>whnf
 refine gKo rfl ?_;conv=>whnf
 refine hK _ _ _ ?_;clear hK K
 refine HT_if fun K1 K2 hK1 hK2=>?_;conv=>whnf
 refine cLk h (fun _ h=>?_) (fun _ h=>?_)
 · refine hK1 ?_;clear hK1 hK2 K1 K2
   refine HT_fr dCo rfl fun K hK=>?_;conv=>whnf
   refine hK _ _ _ ?_;clear hK K
   refine HT_ret ?_
   refine Then_r ?_
   replace h:=W_some h
   refine PostP_r dCo fun K hK=>?_;conv=>whnf
   refine hK _ ?_;clear hK K
   cases h
   exact Wk_tup (WkL_cons Wk_nil (WkL_cons (Wk.refl _) WkL_nil))
 refine hK2 ?_;clear hK1 hK2 K1 K2
 refine HT_skip ?_
 refine tHn ?_
 refine HT_fr dCo rfl fun K hK=>?_;conv=>whnf
 refine nlA rfl ?_;conv=>whnf
 refine bKo rfl ?_;conv=>whnf
 refine gKo rfl ?_;conv=>whnf
 refine mks_lk (enc:=eI) dCo (0:Int) h rfl rfl ⟨nle rfl,nle rfl,rfl⟩ rfl (fun h=>?_);conv=>whnf
 refine hK _ _ _ ?_;clear hK K
 refine HT_seq ?_
 refine HT_fr dCo rfl fun K hK=>?_;conv=>whnf
 refine nlA rfl ?_;conv=>whnf
 refine bKo rfl ?_;conv=>whnf
 refine gKo rfl ?_;conv=>whnf
 refine hK _ _ _ ?_;clear hK K
 refine HT_block ?_
 replace h:=W_bd h
 refine HT_lpR (body:=flow_given_b1 _ _) rfl h [1,19,20] [] [] [] (fun kl kh kr ids b s=>⟨ofL ([(21,eI s.1),(6,.so (b+0) 0 s.2.length 1)]++kl),ofH (([]++kh)++([(b+0,.cells (flE (ceE eI) s.2))]++kr)),b+128⟩) ?_;(conv=>whnf);refine And.intro ?_ (fun s m h=>HT_st ?_)
 · refine weak_r ?_;conv=>whnf
   exact And.intro rfl (And.intro (aLc wkI (aLc (WkR.so (fun _=>rfl)) (aLc (wkr (lsL fun _=>(lsI _ _))) (aLc (wkr (lsL fun _=>(lo_TEdge _))) (aLc wkI aLn))))) (aLc ⟨some _,rfl,BkR_r rfl (fun _=>(lsC (lsI _ _) lsN))⟩ aLn))
 replace h:=W_bflow_given_b1 (W_bd h)
 refine HT_fr dCo rfl fun K hK=>?_;conv=>whnf
 refine hK _ _ _ ?_;clear hK K
 refine HT_seq ?_
 refine HT_if fun K1 K2 hK1 hK2=>?_;conv=>whnf
 refine cLk h (fun _ h=>?_) (fun _ h=>?_)
 · refine hK1 ?_;clear hK1 hK2 K1 K2
   refine HT_skip ?_
   refine tHn ?_
   refine HT_seq ?_
   refine HT_block ?_
   refine HT_fr dCo rfl fun K hK=>?_;conv=>whnf
   refine ix_lk h fun _ h=>?_;conv=>whnf
   refine nlA rfl ?_;conv=>whnf
   refine bKo rfl ?_;conv=>whnf
   refine And.intro rfl (And.intro (nle rfl) (And.intro rfl ?_));conv=>whnf
   refine hK _ _ _ ?_;clear hK K
   refine HT_seq ?_
   refine HT_fd dCo mix_ok rfl (by kernel_rfl) fun K hK=>?_;conv=>whnf
   refine ix_lk h fun _ h=>?_;conv=>whnf
   refine gKo rfl ?_;conv=>whnf
   refine nlA rfl ?_;conv=>whnf
   refine bKo rfl ?_;conv=>whnf
   refine gKo rfl ?_;conv=>whnf
   replace h:=W_bd h
   refine flow_isIn_call h40 h (WkL.refl _) (fun _ h=>?_);conv=>whnf
   refine hK _ _ _ ?_;clear hK K
   refine HT_if fun K1 K2 hK1 hK2=>?_;conv=>whnf
   refine cLk h (fun _ h=>?_) (fun _ h=>?_)
   · refine hK1 ?_;clear hK1 hK2 K1 K2
     refine HT_fr dCo rfl fun K hK=>?_;conv=>whnf
     refine hK _ _ _ ?_;clear hK K
     refine HT_ret ?_
     refine Then_r ?_
     refine InBlock_r ?_
     refine Then_r ?_
     refine Then_r ?_
     refine InBlock_r ?_
     refine Then_r ?_
     replace h:=W_xrt h
     replace h:=W_inr h
     replace h:=W_some h
     refine PostP_r dCo fun K hK=>?_;conv=>whnf
     refine hK _ ?_;clear hK K
     cases h
     exact Wk_tup (WkL_cons Wk_nil (WkL_cons (Wk.refl _) WkL_nil))
   refine hK2 ?_;clear hK1 hK2 K1 K2
   refine HT_skip ?_
   refine tHn ?_
   refine HT_fd dCo mix_ok rfl (by kernel_rfl) fun K hK=>?_;conv=>whnf
   refine nlA rfl ?_;conv=>whnf
   refine bKo rfl ?_;conv=>whnf
   refine gKo rfl ?_;conv=>whnf
   refine gd_lkN h (rfl) fun hx893 h=>?_;conv=>whnf
   refine nlA rfl ?_;conv=>whnf
   refine bKo rfl ?_;conv=>whnf
   refine get_flN (enc:=eI) (d:=default) (q:=0) (fun _=>rfl) (rfl) hx893 (nle rfl) rfl ?_;conv=>whnf
   refine ix_lk h fun _ h=>?_;conv=>whnf
   refine gKo rfl ?_;conv=>whnf
   refine gd_lkN h (rfl) fun hx894 h=>?_;conv=>whnf
   refine bKo rfl ?_;conv=>whnf
   refine st_lk (enc:=eI) (d:=default) (q:=0) h (fun _=>rfl) (rfl) hx894 rfl (nle rfl) rfl rfl (fun h=>?_);conv=>whnf
   refine hK _ _ _ ?_;clear hK K
   refine HT_fD dCo mix_ok rfl (by kernel_rfl) fun K hK=>?_;conv=>whnf
   refine nlA rfl ?_;conv=>whnf
   refine bKo rfl ?_;conv=>whnf
   refine gKo rfl ?_;conv=>whnf
   refine gd_lkN h (lenset rfl) fun hx895 h=>?_;conv=>whnf
   refine nlA rfl ?_;conv=>whnf
   refine bKo rfl ?_;conv=>whnf
   refine get_flN (enc:=eI) (d:=default) (q:=0) (fun _=>rfl) (lenset rfl) hx895 (nle rfl) rfl ?_;conv=>whnf
   refine ix_lk h fun _ h=>?_;conv=>whnf
   refine gKo rfl ?_;conv=>whnf
   refine gd_lkN h (lenset rfl) fun hx896 h=>?_;conv=>whnf
   refine bKo rfl ?_;conv=>whnf
   refine st_lk (enc:=eI) (d:=default) (q:=0) h (fun _=>rfl) (lenset rfl) hx896 rfl (nle rfl) rfl rfl (fun h=>?_);conv=>whnf
   refine hK _ _ _ ?_;clear hK K
   refine iBn ?_
   refine tHn ?_
   refine HT_f dCo rfl fun K hK=>?_;conv=>whnf
   refine hK _ _ _ ?_;clear hK K
   refine tHn ?_
   replace h:=W_xnx h
   refine ⟨_,h,?_⟩
   refine weak_r ?_;conv=>whnf
   exact And.intro rfl (And.intro (aLc wkI (aLc (WkR.soN (fun _=>rfl) (lenset (lenset rfl)).symm) (aLc (wkr (lsL fun _=>(lsI _ _))) (aLc (wkr (lsL fun _=>(lo_TEdge _))) (aLc wkI aLn))))) (aLc ⟨some _,rfl,BkR_r rfl (fun _=>(lsC (lsI _ _) lsN))⟩ aLn))
 refine hK2 ?_;clear hK1 hK2 K1 K2
 refine HT_exit ?_
 refine Then_e ?_
 refine Then_e ?_
 refine InBlock_e ?_
 replace h:=W_xbk h
 replace h:=W_inl h
 refine tHn ?_
 refine HT_fr dCo rfl fun K hK=>?_;conv=>whnf
 refine hK _ _ _ ?_;clear hK K
 refine HT_frzSK 4 (enc:=eI) (e:=3) default (ElOk_one dCo rfl rfl rfl (fun _=>⟨rfl,rfl⟩)) ?_;(conv=>whnf);refine ⟨_,_,rfl,rfl,rfl,?_⟩
 refine HT_ret ?_
 replace h:=W_some h
 refine PostP_r dCo fun K hK=>?_;conv=>whnf
 refine hK _ ?_;clear hK K
 cases h
 exact Wk.refl _
theorem flow_given_call {T:Tbl} (hT:T 60=pureR flow_given_S) {args:List AV} {hp:Heap} {id:Nat} {k:AV→Prop} {a0:TNet} {a1:List Int} {Φ:(List Int)×Bool→Prop} (h:W (flow_given_F a0 a1) Φ) (hw:WkL args [eTNet a0,(eL 1 eI default) a1]) (hk:∀ y,Φ y→k (.tup [(eL 1 eI default) y.1,eB y.2])):callpK T 60 args hp id k:=by
 obtain ⟨y,e,hy⟩:=W_inv h
 exact callpK_pure hT ⟨a0,a1,rfl,W_of e rfl⟩ (by exact loose_tup (lsC (lsL fun _=>(lsI _ _)) (lsC (lsB _) lsN))) hw (hk y hy)
def flow_CheckMeet_b1 (a1:List Int) (a2:TSupply) (s9:Int×Int):Option (Ct (Int×Int) Bool):=cn (decide (s9.2<(a1.length:Int))) (ix a1 default s9.2 fun e10=>
   gd (0≤s9.2) (jn (fun p11:Int=>some (.nx (p11,(wr (s9.2+1))))) fun k12=>cn ((band .i64 (bshr .i64 a2.Set s9.2) 1) ==
   1) (k12 (wr (s9.1+e10))) (k12 s9.1))) (some (.bk (s9.1,s9.2)))
theorem W_bflow_CheckMeet_b1 {a1:List Int} {a2:TSupply} {s9:Int×Int} {Φ:Ct (Int×Int) Bool→Prop} (h:W (flow_CheckMeet_b1 a1 a2 s9) Φ):W (cn (decide (s9.2<(a1.length:Int))) (ix a1 default s9.2 fun e10=>gd (0≤s9.2) (jn (fun p11:Int=>some (.nx (p11,(wr (s9.2+1))))) fun k12=>
   cn ((band .i64 (bshr .i64 a2.Set s9.2) 1)==1) (k12 (wr (s9.1+e10))) (k12 s9.1))) (some (.bk (s9.1,s9.2)))) Φ:=h
def flow_CheckMeet_F (a0:TNet) (a1:List Int) (a2:TSupply):Option Bool:=bd (flow_isSupply_F a0 a1) fun y1=>
   cn (!y1) (some false) (cn a2.Met (bd (flow_given_F a0 a2.Amounts) fun y2=>jn (fun p3:Bool=>some p3) fun k4=>cn y2.2 (cn (a2.Set ==
   0) (bd (slices_Equal_int_F y2.1 a1) fun y5=>k4 y5) (k4 false)) (k4 false)) (jn (fun p6:Bool=>cn p6 (some false) (bd (lp (flow_CheckMeet_b1 a1 a2) FU (0,0)) fun c13=>
   smK c13 (fun s14=>bd (flow_capacity_F a0 a2.Set) fun y16=>some (decide (s14.1>y16))) (fun r15=>some r15))) fun k7=>cn (decide ((a2.Amounts.length:Int) >
   0)) (k7 true) (gd (0≤a0.N) (bd (flow_isIn_F a2.Set 0 (wr ((bshl .i64 1 a0.N)-1))) fun y8=>k7 (!y8)))))
def flow_CheckMeet_S:List AV→AV→Prop:=fun args r=>∃ a0 a1 a2,args=[eTNet a0,(eL 1 eI default) a1,eTSupply a2]∧W (flow_CheckMeet_F a0 a1 a2) fun y=>r=(eB y)
theorem flow_CheckMeet_ok {T:Tbl} (hT:TOk Try.prog T) (hpf:PfOk T PF) (h40:T 40=pureR flow_isIn_S) (h56:T 56=pureR flow_isSupply_S) (h60:T 60=pureR flow_given_S) (h61:T 61=pureR slices_Equal_int_S) (h62:T 62=pureR flow_capacity_S):FOk Try.prog 27 (pureR flow_CheckMeet_S):=by
 refine FOk_pure hT hpf Try.func27 rfl Try.ntmps27 Try.results27 (by decide) ?_
 rintro args r ⟨a0,a1,a2,rfl,h⟩
 refine ⟨nle rfl,?_,?_⟩
 · exact (lsC (lo_TNet _) (lsC (lsL fun _=>(lsI _ _)) (lsC (lo_TSupply _) lsN)))
 rw [flow_CheckMeet_F.eq_1] at h
 refine HT_fr dCo rfl fun K hK=>?_;conv=>whnf
 refine hK _ _ _ ?_;clear hK K
 refine HT_seq ?_
 refine HT_fr dCo rfl fun K hK=>?_;conv=>whnf
 refine nlA rfl ?_;conv=>whnf
 refine bKo rfl ?_;conv=>whnf
 refine nlA rfl ?_;conv=>whnf
 replace h:=W_bd h
 refine flow_isSupply_call h56 h (WkL.refl _) (fun _ h=>?_);conv=>whnf
 refine hK _ _ _ ?_;clear hK K
 refine HT_if fun K1 K2 hK1 hK2=>?_;conv=>whnf
 refine cLk h (fun _ h=>?_) (fun _ h=>?_)
 · refine hK1 ?_;clear hK1 hK2 K1 K2
   refine HT_fr dCo rfl fun K hK=>?_;conv=>whnf
   refine hK _ _ _ ?_;clear hK K
   refine HT_ret ?_
   refine Then_r ?_
   replace h:=W_some h
   refine PostP_r dCo fun K hK=>?_;conv=>whnf
   refine hK _ ?_;clear hK K
   cases h
   exact Wk.refl _
 refine hK2 ?_;clear hK1 hK2 K1 K2
 refine HT_skip ?_
 refine tHn ?_
 refine HT_seq ?_
 refine HT_fr dCo rfl fun K hK=>?_;conv=>whnf
 refine nlA rfl ?_;conv=>whnf
 refine bKo rfl ?_;conv=>whnf
 refine gKo rfl ?_;conv=>whnf
 refine hK _ _ _ ?_;clear hK K
 refine HT_if fun K1 K2 hK1 hK2=>?_;conv=>whnf
 refine cLk h (fun _ h=>?_) (fun _ h=>?_)
 · refine hK1 ?_;clear hK1 hK2 K1 K2
   refine HT_fr dCo rfl fun K hK=>?_;conv=>whnf
   refine nlA rfl ?_;conv=>whnf
   refine bKo rfl ?_;conv=>whnf
   refine nlA rfl ?_;conv=>whnf
   refine nlA rfl ?_;conv=>whnf
   refine bKo rfl ?_;conv=>whnf
   refine gKo rfl ?_;conv=>whnf
   replace h:=W_bd h
   refine flow_given_call h60 h (WkL.refl _) (fun _ h=>?_);conv=>whnf
   refine hK _ _ _ ?_;clear hK K
   refine HT_fr dCo rfl fun K hK=>?_;conv=>whnf
   replace h:=W_jn h
   refine cLk h (fun _ h=>?_) (fun _ h=>?_)<;>(conv=>whnf)
   · refine nlA rfl ?_;conv=>whnf
     refine bKo rfl ?_;conv=>whnf
     refine gKo rfl ?_;conv=>whnf
     refine cLk h (fun _ h=>?_) (fun _ h=>?_)<;>(conv=>whnf)
     · replace h:=W_bd h
       refine slices_Equal_int_call h61 h (WkL.refl _) (fun _ h=>?_);conv=>whnf
       refine hK _ _ _ ?_;clear hK K
       refine HT_ret ?_
       refine Then_r ?_
       replace h:=W_some h
       refine PostP_r dCo fun K hK=>?_;conv=>whnf
       refine hK _ ?_;clear hK K
       cases h
       exact Wk.refl _
     refine hK _ _ _ ?_;clear hK K
     refine HT_ret ?_
     refine Then_r ?_
     replace h:=W_some h
     refine PostP_r dCo fun K hK=>?_;conv=>whnf
     refine hK _ ?_;clear hK K
     cases h
     exact Wk.refl _
   refine hK _ _ _ ?_;clear hK K
   refine HT_ret ?_
   refine Then_r ?_
   replace h:=W_some h
   refine PostP_r dCo fun K hK=>?_;conv=>whnf
   refine hK _ ?_;clear hK K
   cases h
   exact Wk.refl _
 refine hK2 ?_;clear hK1 hK2 K1 K2
 refine HT_skip ?_
 refine tHn ?_
 refine HT_seq ?_
 refine HT_fd dCo mix_ok rfl (by kernel_rfl) fun K hK=>?_;conv=>whnf
 replace h:=W_jn h
 refine nlA rfl ?_;conv=>whnf
 refine bKo rfl ?_;conv=>whnf
 refine gKo rfl ?_;conv=>whnf
 refine cLk h (fun _ h=>?_) (fun _ h=>?_)<;>(conv=>whnf)
 · refine hK _ _ _ ?_;clear hK K
   refine HT_if fun K1 K2 hK1 hK2=>?_;conv=>whnf
   refine hK1 ?_;clear hK1 hK2 K1 K2
   replace h:=W_cnT h
   refine HT_fr dCo rfl fun K hK=>?_;conv=>whnf
   refine hK _ _ _ ?_;clear hK K
   refine HT_ret ?_
   refine Then_r ?_
   replace h:=W_some h
   refine PostP_r dCo fun K hK=>?_;conv=>whnf
   refine hK _ ?_;clear hK K
   cases h
   exact Wk.refl _
 refine nlA rfl ?_;conv=>whnf
 refine bKo rfl ?_;conv=>whnf
 refine gKo rfl ?_;conv=>whnf
 refine nlA rfl ?_;conv=>whnf
 refine bKo rfl ?_;conv=>whnf
 refine gKo rfl ?_;conv=>whnf
 refine gd_lk h fun _ h=>?_;conv=>whnf
 replace h:=W_bd h
 refine flow_isIn_call h40 h (WkL.refl _) (fun _ h=>?_);conv=>whnf
 refine hK _ _ _ ?_;clear hK K
 refine HT_if fun K1 K2 hK1 hK2=>?_;conv=>whnf
 refine cLk h (fun _ h=>?_) (fun _ h=>?_)
 · refine hK1 ?_;clear hK1 hK2 K1 K2
   refine HT_fr dCo rfl fun K hK=>?_;conv=>whnf
   refine hK _ _ _ ?_;clear hK K
   refine HT_ret ?_
   refine Then_r ?_
   replace h:=W_some h
   refine PostP_r dCo fun K hK=>?_;conv=>whnf
   refine hK _ ?_;clear hK K
   cases h
   exact Wk.refl _
 refine hK2 ?_;clear hK1 hK2 K1 K2
 refine HT_skip ?_
 refine tHn ?_
 refine HT_fr dCo rfl fun K hK=>?_;conv=>whnf
 refine hK _ _ _ ?_;clear hK K
 refine HT_seq ?_
 refine HT_fr dCo rfl fun K hK=>?_;conv=>whnf
 refine hK _ _ _ ?_;clear hK K
 refine HT_block ?_
 replace h:=W_bd h
 refine HT_lpK (body:=flow_CheckMeet_b1 _ _) rfl h [3,5,50,51] [3,5] [] (fun kl kh ids b s=>⟨ofL ([(9,eI s.1),(52,eI s.2)]++kl),ofH ([]++kh),b+64⟩) ?_;(conv=>whnf);refine And.intro ?_ (fun s m h=>HT_st ?_)
 · refine weak_k ?_;conv=>whnf
   exact And.intro rfl (And.intro (aLc wkI (aLc wkI (aLc (WkR.ptr (fun _=>rfl)) (aLc (WkR.ptr (fun _=>rfl)) (aLc (wkr (lsL fun _=>(lsI _ _))) (aLc wkI aLn)))))) (aLc ⟨some _,rfl,bRc rfl (cKc wkI (cKc (wkr (lsL fun _=>(lo_TEdge _))) cKn))⟩ (aLc ⟨some _,rfl,bRc rfl (cKc (wkr (lsB _)) (cKc (wkr (lsL fun _=>(lsI _ _))) (cKc wkI cKn)))⟩ aLn)))
 replace h:=W_bflow_CheckMeet_b1 (W_bd h)
 refine HT_fr dCo rfl fun K hK=>?_;conv=>whnf
 refine hK _ _ _ ?_;clear hK K
 refine HT_seq ?_
 refine HT_if fun K1 K2 hK1 hK2=>?_;conv=>whnf
 refine cLk h (fun _ h=>?_) (fun _ h=>?_)
 · refine hK1 ?_;clear hK1 hK2 K1 K2
   refine HT_skip ?_
   refine tHn ?_
   refine HT_seq ?_
   refine HT_block ?_
   refine HT_fr dCo rfl fun K hK=>?_;conv=>whnf
   refine ix_lk h fun _ h=>?_;conv=>whnf
   refine gKo rfl ?_;conv=>whnf
   refine hK _ _ _ ?_;clear hK K
   refine HT_fr dCo rfl fun K hK=>?_;conv=>whnf
   refine nlA rfl ?_;conv=>whnf
   refine bKo rfl ?_;conv=>whnf
   refine gKo rfl ?_;conv=>whnf
   refine gd_lk h fun _ h=>?_;conv=>whnf
   refine hK _ _ _ ?_;clear hK K
   replace h:=W_jn h
   refine HT_if fun K1 K2 hK1 hK2=>?_;conv=>whnf
   refine cLk h (fun _ h=>?_) (fun _ h=>?_)
   · refine hK1 ?_;clear hK1 hK2 K1 K2
     refine HT_f dCo rfl fun K hK=>?_;conv=>whnf
     refine hK _ _ _ ?_;clear hK K
     refine iBn ?_
     refine tHn ?_
     refine HT_f dCo rfl fun K hK=>?_;conv=>whnf
     refine hK _ _ _ ?_;clear hK K
     refine tHn ?_
     replace h:=W_xnx h
     refine ⟨_,h,?_⟩
     refine weak_k ?_;conv=>whnf
     exact And.intro rfl (And.intro (aLc wkI (aLc wkI (aLc (WkR.ptr (fun _=>rfl)) (aLc (WkR.ptr (fun _=>rfl)) (aLc (wkr (lsL fun _=>(lsI _ _))) (aLc wkI aLn)))))) (aLc ⟨some _,rfl,bRc rfl (cKc wkI (cKc (wkr (lsL fun _=>(lo_TEdge _))) cKn))⟩ (aLc ⟨some _,rfl,bRc rfl (cKc (wkr (lsB _)) (cKc (wkr (lsL fun _=>(lsI _ _))) (cKc wkI cKn)))⟩ aLn)))
   refine hK2 ?_;clear hK1 hK2 K1 K2
   refine HT_skip ?_
   refine iBn ?_
   refine tHn ?_
   refine HT_f dCo rfl fun K hK=>?_;conv=>whnf
   refine hK _ _ _ ?_;clear hK K
   refine tHn ?_
   replace h:=W_xnx h
   refine ⟨_,h,?_⟩
   refine weak_k ?_;conv=>whnf
   exact And.intro rfl (And.intro (aLc wkI (aLc wkI (aLc (WkR.ptr (fun _=>rfl)) (aLc (WkR.ptr (fun _=>rfl)) (aLc (wkr (lsL fun _=>(lsI _ _))) (aLc wkI aLn)))))) (aLc ⟨some _,rfl,bRc rfl (cKc wkI (cKc (wkr (lsL fun _=>(lo_TEdge _))) cKn))⟩ (aLc ⟨some _,rfl,bRc rfl (cKc (wkr (lsB _)) (cKc (wkr (lsL fun _=>(lsI _ _))) (cKc wkI cKn)))⟩ aLn)))
 refine hK2 ?_;clear hK1 hK2 K1 K2
 refine HT_exit ?_
 refine Then_e ?_
 refine Then_e ?_
 refine InBlock_e ?_
 replace h:=W_xbk h
 replace h:=W_inl h
 refine tHn ?_
 refine HT_fr dCo rfl fun K hK=>?_;conv=>whnf
 refine nlA rfl ?_;conv=>whnf
 refine bKo rfl ?_;conv=>whnf
 refine nlA rfl ?_;conv=>whnf
 refine nlA rfl ?_;conv=>whnf
 refine bKo rfl ?_;conv=>whnf
 refine gKo rfl ?_;conv=>whnf
 replace h:=W_bd h
 refine flow_capacity_call h62 h (WkL.refl _) (fun _ h=>?_);conv=>whnf
 refine hK _ _ _ ?_;clear hK K
 refine HT_ret ?_
 replace h:=W_some h
 refine PostP_r dCo fun K hK=>?_;conv=>whnf
 refine hK _ ?_;clear hK K
 cases h
 exact Wk.refl _
theorem flow_CheckMeet_call {T:Tbl} (hT:T 27=pureR flow_CheckMeet_S) {args:List AV} {hp:Heap} {id:Nat} {k:AV→Prop} {a0:TNet} {a1:List Int} {a2:TSupply} {Φ:Bool→Prop} (h:W (flow_CheckMeet_F a0 a1 a2) Φ) (hw:WkL args [eTNet a0,(eL 1 eI default) a1,eTSupply a2]) (hk:∀ y,Φ y→k (eB y)):callpK T 27 args hp id k:=by
 obtain ⟨y,e,hy⟩:=W_inv h
 exact callpK_pure hT ⟨a0,a1,a2,rfl,W_of e rfl⟩ (by exact (lsB _)) hw (hk y hy)
end Go.Proofs.Ytkjccabdpeldhaa
