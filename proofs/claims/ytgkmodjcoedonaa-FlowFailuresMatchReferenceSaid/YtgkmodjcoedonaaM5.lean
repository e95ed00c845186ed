import Derived.Test.YtgkmodjcoedonaaProg
import Derived.Test.YtgkmodjcoedonaaM3
import Derived.KernelRfl
import Derived.Test.YtgkmodjcoedonaaM4
import Derived.Laws.StructEq
import Derived.Handy
set_option linter.unusedVariables false
set_option linter.unusedSimpArgs false
set_option linter.unusedSectionVars false
namespace Go.Proofs.Ytgkmodjcoedonaa
open Go Go.Eng

def tdL : List (Nat × TD) := [
 (3, ⟨.int .i64, 1, [.int .i64 0], 8⟩),
 (4, ⟨.bool, 1, [.bool false], 1⟩),
 (22, ⟨.slice 23, 1, [.nils], 24⟩),
 (23, ⟨.array 3 3, 3, [.int .i64 0, .int .i64 0, .int .i64 0], 24⟩),
 (24, ⟨.slice 72, 1, [.nils], 24⟩),
 (26, ⟨.struct [(3, 0), (24, 1)], 2, [.int .i64 0, .nils], 32⟩),
 (27, ⟨.slice 3, 1, [.nils], 24⟩),
 (34, ⟨.slice 26, 1, [.nils], 24⟩),
 (36, ⟨.array 2 3, 2, [.int .i64 0, .int .i64 0], 16⟩),
 (37, ⟨.slice 36, 1, [.nils], 24⟩),
 (38, ⟨.int .i64, 1, [.int .i64 0], 8⟩),
 (45, ⟨.slice 27, 1, [.nils], 24⟩),
 (53, ⟨.struct [(3, 0), (3, 1), (3, 2)], 3, [.int .i64 0, .int .i64 0, .int .i64 0], 24⟩),
 (55, ⟨.struct [(4, 0), (27, 1), (3, 2)], 3, [.bool false, .nils, .int .i64 0], 40⟩),
 (59, ⟨.slice 53, 1, [.nils], 24⟩),
 (65, ⟨.slice 55, 1, [.nils], 24⟩),
 (72, ⟨.struct [(3, 0), (3, 1), (3, 2)], 3, [.int .i64 0, .int .i64 0, .int .i64 0], 24⟩),
 (82, ⟨.other, 1, [.nilp], 8⟩),
 (99, ⟨.int .u64, 1, [.int .u64 0], 8⟩),
 (101, ⟨.array 14 3, 14, [.int .i64 0, .int .i64 0, .int .i64 0, .int .i64 0, .int .i64 0, .int .i64 0, .int .i64 0, .int .i64 0, .int .i64 0, .int .i64 0, .int .i64 0, .int .i64 0, .int .i64 0, .int .i64 0], 112⟩),
 (106, ⟨.array 14 101, 196, [.int .i64 0, .int .i64 0, .int .i64 0, .int .i64 0, .int .i64 0, .int .i64 0, .int .i64 0, .int .i64 0, .int .i64 0, .int .i64 0, .int .i64 0, .int .i64 0, .int .i64 0, .int .i64 0, .int .i64 0, .int .i64 0, .int .i64 0, .int .i64 0, .int .i64 0, .int .i64 0, .int .i64 0, .int .i64 0, .int .i64 0, .int .i64 0, .int .i64 0, .int .i64 0, .int .i64 0, .int .i64 0, .int .i64 0, .int .i64 0, .int .i64 0, .int .i64 0, .int .i64 0, .int .i64 0, .int .i64 0, .int .i64 0, .int .i64 0, .int .i64 0, .int .i64 0, .int .i64 0, .int .i64 0, .int .i64 0, .int .i64 0, .int .i64 0, .int .i64 0, .int .i64 0, .int .i64 0, .int .i64 0, .int .i64 0, .int .i64 0, .int .i64 0, .int .i64 0, .int .i64 0, .int .i64 0, .int .i64 0, .int .i64 0, .int .i64 0, .int .i64 0, .int .i64 0, .int .i64 0, .int .i64 0, .int .i64 0, .int .i64 0, .int .i64 0, .int .i64 0, .int .i64 0, .int .i64 0, .int .i64 0, .int .i64 0, .int .i64 0, .int .i64 0, .int .i64 0, .int .i64 0, .int .i64 0, .int .i64 0, .int .i64 0, .int .i64 0, .int .i64 0, .int .i64 0, .int .i64 0, .int .i64 0, .int .i64 0, .int .i64 0, .int .i64 0, .int .i64 0, .int .i64 0, .int .i64 0, .int .i64 0, .int .i64 0, .int .i64 0, .int .i64 0, .int .i64 0, .int .i64 0, .int .i64 0, .int .i64 0, .int .i64 0, .int .i64 0, .int .i64 0, .int .i64 0, .int .i64 0, .int .i64 0, .int .i64 0, .int .i64 0, .int .i64 0, .int .i64 0, .int .i64 0, .int .i64 0, .int .i64 0, .int .i64 0, .int .i64 0, .int .i64 0, .int .i64 0, .int .i64 0, .int .i64 0, .int .i64 0, .int .i64 0, .int .i64 0, .int .i64 0, .int .i64 0, .int .i64 0, .int .i64 0, .int .i64 0, .int .i64 0, .int .i64 0, .int .i64 0, .int .i64 0, .int .i64 0, .int .i64 0, .int .i64 0, .int .i64 0, .int .i64 0, .int .i64 0, .int .i64 0, .int .i64 0, .int .i64 0, .int .i64 0, .int .i64 0, .int .i64 0, .int .i64 0, .int .i64 0, .int .i64 0, .int .i64 0, .int .i64 0, .int .i64 0, .int .i64 0, .int .i64 0, .int .i64 0, .int .i64 0, .int .i64 0, .int .i64 0, .int .i64 0, .int .i64 0, .int .i64 0, .int .i64 0, .int .i64 0, .int .i64 0, .int .i64 0, .int .i64 0, .int .i64 0, .int .i64 0, .int .i64 0, .int .i64 0, .int .i64 0, .int .i64 0, .int .i64 0, .int .i64 0, .int .i64 0, .int .i64 0, .int .i64 0, .int .i64 0, .int .i64 0, .int .i64 0, .int .i64 0, .int .i64 0, .int .i64 0, .int .i64 0, .int .i64 0, .int .i64 0, .int .i64 0, .int .i64 0, .int .i64 0, .int .i64 0, .int .i64 0, .int .i64 0, .int .i64 0, .int .i64 0, .int .i64 0, .int .i64 0, .int .i64 0, .int .i64 0, .int .i64 0, .int .i64 0, .int .i64 0, .int .i64 0, .int .i64 0, .int .i64 0], 1568⟩),
 (113, ⟨.slice 4, 1, [.nils], 24⟩),
 (115, ⟨.int .u32, 1, [.int .u32 0], 4⟩),
 (117, ⟨.int .u64, 1, [.int .u64 0], 8⟩)]
def DC : DT := ofTD tdL
theorem td3 : TDok Try.prog 3 ⟨.int .i64, 1, [.int .i64 0], 8⟩ := ⟨by kernel_rfl, by kernel_rfl, by kernel_rfl, Try.underlying3⟩
theorem td4 : TDok Try.prog 4 ⟨.bool, 1, [.bool false], 1⟩ := ⟨by kernel_rfl, by kernel_rfl, by kernel_rfl, Try.underlying4⟩
theorem td22 : TDok Try.prog 22 ⟨.slice 23, 1, [.nils], 24⟩ := ⟨by kernel_rfl, by kernel_rfl, by kernel_rfl, Try.underlying22⟩
theorem td23 : TDok Try.prog 23 ⟨.array 3 3, 3, [.int .i64 0, .int .i64 0, .int .i64 0], 24⟩ := ⟨by kernel_rfl, by kernel_rfl, by kernel_rfl, Try.underlying23⟩
theorem td24 : TDok Try.prog 24 ⟨.slice 72, 1, [.nils], 24⟩ := ⟨by kernel_rfl, by kernel_rfl, by kernel_rfl, Try.underlying24⟩
theorem td26 : TDok Try.prog 26 ⟨.struct [(3, 0), (24, 1)], 2, [.int .i64 0, .nils], 32⟩ := ⟨by kernel_rfl, by kernel_rfl, by kernel_rfl, ⟨_, Try.underlying26, rfl⟩⟩
theorem td27 : TDok Try.prog 27 ⟨.slice 3, 1, [.nils], 24⟩ := ⟨by kernel_rfl, by kernel_rfl, by kernel_rfl, Try.underlying27⟩
theorem td34 : TDok Try.prog 34 ⟨.slice 26, 1, [.nils], 24⟩ := ⟨by kernel_rfl, by kernel_rfl, by kernel_rfl, Try.underlying34⟩
theorem td36 : TDok Try.prog 36 ⟨.array 2 3, 2, [.int .i64 0, .int .i64 0], 16⟩ := ⟨by kernel_rfl, by kernel_rfl, by kernel_rfl, Try.underlying36⟩
theorem td37 : TDok Try.prog 37 ⟨.slice 36, 1, [.nils], 24⟩ := ⟨by kernel_rfl, by kernel_rfl, by kernel_rfl, Try.underlying37⟩
theorem td38 : TDok Try.prog 38 ⟨.int .i64, 1, [.int .i64 0], 8⟩ := ⟨by kernel_rfl, by kernel_rfl, by kernel_rfl, Try.underlying38⟩
theorem td45 : TDok Try.prog 45 ⟨.slice 27, 1, [.nils], 24⟩ := ⟨by kernel_rfl, by kernel_rfl, by kernel_rfl, Try.underlying45⟩
theorem td53 : TDok Try.prog 53 ⟨.struct [(3, 0), (3, 1), (3, 2)], 3, [.int .i64 0, .int .i64 0, .int .i64 0], 24⟩ := ⟨by kernel_rfl, by kernel_rfl, by kernel_rfl, ⟨_, Try.underlying53, rfl⟩⟩
theorem td55 : TDok Try.prog 55 ⟨.struct [(4, 0), (27, 1), (3, 2)], 3, [.bool false, .nils, .int .i64 0], 40⟩ := ⟨by kernel_rfl, by kernel_rfl, by kernel_rfl, ⟨_, Try.underlying55, rfl⟩⟩
theorem td59 : TDok Try.prog 59 ⟨.slice 53, 1, [.nils], 24⟩ := ⟨by kernel_rfl, by kernel_rfl, by kernel_rfl, Try.underlying59⟩
theorem td65 : TDok Try.prog 65 ⟨.slice 55, 1, [.nils], 24⟩ := ⟨by kernel_rfl, by kernel_rfl, by kernel_rfl, Try.underlying65⟩
theorem td72 : TDok Try.prog 72 ⟨.struct [(3, 0), (3, 1), (3, 2)], 3, [.int .i64 0, .int .i64 0, .int .i64 0], 24⟩ := ⟨by kernel_rfl, by kernel_rfl, by kernel_rfl, ⟨_, Try.underlying72, rfl⟩⟩
theorem td82 : TDok Try.prog 82 ⟨.other, 1, [.nilp], 8⟩ := ⟨by kernel_rfl, by kernel_rfl, by kernel_rfl, (by show aggT _ _ = some false; kernel_rfl)⟩
theorem td99 : TDok Try.prog 99 ⟨.int .u64, 1, [.int .u64 0], 8⟩ := ⟨by kernel_rfl, by kernel_rfl, by kernel_rfl, Try.underlying99⟩
theorem td101 : TDok Try.prog 101 ⟨.array 14 3, 14, [.int .i64 0, .int .i64 0, .int .i64 0, .int .i64 0, .int .i64 0, .int .i64 0, .int .i64 0, .int .i64 0, .int .i64 0, .int .i64 0, .int .i64 0, .int .i64 0, .int .i64 0, .int .i64 0], 112⟩ := ⟨by kernel_rfl, by kernel_rfl, by kernel_rfl, Try.underlying101⟩
theorem td106 : TDok Try.prog 106 ⟨.array 14 101, 196, [.int .i64 0, .int .i64 0, .int .i64 0, .int .i64 0, .int .i64 0, .int .i64 0, .int .i64 0, .int .i64 0, .int .i64 0, .int .i64 0, .int .i64 0, .int .i64 0, .int .i64 0, .int .i64 0, .int .i64 0, .int .i64 0, .int .i64 0, .int .i64 0, .int .i64 0, .int .i64 0, .int .i64 0, .int .i64 0, .int .i64 0, .int .i64 0, .int .i64 0, .int .i64 0, .int .i64 0, .int .i64 0, .int .i64 0, .int .i64 0, .int .i64 0, .int .i64 0, .int .i64 0, .int .i64 0, .int .i64 0, .int .i64 0, .int .i64 0, .int .i64 0, .int .i64 0, .int .i64 0, .int .i64 0, .int .i64 0, .int .i64 0, .int .i64 0, .int .i64 0, .int .i64 0, .int .i64 0, .int .i64 0, .int .i64 0, .int .i64 0, .int .i64 0, .int .i64 0, .int .i64 0, .int .i64 0, .int .i64 0, .int .i64 0, .int .i64 0, .int .i64 0, .int .i64 0, .int .i64 0, .int .i64 0, .int .i64 0, .int .i64 0, .int .i64 0, .int .i64 0, .int .i64 0, .int .i64 0, .int .i64 0, .int .i64 0, .int .i64 0, .int .i64 0, .int .i64 0, .int .i64 0, .int .i64 0, .int .i64 0, .int .i64 0, .int .i64 0, .int .i64 0, .int .i64 0, .int .i64 0, .int .i64 0, .int .i64 0, .int .i64 0, .int .i64 0, .int .i64 0, .int .i64 0, .int .i64 0, .int .i64 0, .int .i64 0, .int .i64 0, .int .i64 0, .int .i64 0, .int .i64 0, .int .i64 0, .int .i64 0, .int .i64 0, .int .i64 0, .int .i64 0, .int .i64 0, .int .i64 0, .int .i64 0, .int .i64 0, .int .i64 0, .int .i64 0, .int .i64 0, .int .i64 0, .int .i64 0, .int .i64 0, .int .i64 0, .int .i64 0, .int .i64 0, .int .i64 0, .int .i64 0, .int .i64 0, .int .i64 0, .int .i64 0, .int .i64 0, .int .i64 0, .int .i64 0, .int .i64 0, .int .i64 0, .int .i64 0, .int .i64 0, .int .i64 0, .int .i64 0, .int .i64 0, .int .i64 0, .int .i64 0, .int .i64 0, .int .i64 0, .int .i64 0, .int .i64 0, .int .i64 0, .int .i64 0, .int .i64 0, .int .i64 0, .int .i64 0, .int .i64 0, .int .i64 0, .int .i64 0, .int .i64 0, .int .i64 0, .int .i64 0, .int .i64 0, .int .i64 0, .int .i64 0, .int .i64 0, .int .i64 0, .int .i64 0, .int .i64 0, .int .i64 0, .int .i64 0, .int .i64 0, .int .i64 0, .int .i64 0, .int .i64 0, .int .i64 0, .int .i64 0, .int .i64 0, .int .i64 0, .int .i64 0, .int .i64 0, .int .i64 0, .int .i64 0, .int .i64 0, .int .i64 0, .int .i64 0, .int .i64 0, .int .i64 0, .int .i64 0, .int .i64 0, .int .i64 0, .int .i64 0, .int .i64 0, .int .i64 0, .int .i64 0, .int .i64 0, .int .i64 0, .int .i64 0, .int .i64 0, .int .i64 0, .int .i64 0, .int .i64 0, .int .i64 0, .int .i64 0, .int .i64 0, .int .i64 0, .int .i64 0, .int .i64 0, .int .i64 0, .int .i64 0, .int .i64 0, .int .i64 0, .int .i64 0, .int .i64 0, .int .i64 0], 1568⟩ := ⟨by kernel_rfl, by kernel_rfl, by kernel_rfl, Try.underlying106⟩
theorem td113 : TDok Try.prog 113 ⟨.slice 4, 1, [.nils], 24⟩ := ⟨by kernel_rfl, by kernel_rfl, by kernel_rfl, Try.underlying113⟩
theorem td115 : TDok Try.prog 115 ⟨.int .u32, 1, [.int .u32 0], 4⟩ := ⟨by kernel_rfl, by kernel_rfl, by kernel_rfl, Try.underlying115⟩
theorem td117 : TDok Try.prog 117 ⟨.int .u64, 1, [.int .u64 0], 8⟩ := ⟨by kernel_rfl, by kernel_rfl, by kernel_rfl, Try.underlying117⟩
theorem dCo : DOk Try.prog DC := (DOk_cons td3 (DOk_cons td4 (DOk_cons td22 (DOk_cons td23 (DOk_cons td24 (DOk_cons td26 (DOk_cons td27 (DOk_cons td34 (DOk_cons td36 (DOk_cons td37 (DOk_cons td38 (DOk_cons td45 (DOk_cons td53 (DOk_cons td55 (DOk_cons td59 (DOk_cons td65 (DOk_cons td72 (DOk_cons td82 (DOk_cons td99 (DOk_cons td101 (DOk_cons td106 (DOk_cons td113 (DOk_cons td115 (DOk_cons td117 (DOk_nil _)))))))))))))))))))))))))
theorem mix_ok : Try.prog.follows .mixedOrders = true := by kernel_rfl
end Go.Proofs.Ytgkmodjcoedonaa
namespace Go.Proofs.Ytgkmodjcoedonaa
open Go Go.Eng
def eA23 (x : Int × Int × Int) : AV := .agg [eI x.1, eI x.2.1, eI x.2.2]
theorem lo_A23 (x : Int × Int × Int) : (eA23 x).loose := (loose_agg (lsC (lsI _ _) (lsC (lsI _ _) (lsC (lsI _ _) loose_nil))))
structure TEdge where
 From : Int
 To : Int
 Capacity : Int
instance : Inhabited TEdge := ⟨⟨default, default, default⟩⟩
def eTEdge (x : TEdge) : AV := .agg [eI x.From, eI x.To, eI x.Capacity]
theorem lo_TEdge (x : TEdge) : (eTEdge x).loose := (loose_agg (lsC (lsI _ _) (lsC (lsI _ _) (lsC (lsI _ _) loose_nil))))
structure TNet where
 N : Int
 Edges : List TEdge
instance : Inhabited TNet := ⟨⟨default, default⟩⟩
def eTNet (x : TNet) : AV := .agg [eI x.N, (eL 3 eTEdge default) x.Edges]
theorem lo_TNet (x : TNet) : (eTNet x).loose := (loose_agg (lsC (lsI _ _) (lsC (lsL fun _ => (lo_TEdge _)) loose_nil)))
def eA36 (x : Int × Int) : AV := .agg [eI x.1, eI x.2]
structure TFailure where
 Failed : Int
 Value : Int
 Cut : Int
instance : Inhabited TFailure := ⟨⟨default, default, default⟩⟩
def eTFailure (x : TFailure) : AV := .agg [eI x.Failed, eI x.Value, eI x.Cut]
theorem lo_TFailure (x : TFailure) : (eTFailure x).loose := (loose_agg (lsC (lsI _ _) (lsC (lsI _ _) (lsC (lsI _ _) loose_nil))))
structure TSupply where
 Met : Bool
 Amounts : List Int
 Set : Int
instance : Inhabited TSupply := ⟨⟨default, default, default⟩⟩
def eTSupply (x : TSupply) : AV := .agg [eB x.Met, (eL 1 eI default) x.Amounts, eI x.Set]
theorem lo_TSupply (x : TSupply) : (eTSupply x).loose := (loose_agg (lsC (lsB _) (lsC (lsL fun _ => (lsI _ _)) (lsC (lsI _ _) loose_nil))))
theorem vinv_int (x : Int) : ∀ b vs, Vs b [eI x] vs → vs = [Value.int .i64 x] := fun b vs h => by simpa [Vs, V, eI] using h
theorem vx_int (b : Beta) (x : Int) : Vs b [eI x] [Value.int .i64 x] := ⟨_, _, rfl, by simp [V, eI], rfl⟩
def PF : FuncId → Bool := fun f => [3, 4, 5, 6, 7, 8, 9, 10, 11, 12, 13, 14, 15, 16, 17, 18, 19, 20, 21, 22, 23, 24, 25, 26, 27, 28, 29, 30, 31, 32, 33, 34, 35, 36, 37, 38, 39, 40, 41, 42, 43, 44, 45, 46, 47, 48, 49, 50, 54, 55, 56, 57, 58, 59, 60, 62, 64, 65, 66, 67, 68, 69, 70, 71, 81, 100075].contains f
end Go.Proofs.Ytgkmodjcoedonaa
namespace Go.Proofs.Ytgkmodjcoedonaa
open Go Go.Eng
theorem eqv53 (x0 : Int) (x1 : Int) (x2 : Int) (y0 : Int) (y1 : Int) (y2 : Int) : EqV Try.prog 53 (.agg [eI x0, eI x1, eI x2]) (.agg [eI y0, eI y1, eI y2]) ((x0 == y0) && ((x1 == y1) && (x2 == y2))) := by
 intro β w u v ox oy hu hv
 simp only [V, Vs, eI, eB] at hu hv
 obtain ⟨_, rfl, _, _, rfl, rfl, _, _, rfl, rfl, _, _, rfl, rfl, rfl⟩ := hu
 obtain ⟨_, rfl, _, _, rfl, rfl, _, _, rfl, rfl, _, _, rfl, rfl, rfl⟩ := hv
 have u3 := Try.underlying3
 have a3 := Try.isAgg3
 have z3 := Try.sizeOf3
 have hS : Try.prog.underlying 53 = some (.struct (Try.prog.fieldsOf 53)) := by kernel_rfl
 have hp : Try.prog.stoodInHeld 53 = false := by kernel_rfl
 have hm : Try.prog.eqGuardType Try.prog.depth 53 = false := by kernel_rfl
 have key : (Op.equalIn 10000 53 (.agg #[.int .i64 x0, .int .i64 x1, .int .i64 x2]) (.agg #[.int .i64 y0, .int .i64 y1, .int .i64 y2])).run Try.prog w = .ok ((x0 == y0) && ((x1 == y1) && (x2 == y2))) w := by
   rw [show (10000 : Nat) = 9999 + 1 from rfl, run_equalIn_agg w 9999 53 _ _ hS hp]
   simp only [Program.fieldsOf, Try.underlying53]
   go_simp
   by_cases h0 : x0 = y0 <;> by_cases h1 : x1 = y1 <;> by_cases h2 : x2 = y2 <;> simp [h0, h1, h2]
 constructor
 · simp only [Sem.run_bind, run_eqGuard_agg w _ 53 _ _ _ _ hm, Result.andThen_ok, run_eql_struct, key]
 · simp only [Sem.run_bind, run_eqGuard_agg w _ 53 _ _ _ _ hm, Result.andThen_ok, run_neq_struct, key]
theorem eqv72 (x0 : Int) (x1 : Int) (x2 : Int) (y0 : Int) (y1 : Int) (y2 : Int) : EqV Try.prog 72 (.agg [eI x0, eI x1, eI x2]) (.agg [eI y0, eI y1, eI y2]) ((x0 == y0) && ((x1 == y1) && (x2 == y2))) := by
 intro β w u v ox oy hu hv
 simp only [V, Vs, eI, eB] at hu hv
 obtain ⟨_, rfl, _, _, rfl, rfl, _, _, rfl, rfl, _, _, rfl, rfl, rfl⟩ := hu
 obtain ⟨_, rfl, _, _, rfl, rfl, _, _, rfl, rfl, _, _, rfl, rfl, rfl⟩ := hv
 have u3 := Try.underlying3
 have a3 := Try.isAgg3
 have z3 := Try.sizeOf3
 have hS : Try.prog.underlying 72 = some (.struct (Try.prog.fieldsOf 72)) := by kernel_rfl
 have hp : Try.prog.stoodInHeld 72 = false := by kernel_rfl
 have hm : Try.prog.eqGuardType Try.prog.depth 72 = false := by kernel_rfl
 have key : (Op.equalIn 10000 72 (.agg #[.int .i64 x0, .int .i64 x1, .int .i64 x2]) (.agg #[.int .i64 y0, .int .i64 y1, .int .i64 y2])).run Try.prog w = .ok ((x0 == y0) && ((x1 == y1) && (x2 == y2))) w := by
   rw [show (10000 : Nat) = 9999 + 1 from rfl, run_equalIn_agg w 9999 72 _ _ hS hp]
   simp only [Program.fieldsOf, Try.underlying72]
   go_simp
   by_cases h0 : x0 = y0 <;> by_cases h1 : x1 = y1 <;> by_cases h2 : x2 = y2 <;> simp [h0, h1, h2]
 constructor
 · simp only [Sem.run_bind, run_eqGuard_agg w _ 72 _ _ _ _ hm, Result.andThen_ok, run_eql_struct, key]
 · simp only [Sem.run_bind, run_eqGuard_agg w _ 72 _ _ _ _ hm, Result.andThen_ok, run_neq_struct, key]
end Go.Proofs.Ytgkmodjcoedonaa
namespace Go.Proofs.Ytgkmodjcoedonaa
open Go Go.Eng
set_option maxHeartbeats 0
set_option maxRecDepth 100000
def flow_isIn_F (a0 : Int) (a1 : Int) (a2 : Int) : Option Bool := jn (fun p1 : Bool => some p1) fun k2 => cn (decide (a1 ≤ a0)) (k2 (decide (a0 ≤ a2))) (k2 false)
def flow_isIn_S : List AV → AV → Prop := fun args r => ∃ a0 a1 a2, args = [eI a0, eI a1, eI a2] ∧ W (flow_isIn_F a0 a1 a2) fun y => r = (eB y)
theorem flow_isIn_ok {T : Tbl} (hT : TOk Try.prog T) (hpf : PfOk T PF) : FOk Try.prog 46 (pureR flow_isIn_S) := by
 refine FOk_pure hT hpf Try.func46 rfl Try.ntmps46 Try.results46 (by decide) ?_
 rintro args r ⟨a0, a1, a2, rfl, h⟩
 refine ⟨nle rfl, ?_, ?_⟩
 · exact (lsC (lsI _ _) (lsC (lsI _ _) (lsC (lsI _ _) loose_nil)))
 rw [flow_isIn_F.eq_1] at h
 refine HT_fr dCo rfl fun K hK => ?_; conv => whnf
 refine hK _ _ _ ?_; clear hK K
 refine HT_fr dCo rfl fun K hK => ?_; conv => whnf
 replace h := W_jn h
 refine cond_lk h (fun _ h => ?_) (fun _ h => ?_) <;> (conv => whnf)
 · refine hK _ _ _ ?_; clear hK K
   refine HT_ret ?_
   replace h := W_some h
   refine PostP_r dCo fun K hK => ?_; conv => whnf
   refine hK _ ?_; clear hK K
   cases h
   exact Wk.refl _
 refine hK _ _ _ ?_; clear hK K
 refine HT_ret ?_
 replace h := W_some h
 refine PostP_r dCo fun K hK => ?_; conv => whnf
 refine hK _ ?_; clear hK K
 cases h
 exact Wk.refl _
theorem flow_isIn_call {T : Tbl} (hT : T 46 = pureR flow_isIn_S) {args : List AV} {hp : Heap} {id : Nat} {k : AV → Prop} {a0 : Int} {a1 : Int} {a2 : Int} {Φ : Bool → Prop} (h : W (flow_isIn_F a0 a1 a2) Φ) (hw : WkL args [eI a0, eI a1, eI a2]) (hk : ∀ y, Φ y → k (eB y)) : callpK T 46 args hp id k := by
 obtain ⟨y, e, hy⟩ := W_inv h
 exact callpK_pure hT ⟨a0, a1, a2, rfl, W_of e rfl⟩ (by exact (lsB _)) hw (hk y hy)
def flow_Valid_1_F (a0 : TEdge) (c900 : TNet) : Option Bool := jn (fun p1 : Bool => some p1) fun k2 => bd (flow_isIn_F a0.From 0 (wr (c900.N - 1))) fun y3 =>
   cn (!y3) (k2 true) (bd (flow_isIn_F a0.To 0 (wr (c900.N - 1))) fun y4 => cn (!y4) (k2 true) (cn (a0.From == a0.To) (k2 true) (bd (flow_isIn_F a0.Capacity 0 10000) fun y5 =>
   k2 (!y5))))
def flow_Valid_1_S : List AV → AV → Prop := fun args r => ∃ a0 c900, args = [eTEdge a0, .ep [eI c900.N, (eL 3 eTEdge default) c900.Edges] 0] ∧ W (flow_Valid_1_F a0 c900) fun y => r = (eB y)
theorem flow_Valid_1_ok {T : Tbl} (hT : TOk Try.prog T) (hpf : PfOk T PF) (h46 : T 46 = pureR flow_isIn_S) : FOk Try.prog 47 (pureR flow_Valid_1_S) := by
 refine FOk_pure hT hpf Try.func47 rfl Try.ntmps47 Try.results47 (by decide) ?_
 rintro args r ⟨a0, c900, rfl, h⟩
 refine ⟨nle rfl, ?_, ?_⟩
 · exact (lsC (lo_TEdge _) (lsC (loose_ep (lsC (lsI _ _) (lsC (lsL fun _ => (lo_TEdge _)) loose_nil))) loose_nil))
 rw [flow_Valid_1_F.eq_1] at h
 refine HT_fr dCo rfl fun K hK => ?_; conv => whnf
 refine hK _ _ _ ?_; clear hK K
 refine HT_fr dCo rfl fun K hK => ?_; conv => whnf
 replace h := W_jn h
 refine nlA rfl ?_; conv => whnf
 refine bKo rfl ?_; conv => whnf
 refine getK_of rfl ?_; conv => whnf
 refine getK_of rfl ?_; conv => whnf
 replace h := W_bd h
 refine flow_isIn_call h46 h (WkL.refl _) (fun _ h => ?_); conv => whnf
 refine cond_lk h (fun _ h => ?_) (fun _ h => ?_) <;> (conv => whnf)
 · refine hK _ _ _ ?_; clear hK K
   refine HT_ret ?_
   replace h := W_some h
   refine PostP_r dCo fun K hK => ?_; conv => whnf
   refine hK _ ?_; clear hK K
   cases h
   exact Wk.refl _
 refine nlA rfl ?_; conv => whnf
 refine bKo rfl ?_; conv => whnf
 refine getK_of rfl ?_; conv => whnf
 refine getK_of rfl ?_; conv => whnf
 replace h := W_bd h
 refine flow_isIn_call h46 h (WkL.refl _) (fun _ h => ?_); conv => whnf
 refine cond_lk h (fun _ h => ?_) (fun _ h => ?_) <;> (conv => whnf)
 · refine hK _ _ _ ?_; clear hK K
   refine HT_ret ?_
   replace h := W_some h
   refine PostP_r dCo fun K hK => ?_; conv => whnf
   refine hK _ ?_; clear hK K
   cases h
   exact Wk.refl _
 refine nlA rfl ?_; conv => whnf
 refine bKo rfl ?_; conv => whnf
 refine getK_of rfl ?_; conv => whnf
 refine nlA rfl ?_; conv => whnf
 refine bKo rfl ?_; conv => whnf
 refine getK_of rfl ?_; conv => whnf
 refine cond_lk h (fun _ h => ?_) (fun _ h => ?_) <;> (conv => whnf)
 · refine hK _ _ _ ?_; clear hK K
   refine HT_ret ?_
   replace h := W_some h
   refine PostP_r dCo fun K hK => ?_; conv => whnf
   refine hK _ ?_; clear hK K
   cases h
   exact Wk.refl _
 refine nlA rfl ?_; conv => whnf
 refine bKo rfl ?_; conv => whnf
 refine getK_of rfl ?_; conv => whnf
 replace h := W_bd h
 refine flow_isIn_call h46 h (WkL.refl _) (fun _ h => ?_); conv => whnf
 refine hK _ _ _ ?_; clear hK K
 refine HT_ret ?_
 replace h := W_some h
 refine PostP_r dCo fun K hK => ?_; conv => whnf
 refine hK _ ?_; clear hK K
 cases h
 exact Wk.refl _
theorem flow_Valid_1_calls {T : Tbl} (hT : T 47 = pureR flow_Valid_1_S) {args : List AV} {hp : Heap} {id : Nat} {k : AV → Heap → Prop} {a0 : TEdge} {c900 : TNet} {Φ : Bool → Prop} (h : W (flow_Valid_1_F a0 c900) Φ) (hw : WkL args [eTEdge a0, .ep [eI c900.N, (eL 3 eTEdge default) c900.Edges] 0]) (hk : ∀ y, Φ y → k (eB y) hp) : callsK T 47 args hp id k := by
 obtain ⟨y, e, hy⟩ := W_inv h
 exact callsK_pure hT ⟨a0, c900, rfl, W_of e rfl⟩ (by exact (lsB _)) hw (hk y hy)
def slices_IndexFunc_Edge_47_b1 (a0 : List TEdge) (c910 : TNet) (s1 : Int) : Option (Ct Int Int) := cn (decide (s1 < (a0.length : Int))) (ix a0 default s1 fun e2 =>
   bd (flow_Valid_1_F e2 c910) fun y3 => cn y3 (some (.rt s1)) (some (.nx (wr (s1 + 1))))) (some (.bk s1))
theorem W_bslices_IndexFunc_Edge_47_b1 {a0 : List TEdge} {c910 : TNet} {s1 : Int} {Φ : Ct Int Int → Prop} (h : W (slices_IndexFunc_Edge_47_b1 a0 c910 s1) Φ) : W (cn (decide (s1 < (a0.length : Int))) (ix a0 default s1 fun e2 => bd (flow_Valid_1_F e2 c910) fun y3 => cn y3 (some (.rt s1)) (some (.nx (wr (s1 + 1))))) (some (.bk s1))) Φ := h
def slices_IndexFunc_Edge_47_F (a0 : List TEdge) (c910 : TNet) : Option Int := bd (lp (slices_IndexFunc_Edge_47_b1 a0 c910) FU 0) fun c4 => smK c4 (fun s5 => some (-1)) (fun r6 =>
   some r6)
def slices_IndexFunc_Edge_47_S : List AV → AV → Prop := fun args r => ∃ a0 c910, args = [(eL 3 eTEdge default) a0, .fn 47 [] [.ep [eI c910.N, (eL 3 eTEdge default) c910.Edges] 0]] ∧ W (slices_IndexFunc_Edge_47_F a0 c910) fun y => r = (eI y)
theorem slices_IndexFunc_Edge_47_ok {T : Tbl} (hT : TOk Try.prog T) (hpf : PfOk T PF) (h47 : T 47 = pureR flow_Valid_1_S) : FOk Try.prog 71 (pureR slices_IndexFunc_Edge_47_S) := by
 refine FOk_pure hT hpf Try.func71 rfl Try.ntmps71 Try.results71 (by decide) ?_
 rintro args r ⟨a0, c910, rfl, h⟩
 refine ⟨nle rfl, ?_, ?_⟩
 · exact (lsC (lsL fun _ => (lo_TEdge _)) (lsC (loose_fn loose_nil (lsC (loose_ep (lsC (lsI _ _) (lsC (lsL fun _ => (lo_TEdge _)) loose_nil))) loose_nil)) loose_nil))
 rw [slices_IndexFunc_Edge_47_F.eq_1] at h
 refine HT_fr dCo rfl fun K hK => ?_; conv => whnf
 refine hK _ _ _ ?_; clear hK K
 refine HT_seq ?_
 refine HT_fr dCo rfl fun K hK => ?_; conv => whnf
 refine hK _ _ _ ?_; clear hK K
 refine HT_block ?_
 replace h := W_bd h
 refine HT_lpK (body := slices_IndexFunc_Edge_47_b1 _ _) rfl h [0, 1, 7] [] [] (fun kl kh ids b s => ⟨ofL ([(8, eI s)] ++ kl), ofH ([] ++ kh), b + 64⟩) ?_; (conv => whnf); refine And.intro ?_ (fun s m h => HT_st ?_)
 · refine weak_k ?_; conv => whnf
   exact And.intro rfl (And.intro (aLc wkI (aLc (wkr (lsL fun _ => (lo_TEdge _))) (aLc (WkR_fn VsR_nil (VsR_cons (wkr (loose_ep (lsC (lsI _ _) (lsC (lsL fun _ => (lo_TEdge _)) loose_nil)))) VsR_nil)) (aLc wkI aLn)))) aLn)
 replace h := W_bslices_IndexFunc_Edge_47_b1 (W_bd h)
 refine HT_fr dCo rfl fun K hK => ?_; conv => whnf
 refine hK _ _ _ ?_; clear hK K
 refine HT_seq ?_
 refine HT_if fun K1 K2 hK1 hK2 => ?_; conv => whnf
 refine cond_lk h (fun _ h => ?_) (fun _ h => ?_)
 · refine hK1 ?_; clear hK1 hK2 K1 K2
   refine HT_skip ?_
   refine Then_n ?_
   refine HT_seq ?_
   refine HT_block ?_
   refine HT_fr dCo rfl fun K hK => ?_; conv => whnf
   refine hK _ _ _ ?_; clear hK K
   refine HT_fr dCo rfl fun K hK => ?_; conv => whnf
   refine ix_lk h fun _ h => ?_; conv => whnf
   refine nlA rfl ?_; conv => whnf
   replace h := W_bd h
   refine flow_Valid_1_calls h47 h (WkL.refl _) (fun _ h => ?_); conv => whnf
   refine hK _ _ _ ?_; clear hK K
   refine HT_if fun K1 K2 hK1 hK2 => ?_; conv => whnf
   refine cond_lk h (fun _ h => ?_) (fun _ h => ?_)
   · refine hK1 ?_; clear hK1 hK2 K1 K2
     refine HT_fr dCo rfl fun K hK => ?_; conv => whnf
     refine hK _ _ _ ?_; clear hK K
     refine HT_ret ?_
     refine InBlock_r ?_
     refine Then_r ?_
     refine Then_r ?_
     refine InBlock_r ?_
     refine Then_r ?_
     replace h := W_xrt h
     replace h := W_inr h
     replace h := W_some h
     refine PostP_r dCo fun K hK => ?_; conv => whnf
     refine hK _ ?_; clear hK K
     cases h
     exact Wk.refl _
   refine hK2 ?_; clear hK1 hK2 K1 K2
   refine HT_skip ?_
   refine InBlock_n ?_
   refine Then_n ?_
   refine HT_f dCo rfl fun K hK => ?_; conv => whnf
   refine hK _ _ _ ?_; clear hK K
   refine Then_n ?_
   replace h := W_xnx h
   refine ⟨_, h, ?_⟩
   refine weak_k ?_; conv => whnf
   exact And.intro rfl (And.intro (aLc wkI (aLc (wkr (lsL fun _ => (lo_TEdge _))) (aLc (WkR_fn VsR_nil (VsR_cons (wkr (loose_ep (lsC (lsI _ _) (lsC (lsL fun _ => (lo_TEdge _)) loose_nil)))) VsR_nil)) (aLc wkI aLn)))) aLn)
 refine hK2 ?_; clear hK1 hK2 K1 K2
 refine HT_exit ?_
 refine Then_e ?_
 refine Then_e ?_
 refine InBlock_e ?_
 replace h := W_xbk h
 replace h := W_inl h
 refine Then_n ?_
 refine HT_fr dCo rfl fun K hK => ?_; conv => whnf
 refine hK _ _ _ ?_; clear hK K
 refine HT_ret ?_
 replace h := W_some h
 refine PostP_r dCo fun K hK => ?_; conv => whnf
 refine hK _ ?_; clear hK K
 cases h
 exact Wk.refl _
def slices_IndexFunc_Edge_S : List AV → AV → Prop := fun args r => slices_IndexFunc_Edge_47_S args r
theorem slices_IndexFunc_Edge_47_call {T : Tbl} (hT : T 71 = pureR slices_IndexFunc_Edge_S) {args : List AV} {hp : Heap} {id : Nat} {k : AV → Prop} {a0 : List TEdge} {c910 : TNet} {Φ : Int → Prop} (h : W (slices_IndexFunc_Edge_47_F a0 c910) Φ) (hw : WkL args [(eL 3 eTEdge default) a0, .fn 47 [] [.ep [eI c910.N, (eL 3 eTEdge default) c910.Edges] 0]]) (hk : ∀ y, Φ y → k (eI y)) : callpK T 71 args hp id k := by
 obtain ⟨y, e, hy⟩ := W_inv h
 exact callpK_pure hT ⟨a0, c910, rfl, W_of e rfl⟩ (by exact (lsI _ _)) hw (hk y hy)
theorem slices_IndexFunc_Edge_ok {T : Tbl} (hT : TOk Try.prog T) (hpf : PfOk T PF) (h47 : T 47 = pureR flow_Valid_1_S) : FOk Try.prog 71 (pureR slices_IndexFunc_Edge_S) := (slices_IndexFunc_Edge_47_ok hT hpf h47)
def slices_ContainsFunc_Edge_47_F (a0 : List TEdge) (c910 : TNet) : Option Bool := bd (slices_IndexFunc_Edge_47_F a0 c910) fun y1 => some (decide (y1 ≥ 0))
def slices_ContainsFunc_Edge_47_S : List AV → AV → Prop := fun args r => ∃ a0 c910, args = [(eL 3 eTEdge default) a0, .fn 47 [] [.ep [eI c910.N, (eL 3 eTEdge default) c910.Edges] 0]] ∧ W (slices_ContainsFunc_Edge_47_F a0 c910) fun y => r = (eB y)
theorem slices_ContainsFunc_Edge_47_ok {T : Tbl} (hT : TOk Try.prog T) (hpf : PfOk T PF) (h71 : T 71 = pureR slices_IndexFunc_Edge_S) : FOk Try.prog 48 (pureR slices_ContainsFunc_Edge_47_S) := by
 refine FOk_pure hT hpf Try.func48 rfl Try.ntmps48 Try.results48 (by decide) ?_
 rintro args r ⟨a0, c910, rfl, h⟩
 refine ⟨nle rfl, ?_, ?_⟩
 · exact (lsC (lsL fun _ => (lo_TEdge _)) (lsC (loose_fn loose_nil (lsC (loose_ep (lsC (lsI _ _) (lsC (lsL fun _ => (lo_TEdge _)) loose_nil))) loose_nil)) loose_nil))
 rw [slices_ContainsFunc_Edge_47_F.eq_1] at h
 refine HT_fr dCo rfl fun K hK => ?_; conv => whnf
 refine hK _ _ _ ?_; clear hK K
 refine HT_fr dCo rfl fun K hK => ?_; conv => whnf
 replace h := W_bd h
 refine slices_IndexFunc_Edge_47_call h71 h (WkL.refl _) (fun _ h => ?_); conv => whnf
 refine hK _ _ _ ?_; clear hK K
 refine HT_ret ?_
 replace h := W_some h
 refine PostP_r dCo fun K hK => ?_; conv => whnf
 refine hK _ ?_; clear hK K
 cases h
 exact Wk.refl _
def slices_ContainsFunc_Edge_S : List AV → AV → Prop := fun args r => slices_ContainsFunc_Edge_47_S args r
theorem slices_ContainsFunc_Edge_47_call {T : Tbl} (hT : T 48 = pureR slices_ContainsFunc_Edge_S) {args : List AV} {hp : Heap} {id : Nat} {k : AV → Prop} {a0 : List TEdge} {c910 : TNet} {Φ : Bool → Prop} (h : W (slices_ContainsFunc_Edge_47_F a0 c910) Φ) (hw : WkL args [(eL 3 eTEdge default) a0, .fn 47 [] [.ep [eI c910.N, (eL 3 eTEdge default) c910.Edges] 0]]) (hk : ∀ y, Φ y → k (eB y)) : callpK T 48 args hp id k := by
 obtain ⟨y, e, hy⟩ := W_inv h
 exact callpK_pure hT ⟨a0, c910, rfl, W_of e rfl⟩ (by exact (lsB _)) hw (hk y hy)
theorem slices_ContainsFunc_Edge_ok {T : Tbl} (hT : TOk Try.prog T) (hpf : PfOk T PF) (h71 : T 71 = pureR slices_IndexFunc_Edge_S) : FOk Try.prog 48 (pureR slices_ContainsFunc_Edge_S) := (slices_ContainsFunc_Edge_47_ok hT hpf h71)
def flow_Valid_F (a0 : TNet) : Option Bool := jn (fun p1 : Bool => cn p1 (some false) (bd (slices_ContainsFunc_Edge_47_F a0.Edges a0) fun y4 => some (!y4))) fun k2 =>
   bd (flow_isIn_F a0.N 0 12) fun y3 => cn (!y3) (k2 true) (k2 (decide ((a0.Edges.length : Int) > 40)))
def flow_Valid_S : List AV → AV → Prop := fun args r => ∃ a0, args = [eTNet a0] ∧ W (flow_Valid_F a0) fun y => r = (eB y)
theorem flow_Valid_ok {T : Tbl} (hT : TOk Try.prog T) (hpf : PfOk T PF) (h46 : T 46 = pureR flow_isIn_S) (h48 : T 48 = pureR slices_ContainsFunc_Edge_S) : FOk Try.prog 19 (pureR flow_Valid_S) := by
 refine FOk_pure hT hpf Try.func19 rfl Try.ntmps19 Try.results19 (by decide) ?_
 rintro args r ⟨a0, rfl, h⟩
 refine ⟨nle rfl, ?_, ?_⟩
 · exact (lsC (lo_TNet _) loose_nil)
 rw [flow_Valid_F.eq_1] at h
 refine HT_fr dCo rfl fun K hK => ?_; conv => whnf
 refine hK _ _ _ ?_; clear hK K
 refine HT_seq ?_
 refine HT_fr dCo rfl fun K hK => ?_; conv => whnf
 replace h := W_jn h
 refine nlA rfl ?_; conv => whnf
 refine bKo rfl ?_; conv => whnf
 refine getK_of rfl ?_; conv => whnf
 replace h := W_bd h
 refine flow_isIn_call h46 h (WkL.refl _) (fun _ h => ?_); conv => whnf
 refine cond_lk h (fun _ h => ?_) (fun _ h => ?_) <;> (conv => whnf)
 · refine hK _ _ _ ?_; clear hK K
   refine HT_if fun K1 K2 hK1 hK2 => ?_; conv => whnf
   refine hK1 ?_; clear hK1 hK2 K1 K2
   replace h := W_cnT h
   refine HT_fr dCo rfl fun K hK => ?_; conv => whnf
   refine hK _ _ _ ?_; clear hK K
   refine HT_ret ?_
   refine Then_r ?_
   replace h := W_some h
   refine PostP_r dCo fun K hK => ?_; conv => whnf
   refine hK _ ?_; clear hK K
   cases h
   exact Wk.refl _
 refine nlA rfl ?_; conv => whnf
 refine bKo rfl ?_; conv => whnf
 refine getK_of rfl ?_; conv => whnf
 refine hK _ _ _ ?_; clear hK K
 refine HT_if fun K1 K2 hK1 hK2 => ?_; conv => whnf
 refine cond_lk h (fun _ h => ?_) (fun _ h => ?_)
 · refine hK1 ?_; clear hK1 hK2 K1 K2
   refine HT_fr dCo rfl fun K hK => ?_; conv => whnf
   refine hK _ _ _ ?_; clear hK K
   refine HT_ret ?_
   refine Then_r ?_
   replace h := W_some h
   refine PostP_r dCo fun K hK => ?_; conv => whnf
   refine hK _ ?_; clear hK K
   cases h
   exact Wk.refl _
 refine hK2 ?_; clear hK1 hK2 K1 K2
 refine HT_skip ?_
 refine Then_n ?_
 refine HT_frzK 1 ?_; (conv => whnf); refine ⟨_, rfl, ?_⟩
 refine HT_fr dCo rfl fun K hK => ?_; conv => whnf
 refine hK _ _ _ ?_; clear hK K
 refine HT_fr dCo rfl fun K hK => ?_; conv => whnf
 refine getK_of rfl ?_; conv => whnf
 replace h := W_bd h
 refine slices_ContainsFunc_Edge_47_call h48 h (WkL.refl _) (fun _ h => ?_); conv => whnf
 refine hK _ _ _ ?_; clear hK K
 refine HT_ret ?_
 replace h := W_some h
 refine PostP_r dCo fun K hK => ?_; conv => whnf
 refine hK _ ?_; clear hK K
 cases h
 exact Wk.refl _
theorem flow_Valid_call {T : Tbl} (hT : T 19 = pureR flow_Valid_S) {args : List AV} {hp : Heap} {id : Nat} {k : AV → Prop} {a0 : TNet} {Φ : Bool → Prop} (h : W (flow_Valid_F a0) Φ) (hw : WkL args [eTNet a0]) (hk : ∀ y, Φ y → k (eB y)) : callpK T 19 args hp id k := by
 obtain ⟨y, e, hy⟩ := W_inv h
 exact callpK_pure hT ⟨a0, rfl, W_of e rfl⟩ (by exact (lsB _)) hw (hk y hy)
def flow_isPair_F (a0 : TNet) (a1 : Int) (a2 : Int) : Option Bool := jn (fun p1 : Bool => some p1) fun k2 => bd (flow_Valid_F a0) fun y3 =>
   cn y3 (bd (flow_isIn_F a1 0 (wr (a0.N - 1))) fun y4 => cn y4 (bd (flow_isIn_F a2 0 (wr (a0.N - 1))) fun y5 => cn y5 (k2 (a1 != a2)) (k2 false)) (k2 false)) (k2 false)
def flow_isPair_S : List AV → AV → Prop := fun args r => ∃ a0 a1 a2, args = [eTNet a0, eI a1, eI a2] ∧ W (flow_isPair_F a0 a1 a2) fun y => r = (eB y)
theorem flow_isPair_ok {T : Tbl} (hT : TOk Try.prog T) (hpf : PfOk T PF) (h19 : T 19 = pureR flow_Valid_S) (h46 : T 46 = pureR flow_isIn_S) : FOk Try.prog 50 (pureR flow_isPair_S) := by
 refine FOk_pure hT hpf Try.func50 rfl Try.ntmps50 Try.results50 (by decide) ?_
 rintro args r ⟨a0, a1, a2, rfl, h⟩
 refine ⟨nle rfl, ?_, ?_⟩
 · exact (lsC (lo_TNet _) (lsC (lsI _ _) (lsC (lsI _ _) loose_nil)))
 rw [flow_isPair_F.eq_1] at h
 refine HT_fr dCo rfl fun K hK => ?_; conv => whnf
 refine hK _ _ _ ?_; clear hK K
 refine HT_fr dCo rfl fun K hK => ?_; conv => whnf
 replace h := W_jn h
 refine nlA rfl ?_; conv => whnf
 refine bKo rfl ?_; conv => whnf
 refine nlA rfl ?_; conv => whnf
 replace h := W_bd h
 refine flow_Valid_call h19 h (WkL.refl _) (fun _ h => ?_); conv => whnf
 refine cond_lk h (fun _ h => ?_) (fun _ h => ?_) <;> (conv => whnf)
 · refine nlA rfl ?_; conv => whnf
   refine bKo rfl ?_; conv => whnf
   refine getK_of rfl ?_; conv => whnf
   replace h := W_bd h
   refine flow_isIn_call h46 h (WkL.refl _) (fun _ h => ?_); conv => whnf
   refine cond_lk h (fun _ h => ?_) (fun _ h => ?_) <;> (conv => whnf)
   · refine nlA rfl ?_; conv => whnf
     refine bKo rfl ?_; conv => whnf
     refine getK_of rfl ?_; conv => whnf
     replace h := W_bd h
     refine flow_isIn_call h46 h (WkL.refl _) (fun _ h => ?_); conv => whnf
     refine cond_lk h (fun _ h => ?_) (fun _ h => ?_) <;> (conv => whnf)
     · refine hK _ _ _ ?_; clear hK K
       refine HT_ret ?_
       replace h := W_some h
       refine PostP_r dCo fun K hK => ?_; conv => whnf
       refine hK _ ?_; clear hK K
       cases h
       exact Wk.refl _
     refine hK _ _ _ ?_; clear hK K
     refine HT_ret ?_
     replace h := W_some h
     refine PostP_r dCo fun K hK => ?_; conv => whnf
     refine hK _ ?_; clear hK K
     cases h
     exact Wk.refl _
   refine hK _ _ _ ?_; clear hK K
   refine HT_ret ?_
   replace h := W_some h
   refine PostP_r dCo fun K hK => ?_; conv => whnf
   refine hK _ ?_; clear hK K
   cases h
   exact Wk.refl _
 refine hK _ _ _ ?_; clear hK K
 refine HT_ret ?_
 replace h := W_some h
 refine PostP_r dCo fun K hK => ?_; conv => whnf
 refine hK _ ?_; clear hK K
 cases h
 exact Wk.refl _
theorem flow_isPair_call {T : Tbl} (hT : T 50 = pureR flow_isPair_S) {args : List AV} {hp : Heap} {id : Nat} {k : AV → Prop} {a0 : TNet} {a1 : Int} {a2 : Int} {Φ : Bool → Prop} (h : W (flow_isPair_F a0 a1 a2) Φ) (hw : WkL args [eTNet a0, eI a1, eI a2]) (hk : ∀ y, Φ y → k (eB y)) : callpK T 50 args hp id k := by
 obtain ⟨y, e, hy⟩ := W_inv h
 exact callpK_pure hT ⟨a0, a1, a2, rfl, W_of e rfl⟩ (by exact (lsB _)) hw (hk y hy)

   def flow_given_b1 (a0 : TNet) (a1 : List Int) (s2 : Int × (List Int)) : Option (Ct (Int × (List Int)) ((List Int) × Bool)) := cn (decide (s2.1 < (a0.Edges.length : Int))) (ix a0.Edges default s2.1 fun e3 =>
   ix a1 default s2.1 fun e4 => bd (flow_isIn_F e4 0 e3.Capacity) fun y5 =>
   cn (!y5) (some (.rt ([], false))) (gd ((0 : Int) ≤ e3.From ∧ e3.From < (s2.2.length : Int)) (ix a1 default s2.1 fun e6 =>
   gd ((0 : Int) ≤ e3.From ∧ e3.From < (s2.2.length : Int)) (st s2.2 (e3.From) (wr ((s2.2.getD (e3.From).toNat default) + e6)) fun l7 =>
   gd ((0 : Int) ≤ e3.To ∧ e3.To < (l7.length : Int)) (ix a1 default s2.1 fun e8 =>
   gd ((0 : Int) ≤ e3.To ∧ e3.To < (l7.length : Int)) (st l7 (e3.To) (wr ((l7.getD (e3.To).toNat default) - e8)) fun l9 =>
   some (.nx ((wr (s2.1 + 1)), l9)))))))) (some (.bk (s2.1, s2.2)))
theorem W_bflow_given_b1 {a0 : TNet} {a1 : List Int} {s2 : Int × (List Int)} {Φ : Ct (Int × (List Int)) ((List Int) × Bool) → Prop} (h : W (flow_given_b1 a0 a1 s2) Φ) : W (cn (decide (s2.1 < (a0.Edges.length : Int))) (ix a0.Edges default s2.1 fun e3 => ix a1 default s2.1 fun e4 => bd (flow_isIn_F e4 0 e3.Capacity) fun y5 =>
   cn (!y5) (some (.rt ([], false))) (gd ((0 : Int) ≤ e3.From ∧ e3.From < (s2.2.length : Int)) (ix a1 default s2.1 fun e6 =>
   gd ((0 : Int) ≤ e3.From ∧ e3.From < (s2.2.length : Int)) (st s2.2 (e3.From) (wr ((s2.2.getD (e3.From).toNat default) + e6)) fun l7 =>
   gd ((0 : Int) ≤ e3.To ∧ e3.To < (l7.length : Int)) (ix a1 default s2.1 fun e8 =>
   gd ((0 : Int) ≤ e3.To ∧ e3.To < (l7.length : Int)) (st l7 (e3.To) (wr ((l7.getD (e3.To).toNat default) - e8)) fun l9 =>
   some (.nx ((wr (s2.1 + 1)), l9)))))))) (some (.bk (s2.1, s2.2)))) Φ := h
def flow_given_F (a0 : TNet) (a1 : List Int) : Option ((List Int) × Bool) := cn ((a1.length : Int) !=
   (a0.Edges.length : Int)) (some ([], false)) (gd ((0 : Int) ≤ a0.N ∧ a0.N ≤ (1048576 : Int)) (lt (List.replicate (a0.N).toNat (0 : Int)) fun l1 =>
   bd (lp (flow_given_b1 a0 a1) FU (0, l1)) fun c10 => smK c10 (fun s11 => some (s11.2, true)) (fun r12 => some r12)))
def flow_given_S : List AV → AV → Prop := fun args r => ∃ a0 a1, args = [eTNet a0, (eL 1 eI default) a1] ∧ W (flow_given_F a0 a1) fun y => r = (.tup [(eL 1 eI default) y.1, eB y.2])
theorem flow_given_ok {T : Tbl} (hT : TOk Try.prog T) (hpf : PfOk T PF) (h46 : T 46 = pureR flow_isIn_S) : FOk Try.prog 58 (pureR flow_given_S) := by
 refine FOk_pure hT hpf Try.func58 rfl Try.ntmps58 Try.results58 (by decide) ?_
 rintro args r ⟨a0, a1, rfl, h⟩
 refine ⟨nle rfl, ?_, ?_⟩
 · exact (lsC (lo_TNet _) (lsC (lsL fun _ => (lsI _ _)) loose_nil))
 rw [flow_given_F.eq_1] at h
 refine HT_fr dCo rfl fun K hK => ?_; conv => whnf
 refine hK _ _ _ ?_; clear hK K
 refine HT_seq ?_
 refine HT_fr dCo rfl fun K hK => ?_; conv => whnf
 refine nlA rfl ?_; conv => whnf
 refine bKo rfl ?_; conv => whnf
 refine getK_of rfl ?_; conv => whnf
 refine hK _ _ _ ?_; clear hK K
 refine HT_if fun K1 K2 hK1 hK2 => ?_; conv => whnf
 refine cond_lk h (fun _ h => ?_) (fun _ h => ?_)
 · refine hK1 ?_; clear hK1 hK2 K1 K2
   refine HT_fr dCo rfl fun K hK => ?_; conv => whnf
   refine hK _ _ _ ?_; clear hK K
   refine HT_ret ?_
   refine Then_r ?_
   replace h := W_some h
   refine PostP_r dCo fun K hK => ?_; conv => whnf
   refine hK _ ?_; clear hK K
   cases h
   exact Wk_tup (WkL_cons Wk_nil (WkL_cons (Wk.refl _) WkL_nil))
 refine hK2 ?_; clear hK1 hK2 K1 K2
 refine HT_skip ?_
 refine Then_n ?_
 refine HT_fr dCo rfl fun K hK => ?_; conv => whnf
 refine nlA rfl ?_; conv => whnf
 refine bKo rfl ?_; conv => whnf
 refine getK_of rfl ?_; conv => whnf
 refine mks_lk (enc := eI) dCo (0 : Int) h rfl rfl ⟨nle rfl, nle rfl, rfl⟩ rfl (fun h => ?_); conv => whnf
 refine hK _ _ _ ?_; clear hK K
 refine HT_seq ?_
 refine HT_fr dCo rfl fun K hK => ?_; conv => whnf
 refine nlA rfl ?_; conv => whnf
 refine bKo rfl ?_; conv => whnf
 refine getK_of rfl ?_; conv => whnf
 refine hK _ _ _ ?_; clear hK K
 refine HT_block ?_
 replace h := W_bd h
 refine HT_lpR (body := flow_given_b1 _ _) rfl h [1, 19, 20] [] [] [] (fun kl kh kr ids b s => ⟨ofL ([(21, eI s.1), (6, .so (b + 0) 0 s.2.length 1)] ++ kl), ofH (([] ++ kh) ++ ([(b + 0, .cells (flE (ceE eI) s.2))] ++ kr)), b + 128⟩) ?_; (conv => whnf); refine And.intro ?_ (fun s m h => HT_st ?_)
 · refine weak_r ?_; conv => whnf
   exact And.intro rfl (And.intro (aLc wkI (aLc (WkR.so (fun _ => rfl)) (aLc (wkr (lsL fun _ => (lsI _ _))) (aLc (wkr (lsL fun _ => (lo_TEdge _))) (aLc wkI aLn))))) (aLc ⟨some _, rfl, BkR_r rfl (fun _ => (lsC (lsI _ _) loose_nil))⟩ aLn))
 replace h := W_bflow_given_b1 (W_bd h)
 refine HT_fr dCo rfl fun K hK => ?_; conv => whnf
 refine hK _ _ _ ?_; clear hK K
 refine HT_seq ?_
 refine HT_if fun K1 K2 hK1 hK2 => ?_; conv => whnf
 refine cond_lk h (fun _ h => ?_) (fun _ h => ?_)
 · refine hK1 ?_; clear hK1 hK2 K1 K2
   refine HT_skip ?_
   refine Then_n ?_
   refine HT_seq ?_
   refine HT_block ?_
   refine HT_fr dCo rfl fun K hK => ?_; conv => whnf
   refine ix_lk h fun _ h => ?_; conv => whnf
   refine nlA rfl ?_; conv => whnf
   refine bKo rfl ?_; conv => whnf
   refine And.intro rfl (And.intro (nle rfl) (And.intro rfl ?_)); conv => whnf
   refine hK _ _ _ ?_; clear hK K
   refine HT_seq ?_
   refine HT_fd dCo mix_ok rfl (by kernel_rfl) fun K hK => ?_; conv => whnf
   refine ix_lk h fun _ h => ?_; conv => whnf
   refine getK_of rfl ?_; conv => whnf
   refine nlA rfl ?_; conv => whnf
   refine bKo rfl ?_; conv => whnf
   refine getK_of rfl ?_; conv => whnf
   replace h := W_bd h
   refine flow_isIn_call h46 h (WkL.refl _) (fun _ h => ?_); conv => whnf
   refine hK _ _ _ ?_; clear hK K
   refine HT_if fun K1 K2 hK1 hK2 => ?_; conv => whnf
   refine cond_lk h (fun _ h => ?_) (fun _ h => ?_)
   · refine hK1 ?_; clear hK1 hK2 K1 K2
     refine HT_fr dCo rfl fun K hK => ?_; conv => whnf
     refine hK _ _ _ ?_; clear hK K
     refine HT_ret ?_
     refine Then_r ?_
     refine InBlock_r ?_
     refine Then_r ?_
     refine Then_r ?_
     refine InBlock_r ?_
     refine Then_r ?_
     replace h := W_xrt h
     replace h := W_inr h
     replace h := W_some h
     refine PostP_r dCo fun K hK => ?_; conv => whnf
     refine hK _ ?_; clear hK K
     cases h
     exact Wk_tup (WkL_cons Wk_nil (WkL_cons (Wk.refl _) WkL_nil))
   refine hK2 ?_; clear hK1 hK2 K1 K2
   refine HT_skip ?_
   refine Then_n ?_
   refine HT_fd dCo mix_ok rfl (by kernel_rfl) fun K hK => ?_; conv => whnf
   refine nlA rfl ?_; conv => whnf
   refine bKo rfl ?_; conv => whnf
   refine getK_of rfl ?_; conv => whnf
   refine gd_lkN h (rfl) fun hx89 h => ?_; conv => whnf
   refine nlA rfl ?_; conv => whnf
   refine bKo rfl ?_; conv => whnf
   refine get_flN (enc := eI) (d := default) (q := 0) (fun _ => rfl) (rfl) hx89 (nle rfl) rfl ?_; conv => whnf
   refine ix_lk h fun _ h => ?_; conv => whnf
   refine getK_of rfl ?_; conv => whnf
   refine gd_lkN h (rfl) fun hx90 h => ?_; conv => whnf
   refine bKo rfl ?_; conv => whnf
   refine st_lk (enc := eI) (d := default) (q := 0) h (fun _ => rfl) (rfl) hx90 rfl (nle rfl) rfl rfl (fun h => ?_); conv => whnf
   refine hK _ _ _ ?_; clear hK K
   refine HT_fD dCo mix_ok rfl (by kernel_rfl) fun K hK => ?_; conv => whnf
   refine nlA rfl ?_; conv => whnf
   refine bKo rfl ?_; conv => whnf
   refine getK_of rfl ?_; conv => whnf
   refine gd_lkN h (lenset rfl) fun hx91 h => ?_; conv => whnf
   refine nlA rfl ?_; conv => whnf
   refine bKo rfl ?_; conv => whnf
   refine get_flN (enc := eI) (d := default) (q := 0) (fun _ => rfl) (lenset rfl) hx91 (nle rfl) rfl ?_; conv => whnf
   refine ix_lk h fun _ h => ?_; conv => whnf
   refine getK_of rfl ?_; conv => whnf
   refine gd_lkN h (lenset rfl) fun hx92 h => ?_; conv => whnf
   refine bKo rfl ?_; conv => whnf
   refine st_lk (enc := eI) (d := default) (q := 0) h (fun _ => rfl) (lenset rfl) hx92 rfl (nle rfl) rfl rfl (fun h => ?_); conv => whnf
   refine hK _ _ _ ?_; clear hK K
   refine InBlock_n ?_
   refine Then_n ?_
   refine HT_f dCo rfl fun K hK => ?_; conv => whnf
   refine hK _ _ _ ?_; clear hK K
   refine Then_n ?_
   replace h := W_xnx h
   refine ⟨_, h, ?_⟩
   refine weak_r ?_; conv => whnf
   exact And.intro rfl (And.intro (aLc wkI (aLc (WkR.soN (fun _ => rfl) (lenset (lenset rfl)).symm) (aLc (wkr (lsL fun _ => (lsI _ _))) (aLc (wkr (lsL fun _ => (lo_TEdge _))) (aLc wkI aLn))))) (aLc ⟨some _, rfl, BkR_r rfl (fun _ => (lsC (lsI _ _) loose_nil))⟩ aLn))
 refine hK2 ?_; clear hK1 hK2 K1 K2
 refine HT_exit ?_
 refine Then_e ?_
 refine Then_e ?_
 refine InBlock_e ?_
 replace h := W_xbk h
 replace h := W_inl h
 refine Then_n ?_
 refine HT_fr dCo rfl fun K hK => ?_; conv => whnf
 refine hK _ _ _ ?_; clear hK K
 refine HT_frzSK 4 (enc := eI) (e := 3) default (ElOk_one dCo rfl rfl rfl (fun _ => ⟨rfl, rfl⟩)) ?_; (conv => whnf); refine ⟨_, _, rfl, rfl, rfl, ?_⟩
 refine HT_ret ?_
 replace h := W_some h
 refine PostP_r dCo fun K hK => ?_; conv => whnf
 refine hK _ ?_; clear hK K
 cases h
 exact Wk.refl _
theorem flow_given_call {T : Tbl} (hT : T 58 = pureR flow_given_S) {args : List AV} {hp : Heap} {id : Nat} {k : AV → Prop} {a0 : TNet} {a1 : List Int} {Φ : (List Int) × Bool → Prop} (h : W (flow_given_F a0 a1) Φ) (hw : WkL args [eTNet a0, (eL 1 eI default) a1]) (hk : ∀ y, Φ y → k (.tup [(eL 1 eI default) y.1, eB y.2])) : callpK T 58 args hp id k := by
 obtain ⟨y, e, hy⟩ := W_inv h
 exact callpK_pure hT ⟨a0, a1, rfl, W_of e rfl⟩ (by exact loose_tup (lsC (lsL fun _ => (lsI _ _)) (lsC (lsB _) loose_nil))) hw (hk y hy)

   def flow_CheckFlow_b1 (a1 : Int) (a2 : Int) (y2 : (List Int) × Bool) (s6 : Int) : Option (Ct Int (Int × Bool)) := cn (decide (s6 < (y2.1.length : Int))) (ix y2.1 default s6 fun e7 =>
   jn (fun p8 : Bool => cn p8 (some (.rt (0, false))) (some (.nx (wr (s6 + 1))))) fun k9 => cn (e7 != 0) (cn (s6 != a1) (k9 (s6 != a2)) (k9 false)) (k9 false)) (some (.bk s6))
theorem W_bflow_CheckFlow_b1 {a1 : Int} {a2 : Int} {y2 : (List Int) × Bool} {s6 : Int} {Φ : Ct Int (Int × Bool) → Prop} (h : W (flow_CheckFlow_b1 a1 a2 y2 s6) Φ) : W (cn (decide (s6 < (y2.1.length : Int))) (ix y2.1 default s6 fun e7 => jn (fun p8 : Bool => cn p8 (some (.rt (0, false))) (some (.nx (wr (s6 + 1))))) fun k9 => cn (e7 != 0) (cn (s6 !=
   a1) (k9 (s6 != a2)) (k9 false)) (k9 false)) (some (.bk s6))) Φ := h
def flow_CheckFlow_F (a0 : TNet) (a1 : Int) (a2 : Int) (a3 : List Int) : Option (Int × Bool) := bd (flow_isPair_F a0 a1 a2) fun y1 =>
   cn (!y1) (some (0, false)) (bd (flow_given_F a0 a3) fun y2 => jn (fun p3 : Bool => cn p3 (some (0, false)) (bd (lp (flow_CheckFlow_b1 a1 a2 y2) FU 0) fun c10 =>
   smK c10 (fun s11 => ix y2.1 default a1 fun e13 => some (e13, true)) (fun r12 => some r12))) fun k4 => cn (!y2.2) (k4 true) (ix y2.1 default a1 fun e5 => k4 (decide (e5 < 0))))
def flow_CheckFlow_S : List AV → AV → Prop := fun args r => ∃ a0 a1 a2 a3, args = [eTNet a0, eI a1, eI a2, (eL 1 eI default) a3] ∧ W (flow_CheckFlow_F a0 a1 a2 a3) fun y => r = (.tup [eI y.1, eB y.2])
theorem flow_CheckFlow_ok {T : Tbl} (hT : TOk Try.prog T) (hpf : PfOk T PF) (h50 : T 50 = pureR flow_isPair_S) (h58 : T 58 = pureR flow_given_S) : FOk Try.prog 26 (pureR flow_CheckFlow_S) := by
 refine FOk_pure hT hpf Try.func26 rfl Try.ntmps26 Try.results26 (by decide) ?_
 rintro args r ⟨a0, a1, a2, a3, rfl, h⟩
 refine ⟨nle rfl, ?_, ?_⟩
 · exact (lsC (lo_TNet _) (lsC (lsI _ _) (lsC (lsI _ _) (lsC (lsL fun _ => (lsI _ _)) loose_nil))))
 rw [flow_CheckFlow_F.eq_1] at h
 refine HT_fr dCo rfl fun K hK => ?_; conv => whnf
 refine hK _ _ _ ?_; clear hK K
 refine HT_seq ?_
 refine HT_fr dCo rfl fun K hK => ?_; conv => whnf
 refine nlA rfl ?_; conv => whnf
 refine bKo rfl ?_; conv => whnf
 refine nlA rfl ?_; conv => whnf
 replace h := W_bd h
 refine flow_isPair_call h50 h (WkL.refl _) (fun _ h => ?_); conv => whnf
 refine hK _ _ _ ?_; clear hK K
 refine HT_if fun K1 K2 hK1 hK2 => ?_; conv => whnf
 refine cond_lk h (fun _ h => ?_) (fun _ h => ?_)
 · refine hK1 ?_; clear hK1 hK2 K1 K2
   refine HT_fr dCo rfl fun K hK => ?_; conv => whnf
   refine hK _ _ _ ?_; clear hK K
   refine HT_ret ?_
   refine Then_r ?_
   replace h := W_some h
   refine PostP_r dCo fun K hK => ?_; conv => whnf
   refine hK _ ?_; clear hK K
   cases h
   exact Wk.refl _
 refine hK2 ?_; clear hK1 hK2 K1 K2
 refine HT_skip ?_
 refine Then_n ?_
 refine HT_fr dCo rfl fun K hK => ?_; conv => whnf
 refine nlA rfl ?_; conv => whnf
 refine bKo rfl ?_; conv => whnf
 refine nlA rfl ?_; conv => whnf
 replace h := W_bd h
 refine flow_given_call h58 h (WkL.refl _) (fun _ h => ?_); conv => whnf
 refine hK _ _ _ ?_; clear hK K
 refine HT_seq ?_
 refine HT_fr dCo rfl fun K hK => ?_; conv => whnf
 replace h := W_jn h
 refine cond_lk h (fun _ h => ?_) (fun _ h => ?_) <;> (conv => whnf)
 · refine hK _ _ _ ?_; clear hK K
   refine HT_if fun K1 K2 hK1 hK2 => ?_; conv => whnf
   refine hK1 ?_; clear hK1 hK2 K1 K2
   replace h := W_cnT h
   refine HT_fr dCo rfl fun K hK => ?_; conv => whnf
   refine hK _ _ _ ?_; clear hK K
   refine HT_ret ?_
   refine Then_r ?_
   replace h := W_some h
   refine PostP_r dCo fun K hK => ?_; conv => whnf
   refine hK _ ?_; clear hK K
   cases h
   exact Wk.refl _
 refine ix_lk h fun _ h => ?_; conv => whnf
 refine getK_of rfl ?_; conv => whnf
 refine hK _ _ _ ?_; clear hK K
 refine HT_if fun K1 K2 hK1 hK2 => ?_; conv => whnf
 refine cond_lk h (fun _ h => ?_) (fun _ h => ?_)
 · refine hK1 ?_; clear hK1 hK2 K1 K2
   refine HT_fr dCo rfl fun K hK => ?_; conv => whnf
   refine hK _ _ _ ?_; clear hK K
   refine HT_ret ?_
   refine Then_r ?_
   replace h := W_some h
   refine PostP_r dCo fun K hK => ?_; conv => whnf
   refine hK _ ?_; clear hK K
   cases h
   exact Wk.refl _
 refine hK2 ?_; clear hK1 hK2 K1 K2
 refine HT_skip ?_
 refine Then_n ?_
 refine HT_seq ?_
 refine HT_fr dCo rfl fun K hK => ?_; conv => whnf
 refine hK _ _ _ ?_; clear hK K
 refine HT_block ?_
 replace h := W_bd h
 refine HT_lpK (body := flow_CheckFlow_b1 _ _ _) rfl h [1, 2, 10, 34, 35] [] [] (fun kl kh ids b s => ⟨ofL ([(36, eI s)] ++ kl), ofH ([] ++ kh), b + 64⟩) ?_; (conv => whnf); refine And.intro ?_ (fun s m h => HT_st ?_)
 · refine weak_k ?_; conv => whnf
   exact And.intro rfl (And.intro (aLc wkI (aLc wkI (aLc wkI (aLc (wkr (lsL fun _ => (lsI _ _))) (aLc (wkr (lsL fun _ => (lsI _ _))) (aLc wkI aLn)))))) aLn)
 replace h := W_bflow_CheckFlow_b1 (W_bd h)
 refine HT_fr dCo rfl fun K hK => ?_; conv => whnf
 refine hK _ _ _ ?_; clear hK K
 refine HT_seq ?_
 refine HT_if fun K1 K2 hK1 hK2 => ?_; conv => whnf
 refine cond_lk h (fun _ h => ?_) (fun _ h => ?_)
 · refine hK1 ?_; clear hK1 hK2 K1 K2
   refine HT_skip ?_
   refine Then_n ?_
   refine HT_seq ?_
   refine HT_block ?_
   refine HT_fr dCo rfl fun K hK => ?_; conv => whnf
   refine ix_lk h fun _ h => ?_; conv => whnf
   refine getK_of rfl ?_; conv => whnf
   refine hK _ _ _ ?_; clear hK K
   refine HT_fr dCo rfl fun K hK => ?_; conv => whnf
   replace h := W_jn h
   refine cond_lk h (fun _ h => ?_) (fun _ h => ?_) <;> (conv => whnf)
   · refine cond_lk h (fun _ h => ?_) (fun _ h => ?_) <;> (conv => whnf)
     · refine hK _ _ _ ?_; clear hK K
       refine HT_if fun K1 K2 hK1 hK2 => ?_; conv => whnf
       refine cond_lk h (fun _ h => ?_) (fun _ h => ?_)
       · refine hK1 ?_; clear hK1 hK2 K1 K2
         refine HT_fr dCo rfl fun K hK => ?_; conv => whnf
         refine hK _ _ _ ?_; clear hK K
         refine HT_ret ?_
         refine InBlock_r ?_
         refine Then_r ?_
         refine Then_r ?_
         refine InBlock_r ?_
         refine Then_r ?_
         replace h := W_xrt h
         replace h := W_inr h
         replace h := W_some h
         refine PostP_r dCo fun K hK => ?_; conv => whnf
         refine hK _ ?_; clear hK K
         cases h
         exact Wk.refl _
       refine hK2 ?_; clear hK1 hK2 K1 K2
       refine HT_skip ?_
       refine InBlock_n ?_
       refine Then_n ?_
       refine HT_f dCo rfl fun K hK => ?_; conv => whnf
       refine hK _ _ _ ?_; clear hK K
       refine Then_n ?_
       replace h := W_xnx h
       refine ⟨_, h, ?_⟩
       refine weak_k ?_; conv => whnf
       exact And.intro rfl (And.intro (aLc wkI (aLc wkI (aLc wkI (aLc (wkr (lsL fun _ => (lsI _ _))) (aLc (wkr (lsL fun _ => (lsI _ _))) (aLc wkI aLn)))))) aLn)
     refine hK _ _ _ ?_; clear hK K
     refine HT_if fun K1 K2 hK1 hK2 => ?_; conv => whnf
     refine hK2 ?_; clear hK1 hK2 K1 K2
     replace h := W_cnF h
     refine HT_skip ?_
     refine InBlock_n ?_
     refine Then_n ?_
     refine HT_f dCo rfl fun K hK => ?_; conv => whnf
     refine hK _ _ _ ?_; clear hK K
     refine Then_n ?_
     replace h := W_xnx h
     refine ⟨_, h, ?_⟩
     refine weak_k ?_; conv => whnf
     exact And.intro rfl (And.intro (aLc wkI (aLc wkI (aLc wkI (aLc (wkr (lsL fun _ => (lsI _ _))) (aLc (wkr (lsL fun _ => (lsI _ _))) (aLc wkI aLn)))))) aLn)
   refine hK _ _ _ ?_; clear hK K
   refine HT_if fun K1 K2 hK1 hK2 => ?_; conv => whnf
   refine hK2 ?_; clear hK1 hK2 K1 K2
   replace h := W_cnF h
   refine HT_skip ?_
   refine InBlock_n ?_
   refine Then_n ?_
   refine HT_f dCo rfl fun K hK => ?_; conv => whnf
   refine hK _ _ _ ?_; clear hK K
   refine Then_n ?_
   replace h := W_xnx h
   refine ⟨_, h, ?_⟩
   refine weak_k ?_; conv => whnf
   exact And.intro rfl (And.intro (aLc wkI (aLc wkI (aLc wkI (aLc (wkr (lsL fun _ => (lsI _ _))) (aLc (wkr (lsL fun _ => (lsI _ _))) (aLc wkI aLn)))))) aLn)
 refine hK2 ?_; clear hK1 hK2 K1 K2
 refine HT_exit ?_
 refine Then_e ?_
 refine Then_e ?_
 refine InBlock_e ?_
 replace h := W_xbk h
 replace h := W_inl h
 refine Then_n ?_
 refine HT_fr dCo rfl fun K hK => ?_; conv => whnf
 refine ix_lk h fun _ h => ?_; conv => whnf
 refine getK_of rfl ?_; conv => whnf
 refine hK _ _ _ ?_; clear hK K
 refine HT_ret ?_
 replace h := W_some h
 refine PostP_r dCo fun K hK => ?_; conv => whnf
 refine hK _ ?_; clear hK K
 cases h
 exact Wk.refl _
theorem flow_CheckFlow_call {T : Tbl} (hT : T 26 = pureR flow_CheckFlow_S) {args : List AV} {hp : Heap} {id : Nat} {k : AV → Prop} {a0 : TNet} {a1 : Int} {a2 : Int} {a3 : List Int} {Φ : Int × Bool → Prop} (h : W (flow_CheckFlow_F a0 a1 a2 a3) Φ) (hw : WkL args [eTNet a0, eI a1, eI a2, (eL 1 eI default) a3]) (hk : ∀ y, Φ y → k (.tup [eI y.1, eB y.2])) : callpK T 26 args hp id k := by
 obtain ⟨y, e, hy⟩ := W_inv h
 exact callpK_pure hT ⟨a0, a1, a2, a3, rfl, W_of e rfl⟩ (by exact loose_tup (lsC (lsI _ _) (lsC (lsB _) loose_nil))) hw (hk y hy)
def flow_leaving_S : List AV → AV → Prop := fun args r => ∃ a0 a1, args = [eTNet a0, eI a1] ∧ r = .fn 77 [] [.ep [eI a0.N, (eL 3 eTEdge default) a0.Edges] 0, .ep [eI a1] 0]
theorem flow_leaving_ok {T : Tbl} (hT : TOk Try.prog T) (hpf : PfOk T PF) : FOk Try.prog 62 (pureR flow_leaving_S) := by
 refine FOk_pure hT hpf Try.func62 rfl Try.ntmps62 Try.results62 (by decide) ?_
 rintro args r ⟨a0, a1, rfl, rfl⟩
 refine ⟨nle rfl, ?_, ?_⟩
 · exact (lsC (lo_TNet _) (lsC (lsI _ _) loose_nil))
 refine HT_fr dCo rfl fun K hK => ?_; conv => whnf
 refine hK _ _ _ ?_; clear hK K
 refine HT_frzK 2 ?_; (conv => whnf); refine ⟨_, rfl, ?_⟩
 refine HT_frzK 3 ?_; (conv => whnf); refine ⟨_, rfl, ?_⟩
 refine HT_fr dCo rfl fun K hK => ?_; conv => whnf
 refine hK _ _ _ ?_; clear hK K
 refine HT_ret ?_
 refine PostP_r dCo fun K hK => ?_; conv => whnf
 refine hK _ ?_; clear hK K
 exact Wk.refl _
def flow_Worst_1_F (a0 : Int) (a1 : Int) (c900 : TNet) : Option Int := ix c900.Edges default a1 fun e1 => ix c900.Edges default a0 fun e2 =>
   let v3 := (wr (e1.Capacity - e2.Capacity)); some v3
def flow_Worst_1_S : List AV → AV → Prop := fun args r => ∃ a0 a1 c900, args = [eI a0, eI a1, .ep [eI c900.N, (eL 3 eTEdge default) c900.Edges] 0] ∧ W (flow_Worst_1_F a0 a1 c900) fun y => r = (eI y)
theorem flow_Worst_1_ok {T : Tbl} (hT : TOk Try.prog T) (hpf : PfOk T PF) : FOk Try.prog 64 (pureR flow_Worst_1_S) := by
 refine FOk_pure hT hpf Try.func64 rfl Try.ntmps64 Try.results64 (by decide) ?_
 rintro args r ⟨a0, a1, c900, rfl, h⟩
 refine ⟨nle rfl, ?_, ?_⟩
 · exact (lsC (lsI _ _) (lsC (lsI _ _) (lsC (loose_ep (lsC (lsI _ _) (lsC (lsL fun _ => (lo_TEdge _)) loose_nil))) loose_nil)))
 rw [flow_Worst_1_F.eq_1] at h
 refine HT_fr dCo rfl fun K hK => ?_; conv => whnf
 refine hK _ _ _ ?_; clear hK K
 refine HT_fd dCo mix_ok rfl (by kernel_rfl) fun K hK => ?_; conv => whnf
 refine getK_of rfl ?_; conv => whnf
 refine ix_lk h fun _ h => ?_; conv => whnf
 refine getK_of rfl ?_; conv => whnf
 refine getK_of rfl ?_; conv => whnf
 refine ix_lk h fun _ h => ?_; conv => whnf
 refine getK_of rfl ?_; conv => whnf
 refine hK _ _ _ ?_; clear hK K
 refine HT_ret ?_
 replace h := W_some h
 refine PostP_r dCo fun K hK => ?_; conv => whnf
 refine hK _ ?_; clear hK K
 cases h
 exact Wk.refl _
def math_bits_OnesCount64_F (a0 : Int) : Option Int := let v1 := (IntKind.u64.wrap ((band .u64 (bshr .u64 a0 1) 6148914691236517205) + (band .u64 a0 6148914691236517205)));
   let v2 := (IntKind.u64.wrap ((band .u64 (bshr .u64 v1 2) 3689348814741910323) + (band .u64 v1 3689348814741910323)));
   let v3 := (band .u64 (IntKind.u64.wrap ((bshr .u64 v2 4) + v2)) 1085102592571150095); let v4 := (IntKind.u64.wrap (v3 + (bshr .u64 v3 8)));
   let v5 := (IntKind.u64.wrap (v4 + (bshr .u64 v4 16))); let v6 := (IntKind.u64.wrap (v5 + (bshr .u64 v5 32))); let v7 := (band .i64 (wr (v6)) 127); some v7
def math_bits_OnesCount64_S : List AV → AV → Prop := fun args r => ∃ a0, args = [(AV.int .u64) a0] ∧ W (math_bits_OnesCount64_F a0) fun y => r = (eI y)
theorem math_bits_OnesCount64_ok {T : Tbl} (hT : TOk Try.prog T) (hpf : PfOk T PF) : FOk Try.prog 81 (pureR math_bits_OnesCount64_S) := by
 refine FOk_pure hT hpf Try.func81 rfl Try.ntmps81 Try.results81 (by decide) ?_
 rintro args r ⟨a0, rfl, h⟩
 refine ⟨nle rfl, ?_, ?_⟩
 · exact (lsC (lsI _ _) loose_nil)
 rw [math_bits_OnesCount64_F.eq_1] at h
 refine HT_fr dCo rfl fun K hK => ?_; conv => whnf
 refine hK _ _ _ ?_; clear hK K
 refine HT_fr dCo rfl fun K hK => ?_; conv => whnf
 refine And.intro (by decide) ?_; conv => whnf
 refine hK _ _ _ ?_; clear hK K
 refine HT_fr dCo rfl fun K hK => ?_; conv => whnf
 refine And.intro (by decide) ?_; conv => whnf
 refine hK _ _ _ ?_; clear hK K
 refine HT_fr dCo rfl fun K hK => ?_; conv => whnf
 refine And.intro (by decide) ?_; conv => whnf
 refine hK _ _ _ ?_; clear hK K
 refine HT_fr dCo rfl fun K hK => ?_; conv => whnf
 refine And.intro (by decide) ?_; conv => whnf
 refine hK _ _ _ ?_; clear hK K
 refine HT_fr dCo rfl fun K hK => ?_; conv => whnf
 refine And.intro (by decide) ?_; conv => whnf
 refine hK _ _ _ ?_; clear hK K
 refine HT_fr dCo rfl fun K hK => ?_; conv => whnf
 refine And.intro (by decide) ?_; conv => whnf
 refine hK _ _ _ ?_; clear hK K
 refine HT_fr dCo rfl fun K hK => ?_; conv => whnf
 refine hK _ _ _ ?_; clear hK K
 refine HT_ret ?_
 replace h := W_some h
 refine PostP_r dCo fun K hK => ?_; conv => whnf
 refine hK _ ?_; clear hK K
 cases h
 exact Wk.refl _
theorem math_bits_OnesCount64_call {T : Tbl} (hT : T 81 = pureR math_bits_OnesCount64_S) {args : List AV} {hp : Heap} {id : Nat} {k : AV → Prop} {a0 : Int} {Φ : Int → Prop} (h : W (math_bits_OnesCount64_F a0) Φ) (hw : WkL args [(AV.int .u64) a0]) (hk : ∀ y, Φ y → k (eI y)) : callpK T 81 args hp id k := by
 obtain ⟨y, e, hy⟩ := W_inv h
 exact callpK_pure hT ⟨a0, rfl, W_of e rfl⟩ (by exact (lsI _ _)) hw (hk y hy)
def math_bits_OnesCount_F (a0 : Int) : Option Int := bd (math_bits_OnesCount64_F a0) fun y1 => some y1
def math_bits_OnesCount_S : List AV → AV → Prop := fun args r => ∃ a0, args = [(AV.int .u64) a0] ∧ W (math_bits_OnesCount_F a0) fun y => r = (eI y)
theorem math_bits_OnesCount_ok {T : Tbl} (hT : TOk Try.prog T) (hpf : PfOk T PF) (h81 : T 81 = pureR math_bits_OnesCount64_S) : FOk Try.prog 66 (pureR math_bits_OnesCount_S) := by
 refine FOk_pure hT hpf Try.func66 rfl Try.ntmps66 Try.results66 (by decide) ?_
 rintro args r ⟨a0, rfl, h⟩
 refine ⟨nle rfl, ?_, ?_⟩
 · exact (lsC (lsI _ _) loose_nil)
 rw [math_bits_OnesCount_F.eq_1] at h
 refine HT_fr dCo rfl fun K hK => ?_; conv => whnf
 refine hK _ _ _ ?_; clear hK K
 refine HT_seq ?_
 refine HT_if fun K1 K2 hK1 hK2 => ?_; conv => whnf
 refine hK2 ?_; clear hK1 hK2 K1 K2
 refine HT_skip ?_
 refine Then_n ?_
 refine HT_fr dCo rfl fun K hK => ?_; conv => whnf
 replace h := W_bd h
 refine math_bits_OnesCount64_call h81 h (WkL.refl _) (fun _ h => ?_); conv => whnf
 refine hK _ _ _ ?_; clear hK K
 refine HT_ret ?_
 replace h := W_some h
 refine PostP_r dCo fun K hK => ?_; conv => whnf
 refine hK _ ?_; clear hK K
 cases h
 exact Wk.refl _
theorem math_bits_OnesCount_call {T : Tbl} (hT : T 66 = pureR math_bits_OnesCount_S) {args : List AV} {hp : Heap} {id : Nat} {k : AV → Prop} {a0 : Int} {Φ : Int → Prop} (h : W (math_bits_OnesCount_F a0) Φ) (hw : WkL args [(AV.int .u64) a0]) (hk : ∀ y, Φ y → k (eI y)) : callpK T 66 args hp id k := by
 obtain ⟨y, e, hy⟩ := W_inv h
 exact callpK_pure hT ⟨a0, rfl, W_of e rfl⟩ (by exact (lsI _ _)) hw (hk y hy)
def flow_isSupply_b1 (a1 : List Int) (s4 : Int × Int) : Option (Ct (Int × Int) Bool) := cn (decide (s4.2 < (a1.length : Int))) (ix a1 default s4.2 fun e5 =>
   bd (flow_isIn_F e5 (-100000) 100000) fun y6 => cn (!y6) (some (.rt false)) (some (.nx ((wr (s4.1 + e5)), (wr (s4.2 + 1)))))) (some (.bk (s4.1, s4.2)))
theorem W_bflow_isSupply_b1 {a1 : List Int} {s4 : Int × Int} {Φ : Ct (Int × Int) Bool → Prop} (h : W (flow_isSupply_b1 a1 s4) Φ) : W (cn (decide (s4.2 < (a1.length : Int))) (ix a1 default s4.2 fun e5 => bd (flow_isIn_F e5 (-100000) 100000) fun y6 =>
   cn (!y6) (some (.rt false)) (some (.nx ((wr (s4.1 + e5)), (wr (s4.2 + 1)))))) (some (.bk (s4.1, s4.2)))) Φ := h
def flow_isSupply_F (a0 : TNet) (a1 : List Int) : Option Bool := jn (fun p1 : Bool => cn p1 (some false) (bd (lp (flow_isSupply_b1 a1) FU (0, 0)) fun c7 => smK c7 (fun s8 =>
   some (s8.1 == 0)) (fun r9 => some r9))) fun k2 => bd (flow_Valid_F a0) fun y3 => cn (!y3) (k2 true) (k2 ((a1.length : Int) != a0.N))
def flow_isSupply_S : List AV → AV → Prop := fun args r => ∃ a0 a1, args = [eTNet a0, (eL 1 eI default) a1] ∧ W (flow_isSupply_F a0 a1) fun y => r = (eB y)
theorem flow_isSupply_ok {T : Tbl} (hT : TOk Try.prog T) (hpf : PfOk T PF) (h19 : T 19 = pureR flow_Valid_S) (h46 : T 46 = pureR flow_isIn_S) : FOk Try.prog 68 (pureR flow_isSupply_S) := by
 refine FOk_pure hT hpf Try.func68 rfl Try.ntmps68 Try.results68 (by decide) ?_
 rintro args r ⟨a0, a1, rfl, h⟩
 refine ⟨nle rfl, ?_, ?_⟩
 · exact (lsC (lo_TNet _) (lsC (lsL fun _ => (lsI _ _)) loose_nil))
 rw [flow_isSupply_F.eq_1] at h
 refine HT_fr dCo rfl fun K hK => ?_; conv => whnf
 refine hK _ _ _ ?_; clear hK K
 refine HT_seq ?_
 refine HT_fr dCo rfl fun K hK => ?_; conv => whnf
 replace h := W_jn h
 refine nlA rfl ?_; conv => whnf
 refine bKo rfl ?_; conv => whnf
 refine nlA rfl ?_; conv => whnf
 replace h := W_bd h
 refine flow_Valid_call h19 h (WkL.refl _) (fun _ h => ?_); conv => whnf
 refine cond_lk h (fun _ h => ?_) (fun _ h => ?_) <;> (conv => whnf)
 · refine hK _ _ _ ?_; clear hK K
   refine HT_if fun K1 K2 hK1 hK2 => ?_; conv => whnf
   refine hK1 ?_; clear hK1 hK2 K1 K2
   replace h := W_cnT h
   refine HT_fr dCo rfl fun K hK => ?_; conv => whnf
   refine hK _ _ _ ?_; clear hK K
   refine HT_ret ?_
   refine Then_r ?_
   replace h := W_some h
   refine PostP_r dCo fun K hK => ?_; conv => whnf
   refine hK _ ?_; clear hK K
   cases h
   exact Wk.refl _
 refine nlA rfl ?_; conv => whnf
 refine bKo rfl ?_; conv => whnf
 refine getK_of rfl ?_; conv => whnf
 refine hK _ _ _ ?_; clear hK K
 refine HT_if fun K1 K2 hK1 hK2 => ?_; conv => whnf
 refine cond_lk h (fun _ h => ?_) (fun _ h => ?_)
 · refine hK1 ?_; clear hK1 hK2 K1 K2
   refine HT_fr dCo rfl fun K hK => ?_; conv => whnf
   refine hK _ _ _ ?_; clear hK K
   refine HT_ret ?_
   refine Then_r ?_
   replace h := W_some h
   refine PostP_r dCo fun K hK => ?_; conv => whnf
   refine hK _ ?_; clear hK K
   cases h
   exact Wk.refl _
 refine hK2 ?_; clear hK1 hK2 K1 K2
 refine HT_skip ?_
 refine Then_n ?_
 refine HT_fr dCo rfl fun K hK => ?_; conv => whnf
 refine hK _ _ _ ?_; clear hK K
 refine HT_seq ?_
 refine HT_fr dCo rfl fun K hK => ?_; conv => whnf
 refine hK _ _ _ ?_; clear hK K
 refine HT_block ?_
 replace h := W_bd h
 refine HT_lpK (body := flow_isSupply_b1 _) rfl h [18, 19] [] [] (fun kl kh ids b s => ⟨ofL ([(5, eI s.1), (20, eI s.2)] ++ kl), ofH ([] ++ kh), b + 64⟩) ?_; (conv => whnf); refine And.intro ?_ (fun s m h => HT_st ?_)
 · refine weak_k ?_; conv => whnf
   exact And.intro rfl (And.intro (aLc wkI (aLc wkI (aLc (wkr (lsL fun _ => (lsI _ _))) (aLc wkI aLn)))) aLn)
 replace h := W_bflow_isSupply_b1 (W_bd h)
 refine HT_fr dCo rfl fun K hK => ?_; conv => whnf
 refine hK _ _ _ ?_; clear hK K
 refine HT_seq ?_
 refine HT_if fun K1 K2 hK1 hK2 => ?_; conv => whnf
 refine cond_lk h (fun _ h => ?_) (fun _ h => ?_)
 · refine hK1 ?_; clear hK1 hK2 K1 K2
   refine HT_skip ?_
   refine Then_n ?_
   refine HT_seq ?_
   refine HT_block ?_
   refine HT_fr dCo rfl fun K hK => ?_; conv => whnf
   refine ix_lk h fun _ h => ?_; conv => whnf
   refine getK_of rfl ?_; conv => whnf
   refine hK _ _ _ ?_; clear hK K
   refine HT_seq ?_
   refine HT_fr dCo rfl fun K hK => ?_; conv => whnf
   replace h := W_bd h
   refine flow_isIn_call h46 h (WkL.refl _) (fun _ h => ?_); conv => whnf
   refine hK _ _ _ ?_; clear hK K
   refine HT_if fun K1 K2 hK1 hK2 => ?_; conv => whnf
   refine cond_lk h (fun _ h => ?_) (fun _ h => ?_)
   · refine hK1 ?_; clear hK1 hK2 K1 K2
     refine HT_fr dCo rfl fun K hK => ?_; conv => whnf
     refine hK _ _ _ ?_; clear hK K
     refine HT_ret ?_
     refine Then_r ?_
     refine InBlock_r ?_
     refine Then_r ?_
     refine Then_r ?_
     refine InBlock_r ?_
     refine Then_r ?_
     replace h := W_xrt h
     replace h := W_inr h
     replace h := W_some h
     refine PostP_r dCo fun K hK => ?_; conv => whnf
     refine hK _ ?_; clear hK K
     cases h
     exact Wk.refl _
   refine hK2 ?_; clear hK1 hK2 K1 K2
   refine HT_skip ?_
   refine Then_n ?_
   refine HT_f dCo rfl fun K hK => ?_; conv => whnf
   refine hK _ _ _ ?_; clear hK K
   refine InBlock_n ?_
   refine Then_n ?_
   refine HT_f dCo rfl fun K hK => ?_; conv => whnf
   refine hK _ _ _ ?_; clear hK K
   refine Then_n ?_
   replace h := W_xnx h
   refine ⟨_, h, ?_⟩
   refine weak_k ?_; conv => whnf
   exact And.intro rfl (And.intro (aLc wkI (aLc wkI (aLc (wkr (lsL fun _ => (lsI _ _))) (aLc wkI aLn)))) aLn)
 refine hK2 ?_; clear hK1 hK2 K1 K2
 refine HT_exit ?_
 refine Then_e ?_
 refine Then_e ?_
 refine InBlock_e ?_
 replace h := W_xbk h
 replace h := W_inl h
 refine Then_n ?_
 refine HT_fr dCo rfl fun K hK => ?_; conv => whnf
 refine hK _ _ _ ?_; clear hK K
 refine HT_ret ?_
 replace h := W_some h
 refine PostP_r dCo fun K hK => ?_; conv => whnf
 refine hK _ ?_; clear hK K
 cases h
 exact Wk.refl _
theorem flow_isSupply_call {T : Tbl} (hT : T 68 = pureR flow_isSupply_S) {args : List AV} {hp : Heap} {id : Nat} {k : AV → Prop} {a0 : TNet} {a1 : List Int} {Φ : Bool → Prop} (h : W (flow_isSupply_F a0 a1) Φ) (hw : WkL args [eTNet a0, (eL 1 eI default) a1]) (hk : ∀ y, Φ y → k (eB y)) : callpK T 68 args hp id k := by
 obtain ⟨y, e, hy⟩ := W_inv h
 exact callpK_pure hT ⟨a0, a1, rfl, W_of e rfl⟩ (by exact (lsB _)) hw (hk y hy)
def slices_Equal_int_b1 (a0 : List Int) (a1 : List Int) (s1 : Int) : Option (Ct Int Bool) := cn (decide (s1 < (a0.length : Int))) (ix a0 default s1 fun e2 =>
   ix a1 default s1 fun e3 => cn (e2 != e3) (some (.rt false)) (some (.nx (wr (s1 + 1))))) (some (.bk s1))
theorem W_bslices_Equal_int_b1 {a0 : List Int} {a1 : List Int} {s1 : Int} {Φ : Ct Int Bool → Prop} (h : W (slices_Equal_int_b1 a0 a1 s1) Φ) : W (cn (decide (s1 < (a0.length : Int))) (ix a0 default s1 fun e2 => ix a1 default s1 fun e3 => cn (e2 != e3) (some (.rt false)) (some (.nx (wr (s1 + 1))))) (some (.bk s1))) Φ := h
def slices_Equal_int_F (a0 : List Int) (a1 : List Int) : Option Bool := cn ((a0.length : Int) != (a1.length : Int)) (some false) (bd (lp (slices_Equal_int_b1 a0 a1) FU 0) fun c4 =>
   smK c4 (fun s5 => some true) (fun r6 => some r6))
def slices_Equal_int_S : List AV → AV → Prop := fun args r => ∃ a0 a1, args = [(eL 1 eI default) a0, (eL 1 eI default) a1] ∧ W (slices_Equal_int_F a0 a1) fun y => r = (eB y)
theorem slices_Equal_int_ok {T : Tbl} (hT : TOk Try.prog T) (hpf : PfOk T PF) : FOk Try.prog 70 (pureR slices_Equal_int_S) := by
 refine FOk_pure hT hpf Try.func70 rfl Try.ntmps70 Try.results70 (by decide) ?_
 rintro args r ⟨a0, a1, rfl, h⟩
 refine ⟨nle rfl, ?_, ?_⟩
 · exact (lsC (lsL fun _ => (lsI _ _)) (lsC (lsL fun _ => (lsI _ _)) loose_nil))
 rw [slices_Equal_int_F.eq_1] at h
 refine HT_fr dCo rfl fun K hK => ?_; conv => whnf
 refine hK _ _ _ ?_; clear hK K
 refine HT_seq ?_
 refine HT_fr dCo rfl fun K hK => ?_; conv => whnf
 refine hK _ _ _ ?_; clear hK K
 refine HT_if fun K1 K2 hK1 hK2 => ?_; conv => whnf
 refine cond_lk h (fun _ h => ?_) (fun _ h => ?_)
 · refine hK1 ?_; clear hK1 hK2 K1 K2
   refine HT_fr dCo rfl fun K hK => ?_; conv => whnf
   refine hK _ _ _ ?_; clear hK K
   refine HT_ret ?_
   refine Then_r ?_
   replace h := W_some h
   refine PostP_r dCo fun K hK => ?_; conv => whnf
   refine hK _ ?_; clear hK K
   cases h
   exact Wk.refl _
 refine hK2 ?_; clear hK1 hK2 K1 K2
 refine HT_skip ?_
 refine Then_n ?_
 refine HT_seq ?_
 refine HT_fr dCo rfl fun K hK => ?_; conv => whnf
 refine hK _ _ _ ?_; clear hK K
 refine HT_block ?_
 replace h := W_bd h
 refine HT_lpK (body := slices_Equal_int_b1 _ _) rfl h [0, 1, 12] [] [] (fun kl kh ids b s => ⟨ofL ([(13, eI s)] ++ kl), ofH ([] ++ kh), b + 64⟩) ?_; (conv => whnf); refine And.intro ?_ (fun s m h => HT_st ?_)
 · refine weak_k ?_; conv => whnf
   exact And.intro rfl (And.intro (aLc wkI (aLc (wkr (lsL fun _ => (lsI _ _))) (aLc (wkr (lsL fun _ => (lsI _ _))) (aLc wkI aLn)))) aLn)
 replace h := W_bslices_Equal_int_b1 (W_bd h)
 refine HT_fr dCo rfl fun K hK => ?_; conv => whnf
 refine hK _ _ _ ?_; clear hK K
 refine HT_seq ?_
 refine HT_if fun K1 K2 hK1 hK2 => ?_; conv => whnf
 refine cond_lk h (fun _ h => ?_) (fun _ h => ?_)
 · refine hK1 ?_; clear hK1 hK2 K1 K2
   refine HT_skip ?_
   refine Then_n ?_
   refine HT_seq ?_
   refine HT_block ?_
   refine HT_fr dCo rfl fun K hK => ?_; conv => whnf
   refine hK _ _ _ ?_; clear hK K
   refine HT_fd dCo mix_ok rfl (by kernel_rfl) fun K hK => ?_; conv => whnf
   refine ix_lk h fun _ h => ?_; conv => whnf
   refine getK_of rfl ?_; conv => whnf
   refine ix_lk h fun _ h => ?_; conv => whnf
   refine getK_of rfl ?_; conv => whnf
   refine hK _ _ _ ?_; clear hK K
   refine HT_if fun K1 K2 hK1 hK2 => ?_; conv => whnf
   refine cond_lk h (fun _ h => ?_) (fun _ h => ?_)
   · refine hK1 ?_; clear hK1 hK2 K1 K2
     refine HT_fr dCo rfl fun K hK => ?_; conv => whnf
     refine hK _ _ _ ?_; clear hK K
     refine HT_ret ?_
     refine InBlock_r ?_
     refine Then_r ?_
     refine Then_r ?_
     refine InBlock_r ?_
     refine Then_r ?_
     replace h := W_xrt h
     replace h := W_inr h
     replace h := W_some h
     refine PostP_r dCo fun K hK => ?_; conv => whnf
     refine hK _ ?_; clear hK K
     cases h
     exact Wk.refl _
   refine hK2 ?_; clear hK1 hK2 K1 K2
   refine HT_skip ?_
   refine InBlock_n ?_
   refine Then_n ?_
   refine HT_f dCo rfl fun K hK => ?_; conv => whnf
   refine hK _ _ _ ?_; clear hK K
   refine Then_n ?_
   replace h := W_xnx h
   refine ⟨_, h, ?_⟩
   refine weak_k ?_; conv => whnf
   exact And.intro rfl (And.intro (aLc wkI (aLc (wkr (lsL fun _ => (lsI _ _))) (aLc (wkr (lsL fun _ => (lsI _ _))) (aLc wkI aLn)))) aLn)
 refine hK2 ?_; clear hK1 hK2 K1 K2
 refine HT_exit ?_
 refine Then_e ?_
 refine Then_e ?_
 refine InBlock_e ?_
 replace h := W_xbk h
 replace h := W_inl h
 refine Then_n ?_
 refine HT_fr dCo rfl fun K hK => ?_; conv => whnf
 refine hK _ _ _ ?_; clear hK K
 refine HT_ret ?_
 replace h := W_some h
 refine PostP_r dCo fun K hK => ?_; conv => whnf
 refine hK _ ?_; clear hK K
 cases h
 exact Wk.refl _
theorem slices_Equal_int_call {T : Tbl} (hT : T 70 = pureR slices_Equal_int_S) {args : List AV} {hp : Heap} {id : Nat} {k : AV → Prop} {a0 : List Int} {a1 : List Int} {Φ : Bool → Prop} (h : W (slices_Equal_int_F a0 a1) Φ) (hw : WkL args [(eL 1 eI default) a0, (eL 1 eI default) a1]) (hk : ∀ y, Φ y → k (eB y)) : callpK T 70 args hp id k := by
 obtain ⟨y, e, hy⟩ := W_inv h
 exact callpK_pure hT ⟨a0, a1, rfl, W_of e rfl⟩ (by exact (lsB _)) hw (hk y hy)
end Go.Proofs.Ytgkmodjcoedonaa
namespace Go.Proofs.Ytgkmodjcoedonaa
open Go Go.Eng
set_option maxHeartbeats 0
set_option maxRecDepth 100000

   def flow_leaving_1_b1 (a9000 : Type) (c900 : TNet) (c901 : Int) (f9001 : Int → a9000 → Option a9000) (s1 : Int × a9000) : Option (Ct (Int × a9000) a9000) := cn (decide (s1.1 < (c900.Edges.length : Int))) (ix c900.Edges default s1.1 fun e2 =>
   jn (fun p3 : a9000 => some (.nx ((wr (s1.1 + 1)), p3))) fun k4 => gd (0 ≤ e2.From) (cn ((band .i64 (bshr .i64 c901 e2.From) 1) ==
   1) (gd (0 ≤ e2.To) (cn ((band .i64 (bshr .i64 c901 e2.To) 1) == 0) (bd (f9001 s1.1 s1.2) fun g5 => k4 g5) (k4 s1.2))) (k4 s1.2))) (some (.bk (s1.1, s1.2)))
theorem W_bflow_leaving_1_b1 {a9000 : Type} {c900 : TNet} {c901 : Int} {f9001 : Int → a9000 → Option a9000} {s1 : Int × a9000} {Φ : Ct (Int × a9000) a9000 → Prop} (h : W (flow_leaving_1_b1 a9000 c900 c901 f9001 s1) Φ) : W (cn (decide (s1.1 < (c900.Edges.length : Int))) (ix c900.Edges default s1.1 fun e2 => jn (fun p3 : a9000 => some (.nx ((wr (s1.1 + 1)), p3))) fun k4 =>
   gd (0 ≤ e2.From) (cn ((band .i64 (bshr .i64 c901 e2.From) 1) == 1) (gd (0 ≤ e2.To) (cn ((band .i64 (bshr .i64 c901 e2.To) 1) == 0) (bd (f9001 s1.1 s1.2) fun g5 =>
   k4 g5) (k4 s1.2))) (k4 s1.2))) (some (.bk (s1.1, s1.2)))) Φ := h

   def flow_leaving_1_F (c900 : TNet) (c901 : Int) (a9000 : Type) (f9001 : Int → a9000 → Option a9000) (g9002 : a9000) : Option a9000 := bd (lp (flow_leaving_1_b1 a9000 c900 c901 f9001) FU (0, g9002)) fun c6 =>
   smK c6 (fun s7 => some s7.2) (fun r8 => some r8)
def flow_leaving_1_C : List AV → (∀ σ : Type, (Int → σ → Option σ) → σ → Option σ) → Prop := fun caps F => ∃ c900 c901, caps = [.ep [eI c900.N, (eL 3 eTEdge default) c900.Edges] 0, .ep [eI c901] 0] ∧ F = flow_leaving_1_F c900 c901
theorem flow_leaving_1_ok {T : Tbl} (hT : TOk Try.prog T) (hpf : PfOk T PF) : FOk Try.prog 77 (itR Try.prog (fun x => [Value.int .i64 x]) flow_leaving_1_C) := by
 refine FOk_it hT hpf Try.func77 rfl Try.ntmps77 Try.results77 (by decide) ?_
 rintro caps F ⟨c900, c901, rfl, rfl⟩
 refine ⟨(lsC (loose_ep (lsC (lsI _ _) (lsC (lsL fun _ => (lo_TEdge _)) loose_nil))) (lsC (loose_ep (lsC (lsI _ _) loose_nil)) loose_nil)), nle rfl, fun gS gG a9000 gi f9001 g9002 gfin hP hY h => ?_⟩
 rw [flow_leaving_1_F.eq_1] at h
 refine HT_fr dCo rfl fun K hK => ?_; conv => whnf
 refine getK_of rfl ?_; conv => whnf
 refine hK _ _ _ ?_; clear hK K
 refine HT_block ?_
 replace h := W_bd h
 refine HT_lpK (body := flow_leaving_1_b1 _ _ _ _) rfl h [0, 2, 7, 8] [] [] (fun kl kh ids b s => ⟨ofL ([(9, eI s.1)] ++ kl), ofH ([(0, .gh gS gG (gi s.2))] ++ kh), b + 64⟩) ?_; (conv => whnf); refine And.intro ?_ (fun s m h => HT_st ?_)
 · refine weak_k ?_; conv => whnf
   exact And.intro rfl (And.intro (aLc wkI (aLc (WkR_yld (fun _ => rfl)) (aLc (wkr (loose_ep (lsC (lsI _ _) loose_nil))) (aLc (wkr (lsL fun _ => (lo_TEdge _))) (aLc wkI aLn))))) (aLc ⟨some _, rfl, BkR_g rfl⟩ aLn))
 replace h := W_bflow_leaving_1_b1 (W_bd h)
 refine HT_fr dCo rfl fun K hK => ?_; conv => whnf
 refine hK _ _ _ ?_; clear hK K
 refine HT_seq ?_
 refine HT_if fun K1 K2 hK1 hK2 => ?_; conv => whnf
 refine cond_lk h (fun _ h => ?_) (fun _ h => ?_)
 · refine hK1 ?_; clear hK1 hK2 K1 K2
   refine HT_skip ?_
   refine Then_n ?_
   refine HT_seq ?_
   refine HT_block ?_
   refine HT_fr dCo rfl fun K hK => ?_; conv => whnf
   refine ix_lk h fun _ h => ?_; conv => whnf
   refine nlA rfl ?_; conv => whnf
   refine bKo rfl ?_; conv => whnf
   refine And.intro rfl (And.intro (nle rfl) (And.intro rfl ?_)); conv => whnf
   refine hK _ _ _ ?_; clear hK K
   refine HT_fr dCo rfl fun K hK => ?_; conv => whnf
   replace h := W_jn h
   refine getK_of rfl ?_; conv => whnf
   refine nlA rfl ?_; conv => whnf
   refine bKo rfl ?_; conv => whnf
   refine getK_of rfl ?_; conv => whnf
   refine gd_lk h fun _ h => ?_; conv => whnf
   refine cond_lk h (fun _ h => ?_) (fun _ h => ?_) <;> (conv => whnf)
   · refine getK_of rfl ?_; conv => whnf
     refine nlA rfl ?_; conv => whnf
     refine bKo rfl ?_; conv => whnf
     refine getK_of rfl ?_; conv => whnf
     refine gd_lk h fun _ h => ?_; conv => whnf
     refine cond_lk h (fun _ h => ?_) (fun _ h => ?_) <;> (conv => whnf)
     · refine yld_lk hY hP h rfl (vinv_int _) (fun _ h => ?_); conv => whnf
       refine hK _ _ _ ?_; clear hK K
       refine HT_if fun K1 K2 hK1 hK2 => ?_; conv => whnf
       refine hK2 ?_; clear hK1 hK2 K1 K2
       refine HT_skip ?_
       refine InBlock_n ?_
       refine Then_n ?_
       refine HT_f dCo rfl fun K hK => ?_; conv => whnf
       refine hK _ _ _ ?_; clear hK K
       refine Then_n ?_
       replace h := W_xnx h
       refine ⟨_, h, ?_⟩
       refine weak_k ?_; conv => whnf
       exact And.intro rfl (And.intro (aLc wkI (aLc (WkR_yld (fun _ => rfl)) (aLc (wkr (loose_ep (lsC (lsI _ _) loose_nil))) (aLc (wkr (lsL fun _ => (lo_TEdge _))) (aLc wkI aLn))))) (aLc ⟨some _, rfl, BkR_g rfl⟩ aLn))
     refine hK _ _ _ ?_; clear hK K
     refine HT_if fun K1 K2 hK1 hK2 => ?_; conv => whnf
     refine hK2 ?_; clear hK1 hK2 K1 K2
     refine HT_skip ?_
     refine InBlock_n ?_
     refine Then_n ?_
     refine HT_f dCo rfl fun K hK => ?_; conv => whnf
     refine hK _ _ _ ?_; clear hK K
     refine Then_n ?_
     replace h := W_xnx h
     refine ⟨_, h, ?_⟩
     refine weak_k ?_; conv => whnf
     exact And.intro rfl (And.intro (aLc wkI (aLc (WkR_yld (fun _ => rfl)) (aLc (wkr (loose_ep (lsC (lsI _ _) loose_nil))) (aLc (wkr (lsL fun _ => (lo_TEdge _))) (aLc wkI aLn))))) (aLc ⟨some _, rfl, BkR_g rfl⟩ aLn))
   refine hK _ _ _ ?_; clear hK K
   refine HT_if fun K1 K2 hK1 hK2 => ?_; conv => whnf
   refine hK2 ?_; clear hK1 hK2 K1 K2
   refine HT_skip ?_
   refine InBlock_n ?_
   refine Then_n ?_
   refine HT_f dCo rfl fun K hK => ?_; conv => whnf
   refine hK _ _ _ ?_; clear hK K
   refine Then_n ?_
   replace h := W_xnx h
   refine ⟨_, h, ?_⟩
   refine weak_k ?_; conv => whnf
   exact And.intro rfl (And.intro (aLc wkI (aLc (WkR_yld (fun _ => rfl)) (aLc (wkr (loose_ep (lsC (lsI _ _) loose_nil))) (aLc (wkr (lsL fun _ => (lo_TEdge _))) (aLc wkI aLn))))) (aLc ⟨some _, rfl, BkR_g rfl⟩ aLn))
 refine hK2 ?_; clear hK1 hK2 K1 K2
 refine HT_exit ?_
 refine Then_e ?_
 refine Then_e ?_
 refine InBlock_e ?_
 replace h := W_xbk h
 replace h := W_inl h
 replace h := W_some h
 cases h
 exact ⟨rfl, rfl⟩
end Go.Proofs.Ytgkmodjcoedonaa
namespace Go.Proofs.Ytgkmodjcoedonaa
open Go Go.Eng
set_option maxHeartbeats 0
set_option maxRecDepth 100000
theorem clone_end {M : List (Nat × Nat)} {q k n : Nat} {b : AB} {α : Type} {ce : α → List AV} {l : List α} {hp : Heap} (h1 : [q][k]? = some n) (h2 : [AB.cells (flE ce l)][k]? = some b) (h : hp q = some (.cells (flE ce l))) (hl : ∀ x, ∀ a ∈ ce x, a.loose) : ∃ b0, hp n = some b0 ∧ BkX (WkB M) b0 b := by
 cases k with
 | zero => simp only [List.getElem?_cons_zero, Option.some.injEq] at h1 h2; subst h1 h2; exact ⟨_, h, BkX_fl hl l⟩
 | succ k => simp at h1

theorem slices_Clone_Edge_ok {T : Tbl} (hT : TOk Try.prog T) (hpf : PfOk T PF) : FOk Try.prog 75 (cloneR 3 eTEdge default) := by
 refine FOk_anc hT hpf Try.func75 rfl Try.ntmps75 Try.results75 (by decide) ?_
 rintro args H base r H' ⟨l, rfl, hl, rfl, rfl⟩
 refine ⟨[], [eL 3 eTEdge default l], [], [], [.cells (flE (ceE eTEdge) l)], nle rfl, Nat.zero_le _, nle rfl, .nil, rfl, rfl, .cons (WkA_loose (lsL fun _ => (lo_TEdge _))) .nil, (fun j i b h => by cases h), (fun k b h => ?_), (fun j => rfl), (fun i b h => ?_), ?_⟩
 · cases k with
   | zero => cases h; rfl
   | succ k => cases h
 · by_cases e : i = base
   · subst e; rw [upd_same] at h; exact .inr (.inr ⟨0, rfl, h⟩)
   · rw [upd_other _ _ e] at h; exact .inl ⟨by simp, h⟩
 refine HT_fr dCo rfl fun K hK => ?_; conv => whnf
 refine hK _ _ _ ?_; clear hK K
 refine HT_seq ?_
 refine HT_isnil rfl rfl rfl rfl rfl rfl Try.underlying24 rfl rfl fun b hb => ?_
 cases b
 · refine HT_if fun K1 K2 hK1 hK2 => ?_; conv => whnf
   refine hK2 ?_; clear hK1 hK2 K1 K2
   refine HT_skip ?_
   refine Then_n ?_
   refine HT_fr dCo rfl fun K hK => ?_; conv => whnf
   refine lt_lk (enc := eTEdge) (d := default) (l := []) (f := some) (Φ := fun _ => True) dCo (W_of (a := []) (by unfold lt; rfl) trivial) rfl rfl rfl ⟨nle rfl, nle rfl, rfl⟩ rfl trivial (fun _ => ?_); conv => whnf
   refine apcf_lk (enc := eTEdge) (d := default) dCo rfl rfl rfl ⟨rfl, nle rfl, nle rfl, nle rfl, rfl⟩ (fun _ => rfl) (fun _ => nofun) hl ?_; conv => whnf
   refine hK _ _ _ ?_; clear hK K
   refine HT_ret ?_
   refine ⟨_, [256], rfl, by simp, by simp, rfl, WkB_so (by simp [mm]), fun j b h => by simp at h, fun k n b h1 h2 => ?_⟩; exact clone_end h1 h2 rfl (fun _ => (lsC (lsI _ _) (lsC (lsI _ _) (lsC (lsI _ _) loose_nil))))
 refine HT_if fun K1 K2 hK1 hK2 => ?_; conv => whnf
 refine hK1 ?_; clear hK1 hK2 K1 K2
 refine HT_fr dCo rfl fun K hK => ?_; conv => whnf
 refine hK _ _ _ ?_; clear hK K
 have hn := List.length_eq_zero_iff.1 (hb rfl)
 subst hn
 refine HT_weak rfl (σ' := ⟨ofL [(2, .so 64 0 0 3)], ofH [(64, .cells [])], 1024⟩) (weak_of [(64, none)] ⟨WkR.nilso (fun _ => rfl), trivial⟩ ⟨⟨_, rfl, BkR_n⟩, trivial⟩ rfl) ?_
 refine HT_ret ?_
 refine Then_r ?_
 refine ⟨_, [64], rfl, by simp, by simp, rfl, WkB_so (by simp [mm]), fun j b h => by simp at h, fun k n b h1 h2 => ?_⟩; exact clone_end h1 h2 rfl (fun _ => (lsC (lsI _ _) (lsC (lsI _ _) (lsC (lsI _ _) loose_nil))))


end Go.Proofs.Ytgkmodjcoedonaa
namespace Go.Proofs.Ytgkmodjcoedonaa
open Go Go.Eng
set_option maxHeartbeats 0
set_option maxRecDepth 100000
def flow_capacity_b1 (a0 : TNet) (x1 : Int) (s2 : Int) : Option Int := ix a0.Edges default x1 fun e4 => some (wr (s2 + e4.Capacity))
def flow_capacity_F (a0 : TNet) (a1 : Int) : Option Int := bd (flow_leaving_1_F a0 a1 Int (flow_capacity_b1 a0) 0) fun s3 => some s3
def flow_capacity_S : List AV → AV → Prop := fun args r => ∃ a0 a1, args = [eTNet a0, eI a1] ∧ W (flow_capacity_F a0 a1) fun y => r = (eI y)
theorem flow_capacity_ok {T : Tbl} (hT : TOk Try.prog T) (hpf : PfOk T PF) (h62 : T 62 = pureR flow_leaving_S) (h77 : T 77 = itR Try.prog (fun x => [Value.int .i64 x]) flow_leaving_1_C) : FOk Try.prog 59 (pureR flow_capacity_S) := by
 refine FOk_pure hT hpf Try.func59 rfl Try.ntmps59 Try.results59 (by decide) ?_
 rintro args r ⟨a0, a1, rfl, h⟩
 refine ⟨nle rfl, ?_, ?_⟩
 · exact (lsC (lo_TNet _) (lsC (lsI _ _) loose_nil))
 rw [flow_capacity_F.eq_1] at h
 refine HT_fr dCo rfl fun K hK => ?_; conv => whnf
 refine hK _ _ _ ?_; clear hK K
 refine HT_fr dCo rfl fun K hK => ?_; conv => whnf
 refine bKo rfl ?_; conv => whnf
 refine And.intro rfl (And.intro (nle rfl) (And.intro rfl ?_)); conv => whnf
 refine hK _ _ _ ?_; clear hK K
 refine HT_seq ?_
 refine HT_fr dCo rfl fun K hK => ?_; conv => whnf
 refine nlA rfl ?_; conv => whnf
 refine bKo rfl ?_; conv => whnf
 refine nlA rfl ?_; conv => whnf
 refine callpK_pure h62 (S := flow_leaving_S) ⟨a0, a1, rfl, rfl⟩ (loose_fn loose_nil (lsC (loose_ep (lsC (lsI _ _) (lsC (lsL fun _ => (lo_TEdge _)) loose_nil))) (lsC (loose_ep (lsC (lsI _ _) loose_nil)) loose_nil))) (WkL.refl _) ?_; conv => whnf
 refine hK _ _ _ ?_; clear hK K
 refine HT_block ?_
 refine HT_ancK rfl rfl [2, 5, 9] [(2, 32), (5, 33)] ?_; conv => whnf
 refine And.intro ?_ ?_
 · refine weak_kN ?_; conv => whnf
   exact And.intro rfl (And.intro (aLc (WkR.ptr (fun _ => rfl)) (aLc (WkR.ptr (fun _ => rfl)) (aLc (WkR_fn VsR_nil (VsR_cons (wkr (loose_ep (lsC (lsI _ _) (lsC (lsL fun _ => (lo_TEdge _)) loose_nil)))) (VsR_cons (wkr (loose_ep (lsC (lsI _ _) loose_nil))) VsR_nil))) aLn))) (aLc ⟨some _, rfl, BkR_c rfl (cKc wkI (cKc (wkr (lsL fun _ => (lo_TEdge _))) cKn))⟩ (aLc ⟨some _, rfl, BkR_c rfl (cKc wkI cKn)⟩ aLn)))
 obtain ⟨gfin, hfin, h⟩ := W_inv (W_bd h)
 refine HT_rngS rfl rfl (fun x => [eI x]) vx_int (fun _ => rfl) (by decide) h77 rfl (F := flow_leaving_1_F _ _) hfin ⟨_, _, rfl, rfl⟩ (nle rfl) (aLc (a64_ptr (by decide)) (aLc (a64_ptr (by decide)) (aLc (a64_fn a64_nil (a64_cons (a64_ep (a64_cons (a64_loose (lsI _ _)) (a64_cons (a64_loose (lsL fun _ => (lo_TEdge _))) a64_nil))) (a64_cons (a64_ep (a64_cons (a64_loose (lsI _ _)) a64_nil)) a64_nil))) aLn))) (fun s => [(32, .cells [eI a0.N, (eL 3 eTEdge default) a0.Edges]), (33, .cells [eI s])]) (fun s => (aLc rfl (aLc rfl aLn))) (fun x s gfin h => ?_) ?_
 · clear hfin
   rw [flow_capacity_b1.eq_1] at h
   refine HT_f dCo rfl fun K hK => ?_; conv => whnf
   refine hK _ _ _ ?_; clear hK K
   refine Then_n ?_
   refine HT_block ?_
   refine HT_fD dCo mix_ok rfl (by kernel_rfl) fun K hK => ?_; conv => whnf
   refine nlA rfl ?_; conv => whnf
   refine bKo rfl ?_; conv => whnf
   refine getK_of rfl ?_; conv => whnf
   refine nlA rfl ?_; conv => whnf
   refine bKo rfl ?_; conv => whnf
   refine getK_of rfl ?_; conv => whnf
   refine ix_lk h fun _ h => ?_; conv => whnf
   refine getK_of rfl ?_; conv => whnf
   refine bKo rfl ?_; conv => whnf
   refine And.intro rfl (And.intro (nle rfl) (And.intro rfl ?_)); conv => whnf
   refine hK _ _ _ ?_; clear hK K
   refine InBlock_n ?_
   replace h := W_some h
   cases h
   refine ⟨rfl, ?_⟩
   refine weak_k (l := []) ?_; conv => whnf
   exact And.intro rfl (And.intro aLn (aLc ⟨some _, rfl, BkR_c rfl (cKc wkI (cKc (wkr (lsL fun _ => (lo_TEdge _))) cKn))⟩ (aLc ⟨some _, rfl, BkR_c rfl (cKc wkI cKn)⟩ aLn)))
 clear hfin
 refine InBlock_n ?_
 refine Then_n ?_
 refine HT_fr dCo rfl fun K hK => ?_; conv => whnf
 refine nlA rfl ?_; conv => whnf
 refine bKo rfl ?_; conv => whnf
 refine getK_of rfl ?_; conv => whnf
 refine hK _ _ _ ?_; clear hK K
 refine HT_ret ?_
 replace h := W_some h
 refine PostP_r dCo fun K hK => ?_; conv => whnf
 refine hK _ ?_; clear hK K
 cases h
 exact Wk.refl _
theorem flow_capacity_call {T : Tbl} (hT : T 59 = pureR flow_capacity_S) {args : List AV} {hp : Heap} {id : Nat} {k : AV → Prop} {a0 : TNet} {a1 : Int} {Φ : Int → Prop} (h : W (flow_capacity_F a0 a1) Φ) (hw : WkL args [eTNet a0, eI a1]) (hk : ∀ y, Φ y → k (eI y)) : callpK T 59 args hp id k := by
 obtain ⟨y, e, hy⟩ := W_inv h
 exact callpK_pure hT ⟨a0, a1, rfl, W_of e rfl⟩ (by exact (lsI _ _)) hw (hk y hy)
def flow_CheckCut_F (a0 : TNet) (a1 : Int) (a2 : Int) (a3 : Int) : Option (Int × Bool) := jn (fun p1 : Bool => cn p1 (some (0, false)) (bd (flow_capacity_F a0 a3) fun y5 =>
   some (y5, true))) fun k2 => bd (flow_isPair_F a0 a1 a2) fun y3 => cn (!y3) (k2 true) (gd (0 ≤ a0.N) (bd (flow_isIn_F a3 0 (wr ((bshl .i64 1 a0.N) - 1))) fun y4 =>
   cn (!y4) (k2 true) (gd (0 ≤ a1) (cn ((band .i64 (bshr .i64 a3 a1) 1) == 0) (k2 true) (gd (0 ≤ a2) (k2 ((band .i64 (bshr .i64 a3 a2) 1) == 1)))))))
def flow_CheckCut_S : List AV → AV → Prop := fun args r => ∃ a0 a1 a2 a3, args = [eTNet a0, eI a1, eI a2, eI a3] ∧ W (flow_CheckCut_F a0 a1 a2 a3) fun y => r = (.tup [eI y.1, eB y.2])
theorem flow_CheckCut_ok {T : Tbl} (hT : TOk Try.prog T) (hpf : PfOk T PF) (h46 : T 46 = pureR flow_isIn_S) (h50 : T 50 = pureR flow_isPair_S) (h59 : T 59 = pureR flow_capacity_S) : FOk Try.prog 28 (pureR flow_CheckCut_S) := by
 refine FOk_pure hT hpf Try.func28 rfl Try.ntmps28 Try.results28 (by decide) ?_
 rintro args r ⟨a0, a1, a2, a3, rfl, h⟩
 refine ⟨nle rfl, ?_, ?_⟩
 · exact (lsC (lo_TNet _) (lsC (lsI _ _) (lsC (lsI _ _) (lsC (lsI _ _) loose_nil))))
 rw [flow_CheckCut_F.eq_1] at h
 refine HT_fr dCo rfl fun K hK => ?_; conv => whnf
 refine hK _ _ _ ?_; clear hK K
 refine HT_seq ?_
 refine HT_fr dCo rfl fun K hK => ?_; conv => whnf
 replace h := W_jn h
 refine nlA rfl ?_; conv => whnf
 refine bKo rfl ?_; conv => whnf
 refine nlA rfl ?_; conv => whnf
 replace h := W_bd h
 refine flow_isPair_call h50 h (WkL.refl _) (fun _ h => ?_); conv => whnf
 refine cond_lk h (fun _ h => ?_) (fun _ h => ?_) <;> (conv => whnf)
 · refine hK _ _ _ ?_; clear hK K
   refine HT_if fun K1 K2 hK1 hK2 => ?_; conv => whnf
   refine hK1 ?_; clear hK1 hK2 K1 K2
   replace h := W_cnT h
   refine HT_fr dCo rfl fun K hK => ?_; conv => whnf
   refine hK _ _ _ ?_; clear hK K
   refine HT_ret ?_
   refine Then_r ?_
   replace h := W_some h
   refine PostP_r dCo fun K hK => ?_; conv => whnf
   refine hK _ ?_; clear hK K
   cases h
   exact Wk.refl _
 refine nlA rfl ?_; conv => whnf
 refine bKo rfl ?_; conv => whnf
 refine getK_of rfl ?_; conv => whnf
 refine gd_lk h fun _ h => ?_; conv => whnf
 replace h := W_bd h
 refine flow_isIn_call h46 h (WkL.refl _) (fun _ h => ?_); conv => whnf
 refine cond_lk h (fun _ h => ?_) (fun _ h => ?_) <;> (conv => whnf)
 · refine hK _ _ _ ?_; clear hK K
   refine HT_if fun K1 K2 hK1 hK2 => ?_; conv => whnf
   refine hK1 ?_; clear hK1 hK2 K1 K2
   replace h := W_cnT h
   refine HT_fr dCo rfl fun K hK => ?_; conv => whnf
   refine hK _ _ _ ?_; clear hK K
   refine HT_ret ?_
   refine Then_r ?_
   replace h := W_some h
   refine PostP_r dCo fun K hK => ?_; conv => whnf
   refine hK _ ?_; clear hK K
   cases h
   exact Wk.refl _
 refine gd_lk h fun _ h => ?_; conv => whnf
 refine cond_lk h (fun _ h => ?_) (fun _ h => ?_) <;> (conv => whnf)
 · refine hK _ _ _ ?_; clear hK K
   refine HT_if fun K1 K2 hK1 hK2 => ?_; conv => whnf
   refine hK1 ?_; clear hK1 hK2 K1 K2
   replace h := W_cnT h
   refine HT_fr dCo rfl fun K hK => ?_; conv => whnf
   refine hK _ _ _ ?_; clear hK K
   refine HT_ret ?_
   refine Then_r ?_
   replace h := W_some h
   refine PostP_r dCo fun K hK => ?_; conv => whnf
   refine hK _ ?_; clear hK K
   cases h
   exact Wk.refl _
 refine gd_lk h fun _ h => ?_; conv => whnf
 refine hK _ _ _ ?_; clear hK K
 refine HT_if fun K1 K2 hK1 hK2 => ?_; conv => whnf
 refine cond_lk h (fun _ h => ?_) (fun _ h => ?_)
 · refine hK1 ?_; clear hK1 hK2 K1 K2
   refine HT_fr dCo rfl fun K hK => ?_; conv => whnf
   refine hK _ _ _ ?_; clear hK K
   refine HT_ret ?_
   refine Then_r ?_
   replace h := W_some h
   refine PostP_r dCo fun K hK => ?_; conv => whnf
   refine hK _ ?_; clear hK K
   cases h
   exact Wk.refl _
 refine hK2 ?_; clear hK1 hK2 K1 K2
 refine HT_skip ?_
 refine Then_n ?_
 refine HT_fr dCo rfl fun K hK => ?_; conv => whnf
 refine nlA rfl ?_; conv => whnf
 refine bKo rfl ?_; conv => whnf
 refine nlA rfl ?_; conv => whnf
 replace h := W_bd h
 refine flow_capacity_call h59 h (WkL.refl _) (fun _ h => ?_); conv => whnf
 refine hK _ _ _ ?_; clear hK K
 refine HT_ret ?_
 replace h := W_some h
 refine PostP_r dCo fun K hK => ?_; conv => whnf
 refine hK _ ?_; clear hK K
 cases h
 exact Wk.refl _
theorem flow_CheckCut_call {T : Tbl} (hT : T 28 = pureR flow_CheckCut_S) {args : List AV} {hp : Heap} {id : Nat} {k : AV → Prop} {a0 : TNet} {a1 : Int} {a2 : Int} {a3 : Int} {Φ : Int × Bool → Prop} (h : W (flow_CheckCut_F a0 a1 a2 a3) Φ) (hw : WkL args [eTNet a0, eI a1, eI a2, eI a3]) (hk : ∀ y, Φ y → k (.tup [eI y.1, eB y.2])) : callpK T 28 args hp id k := by
 obtain ⟨y, e, hy⟩ := W_inv h
 exact callpK_pure hT ⟨a0, a1, a2, a3, rfl, W_of e rfl⟩ (by exact loose_tup (lsC (lsI _ _) (lsC (lsB _) loose_nil))) hw (hk y hy)
def flow_without_b1 (a1 : Int) (m1 : List TEdge) (s2 : Int × TNet) : Option (Ct (Int × TNet) TNet) := cn (decide (s2.1 < (m1.length : Int))) (gd (0 ≤ s2.1) (jn (fun p3 : TNet =>
   some (.nx ((wr (s2.1 + 1)), p3))) fun k4 => cn ((band .i64 (bshr .i64 a1 s2.1) 1) ==
   1) (gd ((0 : Int) ≤ s2.1 ∧ s2.1 < (s2.2.Edges.length : Int)) (st s2.2.Edges (s2.1) (⟨(s2.2.Edges.getD (s2.1).toNat default).From, (s2.2.Edges.getD (s2.1).toNat default).To, 0⟩ : TEdge) fun l5 =>
   k4 (⟨s2.2.N, l5⟩ : TNet))) (k4 s2.2))) (some (.bk (s2.1, s2.2)))
theorem W_bflow_without_b1 {a1 : Int} {m1 : List TEdge} {s2 : Int × TNet} {Φ : Ct (Int × TNet) TNet → Prop} (h : W (flow_without_b1 a1 m1 s2) Φ) : W (cn (decide (s2.1 < (m1.length : Int))) (gd (0 ≤ s2.1) (jn (fun p3 : TNet => some (.nx ((wr (s2.1 + 1)), p3))) fun k4 => cn ((band .i64 (bshr .i64 a1 s2.1) 1) ==
   1) (gd ((0 : Int) ≤ s2.1 ∧ s2.1 < (s2.2.Edges.length : Int)) (st s2.2.Edges (s2.1) (⟨(s2.2.Edges.getD (s2.1).toNat default).From, (s2.2.Edges.getD (s2.1).toNat default).To, 0⟩ : TEdge) fun l5 =>
   k4 (⟨s2.2.N, l5⟩ : TNet))) (k4 s2.2))) (some (.bk (s2.1, s2.2)))) Φ := h
def flow_without_F (a0 : TNet) (a1 : Int) : Option TNet := gd (a0.Edges.length ≤ 1048576) (lt a0.Edges fun m1 =>
   bd (lp (flow_without_b1 a1 m1) FU (0, (⟨a0.N, m1⟩ : TNet))) fun c6 => smK c6 (fun s7 => some (⟨s7.2.N, s7.2.Edges⟩ : TNet)) (fun r8 => some r8))
def flow_without_S : List AV → AV → Prop := fun args r => ∃ a0 a1, args = [eTNet a0, eI a1] ∧ W (flow_without_F a0 a1) fun y => r = (eTNet y)
theorem flow_without_ok {T : Tbl} (hT : TOk Try.prog T) (hpf : PfOk T PF) (h75 : T 75 = cloneR 3 eTEdge default) : FOk Try.prog 60 (pureR flow_without_S) := by
 refine FOk_pure hT hpf Try.func60 rfl Try.ntmps60 Try.results60 (by decide) ?_
 rintro args r ⟨a0, a1, rfl, h⟩
 refine ⟨nle rfl, ?_, ?_⟩
 · exact (lsC (lo_TNet _) (lsC (lsI _ _) loose_nil))
 rw [flow_without_F.eq_1] at h
 refine HT_fr dCo rfl fun K hK => ?_; conv => whnf
 refine hK _ _ _ ?_; clear hK K
 refine HT_fd dCo mix_ok rfl (by kernel_rfl) fun K hK => ?_; conv => whnf
 refine nlA rfl ?_; conv => whnf
 refine bKo rfl ?_; conv => whnf
 refine getK_of rfl ?_; conv => whnf
 refine nlA rfl ?_; conv => whnf
 refine bKo rfl ?_; conv => whnf
 refine getK_of rfl ?_; conv => whnf
 refine gd_lk_u h fun hg h => ?_
 replace h := W_lt h
 refine callaK_clone h75 (WkL_cons (Wk.refl _) WkL_nil) hg (fun _ => (lsC (lsI _ _) (lsC (lsI _ _) (lsC (lsI _ _) loose_nil)))) ?_; conv => whnf
 refine bKo rfl ?_; conv => whnf
 refine And.intro rfl (And.intro (nle rfl) (And.intro rfl ?_)); conv => whnf
 refine hK _ _ _ ?_; clear hK K
 refine HT_seq ?_
 refine HT_fr dCo rfl fun K hK => ?_; conv => whnf
 refine nlA rfl ?_; conv => whnf
 refine bKo rfl ?_; conv => whnf
 refine getK_of rfl ?_; conv => whnf
 refine hK _ _ _ ?_; clear hK K
 refine HT_block ?_
 replace h := W_bd h
 refine HT_lpR (body := flow_without_b1 _ _) rfl h [1, 4, 5, 15] [4] [] [5] (fun kl kh kr ids b s => ⟨ofL ([(16, eI s.1)] ++ kl), ofH (([(nthN ids 0, .cells [eI s.2.N, .so (b + 0) 0 s.2.Edges.length 3])] ++ kh) ++ ([(b + 0, .cells (flE (ceE eTEdge) s.2.Edges))] ++ kr)), b + 128⟩) ?_; (conv => whnf); refine And.intro ?_ (fun s m h => HT_st ?_)
 · refine weak_r ?_; conv => whnf
   exact And.intro rfl (And.intro (aLc wkI (aLc wkI (aLc (WkR.ptr (fun _ => rfl)) (aLc (WkR.ptr (fun _ => rfl)) (aLc wkI aLn))))) (aLc ⟨some _, rfl, BkR_c rfl (cKc wkI (cKc (WkR.so (fun _ => rfl)) cKn))⟩ (aLc ⟨some _, rfl, BkR_c rfl (cKc wkI (cKc (wkr loose_nils) cKn))⟩ (aLc ⟨some _, rfl, BkR_r rfl (fun _ => (lsC (lsI _ _) (lsC (lsI _ _) (lsC (lsI _ _) loose_nil))))⟩ aLn))))
 replace h := W_bflow_without_b1 (W_bd h)
 refine HT_fr dCo rfl fun K hK => ?_; conv => whnf
 refine hK _ _ _ ?_; clear hK K
 refine HT_seq ?_
 refine HT_if fun K1 K2 hK1 hK2 => ?_; conv => whnf
 refine cond_lk h (fun _ h => ?_) (fun _ h => ?_)
 · refine hK1 ?_; clear hK1 hK2 K1 K2
   refine HT_skip ?_
   refine Then_n ?_
   refine HT_seq ?_
   refine HT_block ?_
   refine HT_fr dCo rfl fun K hK => ?_; conv => whnf
   refine hK _ _ _ ?_; clear hK K
   refine HT_fr dCo rfl fun K hK => ?_; conv => whnf
   refine gd_lk h fun _ h => ?_; conv => whnf
   refine hK _ _ _ ?_; clear hK K
   replace h := W_jn h
   refine HT_if fun K1 K2 hK1 hK2 => ?_; conv => whnf
   refine cond_lk h (fun _ h => ?_) (fun _ h => ?_)
   · refine hK1 ?_; clear hK1 hK2 K1 K2
     refine HT_f dCo rfl fun K hK => ?_; conv => whnf
     refine nlA rfl ?_; conv => whnf
     refine bKo rfl ?_; conv => whnf
     refine getK_of rfl ?_; conv => whnf
     refine gd_lkN h (rfl) fun hx46 h => ?_; conv => whnf
     refine bKo rfl ?_; conv => whnf
     refine st_lk (enc := eTEdge) (d := default) (q := 2) h (fun _ => rfl) (rfl) hx46 rfl (nle rfl) rfl rfl (fun h => ?_); conv => whnf
     refine hK _ _ _ ?_; clear hK K
     refine InBlock_n ?_
     refine Then_n ?_
     refine HT_f dCo rfl fun K hK => ?_; conv => whnf
     refine hK _ _ _ ?_; clear hK K
     refine Then_n ?_
     replace h := W_xnx h
     refine ⟨_, h, ?_⟩
     refine weak_r ?_; conv => whnf
     exact And.intro rfl (And.intro (aLc wkI (aLc wkI (aLc (WkR.ptr (fun _ => rfl)) (aLc (WkR.ptr (fun _ => rfl)) (aLc wkI aLn))))) (aLc ⟨some _, rfl, BkR_c rfl (cKc wkI (cKc (WkR.soN (fun _ => rfl) (lenset rfl).symm) cKn))⟩ (aLc ⟨some _, rfl, BkR_c rfl (cKc wkI (cKc (wkr loose_nils) cKn))⟩ (aLc ⟨some _, rfl, BkR_r rfl (fun _ => (lsC (lsI _ _) (lsC (lsI _ _) (lsC (lsI _ _) loose_nil))))⟩ aLn))))
   refine hK2 ?_; clear hK1 hK2 K1 K2
   refine HT_skip ?_
   refine InBlock_n ?_
   refine Then_n ?_
   refine HT_f dCo rfl fun K hK => ?_; conv => whnf
   refine hK _ _ _ ?_; clear hK K
   refine Then_n ?_
   replace h := W_xnx h
   refine ⟨_, h, ?_⟩
   refine weak_r ?_; conv => whnf
   exact And.intro rfl (And.intro (aLc wkI (aLc wkI (aLc (WkR.ptr (fun _ => rfl)) (aLc (WkR.ptr (fun _ => rfl)) (aLc wkI aLn))))) (aLc ⟨some _, rfl, BkR_c rfl (cKc wkI (cKc (WkR.so (fun _ => rfl)) cKn))⟩ (aLc ⟨some _, rfl, BkR_c rfl (cKc wkI (cKc (wkr loose_nils) cKn))⟩ (aLc ⟨some _, rfl, BkR_r rfl (fun _ => (lsC (lsI _ _) (lsC (lsI _ _) (lsC (lsI _ _) loose_nil))))⟩ aLn))))
 refine hK2 ?_; clear hK1 hK2 K1 K2
 refine HT_exit ?_
 refine Then_e ?_
 refine Then_e ?_
 refine InBlock_e ?_
 replace h := W_xbk h
 replace h := W_inl h
 refine Then_n ?_
 refine HT_frzBK 5 1 (enc := eTEdge) (e := 72) default (ElOk_agg dCo rfl rfl (fun _ => rfl) (fun _ => rfl)) ?_; (conv => whnf); refine ⟨_, _, _, (Nat.ne_of_beq_eq_false rfl), rfl, rfl, rfl, rfl, ?_⟩; conv => whnf
 refine HT_fr dCo rfl fun K hK => ?_; conv => whnf
 refine nlA rfl ?_; conv => whnf
 refine bKo rfl ?_; conv => whnf
 refine nlA rfl ?_; conv => whnf
 refine bKo rfl ?_; conv => whnf
 refine And.intro rfl (And.intro (nle rfl) (And.intro rfl ?_)); conv => whnf
 refine hK _ _ _ ?_; clear hK K
 refine HT_ret ?_
 replace h := W_some h
 refine PostP_r dCo fun K hK => ?_; conv => whnf
 refine nlA rfl ?_; conv => whnf
 refine bKo rfl ?_; conv => whnf
 refine nlA rfl ?_; conv => whnf
 refine hK _ ?_; clear hK K
 cases h
 exact Wk.refl _
theorem flow_without_call {T : Tbl} (hT : T 60 = pureR flow_without_S) {args : List AV} {hp : Heap} {id : Nat} {k : AV → Prop} {a0 : TNet} {a1 : Int} {Φ : TNet → Prop} (h : W (flow_without_F a0 a1) Φ) (hw : WkL args [eTNet a0, eI a1]) (hk : ∀ y, Φ y → k (eTNet y)) : callpK T 60 args hp id k := by
 obtain ⟨y, e, hy⟩ := W_inv h
 exact callpK_pure hT ⟨a0, a1, rfl, W_of e rfl⟩ (by exact (lo_TNet _)) hw (hk y hy)
def flow_Without_F (a0 : TNet) (a1 : Int) : Option (TNet × Int) := jn (fun p1 : Bool => cn p1 (some ((⟨0, []⟩ : TNet), 270)) (bd (flow_without_F a0 a1) fun y5 =>
   some (y5, 0))) fun k2 => bd (flow_Valid_F a0) fun y3 =>
   cn (!y3) (k2 true) (gd (0 ≤ (a0.Edges.length : Int)) (bd (flow_isIn_F a1 0 (wr ((bshl .i64 1 (a0.Edges.length : Int)) - 1))) fun y4 => k2 (!y4)))
def flow_Without_S : List AV → AV → Prop := fun args r => ∃ a0 a1, args = [eTNet a0, eI a1] ∧ W (flow_Without_F a0 a1) fun y => r = (.tup [eTNet y.1, eI y.2])
theorem flow_Without_ok {T : Tbl} (hT : TOk Try.prog T) (hpf : PfOk T PF) (h19 : T 19 = pureR flow_Valid_S) (h46 : T 46 = pureR flow_isIn_S) (h60 : T 60 = pureR flow_without_S) : FOk Try.prog 30 (pureR flow_Without_S) := by
 refine FOk_pure hT hpf Try.func30 rfl Try.ntmps30 Try.results30 (by decide) ?_
 rintro args r ⟨a0, a1, rfl, h⟩
 refine ⟨nle rfl, ?_, ?_⟩
 · exact (lsC (lo_TNet _) (lsC (lsI _ _) loose_nil))
 rw [flow_Without_F.eq_1] at h
 refine HT_fr dCo rfl fun K hK => ?_; conv => whnf
 refine hK _ _ _ ?_; clear hK K
 refine HT_seq ?_
 refine HT_fr dCo rfl fun K hK => ?_; conv => whnf
 replace h := W_jn h
 refine nlA rfl ?_; conv => whnf
 refine bKo rfl ?_; conv => whnf
 refine nlA rfl ?_; conv => whnf
 replace h := W_bd h
 refine flow_Valid_call h19 h (WkL.refl _) (fun _ h => ?_); conv => whnf
 refine cond_lk h (fun _ h => ?_) (fun _ h => ?_) <;> (conv => whnf)
 · refine hK _ _ _ ?_; clear hK K
   refine HT_if fun K1 K2 hK1 hK2 => ?_; conv => whnf
   refine hK1 ?_; clear hK1 hK2 K1 K2
   replace h := W_cnT h
   refine HT_fr dCo rfl fun K hK => ?_; conv => whnf
   refine bKo rfl ?_; conv => whnf
   refine And.intro rfl (And.intro (nle rfl) (And.intro rfl ?_)); conv => whnf
   refine hK _ _ _ ?_; clear hK K
   refine HT_ret ?_
   refine Then_r ?_
   replace h := W_some h
   refine PostP_r dCo fun K hK => ?_; conv => whnf
   refine nlA rfl ?_; conv => whnf
   refine bKo rfl ?_; conv => whnf
   refine nlA rfl ?_; conv => whnf
   refine hK _ ?_; clear hK K
   cases h
   exact Wk_tup (WkL_cons (Wk_agg (WkL_cons (Wk.refl _) (WkL_cons Wk_nil WkL_nil))) (WkL_cons (Wk.refl _) WkL_nil))
 refine nlA rfl ?_; conv => whnf
 refine bKo rfl ?_; conv => whnf
 refine getK_of rfl ?_; conv => whnf
 refine gd_lk h fun _ h => ?_; conv => whnf
 replace h := W_bd h
 refine flow_isIn_call h46 h (WkL.refl _) (fun _ h => ?_); conv => whnf
 refine hK _ _ _ ?_; clear hK K
 refine HT_if fun K1 K2 hK1 hK2 => ?_; conv => whnf
 refine cond_lk h (fun _ h => ?_) (fun _ h => ?_)
 · refine hK1 ?_; clear hK1 hK2 K1 K2
   refine HT_fr dCo rfl fun K hK => ?_; conv => whnf
   refine bKo rfl ?_; conv => whnf
   refine And.intro rfl (And.intro (nle rfl) (And.intro rfl ?_)); conv => whnf
   refine hK _ _ _ ?_; clear hK K
   refine HT_ret ?_
   refine Then_r ?_
   replace h := W_some h
   refine PostP_r dCo fun K hK => ?_; conv => whnf
   refine nlA rfl ?_; conv => whnf
   refine bKo rfl ?_; conv => whnf
   refine nlA rfl ?_; conv => whnf
   refine hK _ ?_; clear hK K
   cases h
   exact Wk_tup (WkL_cons (Wk_agg (WkL_cons (Wk.refl _) (WkL_cons Wk_nil WkL_nil))) (WkL_cons (Wk.refl _) WkL_nil))
 refine hK2 ?_; clear hK1 hK2 K1 K2
 refine HT_skip ?_
 refine Then_n ?_
 refine HT_fr dCo rfl fun K hK => ?_; conv => whnf
 refine nlA rfl ?_; conv => whnf
 refine bKo rfl ?_; conv => whnf
 refine nlA rfl ?_; conv => whnf
 replace h := W_bd h
 refine flow_without_call h60 h (WkL.refl _) (fun _ h => ?_); conv => whnf
 refine bKo rfl ?_; conv => whnf
 refine And.intro rfl (And.intro (nle rfl) (And.intro rfl ?_)); conv => whnf
 refine hK _ _ _ ?_; clear hK K
 refine HT_ret ?_
 replace h := W_some h
 refine PostP_r dCo fun K hK => ?_; conv => whnf
 refine nlA rfl ?_; conv => whnf
 refine bKo rfl ?_; conv => whnf
 refine nlA rfl ?_; conv => whnf
 refine hK _ ?_; clear hK K
 cases h
 exact Wk.refl _
theorem flow_Without_call {T : Tbl} (hT : T 30 = pureR flow_Without_S) {args : List AV} {hp : Heap} {id : Nat} {k : AV → Prop} {a0 : TNet} {a1 : Int} {Φ : TNet × Int → Prop} (h : W (flow_Without_F a0 a1) Φ) (hw : WkL args [eTNet a0, eI a1]) (hk : ∀ y, Φ y → k (.tup [eTNet y.1, eI y.2])) : callpK T 30 args hp id k := by
 obtain ⟨y, e, hy⟩ := W_inv h
 exact callpK_pure hT ⟨a0, a1, rfl, W_of e rfl⟩ (by exact loose_tup (lsC (lo_TNet _) (lsC (lsI _ _) loose_nil))) hw (hk y hy)
def flow_CheckWorst_F (a0 : TNet) (a1 : Int) (a2 : Int) (a3 : Int) (a4 : TFailure) : Option Bool := bd (flow_Without_F a0 a4.Failed) fun y1 => jn (fun p2 : Bool =>
   cn p2 (some false) (bd (flow_CheckCut_F y1.1 a1 a2 a4.Cut) fun y6 => jn (fun p7 : Bool => some p7) fun k8 => cn y6.2 (k8 (y6.1 == a4.Value)) (k8 false))) fun k3 => cn (y1.2 !=
   0) (k3 true) (bd (flow_isIn_F a3 0 3) fun y4 => cn (!y4) (k3 true) (bd (math_bits_OnesCount_F (IntKind.u64.wrap (a4.Failed))) fun y5 => k3 (decide (y5 > a3))))
def flow_CheckWorst_S : List AV → AV → Prop := fun args r => ∃ a0 a1 a2 a3 a4, args = [eTNet a0, eI a1, eI a2, eI a3, eTFailure a4] ∧ W (flow_CheckWorst_F a0 a1 a2 a3 a4) fun y => r = (eB y)
theorem flow_CheckWorst_ok {T : Tbl} (hT : TOk Try.prog T) (hpf : PfOk T PF) (h28 : T 28 = pureR flow_CheckCut_S) (h30 : T 30 = pureR flow_Without_S) (h46 : T 46 = pureR flow_isIn_S) (h66 : T 66 = pureR math_bits_OnesCount_S) : FOk Try.prog 35 (pureR flow_CheckWorst_S) := by
 refine FOk_pure hT hpf Try.func35 rfl Try.ntmps35 Try.results35 (by decide) ?_
 rintro args r ⟨a0, a1, a2, a3, a4, rfl, h⟩
 refine ⟨nle rfl, ?_, ?_⟩
 · exact (lsC (lo_TNet _) (lsC (lsI _ _) (lsC (lsI _ _) (lsC (lsI _ _) (lsC (lo_TFailure _) loose_nil)))))
 rw [flow_CheckWorst_F.eq_1] at h
 refine HT_fr dCo rfl fun K hK => ?_; conv => whnf
 refine hK _ _ _ ?_; clear hK K
 refine HT_fr dCo rfl fun K hK => ?_; conv => whnf
 refine nlA rfl ?_; conv => whnf
 refine bKo rfl ?_; conv => whnf
 refine nlA rfl ?_; conv => whnf
 refine nlA rfl ?_; conv => whnf
 refine bKo rfl ?_; conv => whnf
 refine getK_of rfl ?_; conv => whnf
 replace h := W_bd h
 refine flow_Without_call h30 h (WkL.refl _) (fun _ h => ?_); conv => whnf
 refine bKo rfl ?_; conv => whnf
 refine And.intro rfl (And.intro (nle rfl) (And.intro rfl ?_)); conv => whnf
 refine hK _ _ _ ?_; clear hK K
 refine HT_seq ?_
 refine HT_fr dCo rfl fun K hK => ?_; conv => whnf
 replace h := W_jn h
 refine cond_lk h (fun _ h => ?_) (fun _ h => ?_) <;> (conv => whnf)
 · refine hK _ _ _ ?_; clear hK K
   refine HT_if fun K1 K2 hK1 hK2 => ?_; conv => whnf
   refine hK1 ?_; clear hK1 hK2 K1 K2
   replace h := W_cnT h
   refine HT_fr dCo rfl fun K hK => ?_; conv => whnf
   refine hK _ _ _ ?_; clear hK K
   refine HT_ret ?_
   refine Then_r ?_
   replace h := W_some h
   refine PostP_r dCo fun K hK => ?_; conv => whnf
   refine hK _ ?_; clear hK K
   cases h
   exact Wk.refl _
 replace h := W_bd h
 refine flow_isIn_call h46 h (WkL.refl _) (fun _ h => ?_); conv => whnf
 refine cond_lk h (fun _ h => ?_) (fun _ h => ?_) <;> (conv => whnf)
 · refine hK _ _ _ ?_; clear hK K
   refine HT_if fun K1 K2 hK1 hK2 => ?_; conv => whnf
   refine hK1 ?_; clear hK1 hK2 K1 K2
   replace h := W_cnT h
   refine HT_fr dCo rfl fun K hK => ?_; conv => whnf
   refine hK _ _ _ ?_; clear hK K
   refine HT_ret ?_
   refine Then_r ?_
   replace h := W_some h
   refine PostP_r dCo fun K hK => ?_; conv => whnf
   refine hK _ ?_; clear hK K
   cases h
   exact Wk.refl _
 refine nlA rfl ?_; conv => whnf
 refine bKo rfl ?_; conv => whnf
 refine getK_of rfl ?_; conv => whnf
 replace h := W_bd h
 refine math_bits_OnesCount_call h66 h (WkL.refl _) (fun _ h => ?_); conv => whnf
 refine hK _ _ _ ?_; clear hK K
 refine HT_if fun K1 K2 hK1 hK2 => ?_; conv => whnf
 refine cond_lk h (fun _ h => ?_) (fun _ h => ?_)
 · refine hK1 ?_; clear hK1 hK2 K1 K2
   refine HT_fr dCo rfl fun K hK => ?_; conv => whnf
   refine hK _ _ _ ?_; clear hK K
   refine HT_ret ?_
   refine Then_r ?_
   replace h := W_some h
   refine PostP_r dCo fun K hK => ?_; conv => whnf
   refine hK _ ?_; clear hK K
   cases h
   exact Wk.refl _
 refine hK2 ?_; clear hK1 hK2 K1 K2
 refine HT_skip ?_
 refine Then_n ?_
 refine HT_fr dCo rfl fun K hK => ?_; conv => whnf
 refine nlA rfl ?_; conv => whnf
 refine bKo rfl ?_; conv => whnf
 refine nlA rfl ?_; conv => whnf
 refine nlA rfl ?_; conv => whnf
 refine bKo rfl ?_; conv => whnf
 refine getK_of rfl ?_; conv => whnf
 replace h := W_bd h
 refine flow_CheckCut_call h28 h (WkL.refl _) (fun _ h => ?_); conv => whnf
 refine hK _ _ _ ?_; clear hK K
 refine HT_fr dCo rfl fun K hK => ?_; conv => whnf
 replace h := W_jn h
 refine cond_lk h (fun _ h => ?_) (fun _ h => ?_) <;> (conv => whnf)
 · refine nlA rfl ?_; conv => whnf
   refine bKo rfl ?_; conv => whnf
   refine getK_of rfl ?_; conv => whnf
   refine hK _ _ _ ?_; clear hK K
   refine HT_ret ?_
   replace h := W_some h
   refine PostP_r dCo fun K hK => ?_; conv => whnf
   refine hK _ ?_; clear hK K
   cases h
   exact Wk.refl _
 refine hK _ _ _ ?_; clear hK K
 refine HT_ret ?_
 replace h := W_some h
 refine PostP_r dCo fun K hK => ?_; conv => whnf
 refine hK _ ?_; clear hK K
 cases h
 exact Wk.refl _
theorem flow_CheckWorst_call {T : Tbl} (hT : T 35 = pureR flow_CheckWorst_S) {args : List AV} {hp : Heap} {id : Nat} {k : AV → Prop} {a0 : TNet} {a1 : Int} {a2 : Int} {a3 : Int} {a4 : TFailure} {Φ : Bool → Prop} (h : W (flow_CheckWorst_F a0 a1 a2 a3 a4) Φ) (hw : WkL args [eTNet a0, eI a1, eI a2, eI a3, eTFailure a4]) (hk : ∀ y, Φ y → k (eB y)) : callpK T 35 args hp id k := by
 obtain ⟨y, e, hy⟩ := W_inv h
 exact callpK_pure hT ⟨a0, a1, a2, a3, a4, rfl, W_of e rfl⟩ (by exact (lsB _)) hw (hk y hy)
def flow_CheckMeet_b1 (a1 : List Int) (a2 : TSupply) (s9 : Int × Int) : Option (Ct (Int × Int) Bool) := cn (decide (s9.2 < (a1.length : Int))) (ix a1 default s9.2 fun e10 =>
   gd (0 ≤ s9.2) (jn (fun p11 : Int => some (.nx (p11, (wr (s9.2 + 1))))) fun k12 => cn ((band .i64 (bshr .i64 a2.Set s9.2) 1) ==
   1) (k12 (wr (s9.1 + e10))) (k12 s9.1))) (some (.bk (s9.1, s9.2)))
theorem W_bflow_CheckMeet_b1 {a1 : List Int} {a2 : TSupply} {s9 : Int × Int} {Φ : Ct (Int × Int) Bool → Prop} (h : W (flow_CheckMeet_b1 a1 a2 s9) Φ) : W (cn (decide (s9.2 < (a1.length : Int))) (ix a1 default s9.2 fun e10 => gd (0 ≤ s9.2) (jn (fun p11 : Int => some (.nx (p11, (wr (s9.2 + 1))))) fun k12 =>
   cn ((band .i64 (bshr .i64 a2.Set s9.2) 1) == 1) (k12 (wr (s9.1 + e10))) (k12 s9.1))) (some (.bk (s9.1, s9.2)))) Φ := h
def flow_CheckMeet_F (a0 : TNet) (a1 : List Int) (a2 : TSupply) : Option Bool := bd (flow_isSupply_F a0 a1) fun y1 =>
   cn (!y1) (some false) (cn a2.Met (bd (flow_given_F a0 a2.Amounts) fun y2 => jn (fun p3 : Bool => some p3) fun k4 => cn y2.2 (cn (a2.Set ==
   0) (bd (slices_Equal_int_F y2.1 a1) fun y5 => k4 y5) (k4 false)) (k4 false)) (jn (fun p6 : Bool => cn p6 (some false) (bd (lp (flow_CheckMeet_b1 a1 a2) FU (0, 0)) fun c13 =>
   smK c13 (fun s14 => bd (flow_capacity_F a0 a2.Set) fun y16 => some (decide (s14.1 > y16))) (fun r15 => some r15))) fun k7 => cn (decide ((a2.Amounts.length : Int) >
   0)) (k7 true) (gd (0 ≤ a0.N) (bd (flow_isIn_F a2.Set 0 (wr ((bshl .i64 1 a0.N) - 1))) fun y8 => k7 (!y8)))))
def flow_CheckMeet_S : List AV → AV → Prop := fun args r => ∃ a0 a1 a2, args = [eTNet a0, (eL 1 eI default) a1, eTSupply a2] ∧ W (flow_CheckMeet_F a0 a1 a2) fun y => r = (eB y)
theorem flow_CheckMeet_ok {T : Tbl} (hT : TOk Try.prog T) (hpf : PfOk T PF) (h46 : T 46 = pureR flow_isIn_S) (h58 : T 58 = pureR flow_given_S) (h59 : T 59 = pureR flow_capacity_S) (h68 : T 68 = pureR flow_isSupply_S) (h70 : T 70 = pureR slices_Equal_int_S) : FOk Try.prog 41 (pureR flow_CheckMeet_S) := by
 refine FOk_pure hT hpf Try.func41 rfl Try.ntmps41 Try.results41 (by decide) ?_
 rintro args r ⟨a0, a1, a2, rfl, h⟩
 refine ⟨nle rfl, ?_, ?_⟩
 · exact (lsC (lo_TNet _) (lsC (lsL fun _ => (lsI _ _)) (lsC (lo_TSupply _) loose_nil)))
 rw [flow_CheckMeet_F.eq_1] at h
 refine HT_fr dCo rfl fun K hK => ?_; conv => whnf
 refine hK _ _ _ ?_; clear hK K
 refine HT_seq ?_
 refine HT_fr dCo rfl fun K hK => ?_; conv => whnf
 refine nlA rfl ?_; conv => whnf
 refine bKo rfl ?_; conv => whnf
 refine nlA rfl ?_; conv => whnf
 replace h := W_bd h
 refine flow_isSupply_call h68 h (WkL.refl _) (fun _ h => ?_); conv => whnf
 refine hK _ _ _ ?_; clear hK K
 refine HT_if fun K1 K2 hK1 hK2 => ?_; conv => whnf
 refine cond_lk h (fun _ h => ?_) (fun _ h => ?_)
 · refine hK1 ?_; clear hK1 hK2 K1 K2
   refine HT_fr dCo rfl fun K hK => ?_; conv => whnf
   refine hK _ _ _ ?_; clear hK K
   refine HT_ret ?_
   refine Then_r ?_
   replace h := W_some h
   refine PostP_r dCo fun K hK => ?_; conv => whnf
   refine hK _ ?_; clear hK K
   cases h
   exact Wk.refl _
 refine hK2 ?_; clear hK1 hK2 K1 K2
 refine HT_skip ?_
 refine Then_n ?_
 refine HT_seq ?_
 refine HT_fr dCo rfl fun K hK => ?_; conv => whnf
 refine nlA rfl ?_; conv => whnf
 refine bKo rfl ?_; conv => whnf
 refine getK_of rfl ?_; conv => whnf
 refine hK _ _ _ ?_; clear hK K
 refine HT_if fun K1 K2 hK1 hK2 => ?_; conv => whnf
 refine cond_lk h (fun _ h => ?_) (fun _ h => ?_)
 · refine hK1 ?_; clear hK1 hK2 K1 K2
   refine HT_fr dCo rfl fun K hK => ?_; conv => whnf
   refine nlA rfl ?_; conv => whnf
   refine bKo rfl ?_; conv => whnf
   refine nlA rfl ?_; conv => whnf
   refine nlA rfl ?_; conv => whnf
   refine bKo rfl ?_; conv => whnf
   refine getK_of rfl ?_; conv => whnf
   replace h := W_bd h
   refine flow_given_call h58 h (WkL.refl _) (fun _ h => ?_); conv => whnf
   refine hK _ _ _ ?_; clear hK K
   refine HT_fr dCo rfl fun K hK => ?_; conv => whnf
   replace h := W_jn h
   refine cond_lk h (fun _ h => ?_) (fun _ h => ?_) <;> (conv => whnf)
   · refine nlA rfl ?_; conv => whnf
     refine bKo rfl ?_; conv => whnf
     refine getK_of rfl ?_; conv => whnf
     refine cond_lk h (fun _ h => ?_) (fun _ h => ?_) <;> (conv => whnf)
     · replace h := W_bd h
       refine slices_Equal_int_call h70 h (WkL.refl _) (fun _ h => ?_); conv => whnf
       refine hK _ _ _ ?_; clear hK K
       refine HT_ret ?_
       refine Then_r ?_
       replace h := W_some h
       refine PostP_r dCo fun K hK => ?_; conv => whnf
       refine hK _ ?_; clear hK K
       cases h
       exact Wk.refl _
     refine hK _ _ _ ?_; clear hK K
     refine HT_ret ?_
     refine Then_r ?_
     replace h := W_some h
     refine PostP_r dCo fun K hK => ?_; conv => whnf
     refine hK _ ?_; clear hK K
     cases h
     exact Wk.refl _
   refine hK _ _ _ ?_; clear hK K
   refine HT_ret ?_
   refine Then_r ?_
   replace h := W_some h
   refine PostP_r dCo fun K hK => ?_; conv => whnf
   refine hK _ ?_; clear hK K
   cases h
   exact Wk.refl _
 refine hK2 ?_; clear hK1 hK2 K1 K2
 refine HT_skip ?_
 refine Then_n ?_
 refine HT_seq ?_
 refine HT_fd dCo mix_ok rfl (by kernel_rfl) fun K hK => ?_; conv => whnf
 replace h := W_jn h
 refine nlA rfl ?_; conv => whnf
 refine bKo rfl ?_; conv => whnf
 refine getK_of rfl ?_; conv => whnf
 refine cond_lk h (fun _ h => ?_) (fun _ h => ?_) <;> (conv => whnf)
 · refine hK _ _ _ ?_; clear hK K
   refine HT_if fun K1 K2 hK1 hK2 => ?_; conv => whnf
   refine hK1 ?_; clear hK1 hK2 K1 K2
   replace h := W_cnT h
   refine HT_fr dCo rfl fun K hK => ?_; conv => whnf
   refine hK _ _ _ ?_; clear hK K
   refine HT_ret ?_
   refine Then_r ?_
   replace h := W_some h
   refine PostP_r dCo fun K hK => ?_; conv => whnf
   refine hK _ ?_; clear hK K
   cases h
   exact Wk.refl _
 refine nlA rfl ?_; conv => whnf
 refine bKo rfl ?_; conv => whnf
 refine getK_of rfl ?_; conv => whnf
 refine nlA rfl ?_; conv => whnf
 refine bKo rfl ?_; conv => whnf
 refine getK_of rfl ?_; conv => whnf
 refine gd_lk h fun _ h => ?_; conv => whnf
 replace h := W_bd h
 refine flow_isIn_call h46 h (WkL.refl _) (fun _ h => ?_); conv => whnf
 refine hK _ _ _ ?_; clear hK K
 refine HT_if fun K1 K2 hK1 hK2 => ?_; conv => whnf
 refine cond_lk h (fun _ h => ?_) (fun _ h => ?_)
 · refine hK1 ?_; clear hK1 hK2 K1 K2
   refine HT_fr dCo rfl fun K hK => ?_; conv => whnf
   refine hK _ _ _ ?_; clear hK K
   refine HT_ret ?_
   refine Then_r ?_
   replace h := W_some h
   refine PostP_r dCo fun K hK => ?_; conv => whnf
   refine hK _ ?_; clear hK K
   cases h
   exact Wk.refl _
 refine hK2 ?_; clear hK1 hK2 K1 K2
 refine HT_skip ?_
 refine Then_n ?_
 refine HT_fr dCo rfl fun K hK => ?_; conv => whnf
 refine hK _ _ _ ?_; clear hK K
 refine HT_seq ?_
 refine HT_fr dCo rfl fun K hK => ?_; conv => whnf
 refine hK _ _ _ ?_; clear hK K
 refine HT_block ?_
 replace h := W_bd h
 refine HT_lpK (body := flow_CheckMeet_b1 _ _) rfl h [3, 5, 50, 51] [3, 5] [] (fun kl kh ids b s => ⟨ofL ([(9, eI s.1), (52, eI s.2)] ++ kl), ofH ([] ++ kh), b + 64⟩) ?_; (conv => whnf); refine And.intro ?_ (fun s m h => HT_st ?_)
 · refine weak_k ?_; conv => whnf
   exact And.intro rfl (And.intro (aLc wkI (aLc wkI (aLc (WkR.ptr (fun _ => rfl)) (aLc (WkR.ptr (fun _ => rfl)) (aLc (wkr (lsL fun _ => (lsI _ _))) (aLc wkI aLn)))))) (aLc ⟨some _, rfl, BkR_c rfl (cKc wkI (cKc (wkr (lsL fun _ => (lo_TEdge _))) cKn))⟩ (aLc ⟨some _, rfl, BkR_c rfl (cKc (wkr (lsB _)) (cKc (wkr (lsL fun _ => (lsI _ _))) (cKc wkI cKn)))⟩ aLn)))
 replace h := W_bflow_CheckMeet_b1 (W_bd h)
 refine HT_fr dCo rfl fun K hK => ?_; conv => whnf
 refine hK _ _ _ ?_; clear hK K
 refine HT_seq ?_
 refine HT_if fun K1 K2 hK1 hK2 => ?_; conv => whnf
 refine cond_lk h (fun _ h => ?_) (fun _ h => ?_)
 · refine hK1 ?_; clear hK1 hK2 K1 K2
   refine HT_skip ?_
   refine Then_n ?_
   refine HT_seq ?_
   refine HT_block ?_
   refine HT_fr dCo rfl fun K hK => ?_; conv => whnf
   refine ix_lk h fun _ h => ?_; conv => whnf
   refine getK_of rfl ?_; conv => whnf
   refine hK _ _ _ ?_; clear hK K
   refine HT_fr dCo rfl fun K hK => ?_; conv => whnf
   refine nlA rfl ?_; conv => whnf
   refine bKo rfl ?_; conv => whnf
   refine getK_of rfl ?_; conv => whnf
   refine gd_lk h fun _ h => ?_; conv => whnf
   refine hK _ _ _ ?_; clear hK K
   replace h := W_jn h
   refine HT_if fun K1 K2 hK1 hK2 => ?_; conv => whnf
   refine cond_lk h (fun _ h => ?_) (fun _ h => ?_)
   · refine hK1 ?_; clear hK1 hK2 K1 K2
     refine HT_f dCo rfl fun K hK => ?_; conv => whnf
     refine hK _ _ _ ?_; clear hK K
     refine InBlock_n ?_
     refine Then_n ?_
     refine HT_f dCo rfl fun K hK => ?_; conv => whnf
     refine hK _ _ _ ?_; clear hK K
     refine Then_n ?_
     replace h := W_xnx h
     refine ⟨_, h, ?_⟩
     refine weak_k ?_; conv => whnf
     exact And.intro rfl (And.intro (aLc wkI (aLc wkI (aLc (WkR.ptr (fun _ => rfl)) (aLc (WkR.ptr (fun _ => rfl)) (aLc (wkr (lsL fun _ => (lsI _ _))) (aLc wkI aLn)))))) (aLc ⟨some _, rfl, BkR_c rfl (cKc wkI (cKc (wkr (lsL fun _ => (lo_TEdge _))) cKn))⟩ (aLc ⟨some _, rfl, BkR_c rfl (cKc (wkr (lsB _)) (cKc (wkr (lsL fun _ => (lsI _ _))) (cKc wkI cKn)))⟩ aLn)))
   refine hK2 ?_; clear hK1 hK2 K1 K2
   refine HT_skip ?_
   refine InBlock_n ?_
   refine Then_n ?_
   refine HT_f dCo rfl fun K hK => ?_; conv => whnf
   refine hK _ _ _ ?_; clear hK K
   refine Then_n ?_
   replace h := W_xnx h
   refine ⟨_, h, ?_⟩
   refine weak_k ?_; conv => whnf
   exact And.intro rfl (And.intro (aLc wkI (aLc wkI (aLc (WkR.ptr (fun _ => rfl)) (aLc (WkR.ptr (fun _ => rfl)) (aLc (wkr (lsL fun _ => (lsI _ _))) (aLc wkI aLn)))))) (aLc ⟨some _, rfl, BkR_c rfl (cKc wkI (cKc (wkr (lsL fun _ => (lo_TEdge _))) cKn))⟩ (aLc ⟨some _, rfl, BkR_c rfl (cKc (wkr (lsB _)) (cKc (wkr (lsL fun _ => (lsI _ _))) (cKc wkI cKn)))⟩ aLn)))
 refine hK2 ?_; clear hK1 hK2 K1 K2
 refine HT_exit ?_
 refine Then_e ?_
 refine Then_e ?_
 refine InBlock_e ?_
 replace h := W_xbk h
 replace h := W_inl h
 refine Then_n ?_
 refine HT_fr dCo rfl fun K hK => ?_; conv => whnf
 refine nlA rfl ?_; conv => whnf
 refine bKo rfl ?_; conv => whnf
 refine nlA rfl ?_; conv => whnf
 refine nlA rfl ?_; conv => whnf
 refine bKo rfl ?_; conv => whnf
 refine getK_of rfl ?_; conv => whnf
 replace h := W_bd h
 refine flow_capacity_call h59 h (WkL.refl _) (fun _ h => ?_); conv => whnf
 refine hK _ _ _ ?_; clear hK K
 refine HT_ret ?_
 replace h := W_some h
 refine PostP_r dCo fun K hK => ?_; conv => whnf
 refine hK _ ?_; clear hK K
 cases h
 exact Wk.refl _
theorem flow_CheckMeet_call {T : Tbl} (hT : T 41 = pureR flow_CheckMeet_S) {args : List AV} {hp : Heap} {id : Nat} {k : AV → Prop} {a0 : TNet} {a1 : List Int} {a2 : TSupply} {Φ : Bool → Prop} (h : W (flow_CheckMeet_F a0 a1 a2) Φ) (hw : WkL args [eTNet a0, (eL 1 eI default) a1, eTSupply a2]) (hk : ∀ y, Φ y → k (eB y)) : callpK T 41 args hp id k := by
 obtain ⟨y, e, hy⟩ := W_inv h
 exact callpK_pure hT ⟨a0, a1, a2, rfl, W_of e rfl⟩ (by exact (lsB _)) hw (hk y hy)
end Go.Proofs.Ytgkmodjcoedonaa
namespace Go.Proofs.Ytgkmodjcoedonaa
open Go Go.Eng
set_option maxHeartbeats 0
set_option maxRecDepth 100000
def push_2_F (a0 : Int) (a1 : Int) (x0 : Int) (m0 : Ar 196) : Option Int := gd (0 ≤ a0 ∧ a0 < (14 : Int)) (gd (0 ≤ a1 ∧ a1 < (14 : Int)) (some (imin x0 (m0.at2 14 a0 a1))))
def push_2_S : List AV → List (List AV) → AV → List (List AV) → Prop := fun args bs r bs' => ∃ a0 a1 x0 m0 y, args = [eI a0, eI a1, .ptr 0 0, .ep [.ptr 1 0] 0] ∧ bs = [[eI x0], cA m0] ∧ push_2_F a0 a1 x0 m0 = some y ∧ r = .tup [] ∧ bs' = [[eI y], cA m0]
theorem push_2_ok {T : Tbl} (hT : TOk Try.prog T) (hpf : PfOk T PF) : FOk Try.prog 73 (blkF push_2_S) := by
 refine FOk_blkF hT hpf Try.func73 rfl Try.ntmps73 Try.results73 (by decide) ?_
 rintro args bs r bs' ⟨a0, a1, x0, m0, y, rfl, rfl, hF, rfl, rfl⟩
 refine ⟨nle rfl, rfl, (loose_tup loose_nil), (all2 (loose_1 _) (cA_loose _)), (all2 (loose_1 _) (cA_loose _)), ?_⟩
 have h : W (push_2_F a0 a1 x0 m0) (fun z => z = y) := W_of hF rfl
 rw [push_2_F.eq_1] at h
 refine HT_fD dCo mix_ok rfl (by kernel_rfl) fun K hK => ?_; conv => whnf
 refine nlA rfl ?_; conv => whnf
 refine bKo rfl ?_; conv => whnf
 refine getK_of rfl ?_; conv => whnf
 refine getK_of rfl ?_; conv => whnf
 refine gd_lk h fun hx3 h => ?_; conv => whnf
 refine gd_lk h fun hx4 h => ?_; conv => whnf
 refine nlA rfl ?_; conv => whnf
 refine bKo rfl ?_; conv => whnf
 refine get_ar2 (m := 14) rfl rfl hx3 hx4 ?_; conv => whnf
 refine bKo rfl ?_; conv => whnf
 refine And.intro rfl (And.intro (nle rfl) (And.intro rfl ?_)); conv => whnf
 refine hK _ _ _ ?_; clear hK K
 replace h := W_some h
 refine PostB_n dCo fun K hK => ?_; conv => whnf
 refine hK _ ?_; clear hK K
 cases h
 exact ⟨Wk.refl _, rfl, rfl, trivial⟩

   def push_3_F (a0 : Int) (a1 : Int) (x0 : Int) (m0 : Ar 196) : Option ((Ar 196)) := gd (0 ≤ a0 ∧ a0 < (14 : Int)) (gd (0 ≤ a1 ∧ a1 < (14 : Int)) (gd (0 ≤ a0 ∧ a0 < (14 : Int)) (gd (0 ≤ a1 ∧ a1 < (14 : Int)) (let m1 := m0.st2 14 a0 a1 (wr ((m0.at2 14 a0 a1) - x0));
   gd (0 ≤ a1 ∧ a1 < (14 : Int)) (gd (0 ≤ a0 ∧ a0 < (14 : Int)) (gd (0 ≤ a1 ∧ a1 < (14 : Int)) (gd (0 ≤ a0 ∧ a0 < (14 : Int)) (let m2 := m1.st2 14 a1 a0 (wr ((m1.at2 14 a1 a0) + x0));
   some m2))))))))
def push_3_S : List AV → List (List AV) → AV → List (List AV) → Prop := fun args bs r bs' => ∃ a0 a1 x0 m0 y, args = [eI a0, eI a1, .ep [.ptr 1 0] 0, .ptr 0 0] ∧ bs = [[eI x0], cA m0] ∧ push_3_F a0 a1 x0 m0 = some y ∧ r = .tup [] ∧ bs' = [[eI x0], cA y]
theorem push_3_ok {T : Tbl} (hT : TOk Try.prog T) (hpf : PfOk T PF) : FOk Try.prog 74 (blkF push_3_S) := by
 refine FOk_blkF hT hpf Try.func74 rfl Try.ntmps74 Try.results74 (by decide) ?_
 rintro args bs r bs' ⟨a0, a1, x0, m0, y, rfl, rfl, hF, rfl, rfl⟩
 refine ⟨nle rfl, rfl, (loose_tup loose_nil), (all2 (loose_1 _) (cA_loose _)), (all2 (loose_1 _) (cA_loose _)), ?_⟩
 have h : W (push_3_F a0 a1 x0 m0) (fun z => z = y) := W_of hF rfl
 rw [push_3_F.eq_1] at h
 refine HT_fd dCo mix_ok rfl (by kernel_rfl) fun K hK => ?_; conv => whnf
 refine getK_of rfl ?_; conv => whnf
 refine gd_lk h fun hx9 h => ?_; conv => whnf
 refine gd_lk h fun hx10 h => ?_; conv => whnf
 refine nlA rfl ?_; conv => whnf
 refine bKo rfl ?_; conv => whnf
 refine get_ar2 (m := 14) rfl rfl hx9 hx10 ?_; conv => whnf
 refine nlA rfl ?_; conv => whnf
 refine bKo rfl ?_; conv => whnf
 refine getK_of rfl ?_; conv => whnf
 refine gd_lk h fun hx11 h => ?_; conv => whnf
 refine gd_lk h fun hx12 h => ?_; conv => whnf
 refine bKo rfl ?_; conv => whnf
 refine st_ar2 (m := 14) rfl rfl hx11 hx12 rfl rfl ?_; conv => whnf
 refine hK _ _ _ ?_; clear hK K
 refine HT_fD dCo mix_ok rfl (by kernel_rfl) fun K hK => ?_; conv => whnf
 refine getK_of rfl ?_; conv => whnf
 refine gd_lk h fun hx13 h => ?_; conv => whnf
 refine gd_lk h fun hx14 h => ?_; conv => whnf
 refine nlA rfl ?_; conv => whnf
 refine bKo rfl ?_; conv => whnf
 refine get_ar2 (m := 14) rfl rfl hx13 hx14 ?_; conv => whnf
 refine nlA rfl ?_; conv => whnf
 refine bKo rfl ?_; conv => whnf
 refine getK_of rfl ?_; conv => whnf
 refine gd_lk h fun hx15 h => ?_; conv => whnf
 refine gd_lk h fun hx16 h => ?_; conv => whnf
 refine bKo rfl ?_; conv => whnf
 refine st_ar2 (m := 14) rfl rfl hx15 hx16 rfl rfl ?_; conv => whnf
 refine hK _ _ _ ?_; clear hK K
 replace h := W_some h
 refine PostB_n dCo fun K hK => ?_; conv => whnf
 refine hK _ ?_; clear hK K
 cases h
 exact ⟨Wk.refl _, rfl, rfl, trivial⟩
end Go.Proofs.Ytgkmodjcoedonaa
namespace Go.Proofs.Ytgkmodjcoedonaa
open Go Go.Eng
set_option maxHeartbeats 0
set_option maxRecDepth 100000
def push_1a_b1 (c2 : Int) (c3 : Ar 14) (m0 : Ar 196) (s1 : Int × Int) : Option (Ct (Int × Int) Int) := cn (s1.1 !=
   c2) (gd (0 ≤ s1.1 ∧ s1.1 < (14 : Int)) (bd (push_2_F (wr ((c3.at1 s1.1) - 1)) s1.1 s1.2 m0) fun y2 =>
   gd (0 ≤ s1.1 ∧ s1.1 < (14 : Int)) (some (.nx ((wr ((c3.at1 s1.1) - 1)), y2))))) (some (.bk (s1.1, s1.2)))
theorem W_bpush_1a_b1 {c2 : Int} {c3 : Ar 14} {m0 : Ar 196} {s1 : Int × Int} {Φ : Ct (Int × Int) Int → Prop} (h : W (push_1a_b1 c2 c3 m0 s1) Φ) : W (cn (s1.1 != c2) (gd (0 ≤ s1.1 ∧ s1.1 < (14 : Int)) (bd (push_2_F (wr ((c3.at1 s1.1) - 1)) s1.1 s1.2 m0) fun y2 =>
   gd (0 ≤ s1.1 ∧ s1.1 < (14 : Int)) (some (.nx ((wr ((c3.at1 s1.1) - 1)), y2))))) (some (.bk (s1.1, s1.2)))) Φ := h
def push_1a_F (c1 : Int) (c2 : Int) (c3 : Ar 14) (x0 : Int) (m0 : Ar 196) : Option Int := bd (lp (push_1a_b1 c2 c3 m0) FU (c1, x0)) fun c3 => smK c3 (fun s4 => some s4.2) (fun r5 =>
   some r5)
def push_1a_S : List AV → List (List AV) → AV → List (List AV) → Prop := fun args bs r bs' => ∃ c1 c2 c3 x0 m0 y, args = [.fn 73 [] [.ptr 0 0, .ep [.ptr 1 0] 0], .ep [eI c1] 0, .ep [eI c2] 0, .ep (cA c3) 0] ∧ bs = [[eI x0], cA m0] ∧ push_1a_F c1 c2 c3 x0 m0 = some y ∧ r = .tup [] ∧ bs' = [[eI y], cA m0]
theorem push_1a_okv {T : Tbl} (hT : TOk Try.prog T) (hpf : PfOk T PF) (h73 : T 73 = blkF push_2_S) :  FOk Try.prog 72 (blkF push_1a_S) := by
 refine FOk_blkF hT hpf Try.func72 rfl Try.ntmps72 Try.results72 (by decide) ?_
 rintro args bs r bs' ⟨c1, c2, c3, x0, m0, y, rfl, rfl, hF, rfl, rfl⟩
 refine ⟨nle rfl, rfl, (loose_tup loose_nil), (all2 (loose_1 _) (cA_loose _)), (all2 (loose_1 _) (cA_loose _)), ?_⟩
 have h : W (push_1a_F c1 c2 c3 x0 m0) (fun z => z = y) := W_of hF rfl
 rw [push_1a_F.eq_1] at h
 refine HT_fr dCo rfl fun K hK => ?_; conv => whnf
 refine getK_of rfl ?_; conv => whnf
 refine hK _ _ _ ?_; clear hK K
 refine HT_block ?_
 replace h := W_bd h
 refine HT_lpQ (body := push_1a_b1 _ _ _) rfl h [0, 2, 3] (fun σ => keepH σ [] ++ keepT σ []) (fun σ => keepT σ [] ++ keepH σ [] ++ keepN σ [1]) [] (fun kl kh kr ids b s => ⟨ofL ([(5, eI s.1)] ++ kl), ofH (([(0, .cells ([eI s.2]))] ++ kh) ++ ([] ++ kr)), b + 64⟩) ?_; (conv => whnf); refine And.intro ?_ (fun s m h => HT_st ?_)
 · refine weak_r ?_; conv => whnf
   exact And.intro rfl (And.intro (aLc wkI (aLc (WkR_fn VsR_nil (VsR_cons (WkR.ptr (fun _ => rfl)) (VsR_cons (WkR_ep (VsR_cons (WkR.ptr (fun _ => rfl)) VsR_nil)) VsR_nil))) (aLc (wkr (loose_ep (lsC (lsI _ _) loose_nil))) (aLc (wkr (loose_ep (cA_loose _))) aLn)))) (aLc ⟨some _, rfl, BkR_c rfl (cKc wkI cKn)⟩ (aLc ⟨some _, rfl, BkR_arr rfl rfl⟩ aLn)))
 replace h := W_bpush_1a_b1 (W_bd h)
 refine HT_seq ?_
 refine HT_fr dCo rfl fun K hK => ?_; conv => whnf
 refine getK_of rfl ?_; conv => whnf
 refine hK _ _ _ ?_; clear hK K
 refine HT_if fun K1 K2 hK1 hK2 => ?_; conv => whnf
 refine cond_lk h (fun _ h => ?_) (fun _ h => ?_)
 · refine hK1 ?_; clear hK1 hK2 K1 K2
   refine HT_skip ?_
   refine Then_n ?_
   refine HT_seq ?_
   refine HT_block ?_
   refine HT_f dCo rfl fun K hK => ?_; conv => whnf
   refine gd_lk h fun hx32 h => ?_; conv => whnf
   refine get_ar1 rfl hx32 ?_; conv => whnf
   refine callsK_blkF (bs := [_, _]) (args0 := [_, _, .ptr 0 0, .ep [.ptr 1 0] 0]) h73 [_, _] h (.cons (WkA_wk (Wk.refl _) (lsI _ _)) (.cons (WkA_wk (Wk.refl _) (lsI _ _)) (.cons (WkA_ptr rfl) (.cons (WkA_ep (VsA_cons (WkA_ptr rfl) VsA_nil)) .nil)))) ⟨rfl, rfl, trivial⟩ rfl (nle rfl) (fun y e => (⟨_, _, _, _, _, rfl, rfl, e, rfl, rfl⟩ : push_2_S _ _ _ _)) (fun _ h => ?_); conv => whnf
   refine hK _ _ _ ?_; clear hK K
   refine InBlock_n ?_
   refine Then_n ?_
   refine HT_f dCo rfl fun K hK => ?_; conv => whnf
   refine gd_lk h fun hx33 h => ?_; conv => whnf
   refine get_ar1 rfl hx33 ?_; conv => whnf
   refine hK _ _ _ ?_; clear hK K
   refine Then_n ?_
   replace h := W_xnx h
   refine ⟨_, h, ?_⟩
   refine weak_r ?_; conv => whnf
   exact And.intro rfl (And.intro (aLc wkI (aLc (WkR_fn VsR_nil (VsR_cons (WkR.ptr (fun _ => rfl)) (VsR_cons (WkR_ep (VsR_cons (WkR.ptr (fun _ => rfl)) VsR_nil)) VsR_nil))) (aLc (wkr (loose_ep (lsC (lsI _ _) loose_nil))) (aLc (wkr (loose_ep (cA_loose _))) aLn)))) (aLc ⟨some _, rfl, BkR_c rfl (cKc wkI cKn)⟩ (aLc ⟨some _, rfl, BkR_arr rfl rfl⟩ aLn)))
 refine hK2 ?_; clear hK1 hK2 K1 K2
 refine HT_exit ?_
 refine Then_e ?_
 refine Then_e ?_
 refine InBlock_e ?_
 replace h := W_xbk h
 replace h := W_inl h
 replace h := W_some h
 refine PostB_n dCo fun K hK => ?_; conv => whnf
 refine hK _ ?_; clear hK K
 cases h
 exact ⟨Wk.refl _, rfl, rfl, trivial⟩
def push_1b_b1 (c2 : Int) (c3 : Ar 14) (x0 : Int) (s1 : Int × (Ar 196)) : Option (Ct (Int × (Ar 196)) ((Ar 196))) := cn (s1.1 !=
   c2) (gd (0 ≤ s1.1 ∧ s1.1 < (14 : Int)) (bd (push_3_F (wr ((c3.at1 s1.1) - 1)) s1.1 x0 s1.2) fun y2 =>
   gd (0 ≤ s1.1 ∧ s1.1 < (14 : Int)) (some (.nx ((wr ((c3.at1 s1.1) - 1)), y2))))) (some (.bk (s1.1, s1.2)))
theorem W_bpush_1b_b1 {c2 : Int} {c3 : Ar 14} {x0 : Int} {s1 : Int × (Ar 196)} {Φ : Ct (Int × (Ar 196)) ((Ar 196)) → Prop} (h : W (push_1b_b1 c2 c3 x0 s1) Φ) : W (cn (s1.1 != c2) (gd (0 ≤ s1.1 ∧ s1.1 < (14 : Int)) (bd (push_3_F (wr ((c3.at1 s1.1) - 1)) s1.1 x0 s1.2) fun y2 =>
   gd (0 ≤ s1.1 ∧ s1.1 < (14 : Int)) (some (.nx ((wr ((c3.at1 s1.1) - 1)), y2))))) (some (.bk (s1.1, s1.2)))) Φ := h
def push_1b_F (c1 : Int) (c2 : Int) (c3 : Ar 14) (x0 : Int) (m0 : Ar 196) : Option ((Ar 196)) := bd (lp (push_1b_b1 c2 c3 x0) FU (c1, m0)) fun c3 => smK c3 (fun s4 =>
   some s4.2) (fun r5 => some r5)
def push_1b_S : List AV → List (List AV) → AV → List (List AV) → Prop := fun args bs r bs' => ∃ c1 c2 c3 x0 m0 y, args = [.fn 74 [] [.ep [.ptr 1 0] 0, .ptr 0 0], .ep [eI c1] 0, .ep [eI c2] 0, .ep (cA c3) 0] ∧ bs = [[eI x0], cA m0] ∧ push_1b_F c1 c2 c3 x0 m0 = some y ∧ r = .tup [] ∧ bs' = [[eI x0], cA y]
theorem push_1b_okv {T : Tbl} (hT : TOk Try.prog T) (hpf : PfOk T PF) (h74 : T 74 = blkF push_3_S) :  FOk Try.prog 72 (blkF push_1b_S) := by
 refine FOk_blkF hT hpf Try.func72 rfl Try.ntmps72 Try.results72 (by decide) ?_
 rintro args bs r bs' ⟨c1, c2, c3, x0, m0, y, rfl, rfl, hF, rfl, rfl⟩
 refine ⟨nle rfl, rfl, (loose_tup loose_nil), (all2 (loose_1 _) (cA_loose _)), (all2 (loose_1 _) (cA_loose _)), ?_⟩
 have h : W (push_1b_F c1 c2 c3 x0 m0) (fun z => z = y) := W_of hF rfl
 rw [push_1b_F.eq_1] at h
 refine HT_fr dCo rfl fun K hK => ?_; conv => whnf
 refine getK_of rfl ?_; conv => whnf
 refine hK _ _ _ ?_; clear hK K
 refine HT_block ?_
 replace h := W_bd h
 refine HT_lpQ (body := push_1b_b1 _ _ _) rfl h [0, 2, 3] (fun σ => keepN σ [0] ++ keepH σ [] ++ keepT σ []) (fun σ => keepT σ [] ++ keepH σ [] ++ keepN σ []) [] (fun kl kh kr ids b s => ⟨ofL ([(5, eI s.1)] ++ kl), ofH (([] ++ kh) ++ ([(1, .cells (cA s.2))] ++ kr)), b + 128⟩) ?_; (conv => whnf); refine And.intro ?_ (fun s m h => HT_st ?_)
 · refine weak_r ?_; conv => whnf
   exact And.intro rfl (And.intro (aLc wkI (aLc (WkR_fn VsR_nil (VsR_cons (WkR_ep (VsR_cons (WkR.ptr (fun _ => rfl)) VsR_nil)) (VsR_cons (WkR.ptr (fun _ => rfl)) VsR_nil))) (aLc (wkr (loose_ep (lsC (lsI _ _) loose_nil))) (aLc (wkr (loose_ep (cA_loose _))) aLn)))) (aLc ⟨some _, rfl, BkR_c rfl (cKc wkI cKn)⟩ (aLc ⟨some _, rfl, BkR_arr rfl rfl⟩ aLn)))
 replace h := W_bpush_1b_b1 (W_bd h)
 refine HT_seq ?_
 refine HT_fr dCo rfl fun K hK => ?_; conv => whnf
 refine getK_of rfl ?_; conv => whnf
 refine hK _ _ _ ?_; clear hK K
 refine HT_if fun K1 K2 hK1 hK2 => ?_; conv => whnf
 refine cond_lk h (fun _ h => ?_) (fun _ h => ?_)
 · refine hK1 ?_; clear hK1 hK2 K1 K2
   refine HT_skip ?_
   refine Then_n ?_
   refine HT_seq ?_
   refine HT_block ?_
   refine HT_f dCo rfl fun K hK => ?_; conv => whnf
   refine gd_lk h fun hx32 h => ?_; conv => whnf
   refine get_ar1 rfl hx32 ?_; conv => whnf
   refine callsK_blkF (bs := [_, _]) (args0 := [_, _, .ep [.ptr 1 0] 0, .ptr 0 0]) h74 [_, _] h (.cons (WkA_wk (Wk.refl _) (lsI _ _)) (.cons (WkA_wk (Wk.refl _) (lsI _ _)) (.cons (WkA_ep (VsA_cons (WkA_ptr rfl) VsA_nil)) (.cons (WkA_ptr rfl) .nil)))) ⟨rfl, rfl, trivial⟩ rfl (nle rfl) (fun y e => (⟨_, _, _, _, _, rfl, rfl, e, rfl, rfl⟩ : push_3_S _ _ _ _)) (fun _ h => ?_); conv => whnf
   refine hK _ _ _ ?_; clear hK K
   refine InBlock_n ?_
   refine Then_n ?_
   refine HT_f dCo rfl fun K hK => ?_; conv => whnf
   refine gd_lk h fun hx33 h => ?_; conv => whnf
   refine get_ar1 rfl hx33 ?_; conv => whnf
   refine hK _ _ _ ?_; clear hK K
   refine Then_n ?_
   replace h := W_xnx h
   refine ⟨_, h, ?_⟩
   refine weak_r ?_; conv => whnf
   exact And.intro rfl (And.intro (aLc wkI (aLc (WkR_fn VsR_nil (VsR_cons (WkR_ep (VsR_cons (WkR.ptr (fun _ => rfl)) VsR_nil)) (VsR_cons (WkR.ptr (fun _ => rfl)) VsR_nil))) (aLc (wkr (loose_ep (lsC (lsI _ _) loose_nil))) (aLc (wkr (loose_ep (cA_loose _))) aLn)))) (aLc ⟨some _, rfl, BkR_c rfl (cKc wkI cKn)⟩ (aLc ⟨some _, rfl, BkR_arr rfl rfl⟩ aLn)))
 refine hK2 ?_; clear hK1 hK2 K1 K2
 refine HT_exit ?_
 refine Then_e ?_
 refine Then_e ?_
 refine InBlock_e ?_
 replace h := W_xbk h
 replace h := W_inl h
 replace h := W_some h
 refine PostB_n dCo fun K hK => ?_; conv => whnf
 refine hK _ ?_; clear hK K
 cases h
 exact ⟨Wk.refl _, rfl, rfl, trivial⟩
def push_1_S : List AV → List (List AV) → AV → List (List AV) → Prop := fun a b c d => push_1a_S a b c d ∨ push_1b_S a b c d
theorem push_1_ok {T : Tbl} (hT : TOk Try.prog T) (hpf : PfOk T PF) (h73 : T 73 = blkF push_2_S) (h74 : T 74 = blkF push_3_S) : FOk Try.prog 72 (blkF push_1_S) := (blkF_or (push_1a_okv hT hpf h73) (push_1b_okv hT hpf h74))
end Go.Proofs.Ytgkmodjcoedonaa
namespace Go.Proofs.Ytgkmodjcoedonaa
open Go Go.Eng
set_option maxHeartbeats 0
set_option maxRecDepth 100000

   def push_b4 (s19 : (List Int) × (Ar 14)) (s21 : Int × Int) : Option (Ct (Int × Int) (Int × Int × (Ar 196))) := cn (decide (s21.2 < 14)) (gd (0 ≤ s21.2 ∧ s21.2 < (14 : Int)) (jn (fun p22 : Int =>
   some (.nx (p22, (wr (s21.2 + 1))))) fun k23 => cn (decide ((s19.2.at1 s21.2) > 0)) (gd (0 ≤ s21.2) (let v24 := (bor .i64 s21.1 (bshl .i64 1 s21.2));
   k23 v24)) (k23 s21.1))) (some (.bk (s21.1, s21.2)))
theorem W_bpush_b4 {s19 : (List Int) × (Ar 14)} {s21 : Int × Int} {Φ : Ct (Int × Int) (Int × Int × (Ar 196)) → Prop} (h : W (push_b4 s19 s21) Φ) : W (cn (decide (s21.2 < 14)) (gd (0 ≤ s21.2 ∧ s21.2 < (14 : Int)) (jn (fun p22 : Int => some (.nx (p22, (wr (s21.2 + 1))))) fun k23 => cn (decide ((s19.2.at1 s21.2) >
   0)) (gd (0 ≤ s21.2) (let v24 := (bor .i64 s21.1 (bshl .i64 1 s21.2)); k23 v24)) (k23 s21.1))) (some (.bk (s21.1, s21.2)))) Φ := h

   def push_b3 (a2 : Int) (e5 : Int) (s1 : Int × Int × (Ar 196)) (s7 : (List Int) × Int × (Ar 14)) : Option (Ct ((List Int) × Int × (Ar 14)) ((List Int) × Int × (Ar 14))) := cn (decide (s7.2.1 < 14)) (jn (fun p8 : (List Int) × (Ar 14) =>
   some (.nx (p8.1, (wr (s7.2.1 + 1)), p8.2))) fun k9 => jn (fun p10 : Bool =>
   cn p10 (k9 (s7.1, s7.2.2)) (gd (0 ≤ s7.2.1 ∧ s7.2.1 < (14 : Int)) (let m12 := s7.2.2.st1 s7.2.1 (wr (e5 + 1)); cn (s7.2.1 ==
   a2) (some (.rt (s7.1, s7.2.1, m12))) (lt ([s7.2.1] : List Int) fun l13 => ap s7.1 l13 fun l14 => k9 (l14, m12))))) fun k11 =>
   gd (0 ≤ s7.2.1 ∧ s7.2.1 < (14 : Int)) (cn (decide ((s7.2.2.at1 s7.2.1) >
   0)) (k11 true) (gd (0 ≤ e5 ∧ e5 < (14 : Int)) (gd (0 ≤ s7.2.1 ∧ s7.2.1 < (14 : Int)) (k11 ((s1.2.2.at2 14 e5 s7.2.1) == 0)))))) (some (.bk (s7.1, s7.2.1, s7.2.2)))
theorem W_bpush_b3 {a2 : Int} {e5 : Int} {s1 : Int × Int × (Ar 196)} {s7 : (List Int) × Int × (Ar 14)} {Φ : Ct ((List Int) × Int × (Ar 14)) ((List Int) × Int × (Ar 14)) → Prop} (h : W (push_b3 a2 e5 s1 s7) Φ) : W (cn (decide (s7.2.1 < 14)) (jn (fun p8 : (List Int) × (Ar 14) => some (.nx (p8.1, (wr (s7.2.1 + 1)), p8.2))) fun k9 => jn (fun p10 : Bool =>
   cn p10 (k9 (s7.1, s7.2.2)) (gd (0 ≤ s7.2.1 ∧ s7.2.1 < (14 : Int)) (let m12 := s7.2.2.st1 s7.2.1 (wr (e5 + 1)); cn (s7.2.1 ==
   a2) (some (.rt (s7.1, s7.2.1, m12))) (lt ([s7.2.1] : List Int) fun l13 => ap s7.1 l13 fun l14 => k9 (l14, m12))))) fun k11 =>
   gd (0 ≤ s7.2.1 ∧ s7.2.1 < (14 : Int)) (cn (decide ((s7.2.2.at1 s7.2.1) >
   0)) (k11 true) (gd (0 ≤ e5 ∧ e5 < (14 : Int)) (gd (0 ≤ s7.2.1 ∧ s7.2.1 < (14 : Int)) (k11 ((s1.2.2.at2 14 e5 s7.2.1) == 0)))))) (some (.bk (s7.1, s7.2.1, s7.2.2)))) Φ := h
def push_b2 (a2 : Int) (s1 : Int × Int × (Ar 196)) (s4 : (List Int) × (Ar 14)) : Option (Ct ((List Int) × (Ar 14)) (Int × Int × (Ar 196))) := cn (decide ((s4.1.length : Int) >
   0)) (ix s4.1 default 0 fun e5 => slc s4.1 1 (s4.1.length : Int) fun l6 => bd (lp (push_b3 a2 e5 s1) FU (l6, 0, s4.2)) fun c15 => smK c15 (fun s16 =>
   some (.nx (s16.1, s16.2.2))) (fun r17 => some (.bk (r17.1, r17.2.2)))) (some (.bk (s4.1, s4.2)))
theorem W_bpush_b2 {a2 : Int} {s1 : Int × Int × (Ar 196)} {s4 : (List Int) × (Ar 14)} {Φ : Ct ((List Int) × (Ar 14)) (Int × Int × (Ar 196)) → Prop} (h : W (push_b2 a2 s1 s4) Φ) : W (cn (decide ((s4.1.length : Int) > 0)) (ix s4.1 default 0 fun e5 => slc s4.1 1 (s4.1.length : Int) fun l6 => bd (lp (push_b3 a2 e5 s1) FU (l6, 0, s4.2)) fun c15 =>
   smK c15 (fun s16 => some (.nx (s16.1, s16.2.2))) (fun r17 => some (.bk (r17.1, r17.2.2)))) (some (.bk (s4.1, s4.2)))) Φ := h
def push_b1 (a1 : Int) (a2 : Int) (s1 : Int × Int × (Ar 196)) : Option (Ct (Int × Int × (Ar 196)) (Int × Int × (Ar 196))) := lt ([a1] : List Int) fun l2 =>
   gd (0 ≤ a1 ∧ a1 < (14 : Int)) (let m3 := (Ar.zero 14).st1 a1 (wr (a1 + 1)); bd (lp (push_b2 a2 s1) FU (l2, m3)) fun c18 => smK c18 (fun s19 =>
   gd (0 ≤ a2 ∧ a2 < (14 : Int)) (cn ((s19.2.at1 a2) == 0) (bd (lp (push_b4 s19) FU (s1.2.1, 0)) fun c25 => smK c25 (fun s26 => some (.rt (s1.1, s26.1, s1.2.2))) (fun r27 =>
   some (.rt r27))) (bd (push_1a_F a2 a1 s19.2 4611686018427387903 s1.2.2) fun y28 => bd (push_1b_F a2 a1 s19.2 y28 s1.2.2) fun y29 =>
   some (.nx ((wr (s1.1 + y28)), s1.2.1, y29))))) (fun r20 => some (.rt r20)))
theorem W_bpush_b1 {a1 : Int} {a2 : Int} {s1 : Int × Int × (Ar 196)} {Φ : Ct (Int × Int × (Ar 196)) (Int × Int × (Ar 196)) → Prop} (h : W (push_b1 a1 a2 s1) Φ) : W (lt ([a1] : List Int) fun l2 => gd (0 ≤ a1 ∧ a1 < (14 : Int)) (let m3 := (Ar.zero 14).st1 a1 (wr (a1 + 1)); bd (lp (push_b2 a2 s1) FU (l2, m3)) fun c18 => smK c18 (fun s19 =>
   gd (0 ≤ a2 ∧ a2 < (14 : Int)) (cn ((s19.2.at1 a2) == 0) (bd (lp (push_b4 s19) FU (s1.2.1, 0)) fun c25 => smK c25 (fun s26 => some (.rt (s1.1, s26.1, s1.2.2))) (fun r27 =>
   some (.rt r27))) (bd (push_1a_F a2 a1 s19.2 4611686018427387903 s1.2.2) fun y28 => bd (push_1b_F a2 a1 s19.2 y28 s1.2.2) fun y29 =>
   some (.nx ((wr (s1.1 + y28)), s1.2.1, y29))))) (fun r20 => some (.rt r20)))) Φ := h
def push_F (a1 : Int) (a2 : Int) (m0 : Ar 196) : Option (Int × Int × (Ar 196)) := bd (lp (push_b1 a1 a2) FU (0, 0, m0)) fun c30 => smK c30 (fun s31 => none) (fun r32 => some r32)
def push_S : List AV → List (List AV) → AV → List (List AV) → Prop := fun args bs r bs' => ∃ a1 a2 m0 y, args = [.ptr 0 0, eI a1, eI a2] ∧ bs = [cA m0] ∧ push_F a1 a2 m0 = some y ∧ r = .tup [eI y.1, eI y.2.1] ∧ bs' = [cA y.2.2]
theorem push_ok {T : Tbl} (hT : TOk Try.prog T) (hpf : PfOk T PF) (h72 : T 72 = blkF push_1_S) : FOk Try.prog 52 (blkF push_S) := by
 refine FOk_blkF hT hpf Try.func52 rfl Try.ntmps52 Try.results52 (by decide) ?_
 rintro args bs r bs' ⟨a1, a2, m0, y, rfl, rfl, hF, rfl, rfl⟩
 refine ⟨nle rfl, rfl, (loose_tup (lsC (lsI _ _) (lsC (lsI _ _) loose_nil))), (all1 (cA_loose _)), (all1 (cA_loose _)), ?_⟩
 have h : W (push_F a1 a2 m0) (fun z => z = y) := W_of hF rfl
 rw [push_F.eq_1] at h
 refine HT_fr dCo rfl fun K hK => ?_; conv => whnf
 refine hK _ _ _ ?_; clear hK K
 refine HT_block ?_
 refine HT_frzK 3 ?_; (conv => whnf); refine ⟨_, rfl, ?_⟩
 refine HT_frzK 4 ?_; (conv => whnf); refine ⟨_, rfl, ?_⟩
 refine HT_frzK 5 ?_; (conv => whnf); refine ⟨_, rfl, ?_⟩
 replace h := W_bd h
 refine HT_lpR (body := push_b1 _ _) rfl h [3, 4, 5] [] [] [] (fun kl kh kr ids b s => ⟨ofL ([(6, eI s.1), (7, eI s.2.1)] ++ kl), ofH (([] ++ kh) ++ ([(0, .cells (cA s.2.2))] ++ kr)), b + 128⟩) ?_; (conv => whnf); refine And.intro ?_ (fun s m h => HT_st ?_)
 · refine weak_r ?_; conv => whnf
   exact And.intro rfl (And.intro (aLc wkI (aLc wkI (aLc (WkR_ep (VsR_cons (WkR.ptr (fun _ => rfl)) VsR_nil)) (aLc (wkr (loose_ep (lsC (lsI _ _) loose_nil))) (aLc (wkr (loose_ep (lsC (lsI _ _) loose_nil))) aLn))))) (aLc ⟨some _, rfl, BkR_arr rfl rfl⟩ aLn))
 replace h := W_bpush_b1 (W_bd h)
 refine HT_block ?_
 refine HT_scope ?_
 refine HT_fr dCo rfl fun K hK => ?_; conv => whnf
 refine hK _ _ _ ?_; clear hK K
 refine HT_fr dCo rfl fun K hK => ?_; conv => whnf
 refine getK_of rfl ?_; conv => whnf
 refine lt_lk (enc := eI) (d := default) dCo h rfl rfl rfl ⟨nle rfl, nle rfl, rfl⟩ rfl ⟨⟨rfl, rfl, rfl⟩, trivial⟩ (fun h => ?_); conv => whnf
 refine hK _ _ _ ?_; clear hK K
 refine HT_fr dCo rfl fun K hK => ?_; conv => whnf
 refine getK_of rfl ?_; conv => whnf
 refine getK_of rfl ?_; conv => whnf
 refine gd_lk h fun hx9361 h => ?_; conv => whnf
 refine bKo rfl ?_; conv => whnf
 refine st_ar1 (x := (Ar.zero 14)) rfl hx9361 rfl rfl ?_; conv => whnf
 refine hK _ _ _ ?_; clear hK K
 refine HT_seq ?_
 refine HT_label ?_
 refine Then_n ?_
 refine HT_seq ?_
 refine HT_block ?_
 replace h := W_bd h
 refine HT_lpQ (body := push_b2 _ _) rfl h [3, 4, 5, 6, 7, 8] (fun σ => keepH σ [] ++ keepT σ []) (fun σ => keepT σ [] ++ keepH σ [] ++ keepN σ [0]) [8] (fun kl kh kr ids b s => ⟨ofL ([(9, .lst (.tok (b + 0)) 1 s.1.length (fun j => eI (s.1.getD j default)))] ++ kl), ofH (([(b + 0, .cells [])] ++ kh) ++ ([(nthN ids 0, .cells (cA s.2))] ++ kr)), b + 192⟩) ?_; (conv => whnf); refine And.intro ?_ (fun s m h => HT_st ?_)
 · refine weak_r ?_; conv => whnf
   exact And.intro rfl (And.intro (aLc (WkR.cap (fun _ => rfl) rfl (fun _ _ => Wk.refl _) (fun _ => (lsI _ _))) (aLc (WkR_ep (VsR_cons (WkR.ptr (fun _ => rfl)) VsR_nil)) (aLc (wkr (loose_ep (lsC (lsI _ _) loose_nil))) (aLc (wkr (loose_ep (lsC (lsI _ _) loose_nil))) (aLc wkI (aLc wkI (aLc (WkR.ptr (fun _ => rfl)) aLn))))))) (aLc ⟨none, rfl, BkR_n⟩ (aLc ⟨some _, rfl, BkR_arr rfl rfl⟩ (aLc ⟨some _, rfl, BkR_arr rfl rfl⟩ aLn))))
 replace h := W_bpush_b2 (W_bd h)
 refine HT_seq ?_
 refine HT_fr dCo rfl fun K hK => ?_; conv => whnf
 refine hK _ _ _ ?_; clear hK K
 refine HT_if fun K1 K2 hK1 hK2 => ?_; conv => whnf
 refine cond_lk h (fun _ h => ?_) (fun _ h => ?_)
 · refine hK1 ?_; clear hK1 hK2 K1 K2
   refine HT_skip ?_
   refine Then_n ?_
   refine HT_block ?_
   refine HT_fr dCo rfl fun K hK => ?_; conv => whnf
   refine ix_lk h fun _ h => ?_; conv => whnf
   refine getK_of rfl ?_; conv => whnf
   refine hK _ _ _ ?_; clear hK K
   refine HT_fr dCo rfl fun K hK => ?_; conv => whnf
   refine sl_lkT h (.inr ⟨_, rfl⟩) (fun h => ?_); conv => whnf
   refine hK _ _ _ ?_; clear hK K
   refine HT_fr dCo rfl fun K hK => ?_; conv => whnf
   refine hK _ _ _ ?_; clear hK K
   refine HT_block ?_
   replace h := W_bd h
   refine HT_lpQ (body := push_b3 _ _ _) rfl h [3, 4, 5, 6, 7, 8, 10] (fun σ => keepH σ [] ++ keepT σ []) (fun σ => keepT σ [] ++ keepH σ [] ++ keepN σ [0]) [8] (fun kl kh kr ids b s => ⟨ofL ([(9, .lst (.tok (b + 0)) 1 s.1.length (fun j => eI (s.1.getD j default))), (30, eI s.2.1)] ++ kl), ofH (([(b + 0, .cells [])] ++ kh) ++ ([(nthN ids 0, .cells (cA s.2.2))] ++ kr)), b + 192⟩) ?_; (conv => whnf); refine And.intro ?_ (fun s m h => HT_st ?_)
   · refine weak_r ?_; conv => whnf
     exact And.intro rfl (And.intro (aLc (WkR.tok (fun _ => rfl) rfl (fun _ _ => Wk.refl _) (fun _ => (lsI _ _))) (aLc wkI (aLc (WkR_ep (VsR_cons (WkR.ptr (fun _ => rfl)) VsR_nil)) (aLc (wkr (loose_ep (lsC (lsI _ _) loose_nil))) (aLc (wkr (loose_ep (lsC (lsI _ _) loose_nil))) (aLc wkI (aLc wkI (aLc (WkR.ptr (fun _ => rfl)) (aLc wkI aLn))))))))) (aLc ⟨some _, rfl, BkR_c rfl cKn⟩ (aLc ⟨some _, rfl, BkR_arr rfl rfl⟩ (aLc ⟨some _, rfl, BkR_arr rfl rfl⟩ aLn))))
   replace h := W_bpush_b3 (W_bd h)
   refine HT_fr dCo rfl fun K hK => ?_; conv => whnf
   refine hK _ _ _ ?_; clear hK K
   refine HT_seq ?_
   refine HT_if fun K1 K2 hK1 hK2 => ?_; conv => whnf
   refine cond_lk h (fun _ h => ?_) (fun _ h => ?_)
   · refine hK1 ?_; clear hK1 hK2 K1 K2
     refine HT_skip ?_
     refine Then_n ?_
     refine HT_seq ?_
     replace h := W_jn h
     refine HT_block ?_
     refine HT_fr dCo rfl fun K hK => ?_; conv => whnf
     refine hK _ _ _ ?_; clear hK K
     refine HT_seq ?_
     refine HT_fr dCo rfl fun K hK => ?_; conv => whnf
     replace h := W_jn h
     refine gd_lk h fun hx10226 h => ?_; conv => whnf
     refine nlA rfl ?_; conv => whnf
     refine bKo rfl ?_; conv => whnf
     refine get_ar1 rfl hx10226 ?_; conv => whnf
     refine cond_lk h (fun _ h => ?_) (fun _ h => ?_) <;> (conv => whnf)
     · refine hK _ _ _ ?_; clear hK K
       refine HT_if fun K1 K2 hK1 hK2 => ?_; conv => whnf
       refine hK1 ?_; clear hK1 hK2 K1 K2
       replace h := W_cnT h
       refine HT_exit ?_
       refine Then_e ?_
       refine InBlock_e ?_
       refine Then_n ?_
       refine HT_f dCo rfl fun K hK => ?_; conv => whnf
       refine hK _ _ _ ?_; clear hK K
       refine Then_n ?_
       replace h := W_xnx h
       refine ⟨_, h, ?_⟩
       refine weak_r ?_; conv => whnf
       exact And.intro rfl (And.intro (aLc (WkR.tok (fun _ => rfl) rfl (fun _ _ => Wk.refl _) (fun _ => (lsI _ _))) (aLc wkI (aLc (WkR_ep (VsR_cons (WkR.ptr (fun _ => rfl)) VsR_nil)) (aLc (wkr (loose_ep (lsC (lsI _ _) loose_nil))) (aLc (wkr (loose_ep (lsC (lsI _ _) loose_nil))) (aLc wkI (aLc wkI (aLc (WkR.ptr (fun _ => rfl)) (aLc wkI aLn))))))))) (aLc ⟨some _, rfl, BkR_c rfl cKn⟩ (aLc ⟨some _, rfl, BkR_arr rfl rfl⟩ (aLc ⟨some _, rfl, BkR_arr rfl rfl⟩ aLn))))
     refine getK_of rfl ?_; conv => whnf
     refine gd_lk h fun hx10227 h => ?_; conv => whnf
     refine gd_lk h fun hx10228 h => ?_; conv => whnf
     refine nlA rfl ?_; conv => whnf
     refine bKo rfl ?_; conv => whnf
     refine get_ar2 (m := 14) rfl rfl hx10227 hx10228 ?_; conv => whnf
     refine hK _ _ _ ?_; clear hK K
     refine HT_if fun K1 K2 hK1 hK2 => ?_; conv => whnf
     refine cond_lk h (fun _ h => ?_) (fun _ h => ?_)
     · refine hK1 ?_; clear hK1 hK2 K1 K2
       refine HT_exit ?_
       refine Then_e ?_
       refine InBlock_e ?_
       refine Then_n ?_
       refine HT_f dCo rfl fun K hK => ?_; conv => whnf
       refine hK _ _ _ ?_; clear hK K
       refine Then_n ?_
       replace h := W_xnx h
       refine ⟨_, h, ?_⟩
       refine weak_r ?_; conv => whnf
       exact And.intro rfl (And.intro (aLc (WkR.tok (fun _ => rfl) rfl (fun _ _ => Wk.refl _) (fun _ => (lsI _ _))) (aLc wkI (aLc (WkR_ep (VsR_cons (WkR.ptr (fun _ => rfl)) VsR_nil)) (aLc (wkr (loose_ep (lsC (lsI _ _) loose_nil))) (aLc (wkr (loose_ep (lsC (lsI _ _) loose_nil))) (aLc wkI (aLc wkI (aLc (WkR.ptr (fun _ => rfl)) (aLc wkI aLn))))))))) (aLc ⟨some _, rfl, BkR_c rfl cKn⟩ (aLc ⟨some _, rfl, BkR_arr rfl rfl⟩ (aLc ⟨some _, rfl, BkR_arr rfl rfl⟩ aLn))))
     refine hK2 ?_; clear hK1 hK2 K1 K2
     refine HT_skip ?_
     refine Then_n ?_
     refine HT_fr dCo rfl fun K hK => ?_; conv => whnf
     refine gd_lk h fun hx10229 h => ?_; conv => whnf
     refine bKo rfl ?_; conv => whnf
     refine st_ar1 rfl hx10229 rfl rfl ?_; conv => whnf
     refine hK _ _ _ ?_; clear hK K
     refine HT_seq ?_
     refine HT_fr dCo rfl fun K hK => ?_; conv => whnf
     refine getK_of rfl ?_; conv => whnf
     refine hK _ _ _ ?_; clear hK K
     refine HT_if fun K1 K2 hK1 hK2 => ?_; conv => whnf
     refine cond_lk h (fun _ h => ?_) (fun _ h => ?_)
     · refine hK1 ?_; clear hK1 hK2 K1 K2
       refine HT_exit ?_
       refine Then_e ?_
       refine InBlock_o (by decide) ?_
       refine Then_e ?_
       refine Then_e ?_
       refine InBlock_o (by decide) ?_
       refine InBlock_o (by decide) ?_
       refine Then_e ?_
       refine InBlock_e ?_
       replace h := W_xrt h
       replace h := W_inr h
       replace h := W_xbk h
       replace h := W_inl h
       refine Then_n ?_
       refine HT_seq ?_
       refine HT_fr dCo rfl fun K hK => ?_; conv => whnf
       refine getK_of rfl ?_; conv => whnf
       refine gd_lk h fun hx10230 h => ?_; conv => whnf
       refine nlA rfl ?_; conv => whnf
       refine bKo rfl ?_; conv => whnf
       refine get_ar1 rfl hx10230 ?_; conv => whnf
       refine hK _ _ _ ?_; clear hK K
       refine HT_if fun K1 K2 hK1 hK2 => ?_; conv => whnf
       refine cond_lk h (fun _ h => ?_) (fun _ h => ?_)
       · refine hK1 ?_; clear hK1 hK2 K1 K2
         refine HT_seq ?_
         refine HT_fr dCo rfl fun K hK => ?_; conv => whnf
         refine nlA rfl ?_; conv => whnf
         refine bKo rfl ?_; conv => whnf
         refine ld_ar rfl ?_; conv => whnf
         refine hK _ _ _ ?_; clear hK K
         refine HT_block ?_
         replace h := W_bd h
         refine HT_lpQ (body := push_b4 _) rfl h [6, 63] (fun σ => keepH σ [] ++ keepT σ []) (fun σ => keepT σ [] ++ keepH σ [] ++ keepN σ [0]) [] (fun kl kh kr ids b s => ⟨ofL ([(7, eI s.1), (64, eI s.2)] ++ kl), ofH (([] ++ kh) ++ ([] ++ kr)), b + 64⟩) ?_; (conv => whnf); refine forceL_skip ?_; (conv => whnf); refine And.intro ?_ (fun s m h => HT_st ?_)
         · refine weak_r ?_; (conv => whnf); refine forceL_skip ?_; (conv => whnf); refine forceL_skip ?_; conv => whnf
           exact And.intro rfl (And.intro (aLc wkI (aLc wkI (aLc wkI (aLc (wkr (loose_arr _)) aLn)))) (aLc ⟨some _, rfl, BkR_arr rfl rfl⟩ aLn))
         replace h := W_bpush_b4 (W_bd h)
         refine HT_fr dCo rfl fun K hK => ?_; conv => whnf
         refine hK _ _ _ ?_; clear hK K
         refine HT_seq ?_
         refine HT_if fun K1 K2 hK1 hK2 => ?_; conv => whnf
         refine cond_lk h (fun _ h => ?_) (fun _ h => ?_)
         · refine hK1 ?_; clear hK1 hK2 K1 K2
           refine HT_skip ?_
           refine Then_n ?_
           refine HT_seq ?_
           refine HT_block ?_
           refine HT_fr dCo rfl fun K hK => ?_; conv => whnf
           refine gd_lk h fun hx10242 h => ?_; conv => whnf
           refine get_ar1i rfl hx10242 ?_; conv => whnf
           refine hK _ _ _ ?_; clear hK K
           refine HT_fr dCo rfl fun K hK => ?_; conv => whnf
           refine hK _ _ _ ?_; clear hK K
           replace h := W_jn h
           refine HT_if fun K1 K2 hK1 hK2 => ?_; conv => whnf
           refine cond_lk h (fun _ h => ?_) (fun _ h => ?_)
           · refine hK1 ?_; clear hK1 hK2 K1 K2
             refine HT_f dCo rfl fun K hK => ?_; conv => whnf
             refine gd_lk h fun _ h => ?_; conv => whnf
             refine hK _ _ _ ?_; clear hK K
             refine InBlock_n ?_
             refine Then_n ?_
             refine HT_f dCo rfl fun K hK => ?_; conv => whnf
             refine hK _ _ _ ?_; clear hK K
             refine Then_n ?_
             replace h := W_xnx h
             refine ⟨_, h, ?_⟩
             refine weak_r ?_; (conv => whnf); refine forceL_skip ?_; (conv => whnf); refine forceL_skip ?_; conv => whnf
             exact And.intro rfl (And.intro (aLc wkI (aLc wkI (aLc wkI (aLc (wkr (loose_arr _)) aLn)))) (aLc ⟨some _, rfl, BkR_arr rfl rfl⟩ aLn))
           refine hK2 ?_; clear hK1 hK2 K1 K2
           refine HT_skip ?_
           refine InBlock_n ?_
           refine Then_n ?_
           refine HT_f dCo rfl fun K hK => ?_; conv => whnf
           refine hK _ _ _ ?_; clear hK K
           refine Then_n ?_
           replace h := W_xnx h
           refine ⟨_, h, ?_⟩
           refine weak_r ?_; (conv => whnf); refine forceL_skip ?_; (conv => whnf); refine forceL_skip ?_; conv => whnf
           exact And.intro rfl (And.intro (aLc wkI (aLc wkI (aLc wkI (aLc (wkr (loose_arr _)) aLn)))) (aLc ⟨some _, rfl, BkR_arr rfl rfl⟩ aLn))
         refine hK2 ?_; clear hK1 hK2 K1 K2
         refine HT_exit ?_
         refine Then_e ?_
         refine Then_e ?_
         refine InBlock_e ?_
         replace h := W_xbk h
         replace h := W_inl h
         refine Then_n ?_
         refine HT_fr dCo rfl fun K hK => ?_; conv => whnf
         refine hK _ _ _ ?_; clear hK K
         refine HT_ret ?_
         refine Then_r ?_
         refine NoGoto_r ?_
         refine InBlock_r ?_
         refine Then_r ?_
         refine InBlock_r ?_
         replace h := W_xrt h
         replace h := W_inr h
         replace h := W_some h
         refine PostB_r dCo fun K hK => ?_; conv => whnf
         refine hK _ ?_; clear hK K
         cases h
         exact ⟨Wk.refl _, rfl, trivial⟩
       refine hK2 ?_; clear hK1 hK2 K1 K2
       refine HT_skip ?_
       refine Then_n ?_
       refine HT_frzK 8 ?_; (conv => whnf); refine ⟨_, rfl, ?_⟩
       refine HT_fr dCo rfl fun K hK => ?_; conv => whnf
       refine hK _ _ _ ?_; clear hK K
       refine HT_fr dCo rfl fun K hK => ?_; conv => whnf
       refine bKo rfl ?_; conv => whnf
       refine And.intro rfl (And.intro (nle rfl) (And.intro rfl ?_)); conv => whnf
       refine hK _ _ _ ?_; clear hK K
       refine HT_fr dCo rfl fun K hK => ?_; conv => whnf
       refine callsK_blkF (bs := [_, _]) (args0 := [.fn 73 [] [.ptr 0 0, .ep [.ptr 1 0] 0], _, _, _]) h72 [_, _] h (.cons (WkA_fn VsA_nil (VsA_cons (WkA_ptr rfl) (VsA_cons (WkA_ep (VsA_cons (WkA_ptr rfl) VsA_nil)) VsA_nil))) (.cons (WkA_loose (loose_ep (lsC (lsI _ _) loose_nil))) (.cons (WkA_loose (loose_ep (lsC (lsI _ _) loose_nil))) (.cons (WkA_loose (loose_ep (cA_loose _))) .nil)))) ⟨rfl, rfl, trivial⟩ rfl (nle rfl) (fun y e => ((.inl ⟨_, _, _, _, _, _, rfl, rfl, e, rfl, rfl⟩) : push_1_S _ _ _ _)) (fun _ h => ?_); conv => whnf
       refine hK _ _ _ ?_; clear hK K
       refine HT_fr dCo rfl fun K hK => ?_; conv => whnf
       refine callsK_blkF (bs := [_, _]) (args0 := [.fn 74 [] [.ep [.ptr 1 0] 0, .ptr 0 0], _, _, _]) h72 [_, _] h (.cons (WkA_fn VsA_nil (VsA_cons (WkA_ep (VsA_cons (WkA_ptr rfl) VsA_nil)) (VsA_cons (WkA_ptr rfl) VsA_nil))) (.cons (WkA_loose (loose_ep (lsC (lsI _ _) loose_nil))) (.cons (WkA_loose (loose_ep (lsC (lsI _ _) loose_nil))) (.cons (WkA_loose (loose_ep (cA_loose _))) .nil)))) ⟨rfl, rfl, trivial⟩ rfl (nle rfl) (fun y e => ((.inr ⟨_, _, _, _, _, _, rfl, rfl, e, rfl, rfl⟩) : push_1_S _ _ _ _)) (fun _ h => ?_); conv => whnf
       refine hK _ _ _ ?_; clear hK K
       refine HT_f dCo rfl fun K hK => ?_; conv => whnf
       refine nlA rfl ?_; conv => whnf
       refine bKo rfl ?_; conv => whnf
       refine getK_of rfl ?_; conv => whnf
       refine hK _ _ _ ?_; clear hK K
       refine NoGoto_n ?_
       refine InBlock_n ?_
       refine Then_n ?_
       replace h := W_xnx h
       refine ⟨_, h, ?_⟩
       refine weak_r ?_; conv => whnf
       exact And.intro rfl (And.intro (aLc wkI (aLc wkI (aLc (WkR_ep (VsR_cons (WkR.ptr (fun _ => rfl)) VsR_nil)) (aLc (wkr (loose_ep (lsC (lsI _ _) loose_nil))) (aLc (wkr (loose_ep (lsC (lsI _ _) loose_nil))) aLn))))) (aLc ⟨some _, rfl, BkR_arr rfl rfl⟩ aLn))
     refine hK2 ?_; clear hK1 hK2 K1 K2
     refine HT_skip ?_
     refine Then_n ?_
     refine HT_f dCo rfl fun K hK => ?_; conv => whnf
     refine lt_lk (enc := eI) (d := default) dCo h rfl rfl rfl ⟨nle rfl, nle rfl, rfl⟩ rfl ⟨⟨rfl, rfl, rfl⟩, trivial⟩ (fun h => ?_); conv => whnf
     refine ap_lk (enc := eI) (d := default) dCo h (.inl rfl) rfl rfl rfl ⟨rfl, nle rfl, nle rfl, nle rfl, rfl⟩ (fun _ => rfl) (.inr (.inr ⟨_, _, rfl, rfl, rfl⟩)) (fun h => ?_); conv => whnf
     refine hK _ _ _ ?_; clear hK K
     refine InBlock_n ?_
     refine Then_n ?_
     refine HT_f dCo rfl fun K hK => ?_; conv => whnf
     refine hK _ _ _ ?_; clear hK K
     refine Then_n ?_
     replace h := W_xnx h
     refine ⟨_, h, ?_⟩
     refine weak_r ?_; conv => whnf
     exact And.intro rfl (And.intro (aLc (WkR.tok (fun _ => rfl) rfl (fun _ _ => Wk.refl _) (fun _ => (lsI _ _))) (aLc wkI (aLc (WkR_ep (VsR_cons (WkR.ptr (fun _ => rfl)) VsR_nil)) (aLc (wkr (loose_ep (lsC (lsI _ _) loose_nil))) (aLc (wkr (loose_ep (lsC (lsI _ _) loose_nil))) (aLc wkI (aLc wkI (aLc (WkR.ptr (fun _ => rfl)) (aLc wkI aLn))))))))) (aLc ⟨some _, rfl, BkR_c rfl cKn⟩ (aLc ⟨some _, rfl, BkR_arr rfl rfl⟩ (aLc ⟨some _, rfl, BkR_arr rfl rfl⟩ aLn))))
   refine hK2 ?_; clear hK1 hK2 K1 K2
   refine HT_exit ?_
   refine Then_e ?_
   refine Then_e ?_
   refine InBlock_e ?_
   replace h := W_xbk h
   replace h := W_inl h
   refine InBlock_n ?_
   refine Then_n ?_
   replace h := W_xnx h
   refine ⟨_, h, ?_⟩
   refine weak_r ?_; conv => whnf
   exact And.intro rfl (And.intro (aLc (WkR.tok (fun _ => rfl) rfl (fun _ _ => Wk.refl _) (fun _ => (lsI _ _))) (aLc (WkR_ep (VsR_cons (WkR.ptr (fun _ => rfl)) VsR_nil)) (aLc (wkr (loose_ep (lsC (lsI _ _) loose_nil))) (aLc (wkr (loose_ep (lsC (lsI _ _) loose_nil))) (aLc wkI (aLc wkI (aLc (WkR.ptr (fun _ => rfl)) aLn))))))) (aLc ⟨some _, rfl, BkR_c rfl cKn⟩ (aLc ⟨some _, rfl, BkR_arr rfl rfl⟩ (aLc ⟨some _, rfl, BkR_arr rfl rfl⟩ aLn))))
 refine hK2 ?_; clear hK1 hK2 K1 K2
 refine HT_exit ?_
 refine Then_e ?_
 refine Then_e ?_
 refine InBlock_e ?_
 replace h := W_xbk h
 replace h := W_inl h
 refine Then_n ?_
 refine HT_seq ?_
 refine HT_fr dCo rfl fun K hK => ?_; conv => whnf
 refine getK_of rfl ?_; conv => whnf
 refine gd_lk h fun hx10243 h => ?_; conv => whnf
 refine nlA rfl ?_; conv => whnf
 refine bKo rfl ?_; conv => whnf
 refine get_ar1 rfl hx10243 ?_; conv => whnf
 refine hK _ _ _ ?_; clear hK K
 refine HT_if fun K1 K2 hK1 hK2 => ?_; conv => whnf
 refine cond_lk h (fun _ h => ?_) (fun _ h => ?_)
 · refine hK1 ?_; clear hK1 hK2 K1 K2
   refine HT_seq ?_
   refine HT_fr dCo rfl fun K hK => ?_; conv => whnf
   refine nlA rfl ?_; conv => whnf
   refine bKo rfl ?_; conv => whnf
   refine ld_ar rfl ?_; conv => whnf
   refine hK _ _ _ ?_; clear hK K
   refine HT_block ?_
   replace h := W_bd h
   refine HT_lpQ (body := push_b4 _) rfl h [6, 63] (fun σ => keepH σ [] ++ keepT σ []) (fun σ => keepT σ [] ++ keepH σ [] ++ keepN σ [0]) [] (fun kl kh kr ids b s => ⟨ofL ([(7, eI s.1), (64, eI s.2)] ++ kl), ofH (([] ++ kh) ++ ([] ++ kr)), b + 64⟩) ?_; (conv => whnf); refine forceL_skip ?_; (conv => whnf); refine And.intro ?_ (fun s m h => HT_st ?_)
   · refine weak_r ?_; (conv => whnf); refine forceL_skip ?_; (conv => whnf); refine forceL_skip ?_; conv => whnf
     exact And.intro rfl (And.intro (aLc wkI (aLc wkI (aLc wkI (aLc (wkr (loose_arr _)) aLn)))) (aLc ⟨some _, rfl, BkR_arr rfl rfl⟩ aLn))
   replace h := W_bpush_b4 (W_bd h)
   refine HT_fr dCo rfl fun K hK => ?_; conv => whnf
   refine hK _ _ _ ?_; clear hK K
   refine HT_seq ?_
   refine HT_if fun K1 K2 hK1 hK2 => ?_; conv => whnf
   refine cond_lk h (fun _ h => ?_) (fun _ h => ?_)
   · refine hK1 ?_; clear hK1 hK2 K1 K2
     refine HT_skip ?_
     refine Then_n ?_
     refine HT_seq ?_
     refine HT_block ?_
     refine HT_fr dCo rfl fun K hK => ?_; conv => whnf
     refine gd_lk h fun hx10255 h => ?_; conv => whnf
     refine get_ar1i rfl hx10255 ?_; conv => whnf
     refine hK _ _ _ ?_; clear hK K
     refine HT_fr dCo rfl fun K hK => ?_; conv => whnf
     refine hK _ _ _ ?_; clear hK K
     replace h := W_jn h
     refine HT_if fun K1 K2 hK1 hK2 => ?_; conv => whnf
     refine cond_lk h (fun _ h => ?_) (fun _ h => ?_)
     · refine hK1 ?_; clear hK1 hK2 K1 K2
       refine HT_f dCo rfl fun K hK => ?_; conv => whnf
       refine gd_lk h fun _ h => ?_; conv => whnf
       refine hK _ _ _ ?_; clear hK K
       refine InBlock_n ?_
       refine Then_n ?_
       refine HT_f dCo rfl fun K hK => ?_; conv => whnf
       refine hK _ _ _ ?_; clear hK K
       refine Then_n ?_
       replace h := W_xnx h
       refine ⟨_, h, ?_⟩
       refine weak_r ?_; (conv => whnf); refine forceL_skip ?_; (conv => whnf); refine forceL_skip ?_; conv => whnf
       exact And.intro rfl (And.intro (aLc wkI (aLc wkI (aLc wkI (aLc (wkr (loose_arr _)) aLn)))) (aLc ⟨some _, rfl, BkR_arr rfl rfl⟩ aLn))
     refine hK2 ?_; clear hK1 hK2 K1 K2
     refine HT_skip ?_
     refine InBlock_n ?_
     refine Then_n ?_
     refine HT_f dCo rfl fun K hK => ?_; conv => whnf
     refine hK _ _ _ ?_; clear hK K
     refine Then_n ?_
     replace h := W_xnx h
     refine ⟨_, h, ?_⟩
     refine weak_r ?_; (conv => whnf); refine forceL_skip ?_; (conv => whnf); refine forceL_skip ?_; conv => whnf
     exact And.intro rfl (And.intro (aLc wkI (aLc wkI (aLc wkI (aLc (wkr (loose_arr _)) aLn)))) (aLc ⟨some _, rfl, BkR_arr rfl rfl⟩ aLn))
   refine hK2 ?_; clear hK1 hK2 K1 K2
   refine HT_exit ?_
   refine Then_e ?_
   refine Then_e ?_
   refine InBlock_e ?_
   replace h := W_xbk h
   replace h := W_inl h
   refine Then_n ?_
   refine HT_fr dCo rfl fun K hK => ?_; conv => whnf
   refine hK _ _ _ ?_; clear hK K
   refine HT_ret ?_
   refine Then_r ?_
   refine NoGoto_r ?_
   refine InBlock_r ?_
   refine Then_r ?_
   refine InBlock_r ?_
   replace h := W_xrt h
   replace h := W_inr h
   replace h := W_some h
   refine PostB_r dCo fun K hK => ?_; conv => whnf
   refine hK _ ?_; clear hK K
   cases h
   exact ⟨Wk.refl _, rfl, trivial⟩
 refine hK2 ?_; clear hK1 hK2 K1 K2
 refine HT_skip ?_
 refine Then_n ?_
 refine HT_frzK 8 ?_; (conv => whnf); refine ⟨_, rfl, ?_⟩
 refine HT_fr dCo rfl fun K hK => ?_; conv => whnf
 refine hK _ _ _ ?_; clear hK K
 refine HT_fr dCo rfl fun K hK => ?_; conv => whnf
 refine bKo rfl ?_; conv => whnf
 refine And.intro rfl (And.intro (nle rfl) (And.intro rfl ?_)); conv => whnf
 refine hK _ _ _ ?_; clear hK K
 refine HT_fr dCo rfl fun K hK => ?_; conv => whnf
 refine callsK_blkF (bs := [_, _]) (args0 := [.fn 73 [] [.ptr 0 0, .ep [.ptr 1 0] 0], _, _, _]) h72 [_, _] h (.cons (WkA_fn VsA_nil (VsA_cons (WkA_ptr rfl) (VsA_cons (WkA_ep (VsA_cons (WkA_ptr rfl) VsA_nil)) VsA_nil))) (.cons (WkA_loose (loose_ep (lsC (lsI _ _) loose_nil))) (.cons (WkA_loose (loose_ep (lsC (lsI _ _) loose_nil))) (.cons (WkA_loose (loose_ep (cA_loose _))) .nil)))) ⟨rfl, rfl, trivial⟩ rfl (nle rfl) (fun y e => ((.inl ⟨_, _, _, _, _, _, rfl, rfl, e, rfl, rfl⟩) : push_1_S _ _ _ _)) (fun _ h => ?_); conv => whnf
 refine hK _ _ _ ?_; clear hK K
 refine HT_fr dCo rfl fun K hK => ?_; conv => whnf
 refine callsK_blkF (bs := [_, _]) (args0 := [.fn 74 [] [.ep [.ptr 1 0] 0, .ptr 0 0], _, _, _]) h72 [_, _] h (.cons (WkA_fn VsA_nil (VsA_cons (WkA_ep (VsA_cons (WkA_ptr rfl) VsA_nil)) (VsA_cons (WkA_ptr rfl) VsA_nil))) (.cons (WkA_loose (loose_ep (lsC (lsI _ _) loose_nil))) (.cons (WkA_loose (loose_ep (lsC (lsI _ _) loose_nil))) (.cons (WkA_loose (loose_ep (cA_loose _))) .nil)))) ⟨rfl, rfl, trivial⟩ rfl (nle rfl) (fun y e => ((.inr ⟨_, _, _, _, _, _, rfl, rfl, e, rfl, rfl⟩) : push_1_S _ _ _ _)) (fun _ h => ?_); conv => whnf
 refine hK _ _ _ ?_; clear hK K
 refine HT_f dCo rfl fun K hK => ?_; conv => whnf
 refine nlA rfl ?_; conv => whnf
 refine bKo rfl ?_; conv => whnf
 refine getK_of rfl ?_; conv => whnf
 refine hK _ _ _ ?_; clear hK K
 refine NoGoto_n ?_
 refine InBlock_n ?_
 refine Then_n ?_
 replace h := W_xnx h
 refine ⟨_, h, ?_⟩
 refine weak_r ?_; conv => whnf
 exact And.intro rfl (And.intro (aLc wkI (aLc wkI (aLc (WkR_ep (VsR_cons (WkR.ptr (fun _ => rfl)) VsR_nil)) (aLc (wkr (loose_ep (lsC (lsI _ _) loose_nil))) (aLc (wkr (loose_ep (lsC (lsI _ _) loose_nil))) aLn))))) (aLc ⟨some _, rfl, BkR_arr rfl rfl⟩ aLn))
end Go.Proofs.Ytgkmodjcoedonaa
namespace Go.Proofs.Ytgkmodjcoedonaa
open Go Go.Eng
set_option maxHeartbeats 0
set_option maxRecDepth 100000
def flow_open_b1 (a0 : TNet) (s1 : Int × (Ar 196)) : Option (Ct (Int × (Ar 196)) (Ar 196)) := cn (decide (s1.1 < (a0.Edges.length : Int))) (ix a0.Edges default s1.1 fun e2 =>
   gd (0 ≤ e2.From ∧ e2.From < (14 : Int)) (gd (0 ≤ e2.To ∧ e2.To < (14 : Int)) (gd (0 ≤ e2.From ∧ e2.From < (14 : Int)) (gd (0 ≤ e2.To ∧ e2.To < (14 : Int)) (let m3 := s1.2.st2 14 e2.From e2.To (wr ((s1.2.at2 14 e2.From e2.To) + e2.Capacity));
   some (.nx ((wr (s1.1 + 1)), m3))))))) (some (.bk (s1.1, s1.2)))
theorem W_bflow_open_b1 {a0 : TNet} {s1 : Int × (Ar 196)} {Φ : Ct (Int × (Ar 196)) (Ar 196) → Prop} (h : W (flow_open_b1 a0 s1) Φ) : W (cn (decide (s1.1 < (a0.Edges.length : Int))) (ix a0.Edges default s1.1 fun e2 =>
   gd (0 ≤ e2.From ∧ e2.From < (14 : Int)) (gd (0 ≤ e2.To ∧ e2.To < (14 : Int)) (gd (0 ≤ e2.From ∧ e2.From < (14 : Int)) (gd (0 ≤ e2.To ∧ e2.To < (14 : Int)) (let m3 := s1.2.st2 14 e2.From e2.To (wr ((s1.2.at2 14 e2.From e2.To) + e2.Capacity));
   some (.nx ((wr (s1.1 + 1)), m3))))))) (some (.bk (s1.1, s1.2)))) Φ := h
def flow_open_F (a0 : TNet) : Option (Ar 196) := bd (lp (flow_open_b1 a0) FU (0, (Ar.zero 196))) fun c4 => smK c4 (fun s5 => some s5.2) (fun r6 => some r6)
def flow_open_res (_y : Ar 196) (b : Nat) : AV := .ptr b 0
def flow_open_blk (y : Ar 196) : List AB := [.cells (cA y)]
def flow_open_S : List AV → Ar 196 → Prop := fun args y => ∃ a0, args = [eTNet a0] ∧ flow_open_F a0 = some y
theorem flow_open_ok {T : Tbl} (hT : TOk Try.prog T) (hpf : PfOk T PF) : FOk Try.prog 51 (ownR flow_open_res flow_open_blk flow_open_S) := by
 refine FOk_own hT hpf Try.func51 rfl Try.ntmps51 Try.results51 (by decide) (fun y => ⟨by simp [flow_open_blk], by simp [flow_open_blk, noGh]⟩) ?_
 rintro args y ⟨a0, rfl, hF⟩
 refine ⟨nle rfl, (lsC (lo_TNet _) loose_nil), fun base => ?_⟩
 have h : W (flow_open_F a0) (fun z => z = y) := W_of hF rfl
 rw [flow_open_F.eq_1] at h
 refine HT_fr dCo rfl fun K hK => ?_; conv => whnf
 refine hK _ _ _ ?_; clear hK K
 refine HT_fr dCo rfl fun K hK => ?_; conv => whnf
 refine hK _ _ _ ?_; clear hK K
 refine HT_seq ?_
 refine HT_fr dCo rfl fun K hK => ?_; conv => whnf
 refine nlA rfl ?_; conv => whnf
 refine bKo rfl ?_; conv => whnf
 refine getK_of rfl ?_; conv => whnf
 refine hK _ _ _ ?_; clear hK K
 refine HT_block ?_
 replace h := W_bd h
 refine HT_lpR (body := flow_open_b1 _) rfl h [3, 7, 8] [] [] [3] (fun kl kh kr ids b s => ⟨ofL ([(9, eI s.1)] ++ kl), ofH (([] ++ kh) ++ ([(nthN ids 0, .cells (cA s.2))] ++ kr)), b + 128⟩) ?_; (conv => whnf); refine And.intro ?_ (fun s m h => HT_st ?_)
 · refine weak_r ?_; conv => whnf
   exact And.intro rfl (And.intro (aLc wkI (aLc (WkR.ptr (fun _ => rfl)) (aLc (wkr (lsL fun _ => (lo_TEdge _))) (aLc wkI aLn)))) (aLc ⟨some _, rfl, BkR_arr (x := (Ar.zero 196)) rfl rfl⟩ aLn))
 replace h := W_bflow_open_b1 (W_bd h)
 refine HT_fr dCo rfl fun K hK => ?_; conv => whnf
 refine hK _ _ _ ?_; clear hK K
 refine HT_seq ?_
 refine HT_if fun K1 K2 hK1 hK2 => ?_; conv => whnf
 refine cond_lk h (fun _ h => ?_) (fun _ h => ?_)
 · refine hK1 ?_; clear hK1 hK2 K1 K2
   refine HT_skip ?_
   refine Then_n ?_
   refine HT_seq ?_
   refine HT_block ?_
   refine HT_fr dCo rfl fun K hK => ?_; conv => whnf
   refine ix_lk h fun _ h => ?_; conv => whnf
   refine nlA rfl ?_; conv => whnf
   refine bKo rfl ?_; conv => whnf
   refine And.intro rfl (And.intro (nle rfl) (And.intro rfl ?_)); conv => whnf
   refine hK _ _ _ ?_; clear hK K
   refine HT_fD dCo mix_ok rfl (by kernel_rfl) fun K hK => ?_; conv => whnf
   refine nlA rfl ?_; conv => whnf
   refine bKo rfl ?_; conv => whnf
   refine getK_of rfl ?_; conv => whnf
   refine nlA rfl ?_; conv => whnf
   refine bKo rfl ?_; conv => whnf
   refine getK_of rfl ?_; conv => whnf
   refine gd_lk h fun hx53 h => ?_; conv => whnf
   refine gd_lk h fun hx54 h => ?_; conv => whnf
   refine nlA rfl ?_; conv => whnf
   refine bKo rfl ?_; conv => whnf
   refine get_ar2 (m := 14) rfl rfl hx53 hx54 ?_; conv => whnf
   refine nlA rfl ?_; conv => whnf
   refine bKo rfl ?_; conv => whnf
   refine getK_of rfl ?_; conv => whnf
   refine gd_lk h fun hx55 h => ?_; conv => whnf
   refine gd_lk h fun hx56 h => ?_; conv => whnf
   refine bKo rfl ?_; conv => whnf
   refine st_ar2 (m := 14) rfl rfl hx55 hx56 rfl rfl ?_; conv => whnf
   refine hK _ _ _ ?_; clear hK K
   refine InBlock_n ?_
   refine Then_n ?_
   refine HT_f dCo rfl fun K hK => ?_; conv => whnf
   refine hK _ _ _ ?_; clear hK K
   refine Then_n ?_
   replace h := W_xnx h
   refine ⟨_, h, ?_⟩
   refine weak_r ?_; conv => whnf
   exact And.intro rfl (And.intro (aLc wkI (aLc (WkR.ptr (fun _ => rfl)) (aLc (wkr (lsL fun _ => (lo_TEdge _))) (aLc wkI aLn)))) (aLc ⟨some _, rfl, BkR_arr rfl rfl⟩ aLn))
 refine hK2 ?_; clear hK1 hK2 K1 K2
 refine HT_exit ?_
 refine Then_e ?_
 refine Then_e ?_
 refine InBlock_e ?_
 replace h := W_xbk h
 replace h := W_inl h
 refine Then_n ?_
 refine HT_fr dCo rfl fun K hK => ?_; conv => whnf
 refine hK _ _ _ ?_; clear hK K
 refine HT_ret ?_
 replace h := W_some h
 refine PostO_r dCo fun K hK => ?_; conv => whnf
 refine hK _ ?_; clear hK K
 cases h
 refine ⟨rfl, rfl, rfl, WkB_ptr (mm_ns (k := 0) rfl), fun k n x h1 h2 => ?_⟩
 exact match k, n, x, h1, h2 with | 0, n, x, h1, h2 => by cases h1; cases h2; exact ⟨_, rfl, BkX_arr _⟩ | k + 1, n, x, h1, h2 => by cases h1
end Go.Proofs.Ytgkmodjcoedonaa
namespace Go.Proofs.Ytgkmodjcoedonaa
open Go Go.Eng
set_option maxHeartbeats 0
set_option maxRecDepth 100000

   def flow_amounts_b3 (a0 : TNet) (s11 : (List Int) × Int × (Ar 196)) : Option (Ct ((List Int) × Int × (Ar 196)) ((List Int))) := cn (decide (s11.2.1 < (a0.Edges.length : Int))) (ix a0.Edges default s11.2.1 fun e12 =>
   gd (0 ≤ e12.From ∧ e12.From < (14 : Int)) (gd (0 ≤ e12.To ∧ e12.To < (14 : Int)) (let v13 := (imin e12.Capacity (s11.2.2.at2 14 e12.From e12.To));
   gd (0 ≤ e12.From ∧ e12.From < (14 : Int)) (gd (0 ≤ e12.To ∧ e12.To < (14 : Int)) (gd (0 ≤ e12.From ∧ e12.From < (14 : Int)) (gd (0 ≤ e12.To ∧ e12.To < (14 : Int)) (let m14 := s11.2.2.st2 14 e12.From e12.To (wr ((s11.2.2.at2 14 e12.From e12.To) - v13));
   lt ([v13] : List Int) fun l15 => ap s11.1 l15 fun l16 => some (.nx (l16, (wr (s11.2.1 + 1)), m14))))))))) (some (.bk (s11.1, s11.2.1, s11.2.2)))
theorem W_bflow_amounts_b3 {a0 : TNet} {s11 : (List Int) × Int × (Ar 196)} {Φ : Ct ((List Int) × Int × (Ar 196)) ((List Int)) → Prop} (h : W (flow_amounts_b3 a0 s11) Φ) : W (cn (decide (s11.2.1 < (a0.Edges.length : Int))) (ix a0.Edges default s11.2.1 fun e12 =>
   gd (0 ≤ e12.From ∧ e12.From < (14 : Int)) (gd (0 ≤ e12.To ∧ e12.To < (14 : Int)) (let v13 := (imin e12.Capacity (s11.2.2.at2 14 e12.From e12.To));
   gd (0 ≤ e12.From ∧ e12.From < (14 : Int)) (gd (0 ≤ e12.To ∧ e12.To < (14 : Int)) (gd (0 ≤ e12.From ∧ e12.From < (14 : Int)) (gd (0 ≤ e12.To ∧ e12.To < (14 : Int)) (let m14 := s11.2.2.st2 14 e12.From e12.To (wr ((s11.2.2.at2 14 e12.From e12.To) - v13));
   lt ([v13] : List Int) fun l15 => ap s11.1 l15 fun l16 => some (.nx (l16, (wr (s11.2.1 + 1)), m14))))))))) (some (.bk (s11.1, s11.2.1, s11.2.2)))) Φ := h

   def flow_amounts_b2 (m0 : Ar 196) (s2 : Int × (Ar 196)) (s3 : Int × (Ar 196)) : Option (Ct (Int × (Ar 196)) ((List Int))) := cn (decide (s3.1 < 14)) (gd (0 ≤ s2.1 ∧ s2.1 < (14 : Int)) (gd (0 ≤ s3.1 ∧ s3.1 < (14 : Int)) (gd (0 ≤ s2.1 ∧ s2.1 < (14 : Int)) (gd (0 ≤ s3.1 ∧ s3.1 < (14 : Int)) (gd (0 ≤ s2.1 ∧ s2.1 < (14 : Int)) (gd (0 ≤ s3.1 ∧ s3.1 < (14 : Int)) (let m4 := s3.2.st2 14 s2.1 s3.1 (imax (wr ((s3.2.at2 14 s2.1 s3.1) - (m0.at2 14 s2.1 s3.1))) 0);
   some (.nx ((wr (s3.1 + 1)), m4))))))))) (some (.bk (s3.1, s3.2)))
theorem W_bflow_amounts_b2 {m0 : Ar 196} {s2 : Int × (Ar 196)} {s3 : Int × (Ar 196)} {Φ : Ct (Int × (Ar 196)) ((List Int)) → Prop} (h : W (flow_amounts_b2 m0 s2 s3) Φ) : W (
   cn (decide (s3.1 < 14)) (gd (0 ≤ s2.1 ∧ s2.1 < (14 : Int)) (gd (0 ≤ s3.1 ∧ s3.1 < (14 : Int)) (gd (0 ≤ s2.1 ∧ s2.1 < (14 : Int)) (gd (0 ≤ s3.1 ∧ s3.1 < (14 : Int)) (gd (0 ≤ s2.1 ∧ s2.1 < (14 : Int)) (gd (0 ≤ s3.1 ∧ s3.1 < (14 : Int)) (let m4 := s3.2.st2 14 s2.1 s3.1 (imax (wr ((s3.2.at2 14 s2.1 s3.1) - (m0.at2 14 s2.1 s3.1))) 0);
   some (.nx ((wr (s3.1 + 1)), m4))))))))) (some (.bk (s3.1, s3.2)))) Φ := h

   def flow_amounts_b1 (m0 : Ar 196) (s2 : Int × (Ar 196)) : Option (Ct (Int × (Ar 196)) ((List Int))) := cn (decide (s2.1 < 14)) (bd (lp (flow_amounts_b2 m0 s2) FU (0, s2.2)) fun c5 =>
   smK c5 (fun s6 => some (.nx ((wr (s2.1 + 1)), s6.2))) (fun r7 => some (.rt r7))) (some (.bk (s2.1, s2.2)))
theorem W_bflow_amounts_b1 {m0 : Ar 196} {s2 : Int × (Ar 196)} {Φ : Ct (Int × (Ar 196)) ((List Int)) → Prop} (h : W (flow_amounts_b1 m0 s2) Φ) : W (cn (decide (s2.1 < 14)) (bd (lp (flow_amounts_b2 m0 s2) FU (0, s2.2)) fun c5 => smK c5 (fun s6 => some (.nx ((wr (s2.1 + 1)), s6.2))) (fun r7 =>
   some (.rt r7))) (some (.bk (s2.1, s2.2)))) Φ := h
def flow_amounts_F (a0 : TNet) (m0 : Ar 196) : Option ((List Int)) := bd (flow_open_F a0) fun y1 => bd (lp (flow_amounts_b1 m0) FU (0, y1)) fun c8 => smK c8 (fun s9 =>
   bd (lp (flow_amounts_b3 a0) FU ([], 0, s9.2)) fun c17 => smK c17 (fun s18 => some s18.1) (fun r19 => some r19)) (fun r10 => some r10)
def flow_amounts_S : List AV → List (List AV) → AV → List (List AV) → Prop := fun args bs r bs' => ∃ a0 m0 y, args = [eTNet a0, .ptr 0 0] ∧ bs = [cA m0] ∧ flow_amounts_F a0 m0 = some y ∧ r = (eL 1 eI default) y ∧ bs' = [cA m0]
theorem flow_amounts_ok {T : Tbl} (hT : TOk Try.prog T) (hpf : PfOk T PF) (h51 : T 51 = ownR flow_open_res flow_open_blk flow_open_S) : FOk Try.prog 53 (blkF flow_amounts_S) := by
 refine FOk_blkF hT hpf Try.func53 rfl Try.ntmps53 Try.results53 (by decide) ?_
 rintro args bs r bs' ⟨a0, m0, y, rfl, rfl, hF, rfl, rfl⟩
 refine ⟨nle rfl, rfl, (lsL fun _ => (lsI _ _)), (all1 (cA_loose _)), (all1 (cA_loose _)), ?_⟩
 have h : W (flow_amounts_F a0 m0) (fun z => z = y) := W_of hF rfl
 rw [flow_amounts_F.eq_1] at h
 refine HT_fr dCo rfl fun K hK => ?_; conv => whnf
 refine hK _ _ _ ?_; clear hK K
 refine HT_fr dCo rfl fun K hK => ?_; conv => whnf
 refine nlA rfl ?_; conv => whnf
 refine bKo rfl ?_; conv => whnf
 refine nlA rfl ?_; conv => whnf
 refine callsK_own h51 h (fun y e => (⟨_, rfl, e⟩ : flow_open_S _ _)) (WkL.refl _) (fun _ h => ?_); conv => whnf
 refine hK _ _ _ ?_; clear hK K
 refine HT_seq ?_
 refine HT_fr dCo rfl fun K hK => ?_; conv => whnf
 refine hK _ _ _ ?_; clear hK K
 refine HT_block ?_
 replace h := W_bd h
 refine HT_lpQ (body := flow_amounts_b1 _) rfl h [1, 2, 5] (fun σ => keepH σ [2] ++ keepT σ []) (fun σ => keepT σ [] ++ keepH σ [] ++ keepN σ [0]) [5] (fun kl kh kr ids b s => ⟨ofL ([(14, eI s.1)] ++ kl), ofH (([] ++ kh) ++ ([(nthN ids 0, .cells (cA s.2))] ++ kr)), b + 128⟩) ?_; (conv => whnf); refine And.intro ?_ (fun s m h => HT_st ?_)
 · refine weak_r ?_; conv => whnf
   exact And.intro rfl (And.intro (aLc wkI (aLc (WkR.ptr (fun _ => rfl)) (aLc (WkR.ptr (fun _ => rfl)) (aLc (WkR.ptr (fun _ => rfl)) aLn)))) (aLc ⟨some _, rfl, BkR_c rfl (cKc wkI (cKc (wkr (lsL fun _ => (lo_TEdge _))) cKn))⟩ (aLc ⟨some _, rfl, BkR_arr rfl rfl⟩ (aLc ⟨some _, rfl, BkR_arr rfl rfl⟩ aLn))))
 replace h := W_bflow_amounts_b1 (W_bd h)
 refine HT_fr dCo rfl fun K hK => ?_; conv => whnf
 refine hK _ _ _ ?_; clear hK K
 refine HT_seq ?_
 refine HT_if fun K1 K2 hK1 hK2 => ?_; conv => whnf
 refine cond_lk h (fun _ h => ?_) (fun _ h => ?_)
 · refine hK1 ?_; clear hK1 hK2 K1 K2
   refine HT_skip ?_
   refine Then_n ?_
   refine HT_seq ?_
   refine HT_block ?_
   refine HT_fr dCo rfl fun K hK => ?_; conv => whnf
   refine hK _ _ _ ?_; clear hK K
   refine HT_fr dCo rfl fun K hK => ?_; conv => whnf
   refine hK _ _ _ ?_; clear hK K
   refine HT_block ?_
   replace h := W_bd h
   refine HT_lpQ (body := flow_amounts_b2 _ _) rfl h [1, 2, 5, 6, 14] (fun σ => keepH σ [2] ++ keepT σ []) (fun σ => keepT σ [] ++ keepH σ [] ++ keepN σ [0]) [5] (fun kl kh kr ids b s => ⟨ofL ([(17, eI s.1)] ++ kl), ofH (([] ++ kh) ++ ([(nthN ids 0, .cells (cA s.2))] ++ kr)), b + 128⟩) ?_; (conv => whnf); refine And.intro ?_ (fun s m h => HT_st ?_)
   · refine weak_r ?_; conv => whnf
     exact And.intro rfl (And.intro (aLc wkI (aLc (WkR.ptr (fun _ => rfl)) (aLc (WkR.ptr (fun _ => rfl)) (aLc (WkR.ptr (fun _ => rfl)) (aLc wkI (aLc wkI aLn)))))) (aLc ⟨some _, rfl, BkR_c rfl (cKc wkI (cKc (wkr (lsL fun _ => (lo_TEdge _))) cKn))⟩ (aLc ⟨some _, rfl, BkR_arr rfl rfl⟩ (aLc ⟨some _, rfl, BkR_arr rfl rfl⟩ aLn))))
   replace h := W_bflow_amounts_b2 (W_bd h)
   refine HT_fr dCo rfl fun K hK => ?_; conv => whnf
   refine hK _ _ _ ?_; clear hK K
   refine HT_seq ?_
   refine HT_if fun K1 K2 hK1 hK2 => ?_; conv => whnf
   refine cond_lk h (fun _ h => ?_) (fun _ h => ?_)
   · refine hK1 ?_; clear hK1 hK2 K1 K2
     refine HT_skip ?_
     refine Then_n ?_
     refine HT_seq ?_
     refine HT_block ?_
     refine HT_fr dCo rfl fun K hK => ?_; conv => whnf
     refine hK _ _ _ ?_; clear hK K
     refine HT_fD dCo mix_ok rfl (by kernel_rfl) fun K hK => ?_; conv => whnf
     refine gd_lk h fun hx433 h => ?_; conv => whnf
     refine gd_lk h fun hx434 h => ?_; conv => whnf
     refine nlA rfl ?_; conv => whnf
     refine bKo rfl ?_; conv => whnf
     refine get_ar2 (m := 14) rfl rfl hx433 hx434 ?_; conv => whnf
     refine gd_lk h fun hx435 h => ?_; conv => whnf
     refine gd_lk h fun hx436 h => ?_; conv => whnf
     refine nlA rfl ?_; conv => whnf
     refine bKo rfl ?_; conv => whnf
     refine get_ar2 (m := 14) rfl rfl hx435 hx436 ?_; conv => whnf
     refine gd_lk h fun hx437 h => ?_; conv => whnf
     refine gd_lk h fun hx438 h => ?_; conv => whnf
     refine bKo rfl ?_; conv => whnf
     refine st_ar2 (m := 14) rfl rfl hx437 hx438 rfl rfl ?_; conv => whnf
     refine hK _ _ _ ?_; clear hK K
     refine InBlock_n ?_
     refine Then_n ?_
     refine HT_f dCo rfl fun K hK => ?_; conv => whnf
     refine hK _ _ _ ?_; clear hK K
     refine Then_n ?_
     replace h := W_xnx h
     refine ⟨_, h, ?_⟩
     refine weak_r ?_; conv => whnf
     exact And.intro rfl (And.intro (aLc wkI (aLc (WkR.ptr (fun _ => rfl)) (aLc (WkR.ptr (fun _ => rfl)) (aLc (WkR.ptr (fun _ => rfl)) (aLc wkI (aLc wkI aLn)))))) (aLc ⟨some _, rfl, BkR_c rfl (cKc wkI (cKc (wkr (lsL fun _ => (lo_TEdge _))) cKn))⟩ (aLc ⟨some _, rfl, BkR_arr rfl rfl⟩ (aLc ⟨some _, rfl, BkR_arr rfl rfl⟩ aLn))))
   refine hK2 ?_; clear hK1 hK2 K1 K2
   refine HT_exit ?_
   refine Then_e ?_
   refine Then_e ?_
   refine InBlock_e ?_
   replace h := W_xbk h
   replace h := W_inl h
   refine InBlock_n ?_
   refine Then_n ?_
   refine HT_f dCo rfl fun K hK => ?_; conv => whnf
   refine hK _ _ _ ?_; clear hK K
   refine Then_n ?_
   replace h := W_xnx h
   refine ⟨_, h, ?_⟩
   refine weak_r ?_; conv => whnf
   exact And.intro rfl (And.intro (aLc wkI (aLc (WkR.ptr (fun _ => rfl)) (aLc (WkR.ptr (fun _ => rfl)) (aLc (WkR.ptr (fun _ => rfl)) aLn)))) (aLc ⟨some _, rfl, BkR_c rfl (cKc wkI (cKc (wkr (lsL fun _ => (lo_TEdge _))) cKn))⟩ (aLc ⟨some _, rfl, BkR_arr rfl rfl⟩ (aLc ⟨some _, rfl, BkR_arr rfl rfl⟩ aLn))))
 refine hK2 ?_; clear hK1 hK2 K1 K2
 refine HT_exit ?_
 refine Then_e ?_
 refine Then_e ?_
 refine InBlock_e ?_
 replace h := W_xbk h
 replace h := W_inl h
 refine Then_n ?_
 refine HT_fr dCo rfl fun K hK => ?_; conv => whnf
 refine hK _ _ _ ?_; clear hK K
 refine HT_seq ?_
 refine HT_fr dCo rfl fun K hK => ?_; conv => whnf
 refine nlA rfl ?_; conv => whnf
 refine bKo rfl ?_; conv => whnf
 refine getK_of rfl ?_; conv => whnf
 refine hK _ _ _ ?_; clear hK K
 refine HT_block ?_
 replace h := W_bd h
 refine HT_lpQ (body := flow_amounts_b3 _) rfl h [5, 45, 46] (fun σ => keepH σ [] ++ keepT σ []) (fun σ => keepT σ [] ++ keepH σ [] ++ keepN σ [0]) [5] (fun kl kh kr ids b s => ⟨ofL ([(8, .lst (.tok (b + 0)) 1 s.1.length (fun j => eI (s.1.getD j default))), (47, eI s.2.1)] ++ kl), ofH (([(b + 0, .cells [])] ++ kh) ++ ([(nthN ids 0, .cells (cA s.2.2))] ++ kr)), b + 192⟩) ?_; (conv => whnf); refine And.intro ?_ (fun s m h => HT_st ?_)
 · refine weak_r ?_; conv => whnf
   exact And.intro rfl (And.intro (aLc (WkR.nil (fun _ => rfl)) (aLc wkI (aLc (WkR.ptr (fun _ => rfl)) (aLc (wkr (lsL fun _ => (lo_TEdge _))) (aLc wkI aLn))))) (aLc ⟨none, rfl, BkR_n⟩ (aLc ⟨some _, rfl, BkR_arr rfl rfl⟩ (aLc ⟨some _, rfl, BkR_arr rfl rfl⟩ aLn))))
 replace h := W_bflow_amounts_b3 (W_bd h)
 refine HT_fr dCo rfl fun K hK => ?_; conv => whnf
 refine hK _ _ _ ?_; clear hK K
 refine HT_seq ?_
 refine HT_if fun K1 K2 hK1 hK2 => ?_; conv => whnf
 refine cond_lk h (fun _ h => ?_) (fun _ h => ?_)
 · refine hK1 ?_; clear hK1 hK2 K1 K2
   refine HT_skip ?_
   refine Then_n ?_
   refine HT_seq ?_
   refine HT_block ?_
   refine HT_fr dCo rfl fun K hK => ?_; conv => whnf
   refine ix_lk h fun _ h => ?_; conv => whnf
   refine nlA rfl ?_; conv => whnf
   refine bKo rfl ?_; conv => whnf
   refine And.intro rfl (And.intro (nle rfl) (And.intro rfl ?_)); conv => whnf
   refine hK _ _ _ ?_; clear hK K
   refine HT_fd dCo mix_ok rfl (by kernel_rfl) fun K hK => ?_; conv => whnf
   refine nlA rfl ?_; conv => whnf
   refine bKo rfl ?_; conv => whnf
   refine getK_of rfl ?_; conv => whnf
   refine nlA rfl ?_; conv => whnf
   refine bKo rfl ?_; conv => whnf
   refine getK_of rfl ?_; conv => whnf
   refine nlA rfl ?_; conv => whnf
   refine bKo rfl ?_; conv => whnf
   refine getK_of rfl ?_; conv => whnf
   refine gd_lk h fun hx511 h => ?_; conv => whnf
   refine gd_lk h fun hx512 h => ?_; conv => whnf
   refine nlA rfl ?_; conv => whnf
   refine bKo rfl ?_; conv => whnf
   refine get_ar2 (m := 14) rfl rfl hx511 hx512 ?_; conv => whnf
   refine hK _ _ _ ?_; clear hK K
   refine HT_fd dCo mix_ok rfl (by kernel_rfl) fun K hK => ?_; conv => whnf
   refine nlA rfl ?_; conv => whnf
   refine bKo rfl ?_; conv => whnf
   refine getK_of rfl ?_; conv => whnf
   refine nlA rfl ?_; conv => whnf
   refine bKo rfl ?_; conv => whnf
   refine getK_of rfl ?_; conv => whnf
   refine gd_lk h fun hx513 h => ?_; conv => whnf
   refine gd_lk h fun hx514 h => ?_; conv => whnf
   refine nlA rfl ?_; conv => whnf
   refine bKo rfl ?_; conv => whnf
   refine get_ar2 (m := 14) rfl rfl hx513 hx514 ?_; conv => whnf
   refine gd_lk h fun hx515 h => ?_; conv => whnf
   refine gd_lk h fun hx516 h => ?_; conv => whnf
   refine bKo rfl ?_; conv => whnf
   refine st_ar2 (m := 14) rfl rfl hx515 hx516 rfl rfl ?_; conv => whnf
   refine hK _ _ _ ?_; clear hK K
   refine HT_f dCo rfl fun K hK => ?_; conv => whnf
   refine lt_lk (enc := eI) (d := default) dCo h rfl rfl rfl ⟨nle rfl, nle rfl, rfl⟩ rfl ⟨⟨rfl, rfl, rfl⟩, trivial⟩ (fun h => ?_); conv => whnf
   refine ap_lk (enc := eI) (d := default) dCo h (.inl rfl) rfl rfl rfl ⟨rfl, nle rfl, nle rfl, nle rfl, rfl⟩ (fun _ => rfl) (.inr (.inr ⟨_, _, rfl, rfl, rfl⟩)) (fun h => ?_); conv => whnf
   refine hK _ _ _ ?_; clear hK K
   refine InBlock_n ?_
   refine Then_n ?_
   refine HT_f dCo rfl fun K hK => ?_; conv => whnf
   refine hK _ _ _ ?_; clear hK K
   refine Then_n ?_
   replace h := W_xnx h
   refine ⟨_, h, ?_⟩
   refine weak_r ?_; conv => whnf
   exact And.intro rfl (And.intro (aLc (WkR.tok (fun _ => rfl) rfl (fun _ _ => Wk.refl _) (fun _ => (lsI _ _))) (aLc wkI (aLc (WkR.ptr (fun _ => rfl)) (aLc (wkr (lsL fun _ => (lo_TEdge _))) (aLc wkI aLn))))) (aLc ⟨some _, rfl, BkR_c rfl cKn⟩ (aLc ⟨some _, rfl, BkR_arr rfl rfl⟩ (aLc ⟨some _, rfl, BkR_arr rfl rfl⟩ aLn))))
 refine hK2 ?_; clear hK1 hK2 K1 K2
 refine HT_exit ?_
 refine Then_e ?_
 refine Then_e ?_
 refine InBlock_e ?_
 replace h := W_xbk h
 replace h := W_inl h
 refine Then_n ?_
 refine HT_fr dCo rfl fun K hK => ?_; conv => whnf
 refine hK _ _ _ ?_; clear hK K
 refine HT_ret ?_
 replace h := W_some h
 refine PostB_r dCo fun K hK => ?_; conv => whnf
 refine hK _ ?_; clear hK K
 cases h
 exact ⟨Wk_free, rfl, trivial⟩
end Go.Proofs.Ytgkmodjcoedonaa
namespace Go.Proofs.Ytgkmodjcoedonaa
open Go Go.Eng
set_option maxHeartbeats 0
set_option maxRecDepth 100000
def flow_Max_F (a0 : TNet) (a1 : Int) (a2 : Int) : Option ((List Int) × Int × Int) := bd (flow_isPair_F a0 a1 a2) fun y1 =>
   cn (!y1) (some ([], 0, 270)) (bd (flow_open_F a0) fun y2 => bd (push_F a1 a2 y2) fun y3 => bd (flow_amounts_F a0 y3.2.2) fun y4 => some (y4, y3.2.1, 0))
def flow_Max_S : List AV → AV → Prop := fun args r => ∃ a0 a1 a2, args = [eTNet a0, eI a1, eI a2] ∧ W (flow_Max_F a0 a1 a2) fun y => r = (.tup [(eL 1 eI default) y.1, eI y.2.1, eI y.2.2])
theorem flow_Max_ok {T : Tbl} (hT : TOk Try.prog T) (hpf : PfOk T PF) (h50 : T 50 = pureR flow_isPair_S) (h51 : T 51 = ownR flow_open_res flow_open_blk flow_open_S) (h52 : T 52 = blkF push_S) (h53 : T 53 = blkF flow_amounts_S) : FOk Try.prog 21 (pureR flow_Max_S) := by
 refine FOk_pure hT hpf Try.func21 rfl Try.ntmps21 Try.results21 (by decide) ?_
 rintro args r ⟨a0, a1, a2, rfl, h⟩
 refine ⟨nle rfl, ?_, ?_⟩
 · exact (lsC (lo_TNet _) (lsC (lsI _ _) (lsC (lsI _ _) loose_nil)))
 rw [flow_Max_F.eq_1] at h
 refine HT_fr dCo rfl fun K hK => ?_; conv => whnf
 refine hK _ _ _ ?_; clear hK K
 refine HT_seq ?_
 refine HT_fr dCo rfl fun K hK => ?_; conv => whnf
 refine nlA rfl ?_; conv => whnf
 refine bKo rfl ?_; conv => whnf
 refine nlA rfl ?_; conv => whnf
 replace h := W_bd h
 refine flow_isPair_call h50 h (WkL.refl _) (fun _ h => ?_); conv => whnf
 refine hK _ _ _ ?_; clear hK K
 refine HT_if fun K1 K2 hK1 hK2 => ?_; conv => whnf
 refine cond_lk h (fun _ h => ?_) (fun _ h => ?_)
 · refine hK1 ?_; clear hK1 hK2 K1 K2
   refine HT_fr dCo rfl fun K hK => ?_; conv => whnf
   refine hK _ _ _ ?_; clear hK K
   refine HT_ret ?_
   refine Then_r ?_
   replace h := W_some h
   refine PostP_r dCo fun K hK => ?_; conv => whnf
   refine hK _ ?_; clear hK K
   cases h
   exact Wk_tup (WkL_cons Wk_nil (WkL_cons (Wk.refl _) (WkL_cons (Wk.refl _) WkL_nil)))
 refine hK2 ?_; clear hK1 hK2 K1 K2
 refine HT_skip ?_
 refine Then_n ?_
 refine HT_fr dCo rfl fun K hK => ?_; conv => whnf
 refine nlA rfl ?_; conv => whnf
 refine bKo rfl ?_; conv => whnf
 refine nlA rfl ?_; conv => whnf
 refine callsK_own h51 h (fun y e => (⟨_, rfl, e⟩ : flow_open_S _ _)) (WkL.refl _) (fun _ h => ?_); conv => whnf
 refine hK _ _ _ ?_; clear hK K
 refine HT_fr dCo rfl fun K hK => ?_; conv => whnf
 refine callsK_blkF (bs := [_]) (args0 := [.ptr 0 0, _, _]) h52 [_] h (.cons (WkA_ptr rfl) (.cons (WkA_wk (Wk.refl _) (lsI _ _)) (.cons (WkA_wk (Wk.refl _) (lsI _ _)) .nil))) ⟨rfl, trivial⟩ rfl (nle rfl) (fun y e => (⟨_, _, _, _, rfl, rfl, e, rfl, rfl⟩ : push_S _ _ _ _)) (fun _ h => ?_); conv => whnf
 refine hK _ _ _ ?_; clear hK K
 refine HT_fr dCo rfl fun K hK => ?_; conv => whnf
 refine nlA rfl ?_; conv => whnf
 refine bKo rfl ?_; conv => whnf
 refine nlA rfl ?_; conv => whnf
 refine callsK_blkF (bs := [_]) (args0 := [_, .ptr 0 0]) h53 [_] h (.cons (WkA_wk (Wk.refl _) (lo_TNet _)) (.cons (WkA_ptr rfl) .nil)) ⟨rfl, trivial⟩ rfl (nle rfl) (fun y e => (⟨_, _, _, rfl, rfl, e, rfl, rfl⟩ : flow_amounts_S _ _ _ _)) (fun _ h => ?_); conv => whnf
 refine hK _ _ _ ?_; clear hK K
 refine HT_ret ?_
 replace h := W_some h
 refine PostP_r dCo fun K hK => ?_; conv => whnf
 refine hK _ ?_; clear hK K
 cases h
 exact Wk.refl _
theorem flow_Max_call {T : Tbl} (hT : T 21 = pureR flow_Max_S) {args : List AV} {hp : Heap} {id : Nat} {k : AV → Prop} {a0 : TNet} {a1 : Int} {a2 : Int} {Φ : (List Int) × Int × Int → Prop} (h : W (flow_Max_F a0 a1 a2) Φ) (hw : WkL args [eTNet a0, eI a1, eI a2]) (hk : ∀ y, Φ y → k (.tup [(eL 1 eI default) y.1, eI y.2.1, eI y.2.2])) : callpK T 21 args hp id k := by
 obtain ⟨y, e, hy⟩ := W_inv h
 exact callpK_pure hT ⟨a0, a1, a2, rfl, W_of e rfl⟩ (by exact loose_tup (lsC (lsL fun _ => (lsI _ _)) (lsC (lsI _ _) (lsC (lsI _ _) loose_nil)))) hw (hk y hy)

   def flow_Meet_b1 (a1 : List Int) (s3 : Int × Int × (Ar 196)) : Option (Ct (Int × Int × (Ar 196)) (TSupply × Int)) := cn (decide (s3.2.1 < (a1.length : Int))) (ix a1 default s3.2.1 fun e4 =>
   jn (fun p5 : Int × (Ar 196) => some (.nx (p5.1, (wr (s3.2.1 + 1)), p5.2))) fun k6 => cn (decide (e4 >
   0)) (gd (0 ≤ s3.2.1 ∧ s3.2.1 < (14 : Int)) (let m7 := s3.2.2.st2 14 12 s3.2.1 e4;
   k6 ((wr (s3.1 + e4)), m7))) (gd (0 ≤ s3.2.1 ∧ s3.2.1 < (14 : Int)) (let m8 := s3.2.2.st2 14 s3.2.1 13 (wr (0 - e4)); k6 (s3.1, m8)))) (some (.bk (s3.1, s3.2.1, s3.2.2)))
theorem W_bflow_Meet_b1 {a1 : List Int} {s3 : Int × Int × (Ar 196)} {Φ : Ct (Int × Int × (Ar 196)) (TSupply × Int) → Prop} (h : W (flow_Meet_b1 a1 s3) Φ) : W (cn (decide (s3.2.1 < (a1.length : Int))) (ix a1 default s3.2.1 fun e4 => jn (fun p5 : Int × (Ar 196) => some (.nx (p5.1, (wr (s3.2.1 + 1)), p5.2))) fun k6 => cn (decide (e4 >
   0)) (gd (0 ≤ s3.2.1 ∧ s3.2.1 < (14 : Int)) (let m7 := s3.2.2.st2 14 12 s3.2.1 e4;
   k6 ((wr (s3.1 + e4)), m7))) (gd (0 ≤ s3.2.1 ∧ s3.2.1 < (14 : Int)) (let m8 := s3.2.2.st2 14 s3.2.1 13 (wr (0 - e4)); k6 (s3.1, m8)))) (some (.bk (s3.1, s3.2.1, s3.2.2)))) Φ := h
def flow_Meet_F (a0 : TNet) (a1 : List Int) : Option (TSupply × Int) := bd (flow_isSupply_F a0 a1) fun y1 =>
   cn (!y1) (some ((⟨false, [], 0⟩ : TSupply), 270)) (bd (flow_open_F a0) fun y2 => bd (lp (flow_Meet_b1 a1) FU (0, 0, y2)) fun c9 => smK c9 (fun s10 =>
   bd (push_F 12 13 s10.2.2) fun y12 =>
   cn (decide (y12.1 < s10.1)) (gd (0 ≤ a0.N) (some ((⟨false, [], (band .i64 y12.2.1 (wr ((bshl .i64 1 a0.N) - 1)))⟩ : TSupply), 0))) (bd (flow_amounts_F a0 y12.2.2) fun y13 =>
   some ((⟨true, y13, 0⟩ : TSupply), 0))) (fun r11 => some r11))
def flow_Meet_S : List AV → AV → Prop := fun args r => ∃ a0 a1, args = [eTNet a0, (eL 1 eI default) a1] ∧ W (flow_Meet_F a0 a1) fun y => r = (.tup [eTSupply y.1, eI y.2])
theorem flow_Meet_ok {T : Tbl} (hT : TOk Try.prog T) (hpf : PfOk T PF) (h51 : T 51 = ownR flow_open_res flow_open_blk flow_open_S) (h52 : T 52 = blkF push_S) (h53 : T 53 = blkF flow_amounts_S) (h68 : T 68 = pureR flow_isSupply_S) : FOk Try.prog 38 (pureR flow_Meet_S) := by
 refine FOk_pure hT hpf Try.func38 rfl Try.ntmps38 Try.results38 (by decide) ?_
 rintro args r ⟨a0, a1, rfl, h⟩
 refine ⟨nle rfl, ?_, ?_⟩
 · exact (lsC (lo_TNet _) (lsC (lsL fun _ => (lsI _ _)) loose_nil))
 rw [flow_Meet_F.eq_1] at h
 refine HT_fr dCo rfl fun K hK => ?_; conv => whnf
 refine hK _ _ _ ?_; clear hK K
 refine HT_seq ?_
 refine HT_fr dCo rfl fun K hK => ?_; conv => whnf
 refine nlA rfl ?_; conv => whnf
 refine bKo rfl ?_; conv => whnf
 refine nlA rfl ?_; conv => whnf
 replace h := W_bd h
 refine flow_isSupply_call h68 h (WkL.refl _) (fun _ h => ?_); conv => whnf
 refine hK _ _ _ ?_; clear hK K
 refine HT_if fun K1 K2 hK1 hK2 => ?_; conv => whnf
 refine cond_lk h (fun _ h => ?_) (fun _ h => ?_)
 · refine hK1 ?_; clear hK1 hK2 K1 K2
   refine HT_fr dCo rfl fun K hK => ?_; conv => whnf
   refine bKo rfl ?_; conv => whnf
   refine And.intro rfl (And.intro (nle rfl) (And.intro rfl ?_)); conv => whnf
   refine hK _ _ _ ?_; clear hK K
   refine HT_ret ?_
   refine Then_r ?_
   replace h := W_some h
   refine PostP_r dCo fun K hK => ?_; conv => whnf
   refine nlA rfl ?_; conv => whnf
   refine bKo rfl ?_; conv => whnf
   refine nlA rfl ?_; conv => whnf
   refine hK _ ?_; clear hK K
   cases h
   exact Wk_tup (WkL_cons (Wk_agg (WkL_cons (Wk.refl _) (WkL_cons Wk_nil (WkL_cons (Wk.refl _) WkL_nil)))) (WkL_cons (Wk.refl _) WkL_nil))
 refine hK2 ?_; clear hK1 hK2 K1 K2
 refine HT_skip ?_
 refine Then_n ?_
 refine HT_fr dCo rfl fun K hK => ?_; conv => whnf
 refine nlA rfl ?_; conv => whnf
 refine bKo rfl ?_; conv => whnf
 refine nlA rfl ?_; conv => whnf
 refine callsK_own h51 h (fun y e => (⟨_, rfl, e⟩ : flow_open_S _ _)) (WkL.refl _) (fun _ h => ?_); conv => whnf
 refine hK _ _ _ ?_; clear hK K
 refine HT_fr dCo rfl fun K hK => ?_; conv => whnf
 refine hK _ _ _ ?_; clear hK K
 refine HT_seq ?_
 refine HT_fr dCo rfl fun K hK => ?_; conv => whnf
 refine hK _ _ _ ?_; clear hK K
 refine HT_block ?_
 replace h := W_bd h
 refine HT_lpR (body := flow_Meet_b1 _) rfl h [2, 4, 6, 19, 20] [2, 4] [] [6] (fun kl kh kr ids b s => ⟨ofL ([(7, eI s.1), (21, eI s.2.1)] ++ kl), ofH (([] ++ kh) ++ ([(nthN ids 0, .cells (cA s.2.2))] ++ kr)), b + 128⟩) ?_; (conv => whnf); refine And.intro ?_ (fun s m h => HT_st ?_)
 · refine weak_r ?_; conv => whnf
   exact And.intro rfl (And.intro (aLc wkI (aLc wkI (aLc (WkR.ptr (fun _ => rfl)) (aLc (WkR.ptr (fun _ => rfl)) (aLc (WkR.ptr (fun _ => rfl)) (aLc (wkr (lsL fun _ => (lsI _ _))) (aLc wkI aLn))))))) (aLc ⟨some _, rfl, BkR_c rfl (cKc wkI (cKc (wkr (lsL fun _ => (lo_TEdge _))) cKn))⟩ (aLc ⟨some _, rfl, BkR_c rfl (cKc (wkr (lsB _)) (cKc (wkr loose_nils) (cKc wkI cKn)))⟩ (aLc ⟨some _, rfl, BkR_arr rfl rfl⟩ aLn))))
 replace h := W_bflow_Meet_b1 (W_bd h)
 refine HT_fr dCo rfl fun K hK => ?_; conv => whnf
 refine hK _ _ _ ?_; clear hK K
 refine HT_seq ?_
 refine HT_if fun K1 K2 hK1 hK2 => ?_; conv => whnf
 refine cond_lk h (fun _ h => ?_) (fun _ h => ?_)
 · refine hK1 ?_; clear hK1 hK2 K1 K2
   refine HT_skip ?_
   refine Then_n ?_
   refine HT_seq ?_
   refine HT_block ?_
   refine HT_fr dCo rfl fun K hK => ?_; conv => whnf
   refine ix_lk h fun _ h => ?_; conv => whnf
   refine getK_of rfl ?_; conv => whnf
   refine hK _ _ _ ?_; clear hK K
   refine HT_fr dCo rfl fun K hK => ?_; conv => whnf
   refine hK _ _ _ ?_; clear hK K
   replace h := W_jn h
   refine HT_if fun K1 K2 hK1 hK2 => ?_; conv => whnf
   refine cond_lk h (fun _ h => ?_) (fun _ h => ?_)
   · refine hK1 ?_; clear hK1 hK2 K1 K2
     refine HT_fr dCo rfl fun K hK => ?_; conv => whnf
     refine And.intro (by decide) ?_; conv => whnf
     refine gd_lk h fun hx55 h => ?_; conv => whnf
     refine bKo rfl ?_; conv => whnf
     refine st_ar2 (m := 14) rfl rfl (by decide) hx55 rfl rfl ?_; conv => whnf
     refine hK _ _ _ ?_; clear hK K
     refine HT_f dCo rfl fun K hK => ?_; conv => whnf
     refine hK _ _ _ ?_; clear hK K
     refine InBlock_n ?_
     refine Then_n ?_
     refine HT_f dCo rfl fun K hK => ?_; conv => whnf
     refine hK _ _ _ ?_; clear hK K
     refine Then_n ?_
     replace h := W_xnx h
     refine ⟨_, h, ?_⟩
     refine weak_r ?_; conv => whnf
     exact And.intro rfl (And.intro (aLc wkI (aLc wkI (aLc (WkR.ptr (fun _ => rfl)) (aLc (WkR.ptr (fun _ => rfl)) (aLc (WkR.ptr (fun _ => rfl)) (aLc (wkr (lsL fun _ => (lsI _ _))) (aLc wkI aLn))))))) (aLc ⟨some _, rfl, BkR_c rfl (cKc wkI (cKc (wkr (lsL fun _ => (lo_TEdge _))) cKn))⟩ (aLc ⟨some _, rfl, BkR_c rfl (cKc (wkr (lsB _)) (cKc (wkr loose_nils) (cKc wkI cKn)))⟩ (aLc ⟨some _, rfl, BkR_arr rfl rfl⟩ aLn))))
   refine hK2 ?_; clear hK1 hK2 K1 K2
   refine HT_f dCo rfl fun K hK => ?_; conv => whnf
   refine gd_lk h fun hx56 h => ?_; conv => whnf
   refine And.intro (by decide) ?_; conv => whnf
   refine bKo rfl ?_; conv => whnf
   refine st_ar2 (m := 14) rfl rfl hx56 (by decide) rfl rfl ?_; conv => whnf
   refine hK _ _ _ ?_; clear hK K
   refine InBlock_n ?_
   refine Then_n ?_
   refine HT_f dCo rfl fun K hK => ?_; conv => whnf
   refine hK _ _ _ ?_; clear hK K
   refine Then_n ?_
   replace h := W_xnx h
   refine ⟨_, h, ?_⟩
   refine weak_r ?_; conv => whnf
   exact And.intro rfl (And.intro (aLc wkI (aLc wkI (aLc (WkR.ptr (fun _ => rfl)) (aLc (WkR.ptr (fun _ => rfl)) (aLc (WkR.ptr (fun _ => rfl)) (aLc (wkr (lsL fun _ => (lsI _ _))) (aLc wkI aLn))))))) (aLc ⟨some _, rfl, BkR_c rfl (cKc wkI (cKc (wkr (lsL fun _ => (lo_TEdge _))) cKn))⟩ (aLc ⟨some _, rfl, BkR_c rfl (cKc (wkr (lsB _)) (cKc (wkr loose_nils) (cKc wkI cKn)))⟩ (aLc ⟨some _, rfl, BkR_arr rfl rfl⟩ aLn))))
 refine hK2 ?_; clear hK1 hK2 K1 K2
 refine HT_exit ?_
 refine Then_e ?_
 refine Then_e ?_
 refine InBlock_e ?_
 replace h := W_xbk h
 replace h := W_inl h
 refine Then_n ?_
 refine HT_fr dCo rfl fun K hK => ?_; conv => whnf
 refine callsK_blkF (bs := [_]) (args0 := [.ptr 0 0, _, _]) h52 [_] h (.cons (WkA_ptr rfl) (.cons (WkA_wk (Wk.refl _) (lsI _ _)) (.cons (WkA_wk (Wk.refl _) (lsI _ _)) .nil))) ⟨rfl, trivial⟩ rfl (nle rfl) (fun y e => (⟨_, _, _, _, rfl, rfl, e, rfl, rfl⟩ : push_S _ _ _ _)) (fun _ h => ?_); conv => whnf
 refine hK _ _ _ ?_; clear hK K
 refine HT_seq ?_
 refine HT_fr dCo rfl fun K hK => ?_; conv => whnf
 refine hK _ _ _ ?_; clear hK K
 refine HT_if fun K1 K2 hK1 hK2 => ?_; conv => whnf
 refine cond_lk h (fun _ h => ?_) (fun _ h => ?_)
 · refine hK1 ?_; clear hK1 hK2 K1 K2
   refine HT_fr dCo rfl fun K hK => ?_; conv => whnf
   refine nlA rfl ?_; conv => whnf
   refine bKo rfl ?_; conv => whnf
   refine getK_of rfl ?_; conv => whnf
   refine gd_lk h fun _ h => ?_; conv => whnf
   refine bKo rfl ?_; conv => whnf
   refine And.intro rfl (And.intro (nle rfl) (And.intro rfl ?_)); conv => whnf
   refine hK _ _ _ ?_; clear hK K
   refine HT_ret ?_
   refine Then_r ?_
   replace h := W_some h
   refine PostP_r dCo fun K hK => ?_; conv => whnf
   refine nlA rfl ?_; conv => whnf
   refine bKo rfl ?_; conv => whnf
   refine nlA rfl ?_; conv => whnf
   refine hK _ ?_; clear hK K
   cases h
   exact Wk_tup (WkL_cons (Wk_agg (WkL_cons (Wk.refl _) (WkL_cons Wk_nil (WkL_cons (Wk.refl _) WkL_nil)))) (WkL_cons (Wk.refl _) WkL_nil))
 refine hK2 ?_; clear hK1 hK2 K1 K2
 refine HT_skip ?_
 refine Then_n ?_
 refine HT_fr dCo rfl fun K hK => ?_; conv => whnf
 refine nlA rfl ?_; conv => whnf
 refine bKo rfl ?_; conv => whnf
 refine nlA rfl ?_; conv => whnf
 refine callsK_blkF (bs := [_]) (args0 := [_, .ptr 0 0]) h53 [_] h (.cons (WkA_wk (Wk.refl _) (lo_TNet _)) (.cons (WkA_ptr rfl) .nil)) ⟨rfl, trivial⟩ rfl (nle rfl) (fun y e => (⟨_, _, _, rfl, rfl, e, rfl, rfl⟩ : flow_amounts_S _ _ _ _)) (fun _ h => ?_); conv => whnf
 refine bKo rfl ?_; conv => whnf
 refine And.intro rfl (And.intro (nle rfl) (And.intro rfl ?_)); conv => whnf
 refine hK _ _ _ ?_; clear hK K
 refine HT_ret ?_
 replace h := W_some h
 refine PostP_r dCo fun K hK => ?_; conv => whnf
 refine nlA rfl ?_; conv => whnf
 refine bKo rfl ?_; conv => whnf
 refine nlA rfl ?_; conv => whnf
 refine hK _ ?_; clear hK K
 cases h
 exact Wk.refl _
theorem flow_Meet_call {T : Tbl} (hT : T 38 = pureR flow_Meet_S) {args : List AV} {hp : Heap} {id : Nat} {k : AV → Prop} {a0 : TNet} {a1 : List Int} {Φ : TSupply × Int → Prop} (h : W (flow_Meet_F a0 a1) Φ) (hw : WkL args [eTNet a0, (eL 1 eI default) a1]) (hk : ∀ y, Φ y → k (.tup [eTSupply y.1, eI y.2])) : callpK T 38 args hp id k := by
 obtain ⟨y, e, hy⟩ := W_inv h
 exact callpK_pure hT ⟨a0, a1, rfl, W_of e rfl⟩ (by exact loose_tup (lsC (lo_TSupply _) (lsC (lsI _ _) loose_nil))) hw (hk y hy)
def law27_greatest_F (a0 : TNet) (a1 : Int) (a2 : Int) : Option (Int × Int × Bool) := bd (flow_Max_F a0 a1 a2) fun y1 => bd (flow_CheckFlow_F a0 a1 a2 y1.1) fun y2 =>
   bd (flow_CheckCut_F a0 a1 a2 y1.2.1) fun y3 => jn (fun p4 : Bool => some (y2.1, y1.2.1, p4)) fun k5 => cn (y1.2.2 == 0) (cn y2.2 (cn y3.2 (k5 (y2.1 ==
   y3.1)) (k5 false)) (k5 false)) (k5 false)
def law27_greatest_S : List AV → AV → Prop := fun args r => ∃ a0 a1 a2, args = [eTNet a0, eI a1, eI a2] ∧ W (law27_greatest_F a0 a1 a2) fun y => r = (.tup [eI y.1, eI y.2.1, eB y.2.2])
theorem law27_greatest_ok {T : Tbl} (hT : TOk Try.prog T) (hpf : PfOk T PF) (h21 : T 21 = pureR flow_Max_S) (h26 : T 26 = pureR flow_CheckFlow_S) (h28 : T 28 = pureR flow_CheckCut_S) : FOk Try.prog 43 (pureR law27_greatest_S) := by
 refine FOk_pure hT hpf Try.func43 rfl Try.ntmps43 Try.results43 (by decide) ?_
 rintro args r ⟨a0, a1, a2, rfl, h⟩
 refine ⟨nle rfl, ?_, ?_⟩
 · exact (lsC (lo_TNet _) (lsC (lsI _ _) (lsC (lsI _ _) loose_nil)))
 rw [law27_greatest_F.eq_1] at h
 refine HT_fr dCo rfl fun K hK => ?_; conv => whnf
 refine hK _ _ _ ?_; clear hK K
 refine HT_fr dCo rfl fun K hK => ?_; conv => whnf
 refine nlA rfl ?_; conv => whnf
 refine bKo rfl ?_; conv => whnf
 refine nlA rfl ?_; conv => whnf
 replace h := W_bd h
 refine flow_Max_call h21 h (WkL.refl _) (fun _ h => ?_); conv => whnf
 refine hK _ _ _ ?_; clear hK K
 refine HT_fr dCo rfl fun K hK => ?_; conv => whnf
 refine nlA rfl ?_; conv => whnf
 refine bKo rfl ?_; conv => whnf
 refine nlA rfl ?_; conv => whnf
 replace h := W_bd h
 refine flow_CheckFlow_call h26 h (WkL.refl _) (fun _ h => ?_); conv => whnf
 refine hK _ _ _ ?_; clear hK K
 refine HT_fr dCo rfl fun K hK => ?_; conv => whnf
 refine nlA rfl ?_; conv => whnf
 refine bKo rfl ?_; conv => whnf
 refine nlA rfl ?_; conv => whnf
 replace h := W_bd h
 refine flow_CheckCut_call h28 h (WkL.refl _) (fun _ h => ?_); conv => whnf
 refine hK _ _ _ ?_; clear hK K
 refine HT_fr dCo rfl fun K hK => ?_; conv => whnf
 replace h := W_jn h
 refine cond_lk h (fun _ h => ?_) (fun _ h => ?_) <;> (conv => whnf)
 · refine cond_lk h (fun _ h => ?_) (fun _ h => ?_) <;> (conv => whnf)
   · refine cond_lk h (fun _ h => ?_) (fun _ h => ?_) <;> (conv => whnf)
     · refine hK _ _ _ ?_; clear hK K
       refine HT_ret ?_
       replace h := W_some h
       refine PostP_r dCo fun K hK => ?_; conv => whnf
       refine hK _ ?_; clear hK K
       cases h
       exact Wk.refl _
     refine hK _ _ _ ?_; clear hK K
     refine HT_ret ?_
     replace h := W_some h
     refine PostP_r dCo fun K hK => ?_; conv => whnf
     refine hK _ ?_; clear hK K
     cases h
     exact Wk.refl _
   refine hK _ _ _ ?_; clear hK K
   refine HT_ret ?_
   replace h := W_some h
   refine PostP_r dCo fun K hK => ?_; conv => whnf
   refine hK _ ?_; clear hK K
   cases h
   exact Wk.refl _
 refine hK _ _ _ ?_; clear hK K
 refine HT_ret ?_
 replace h := W_some h
 refine PostP_r dCo fun K hK => ?_; conv => whnf
 refine hK _ ?_; clear hK K
 cases h
 exact Wk.refl _
def law27_example_F : Option TNet := lt ([(⟨0, 1, 5⟩ : TEdge), (⟨0, 2, 3⟩ : TEdge), (⟨1, 3, 4⟩ : TEdge), (⟨2, 3, 3⟩ : TEdge), (⟨1, 2, 1⟩ : TEdge)] : List TEdge) fun l1 =>
   some (⟨4, l1⟩ : TNet)
def law27_example_S : List AV → AV → Prop := fun args r =>  args = [] ∧ W (law27_example_F ) fun y => r = (eTNet y)
theorem law27_example_ok {T : Tbl} (hT : TOk Try.prog T) (hpf : PfOk T PF) : FOk Try.prog 44 (pureR law27_example_S) := by
 refine FOk_pure hT hpf Try.func44 rfl Try.ntmps44 Try.results44 (by decide) ?_
 rintro args r ⟨rfl, h⟩
 refine ⟨nle rfl, ?_, ?_⟩
 · exact loose_nil
 rw [law27_example_F.eq_1] at h
 refine HT_fr dCo rfl fun K hK => ?_; conv => whnf
 refine hK _ _ _ ?_; clear hK K
 refine HT_fr dCo rfl fun K hK => ?_; conv => whnf
 refine lt_lk (enc := eTEdge) (d := default) dCo h rfl rfl rfl ⟨nle rfl, nle rfl, rfl⟩ rfl ⟨⟨rfl, nle rfl⟩, ⟨⟨rfl, nle rfl⟩, ⟨⟨rfl, nle rfl⟩, ⟨⟨rfl, nle rfl⟩, ⟨⟨rfl, nle rfl⟩, trivial⟩⟩⟩⟩⟩ (fun h => ?_); conv => whnf
 refine bKo rfl ?_; conv => whnf
 refine And.intro rfl (And.intro (nle rfl) (And.intro rfl ?_)); conv => whnf
 refine hK _ _ _ ?_; clear hK K
 refine HT_ret ?_
 replace h := W_some h
 refine PostP_r dCo fun K hK => ?_; conv => whnf
 refine nlA rfl ?_; conv => whnf
 refine bKo rfl ?_; conv => whnf
 refine nlA rfl ?_; conv => whnf
 refine hK _ ?_; clear hK K
 cases h
 exact (Wk_agg (WkL_cons (Wk.refl _) (WkL_cons Wk_free WkL_nil)))
theorem law27_example_call {T : Tbl} (hT : T 44 = pureR law27_example_S) {args : List AV} {hp : Heap} {id : Nat} {k : AV → Prop} {Φ : TNet → Prop} (h : W (law27_example_F ) Φ) (hw : WkL args []) (hk : ∀ y, Φ y → k (eTNet y)) : callpK T 44 args hp id k := by
 obtain ⟨y, e, hy⟩ := W_inv h
 exact callpK_pure hT ⟨rfl, W_of e rfl⟩ (by exact (lo_TNet _)) hw (hk y hy)
def law27_few_F (a0 : TNet) : Option TNet := slc a0.Edges 0 (imin (a0.Edges.length : Int) 41) fun l1 => jn (fun p2 : Bool => jn (fun p4 : TNet => some p4) fun k5 =>
   cn p2 (k5 (⟨6, l1⟩ : TNet)) (k5 (⟨a0.N, l1⟩ : TNet))) fun k3 => cn (decide (a0.N > 6)) (k3 (decide (a0.N ≤ 12))) (k3 false)
def law27_few_S : List AV → AV → Prop := fun args r => ∃ a0, args = [eTNet a0] ∧ W (law27_few_F a0) fun y => r = (eTNet y)
theorem law27_few_ok {T : Tbl} (hT : TOk Try.prog T) (hpf : PfOk T PF) : FOk Try.prog 18 (pureR law27_few_S) := by
 refine FOk_pure hT hpf Try.func18 rfl Try.ntmps18 Try.results18 (by decide) ?_
 rintro args r ⟨a0, rfl, h⟩
 refine ⟨nle rfl, ?_, ?_⟩
 · exact (lsC (lo_TNet _) loose_nil)
 rw [law27_few_F.eq_1] at h
 refine HT_fr dCo rfl fun K hK => ?_; conv => whnf
 refine hK _ _ _ ?_; clear hK K
 refine HT_fr dCo rfl fun K hK => ?_; conv => whnf
 refine nlA rfl ?_; conv => whnf
 refine bKo rfl ?_; conv => whnf
 refine getK_of rfl ?_; conv => whnf
 refine nlA rfl ?_; conv => whnf
 refine bKo rfl ?_; conv => whnf
 refine getK_of rfl ?_; conv => whnf
 refine sl_lk h (.inl ⟨rfl, rfl⟩) (.inr ⟨_, rfl⟩) (fun h => ?_); conv => whnf
 refine bKo rfl ?_; conv => whnf
 refine And.intro rfl (And.intro (nle rfl) (And.intro rfl ?_)); conv => whnf
 refine hK _ _ _ ?_; clear hK K
 refine HT_seq ?_
 refine HT_fr dCo rfl fun K hK => ?_; conv => whnf
 replace h := W_jn h
 refine nlA rfl ?_; conv => whnf
 refine bKo rfl ?_; conv => whnf
 refine getK_of rfl ?_; conv => whnf
 refine cond_lk h (fun _ h => ?_) (fun _ h => ?_) <;> (conv => whnf)
 · refine nlA rfl ?_; conv => whnf
   refine bKo rfl ?_; conv => whnf
   refine getK_of rfl ?_; conv => whnf
   refine hK _ _ _ ?_; clear hK K
   replace h := W_jn h
   refine HT_if fun K1 K2 hK1 hK2 => ?_; conv => whnf
   refine cond_lk h (fun _ h => ?_) (fun _ h => ?_)
   · refine hK1 ?_; clear hK1 hK2 K1 K2
     refine HT_f dCo rfl fun K hK => ?_; conv => whnf
     refine bKo rfl ?_; conv => whnf
     refine And.intro rfl (And.intro (nle rfl) (And.intro rfl ?_)); conv => whnf
     refine hK _ _ _ ?_; clear hK K
     refine Then_n ?_
     refine HT_fr dCo rfl fun K hK => ?_; conv => whnf
     refine nlA rfl ?_; conv => whnf
     refine bKo rfl ?_; conv => whnf
     refine nlA rfl ?_; conv => whnf
     refine bKo rfl ?_; conv => whnf
     refine And.intro rfl (And.intro (nle rfl) (And.intro rfl ?_)); conv => whnf
     refine hK _ _ _ ?_; clear hK K
     refine HT_ret ?_
     replace h := W_some h
     refine PostP_r dCo fun K hK => ?_; conv => whnf
     refine nlA rfl ?_; conv => whnf
     refine bKo rfl ?_; conv => whnf
     refine nlA rfl ?_; conv => whnf
     refine hK _ ?_; clear hK K
     cases h
     exact Wk.refl _
   refine hK2 ?_; clear hK1 hK2 K1 K2
   refine HT_skip ?_
   refine Then_n ?_
   refine HT_fr dCo rfl fun K hK => ?_; conv => whnf
   refine nlA rfl ?_; conv => whnf
   refine bKo rfl ?_; conv => whnf
   refine nlA rfl ?_; conv => whnf
   refine bKo rfl ?_; conv => whnf
   refine And.intro rfl (And.intro (nle rfl) (And.intro rfl ?_)); conv => whnf
   refine hK _ _ _ ?_; clear hK K
   refine HT_ret ?_
   replace h := W_some h
   refine PostP_r dCo fun K hK => ?_; conv => whnf
   refine nlA rfl ?_; conv => whnf
   refine bKo rfl ?_; conv => whnf
   refine nlA rfl ?_; conv => whnf
   refine hK _ ?_; clear hK K
   cases h
   exact Wk.refl _
 refine hK _ _ _ ?_; clear hK K
 replace h := W_jn h
 refine HT_if fun K1 K2 hK1 hK2 => ?_; conv => whnf
 refine hK2 ?_; clear hK1 hK2 K1 K2
 replace h := W_cnF h
 refine HT_skip ?_
 refine Then_n ?_
 refine HT_fr dCo rfl fun K hK => ?_; conv => whnf
 refine nlA rfl ?_; conv => whnf
 refine bKo rfl ?_; conv => whnf
 refine nlA rfl ?_; conv => whnf
 refine bKo rfl ?_; conv => whnf
 refine And.intro rfl (And.intro (nle rfl) (And.intro rfl ?_)); conv => whnf
 refine hK _ _ _ ?_; clear hK K
 refine HT_ret ?_
 replace h := W_some h
 refine PostP_r dCo fun K hK => ?_; conv => whnf
 refine nlA rfl ?_; conv => whnf
 refine bKo rfl ?_; conv => whnf
 refine nlA rfl ?_; conv => whnf
 refine hK _ ?_; clear hK K
 cases h
 exact Wk.refl _
end Go.Proofs.Ytgkmodjcoedonaa
namespace Go.Proofs
open Go.Shelf
def Try.sortN_ren : Go.Shelf.Ren := ⟨fun | 6 => 63 | 15 => 79 | 14 => 78 | 28 => 90 | 29 => 91 | 20 => 82 | 21 => 83 | 22 => 84 | 23 => 85 | 24 => 86 | 25 => 87 | 26 => 88 | 27 => 89 | 46 => 92 | 47 => 93 | 48 => 94 | 49 => 95 | 50 => 96 | 57 => 97 | n => n, fun | 22 => 27 | 24 => 3 | 25 => 46 | 3 => 3 | 39 => 99 | 0 => 0 | 53 => 115 | 55 => 117 | 4 => 4 | 46 => 120 | 45 => 119 | 50 => 42 | 5 => 5 | 9 => 9 | 66 => 125 | 70 => 129 | 76 => 131 | 77 => 30 | n => n, fun | n => n⟩
theorem Try.sortN : Go.Proofs.SlLaysF.n6 Try.prog Try.sortN_ren := {
 mixed := by kernel_rfl
 f6 := ⟨Try.f63.name, by decide, Try.func63.trans (congrArg some (by kernel_rfl))⟩
 f14 := ⟨Try.f78.name, by decide, Try.func78.trans (congrArg some (by kernel_rfl))⟩
 f15 := Try.func79.trans (congrArg some (by kernel_rfl))
 f20 := ⟨Try.f82.name, by decide, Try.func82.trans (congrArg some (by kernel_rfl))⟩
 f21 := ⟨Try.f83.name, by decide, Try.func83.trans (congrArg some (by kernel_rfl))⟩
 f22 := ⟨Try.f84.name, by decide, Try.func84.trans (congrArg some (by kernel_rfl))⟩
 f23 := ⟨Try.f85.name, by decide, Try.func85.trans (congrArg some (by kernel_rfl))⟩
 f24 := ⟨Try.f86.name, by decide, Try.func86.trans (congrArg some (by kernel_rfl))⟩
 f25 := ⟨Try.f87.name, by decide, Try.func87.trans (congrArg some (by kernel_rfl))⟩
 f26 := ⟨Try.f88.name, by decide, Try.func88.trans (congrArg some (by kernel_rfl))⟩
 f27 := ⟨Try.f89.name, by decide, Try.func89.trans (congrArg some (by kernel_rfl))⟩
 f28 := Try.func90.trans (congrArg some (by kernel_rfl))
 f29 := Try.func91.trans (congrArg some (by kernel_rfl))
 f46 := ⟨Try.f92.name, by decide, Try.func92.trans (congrArg some (by kernel_rfl))⟩
 f47 := Try.func93.trans (congrArg some (by kernel_rfl))
 f48 := Try.func94.trans (congrArg some (by kernel_rfl))
 f49 := ⟨Try.f95.name, by decide, Try.func95.trans (congrArg some (by kernel_rfl))⟩
 f50 := ⟨Try.f96.name, by decide, Try.func96.trans (congrArg some (by kernel_rfl))⟩
 f57 := ⟨Try.f97.name, by decide, Try.func97.trans (congrArg some (by kernel_rfl))⟩
 t0 := Try.underlying0
 a0 := Try.isAgg0
 z0 := Try.sizeOf0
 v0 := Try.zeroValue0
 t3 := Try.underlying3
 a3 := Try.isAgg3
 z3 := Try.sizeOf3
 v3 := Try.zeroValue3
 t4 := Try.underlying4
 a4 := Try.isAgg4
 z4 := Try.sizeOf4
 v4 := Try.zeroValue4
 t5 := Try.underlying5
 a5 := Try.isAgg5
 z5 := Try.sizeOf5
 v5 := Try.zeroValue5
 t9 := Try.underlying9
 a9 := Try.isAgg9
 z9 := Try.sizeOf9
 v9 := Try.zeroValue9
 t22 := Try.underlying27
 a22 := Try.isAgg27
 z22 := Try.sizeOf27
 v22 := Try.zeroValue27
 a24 := Try.isAgg3
 z24 := Try.sizeOf3
 t25 := Try.underlying46
 a25 := Try.isAgg46
 z25 := Try.sizeOf46
 v25 := Try.zeroValue46
 t39 := Try.underlying99
 a39 := Try.isAgg99
 z39 := Try.sizeOf99
 v39 := Try.zeroValue99
 t45 := Try.underlying119
 a45 := Try.isAgg119
 z45 := Try.sizeOf119
 v45 := Try.zeroValue119
 t46 := Try.underlying120
 a46 := Try.isAgg120
 z46 := Try.sizeOf120
 v46 := Try.zeroValue120
 t50 := Try.underlying42
 a50 := Try.isAgg42
 z50 := Try.sizeOf42
 v50 := Try.zeroValue42
 t53 := Try.underlying115
 a53 := Try.isAgg115
 z53 := Try.sizeOf115
 v53 := Try.zeroValue115
 t55 := Try.underlying117
 a55 := Try.isAgg117
 z55 := Try.sizeOf117
 v55 := Try.zeroValue117
 t66 := Try.underlying125
 a66 := Try.isAgg125
 z66 := Try.sizeOf125
 v66 := Try.zeroValue125
 t70 := Try.underlying129
 a70 := Try.isAgg129
 z70 := Try.sizeOf129
 v70 := Try.zeroValue129
 t76 := Try.underlying131
 a76 := Try.isAgg131
 z76 := Try.sizeOf131
 v76 := Try.zeroValue131
 t77 := Try.underlying30
 a77 := Try.isAgg30
 z77 := Try.sizeOf30
 v77 := Try.zeroValue30 }
def Try.sortN0_ren : Go.Shelf.Ren := ⟨fun | 6 => 63 | 15 => 79 | 14 => 78 | 28 => 90 | 29 => 91 | 20 => 82 | 21 => 83 | 22 => 84 | 23 => 85 | 24 => 86 | 25 => 87 | 26 => 88 | 27 => 89 | 46 => 92 | 47 => 93 | 48 => 94 | 49 => 95 | 50 => 96 | 57 => 97 | n => n, fun | 22 => 27 | 24 => 3 | 25 => 46 | 3 => 3 | 39 => 99 | 0 => 0 | 53 => 115 | 55 => 117 | 4 => 4 | 46 => 120 | 45 => 119 | 50 => 42 | 5 => 5 | 9 => 9 | 66 => 125 | 70 => 129 | 76 => 131 | 77 => 30 | n => n, fun | n => n⟩
theorem Try.sortN0 : Go.Proofs.SlLaysF0.n6 Try.prog Try.sortN0_ren := {
 mixed := by kernel_rfl
 f6 := ⟨Try.f63.name, by decide, Try.func63.trans (congrArg some (by kernel_rfl))⟩
 f14 := ⟨Try.f78.name, by decide, Try.func78.trans (congrArg some (by kernel_rfl))⟩
 f15 := Try.func79.trans (congrArg some (by kernel_rfl))
 f20 := ⟨Try.f82.name, by decide, Try.func82.trans (congrArg some (by kernel_rfl))⟩
 f21 := ⟨Try.f83.name, by decide, Try.func83.trans (congrArg some (by kernel_rfl))⟩
 f22 := ⟨Try.f84.name, by decide, Try.func84.trans (congrArg some (by kernel_rfl))⟩
 f23 := ⟨Try.f85.name, by decide, Try.func85.trans (congrArg some (by kernel_rfl))⟩
 f24 := ⟨Try.f86.name, by decide, Try.func86.trans (congrArg some (by kernel_rfl))⟩
 f25 := ⟨Try.f87.name, by decide, Try.func87.trans (congrArg some (by kernel_rfl))⟩
 f26 := ⟨Try.f88.name, by decide, Try.func88.trans (congrArg some (by kernel_rfl))⟩
 f27 := ⟨Try.f89.name, by decide, Try.func89.trans (congrArg some (by kernel_rfl))⟩
 f28 := Try.func90.trans (congrArg some (by kernel_rfl))
 f29 := Try.func91.trans (congrArg some (by kernel_rfl))
 f46 := ⟨Try.f92.name, by decide, Try.func92.trans (congrArg some (by kernel_rfl))⟩
 f47 := Try.func93.trans (congrArg some (by kernel_rfl))
 f48 := Try.func94.trans (congrArg some (by kernel_rfl))
 f49 := ⟨Try.f95.name, by decide, Try.func95.trans (congrArg some (by kernel_rfl))⟩
 f50 := ⟨Try.f96.name, by decide, Try.func96.trans (congrArg some (by kernel_rfl))⟩
 f57 := ⟨Try.f97.name, by decide, Try.func97.trans (congrArg some (by kernel_rfl))⟩
 t0 := Try.underlying0
 a0 := Try.isAgg0
 z0 := Try.sizeOf0
 v0 := Try.zeroValue0
 t3 := Try.underlying3
 a3 := Try.isAgg3
 z3 := Try.sizeOf3
 v3 := Try.zeroValue3
 t4 := Try.underlying4
 a4 := Try.isAgg4
 z4 := Try.sizeOf4
 v4 := Try.zeroValue4
 t5 := Try.underlying5
 a5 := Try.isAgg5
 z5 := Try.sizeOf5
 v5 := Try.zeroValue5
 t9 := Try.underlying9
 a9 := Try.isAgg9
 z9 := Try.sizeOf9
 v9 := Try.zeroValue9
 t22 := Try.underlying27
 a22 := Try.isAgg27
 z22 := Try.sizeOf27
 v22 := Try.zeroValue27
 t25 := Try.underlying46
 a25 := Try.isAgg46
 z25 := Try.sizeOf46
 v25 := Try.zeroValue46
 t39 := Try.underlying99
 a39 := Try.isAgg99
 z39 := Try.sizeOf99
 v39 := Try.zeroValue99
 t45 := Try.underlying119
 a45 := Try.isAgg119
 z45 := Try.sizeOf119
 v45 := Try.zeroValue119
 t46 := Try.underlying120
 a46 := Try.isAgg120
 z46 := Try.sizeOf120
 v46 := Try.zeroValue120
 t50 := Try.underlying42
 a50 := Try.isAgg42
 z50 := Try.sizeOf42
 v50 := Try.zeroValue42
 t53 := Try.underlying115
 a53 := Try.isAgg115
 z53 := Try.sizeOf115
 v53 := Try.zeroValue115
 t55 := Try.underlying117
 a55 := Try.isAgg117
 z55 := Try.sizeOf117
 v55 := Try.zeroValue117
 t66 := Try.underlying125
 a66 := Try.isAgg125
 z66 := Try.sizeOf125
 v66 := Try.zeroValue125
 t70 := Try.underlying129
 a70 := Try.isAgg129
 z70 := Try.sizeOf129
 v70 := Try.zeroValue129
 t76 := Try.underlying131
 a76 := Try.isAgg131
 z76 := Try.sizeOf131
 v76 := Try.zeroValue131
 t77 := Try.underlying30
 a77 := Try.isAgg30
 z77 := Try.sizeOf30
 v77 := Try.zeroValue30 }
end Go.Proofs
namespace Go.Proofs.Ytgkmodjcoedonaa
open Go Go.Eng Go.Shelf Go.RowKit Go.Lib Go.Sort
set_option maxRecDepth 100000
def capAt (n : TNet) (i : Int) : Int := (n.Edges.getD i.toNat default).Capacity
abbrev inR (n : TNet) : Type := {i : Int // 0 ≤ i ∧ i < (n.Edges.length : Int)}
def toR (n : TNet) (l : List Int) : List (inR n) := l.filterMap fun i => if h : 0 ≤ i ∧ i < (n.Edges.length : Int) then some ⟨i, h⟩ else none
def cmpN (n : TNet) (a b : inR n) : Int := wr (capAt n b.1 - capAt n a.1)
def sortG (n : TNet) (l : List Int) : Bool := n.Edges.all (fun e => decide (-2305843009213693952 ≤ e.Capacity) && decide (e.Capacity ≤ 2305843009213693952)) && (l.all (fun i => decide (0 ≤ i) && decide (i < (n.Edges.length : Int))) && decide (l.length < 4611686018427387904))
def sortN (n : TNet) (l : List Int) : List Int := if sortG n l = true then (if h : 0 < n.Edges.length then (@sortF (inR n) ⟨⟨0, Int.le_refl _, by omega⟩⟩ (cmpN n) (toR n l)).map (·.1) else l) else l
structure SortG (n : TNet) (l : List Int) : Prop where
 cap : ∀ e ∈ n.Edges, -2305843009213693952 ≤ e.Capacity ∧ e.Capacity ≤ 2305843009213693952
 rng : ∀ i ∈ l, 0 ≤ i ∧ i < (n.Edges.length : Int)
 len : l.length < 4611686018427387904
theorem sortG_iff {n : TNet} {l : List Int} : sortG n l = true ↔ SortG n l := by
 unfold sortG
 simp only [Bool.and_eq_true, List.all_eq_true, decide_eq_true_eq]
 exact ⟨fun h => ⟨h.1, h.2.1, h.2.2⟩, fun h => ⟨h.cap, h.rng, h.len⟩⟩
theorem toR_map {n : TNet} : ∀ {l : List Int}, (∀ i ∈ l, 0 ≤ i ∧ i < (n.Edges.length : Int)) → (toR n l).map (·.1) = l
 | [], _ => rfl
 | i :: l, h => by
   have h0 := h i List.mem_cons_self
   unfold toR
   rw [List.filterMap_cons, dif_pos h0]
   simp only [List.map_cons]
   congr 1
   exact toR_map fun j hj => h j (List.mem_cons_of_mem _ hj)
theorem capAt_bd {n : TNet} {l : List Int} (h : SortG n l) (i : inR n) : -2305843009213693952 ≤ capAt n i.1 ∧ capAt n i.1 ≤ 2305843009213693952 := by
 have h1 : i.1.toNat < n.Edges.length := by have := i.2; omega
 unfold capAt
 rw [List.getD_eq_getElem?_getD, List.getElem?_eq_getElem h1]
 exact h.cap _ (List.getElem_mem h1)
theorem cmpN_eq {n : TNet} {l : List Int} (h : SortG n l) (a b : inR n) : cmpN n a b = capAt n b.1 - capAt n a.1 := by
 have h1 := capAt_bd h a
 have h2 := capAt_bd h b
 unfold cmpN
 rw [wr_id (by omega) (by omega)]
theorem cmpN_lt {n : TNet} {l : List Int} (h : SortG n l) (a b : inR n) : ltOf (cmpN n) a b = decide (capAt n b.1 < capAt n a.1) := by
 unfold ltOf
 rw [cmpN_eq h]
 by_cases q : capAt n b.1 < capAt n a.1
 · rw [decide_eq_true q]; simp; omega
 · rw [decide_eq_false q]; simp; omega
theorem cmpN_swo {n : TNet} {l : List Int} (h : SortG n l) : SWO (ltOf (cmpN n)) where
 irrefl x := by rw [cmpN_lt h]; simp
 trans x y z h1 h2 := by rw [cmpN_lt h] at *; simp at *; omega
 ntrans x y z h1 h2 := by rw [cmpN_lt h] at *; simp at *; omega
theorem sortN_len (n : TNet) (l : List Int) : (sortN n l).length = l.length := by
 unfold sortN
 split
 · rename_i hg
   have h := sortG_iff.1 hg
   split
   · rename_i hp
     rw [List.length_map, @sortF_len (inR n) ⟨⟨0, Int.le_refl _, by omega⟩⟩ _ (cmpN_swo h), ← List.length_map (f := (·.1)), toR_map h.rng]
   · rfl
 · rfl
theorem sortN_perm {n : TNet} {l : List Int} (hg : sortG n l = true) : (sortN n l).Perm l ∧ (sortN n l).Pairwise fun i j => capAt n j ≤ capAt n i := by
 have h := sortG_iff.1 hg
 unfold sortN
 rw [if_pos hg]
 split
 · rename_i hp
   letI : Inhabited (inR n) := ⟨⟨0, Int.le_refl _, by omega⟩⟩
   obtain ⟨h1, h2⟩ := sortF_facts (cmpN n) (cmpN_swo h) (toR n l)
   have hl := sortF_len (cmpN n) (cmpN_swo h) (toR n l)
   have hp : (sortF (cmpN n) (toR n l)).Perm (toR n l) := by
     have := h1.2.2
     rw [← List.size_toArray, Array.extract_size] at this
     simp only [List.size_toArray] at this
     rw [← hl, List.extract_toArray] at this
     simpa using this
   refine ⟨by have := hp.map (·.1); rwa [toR_map h.rng] at this, ?_⟩
   rw [List.pairwise_map]
   refine List.pairwise_iff_getElem.2 fun i j hi hj hij => ?_
   have h3 := h2 i j (Nat.zero_le _) hij (by omega)
   rw [cmpN_lt h] at h3
   simp only [List.getElem!_toArray, List.getElem!_eq_getElem?_getD, List.getElem?_eq_getElem hi, List.getElem?_eq_getElem hj, Option.getD_some, decide_eq_false_iff_not] at h3
   omega
 · rename_i hp
   have : l = [] := by
     cases l with
     | nil => rfl
     | cons i l => have := h.rng i List.mem_cons_self; omega
   subst this
   exact ⟨.refl _, .nil⟩
def netE (n : TNet) : AV := .ep [eI n.N, (eL 3 eTEdge default) n.Edges] 0
def sortN_S (g : FuncId) : Nat → List AV → List AV → AV → List AV → Prop := fun n rest bs r bs' => ∃ (net : TNet) (l : List Int), sortG net l = true ∧ rest = [.fn g [] [netE net]] ∧ n = l.length ∧ bs = flE (ceE eI) l ∧ r = .tup [] ∧ bs' = flE (ceE eI) (sortN net l)
theorem flE_val {n : TNet} (l : List (inR n)) : flE (ceE fun x : inR n => eI x.1) l = flE (ceE eI) (l.map (·.1)) := by
 unfold flE
 rw [List.flatMap_map]
theorem sort0 {P : Program} {ρ0 : Shelf.Ren} (L0 : SlLaysF0.n6 P ρ0) {f : FuncId} (hf0 : ρ0.f 6 = f) (ef : ∀ args w, (callFunc f args).run P w = .ok (.enter f args) w) : FOk P f (blkR 1 fun n rest bs r bs' => n = 0 ∧ (∃ x, rest = [x]) ∧ bs = [] ∧ r = .tup [] ∧ bs' = []) := by
 refine ⟨fun av w => ef av w, fun args H base r H' e B w β av hβ hH hB hv => ?_⟩
 obtain ⟨i, n, rest, bs, bs', rfl, hi, ⟨rfl, ⟨x, rfl⟩, rfl, rfl, rfl⟩, rfl⟩ := e
 obtain ⟨v0, av1, rfl, hv0, hv1⟩ := hv
 obtain ⟨v1, av2, rfl, hv1, hv2⟩ := hv1
 simp only [Vs] at hv2
 subst hv2
 have hup : upd H i (some (.cells [])) = H := by
   funext j; unfold upd; split
   · rename_i e; subst e; rw [hi]
   · rfl
 rw [hup]
 simp only [V] at hv0
 obtain ⟨_, _, hv0⟩ := hv0
 have key : ∃ p cap, v0 = .slice p 0 cap := by
   rcases hv0 with ⟨_, a, rfl⟩ | ⟨m, _, _, rfl⟩
   · exact ⟨_, _, rfl⟩
   · exact ⟨_, _, rfl⟩
 obtain ⟨p, cap, rfl⟩ := key
 subst hf0
 refine (AnyF.slices_SortFunc_none (P := P) (ρ := ρ0) L0 p cap v1 w).mono ?_
 rintro e w' ⟨rfl, rfl⟩
 exact ⟨.tuple #[], β, rfl, ⟨Beta.le.refl _, fun j hj => .inl hj, fun c o hc => .inl hc⟩, by simp only [V]; exact ⟨[], rfl, by simp [Vs]⟩, hH, BelowP.refl _ _⟩
def evR {n : TNet} (x : inR n) : Value := .int .i64 x.1
theorem sort_net {g : FuncId} {S : List AV → AV → Prop} (hg : FOk Try.prog g (pureR S)) (eg : ∀ args w, (callFunc g args).run Try.prog w = .ok (.enter g args) w) (net : TNet) (hp : 0 < net.Edges.length) (hc : ∃ l, SortG net l) (hS : ∀ a b : inR net, S [eI a.1, eI b.1, netE net] (eI (cmpN net a b))) :
   FOk Try.prog 63 (blkR 1 (@sortS (inR net) ⟨⟨0, Int.le_refl _, by omega⟩⟩ (fun x => eI x.1) (· = [netE net]) (fun _ => cmpN net) g)) := by
 letI : Inhabited (inR net) := ⟨⟨0, Int.le_refl _, by omega⟩⟩
 obtain ⟨l, hl⟩ := hc
 exact FOk_sort1 Try.sortN Try.sortN0 rfl rfl (fun x : inR net => eI x.1) evR (fun β x => by simp [ceE, cellsL, AV.cells, evR, Vs, V, eI]) (fun β x vs h => by
   simp only [ceE, cellsL, AV.cells, Vs, V, eI] at h
   obtain ⟨_, _, rfl, rfl, rfl⟩ := h; rfl) (fun _ => rfl) (fun _ => cmpN net) (fun _ => cmpN_swo hl) g eg
   (enters Try.func63 rfl rfl) (· = [netE net]) (fun caps hc => by
     subst hc
     exact CmpG_pure hg (enc := fun x : inR net => eI x.1) (fun β x => by simp [evR, V, eI]) (lsC (loose_ep (lsC (lsI _ _) (lsC (lsL fun _ => lo_TEdge _) loose_nil))) loose_nil) fun x y => hS x y)
theorem sort_any {g : FuncId} {S : List AV → AV → Prop} (hg : FOk Try.prog g (pureR S)) (eg : ∀ args w, (callFunc g args).run Try.prog w = .ok (.enter g args) w) (hS : ∀ (net : TNet) (a b : inR net), S [eI a.1, eI b.1, netE net] (eI (cmpN net a b))) : FOk Try.prog 63 (blkR 1 (sortN_S g)) := by
 have h0 := sort0 Try.sortN0 rfl (enters Try.func63 rfl rfl)
 refine ⟨h0.1, fun args H base r H' e => ?_⟩
 obtain ⟨i, n, rest, bs, bs', rfl, hi, ⟨net, l, hG, rfl, rfl, rfl, rfl, rfl⟩, rfl⟩ := e
 have h := sortG_iff.1 hG
 by_cases hn : l = []
 · subst hn
   have e0 : sortN net [] = [] := List.length_eq_zero_iff.1 (sortN_len net [])
   exact h0.2 _ H base _ _ ⟨i, 0, _, [], [], rfl, hi, ⟨rfl, ⟨_, rfl⟩, rfl, rfl, rfl⟩, by rw [e0]; rfl⟩
 · have hp : 0 < net.Edges.length := by
     cases l with
     | nil => exact absurd rfl hn
     | cons i l => have := h.rng i List.mem_cons_self; omega
   letI : Inhabited (inR net) := ⟨⟨0, Int.le_refl _, by omega⟩⟩
   have hs := sort_net hg eg net hp ⟨l, h⟩ (hS net)
   have hlen : (toR net l).length = l.length := by rw [← List.length_map (f := (·.1)), toR_map h.rng]
   refine hs.2 _ H base _ _ ⟨i, l.length, _, flE (ceE eI) l, flE (ceE eI) (sortN net l), rfl, hi, ⟨toR net l, [netE net], rfl, hlen.symm, by rw [hlen]; exact h.len, rfl, ?_, rfl, ?_⟩, rfl⟩
   · rw [flE_val, toR_map h.rng]
   · rw [flE_val]
     unfold sortN
     rw [if_pos hG, dif_pos hp]
theorem flow_Worst_1_cmp (net : TNet) (a b : inR net) : flow_Worst_1_S [eI a.1, eI b.1, netE net] (eI (cmpN net a b)) := by
 refine ⟨a.1, b.1, net, rfl, W_of (a := cmpN net a b) ?_ rfl⟩
 unfold flow_Worst_1_F cmpN capAt
 rw [ix_p (by have := b.2; omega) (by have := b.2; omega), ix_p (by have := a.2; omega) (by have := a.2; omega)]
def sortN_R : FSpec := blkR 1 fun n rest bs r bs' => sortN_S 64 n rest bs r bs'
theorem sortN_S_mk64 {net : TNet} {l : List Int} (h : sortG net l = true) : sortN_S 64 l.length [.fn 64 [] [netE net]] (flE (ceE eI) l) (.tup []) (flE (ceE eI) (sortN net l)) := ⟨net, l, h, rfl, rfl, rfl, rfl, rfl⟩
theorem sortN_ok {T : Tbl} (hT : TOk Try.prog T) (hpf : PfOk T PF) : FOk Try.prog 63 (sortN_R) := sort_any (flow_Worst_1_ok hT hpf) (enters Try.func64 rfl rfl) flow_Worst_1_cmp
end Go.Proofs.Ytgkmodjcoedonaa
namespace Go.Proofs.Ytgkmodjcoedonaa
open Go Go.Eng
set_option maxHeartbeats 0
set_option maxRecDepth 100000

def col_b (x : Int) (l : List Int) : Option (List Int) := ap l [x] some
def col_res (y : List Int) (b : Nat) : AV := .so b 0 y.length 1
def col_blk (y : List Int) : List AB := [.cells (flE (ceE eI) y)]
def slices_Collect_int_F (a0 : TNet) (a1 : Int) : Option (List Int) := flow_leaving_1_F a0 a1 (List Int) col_b []
def slices_AppendSeq_int_S : List AV → List Int → Prop := fun args y => ∃ a0 a1, args = [.nils, .fn 77 [] [.ep [eI a0.N, (eL 3 eTEdge default) a0.Edges] 0, .ep [eI a1] 0]] ∧ slices_Collect_int_F a0 a1 = some y
def slices_Collect_int_S : List AV → List Int → Prop := fun args y => ∃ a0 a1, args = [.fn 77 [] [.ep [eI a0.N, (eL 3 eTEdge default) a0.Edges] 0, .ep [eI a1] 0]] ∧ slices_Collect_int_F a0 a1 = some y
theorem slices_AppendSeq_int_ok {T : Tbl} (hT : TOk Try.prog T) (hpf : PfOk T PF) (h77 : T 77 = itR Try.prog (fun x => [Value.int .i64 x]) flow_leaving_1_C) : FOk Try.prog 76 (ownR col_res col_blk slices_AppendSeq_int_S) := by
 refine FOk_own hT hpf Try.func76 rfl Try.ntmps76 Try.results76 (by decide) (fun y => ⟨by simp [col_blk], by simp [col_blk, noGh]⟩) ?_
 rintro args y ⟨a0, a1, rfl, hF⟩
 have lofn : (AV.fn 77 [] [.ep [eI a0.N, (eL 3 eTEdge default) a0.Edges] 0, .ep [eI a1] 0]).loose := (loose_fn loose_nil (lsC (loose_ep (lsC (lsI _ _) (lsC (lsL fun _ => (lo_TEdge _)) loose_nil))) (lsC (loose_ep (lsC (lsI _ _) loose_nil)) loose_nil)))
 refine ⟨nle rfl, (lsC loose_nils (lsC lofn loose_nil)), fun base => ?_⟩
 refine HT_fr dCo rfl fun K hK => ?_; conv => whnf
 refine hK _ _ _ ?_; clear hK K
 refine HT_seq ?_
 refine HT_fr dCo rfl fun K hK => ?_; conv => whnf
 refine hK _ _ _ ?_; clear hK K
 refine HT_block ?_
 refine HT_weakN rfl rfl (n := 32) (Nat.le_refl _) (σ' := ⟨ofL [(2, .ptr 32 0), (6, .fn 77 [] [.ep [eI a0.N, (eL 3 eTEdge default) a0.Edges] 0, .ep [eI a1] 0])], ofH [(32, .cells [.so 48 0 ([] : List Int).length 1]), (48, .cells (flE (ceE eI) ([] : List Int)))], 1024⟩)
   (weak_ofN (by decide) [(32, some 64), (48, none)] ⟨WkR.ptr (fun _ => rfl), wkr lofn, trivial⟩ ⟨⟨_, rfl, BkR_c rfl (cKc (WkR.nilso (fun _ => rfl)) cKn)⟩, ⟨_, rfl, BkR_nr⟩, trivial⟩ rfl) ?_
 refine HT_rngSM 48 (by decide) (by decide) rfl rfl (fun x => [eI x]) vx_int (fun _ => rfl) (by decide) h77 rfl (F := flow_leaving_1_F _ _) (y := col_b) hF ⟨_, _, rfl, rfl⟩ (nle rfl)
   (am_ofL (aLc (am_ptr (by decide)) (aLc (am_loose lofn) aLn))) (fun l : List Int => [(32, .cells [.so 48 0 l.length 1]), (48, .cells (flE (ceE eI) l))]) (fun s => (aLc rfl (aLc rfl aLn))) (fun x s gfin h => ?_) ?_
 · rw [col_b.eq_1] at h
   refine HT_f dCo rfl fun K hK => ?_; conv => whnf
   refine hK _ _ _ ?_; clear hK K
   refine Then_n ?_
   refine HT_block ?_
   refine HT_f dCo rfl fun K hK => ?_; conv => whnf
   refine nlA rfl ?_; conv => whnf
   refine bKo rfl ?_; conv => whnf
   refine getK_of rfl ?_; conv => whnf
   refine lt_lk (enc := eI) (d := default) (l := [x]) (f := some) (Φ := fun _ => True) dCo (W_of (a := [x]) (by unfold lt; rfl) trivial) rfl rfl rfl ⟨nle rfl, nle rfl, rfl⟩ rfl ⟨⟨rfl, rfl, rfl⟩, trivial⟩ (fun _ => ?_); conv => whnf
   refine apo_lk (enc := eI) (d := default) dCo h rfl rfl rfl ⟨rfl, nle rfl, nle rfl, nle rfl, rfl⟩ (fun _ => rfl) (fun _ => rfl) (fun _ => nofun) rfl rfl (fun h => ?_); conv => whnf
   refine bKo rfl ?_; conv => whnf
   refine And.intro rfl (And.intro (nle rfl) (And.intro rfl ?_)); conv => whnf
   refine hK _ _ _ ?_; clear hK K
   refine InBlock_n ?_
   replace h := W_some h
   cases h
   refine ⟨rfl, _, weak_ofN (by decide) [(48, some 1344)] trivial ⟨⟨_, rfl, BkR_c rfl (cKc (WkR.so (fun _ => rfl)) cKn)⟩, ⟨_, rfl, BkR_r rfl (fun _ => (lsC (lsI _ _) loose_nil))⟩, trivial⟩ rfl⟩
 refine InBlock_n ?_
 refine Then_n ?_
 refine HT_weakN rfl rfl (n := 32) (Nat.le_refl _) (σ' := ⟨ofL [(2, .ptr 32 0)], ofH [(32, .cells [.so 64 0 y.length 1]), (64, .cells (flE (ceE eI) y))], 2048⟩)
   (weak_48 (by decide) ⟨WkR.ptr (fun _ => rfl), trivial⟩ ⟨⟨_, rfl, BkR_c rfl (cKc (WkR.so (fun _ => rfl)) cKn)⟩, ⟨_, rfl, BkR_r rfl (fun _ => (lsC (lsI _ _) loose_nil))⟩, trivial⟩) ?_
 refine HT_fr dCo rfl fun K hK => ?_; conv => whnf
 refine nlA rfl ?_; conv => whnf
 refine bKo rfl ?_; conv => whnf
 refine getK_of rfl ?_; conv => whnf
 refine hK _ _ _ ?_; clear hK K
 refine HT_ret ?_
 refine PostO_r dCo fun K hK => ?_; conv => whnf
 refine hK _ ?_; clear hK K
 refine ⟨rfl, rfl, rfl, WkB_soN (mm_ns (k := 0) rfl) rfl, fun k n x h1 h2 => ?_⟩
 exact match k, n, x, h1, h2 with | 0, n, x, h1, h2 => by cases h1; cases h2; exact ⟨_, rfl, BkX_fl (fun _ => (lsC (lsI _ _) loose_nil)) _⟩ | k + 1, n, x, h1, h2 => by cases h1
theorem slices_Collect_int_ok {T : Tbl} (hT : TOk Try.prog T) (hpf : PfOk T PF) (h76 : T 76 = ownR col_res col_blk slices_AppendSeq_int_S) : FOk Try.prog 61 (ownR col_res col_blk slices_Collect_int_S) := by
 refine FOk_own hT hpf Try.func61 rfl Try.ntmps61 Try.results61 (by decide) (fun y => ⟨by simp [col_blk], by simp [col_blk, noGh]⟩) ?_
 rintro args y ⟨a0, a1, rfl, hF⟩
 have lofn : (AV.fn 77 [] [.ep [eI a0.N, (eL 3 eTEdge default) a0.Edges] 0, .ep [eI a1] 0]).loose := (loose_fn loose_nil (lsC (loose_ep (lsC (lsI _ _) (lsC (lsL fun _ => (lo_TEdge _)) loose_nil))) (lsC (loose_ep (lsC (lsI _ _) loose_nil)) loose_nil)))
 refine ⟨nle rfl, (lsC lofn loose_nil), fun base => ?_⟩
 have h : W (bd (slices_Collect_int_F a0 a1) some) (fun z => z = y) := W_of (a := y) (by rw [hF]; unfold bd; rfl) rfl
 refine HT_fr dCo rfl fun K hK => ?_; conv => whnf
 refine hK _ _ _ ?_; clear hK K
 refine HT_fr dCo rfl fun K hK => ?_; conv => whnf
 refine callsK_own h76 h (fun y e => (⟨_, _, rfl, e⟩ : slices_AppendSeq_int_S _ _)) (WkL.refl _) (fun _ h => ?_); conv => whnf
 refine hK _ _ _ ?_; clear hK K
 refine HT_ret ?_
 replace h := W_some h
 refine PostO_r dCo fun K hK => ?_; conv => whnf
 refine hK _ ?_; clear hK K
 cases h
 refine ⟨rfl, rfl, rfl, WkB_soN (mm_ns (k := 0) rfl) rfl, fun k n x h1 h2 => ?_⟩
 exact match k, n, x, h1, h2 with | 0, n, x, h1, h2 => by cases h1; cases h2; exact ⟨_, rfl, BkX_fl (fun _ => (lsC (lsI _ _) loose_nil)) _⟩ | k + 1, n, x, h1, h2 => by cases h1

end Go.Proofs.Ytgkmodjcoedonaa
