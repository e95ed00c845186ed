import Derived.Test.YtlmboonbfhkfnaaDoorRows
import Derived.Test.YtlmboonbfhkfnaaDoorM2
import Derived.ProofKit
import Derived.LaidMore
import Derived.OpenShut
import Derived.Stop.Joined
import Derived.Test.YtlmboonbfhkfnaaDoorProg
import Derived.Test.YtlmboonbfhkfnaaDoorM3
import Derived.KernelRfl
import Derived.Laws.StructEq
import Derived.ChangeKeysEq
set_option linter.unusedVariables false
set_option linter.unusedSimpArgs false
set_option linter.unusedSectionVars false
namespace Go.Proofs.YtlmboonbfhkfnaaDoor
open Go Go.Eng Go.ChangeShapes Go.WideShapes Go.ChangeAt Go.WideMaps Go.WideElems Go.RowKit
set_option maxRecDepth 100000
abbrev laid2 : List (String × DataW Unit) := [("math/bits.deBruijn32tab", Rows.laid_math_bits_deBruijn32tab), ("math/bits.deBruijn64tab", Rows.laid_math_bits_deBruijn64tab)]
theorem door_met (os : Os) (args : Array Value) : laidMetH Tryd.prog laid2 ((World.doorLaid Tryd.prog 400 os).forCall (fun _ _ => 0) ⟨#[], args, []⟩).memory :=
  laidMetH_of_parts3 (fuel := 8) (laidMet_of_run' 8 (by kernel_rfl) (by kernel_rfl)) (by kernel_rfl) (by kernel_rfl)
theorem g32 : Tryd.prog.globalNamed "math/bits.deBruijn32tab" = some 0 := by kernel_rfl
theorem g64 : Tryd.prog.globalNamed "math/bits.deBruijn64tab" = some 1 := by kernel_rfl
theorem t32 : (Tryd.prog.globals[0]?).map (·.type) = some 99 := by kernel_rfl
theorem t64 : (Tryd.prog.globals[1]?).map (·.type) = some 100 := by kernel_rfl
theorem c5 : Tryd.prog.cellsOf 5 = 1 := by kernel_rfl
theorem row_of {H : Type} {enc : TypeId × Value → H} {W : World} {base : Nat} {spare : Nat → Bool} {held : Bool} {fuel : Nat} {t n : Nat} {cs : Array Value} {p : List MemPlace} {L : List Nat} (ht : Tryd.prog.underlying t = some (.array n 5)) (hn : L.length = n)
    (h : DataW.trod enc Tryd.prog W base spare held fuel t cs.toList = some (.agg (L.map fun n : Nat => .lit (.int .u8 (n : Int))), p)) {i : Nat} {v : Value} (hv : (L.map fun n : Nat => Value.int .u8 (n : Int))[i]? = some v) : cs[i]? = some v := by
  obtain ⟨xs, m, rfl, hx, _, hl, hel⟩ := DataW.trod_array ht h
  rw [List.getElem?_map] at hv
  obtain ⟨x, hx1, rfl⟩ := Option.map_eq_some_iff.1 hv
  have hi : i < L.length := (List.getElem?_eq_some_iff.1 hx1).1
  have h1 := hel i (by omega)
  obtain ⟨y, hy⟩ : ∃ y, xs[i]? = some y := ⟨xs[i]'(by omega), List.getElem?_eq_getElem (by omega)⟩
  rw [hy] at h1
  obtain ⟨k, e1, e2, _⟩ := DataW.trod_int Tryd.underlying5 h1
  simp only [Prod.mk.injEq, DataW.agg.injEq] at hx
  have e3 : (xs.map (·.1))[i]? = some (.lit (.int .u8 k)) := by rw [List.getElem?_map, hy, e2]; rfl
  rw [← hx.1, List.getElem?_map, hx1] at e3
  have e4 : (x : Int) = k := by simpa using e3
  rw [c5, Nat.mul_one] at e1
  have e5 : (cs.toList.drop i)[0]? = some (.int .u8 k) := by
    have : ((cs.toList.drop i).take 1)[0]? = some (.int .u8 k) := by rw [e1]; rfl
    rwa [List.getElem?_take_of_lt (by omega)] at this
  rw [List.getElem?_drop, Nat.add_zero] at e5
  rw [← Array.getElem?_toList, e5, e4]
theorem GB_of_laid {W : World} (h : laidMetH Tryd.prog laid2 W) : GB (allB W).fz := by
  rw [MakeChecks.laidMetH_plain _ _ _ (by kernel_rfl)] at h
  obtain ⟨ps, ⟨g0, t0, cs0, f0, p0, q0, hg0, ht0, hv0, hd0, ⟨g1, t1, cs1, f1, p1, q1, hg1, ht1, hv1, hd1, _, _⟩, _⟩, _, _⟩ := h
  obtain rfl := Option.some.inj (g32.symm.trans hg0)
  obtain rfl := Option.some.inj (g64.symm.trans hg1)
  obtain rfl := Option.some.inj (t32.symm.trans ht0)
  obtain rfl := Option.some.inj (t64.symm.trans ht1)
  intro g i v hv
  show W.cell? ⟨g, 0 + i, none⟩ = some v
  rw [Nat.zero_add]
  match g with
  | 0 =>
    rw [World.var?_cell hg0 hv0 i]
    exact row_of Tryd.underlying99 rfl hd0 hv
  | 1 =>
    rw [World.var?_cell hg1 hv1 i]
    exact row_of Tryd.underlying100 rfl hd1 hv
  | _ + 2 => simp [gVals, gTab] at hv
end Go.Proofs.YtlmboonbfhkfnaaDoor
namespace Go.Proofs.YtlmboonbfhkfnaaDoor
open Go Go.Eng

def tdL : List (Nat × TD) := [
  (3, ⟨.int .i64, 1, [.int .i64 0], 8⟩),
  (4, ⟨.bool, 1, [.bool false], 1⟩),
  (5, ⟨.int .u8, 1, [.int .u8 0], 1⟩),
  (22, ⟨.slice 46, 1, [.nils], 24⟩),
  (25, ⟨.struct [(3, 0), (22, 1)], 2, [.int .i64 0, .nils], 32⟩),
  (26, ⟨.slice 3, 1, [.nils], 24⟩),
  (30, ⟨.int .i64, 1, [.int .i64 0], 8⟩),
  (46, ⟨.array 2 3, 2, [.int .i64 0, .int .i64 0], 16⟩),
  (50, ⟨.slice 26, 1, [.nils], 24⟩),
  (53, ⟨.array 8 3, 8, [.int .i64 0, .int .i64 0, .int .i64 0, .int .i64 0, .int .i64 0, .int .i64 0, .int .i64 0, .int .i64 0], 64⟩),
  (60, ⟨.array 8 4, 8, [.bool false, .bool false, .bool false, .bool false, .bool false, .bool false, .bool false, .bool false], 8⟩),
  (61, ⟨.array 8 60, 64, [.bool false, .bool false, .bool false, .bool false, .bool false, .bool false, .bool false, .bool false, .bool false, .bool false, .bool false, .bool false, .bool false, .bool false, .bool false, .bool false, .bool false, .bool false, .bool false, .bool false, .bool false, .bool false, .bool false, .bool false, .bool false, .bool false, .bool false, .bool false, .bool false, .bool false, .bool false, .bool false, .bool false, .bool false, .bool false, .bool false, .bool false, .bool false, .bool false, .bool false, .bool false, .bool false, .bool false, .bool false, .bool false, .bool false, .bool false, .bool false, .bool false, .bool false, .bool false, .bool false, .bool false, .bool false, .bool false, .bool false, .bool false, .bool false, .bool false, .bool false, .bool false, .bool false, .bool false, .bool false], 64⟩),
  (62, ⟨.array 8 60, 64, [.bool false, .bool false, .bool false, .bool false, .bool false, .bool false, .bool false, .bool false, .bool false, .bool false, .bool false, .bool false, .bool false, .bool false, .bool false, .bool false, .bool false, .bool false, .bool false, .bool false, .bool false, .bool false, .bool false, .bool false, .bool false, .bool false, .bool false, .bool false, .bool false, .bool false, .bool false, .bool false, .bool false, .bool false, .bool false, .bool false, .bool false, .bool false, .bool false, .bool false, .bool false, .bool false, .bool false, .bool false, .bool false, .bool false, .bool false, .bool false, .bool false, .bool false, .bool false, .bool false, .bool false, .bool false, .bool false, .bool false, .bool false, .bool false, .bool false, .bool false, .bool false, .bool false, .bool false, .bool false], 64⟩),
  (65, ⟨.array 8 3, 8, [.int .i64 0, .int .i64 0, .int .i64 0, .int .i64 0, .int .i64 0, .int .i64 0, .int .i64 0, .int .i64 0], 64⟩),
  (73, ⟨.map .i64 3 (.int .i64 0), 1, [.nilm], 8⟩),
  (75, ⟨.map .i64 26 (.nils), 1, [.nilm], 8⟩),
  (76, ⟨.other, 1, [.nilf], 8⟩),
  (80, ⟨.other, 1, [.nilf], 8⟩),
  (82, ⟨.other, 1, [.nilf], 8⟩),
  (92, ⟨.int .u64, 1, [.int .u64 0], 8⟩),
  (96, ⟨.int .u32, 1, [.int .u32 0], 4⟩),
  (98, ⟨.int .u64, 1, [.int .u64 0], 8⟩),
  (99, ⟨.array 32 5, 32, [.int .u8 0, .int .u8 0, .int .u8 0, .int .u8 0, .int .u8 0, .int .u8 0, .int .u8 0, .int .u8 0, .int .u8 0, .int .u8 0, .int .u8 0, .int .u8 0, .int .u8 0, .int .u8 0, .int .u8 0, .int .u8 0, .int .u8 0, .int .u8 0, .int .u8 0, .int .u8 0, .int .u8 0, .int .u8 0, .int .u8 0, .int .u8 0, .int .u8 0, .int .u8 0, .int .u8 0, .int .u8 0, .int .u8 0, .int .u8 0, .int .u8 0, .int .u8 0], 32⟩),
  (100, ⟨.array 64 5, 64, [.int .u8 0, .int .u8 0, .int .u8 0, .int .u8 0, .int .u8 0, .int .u8 0, .int .u8 0, .int .u8 0, .int .u8 0, .int .u8 0, .int .u8 0, .int .u8 0, .int .u8 0, .int .u8 0, .int .u8 0, .int .u8 0, .int .u8 0, .int .u8 0, .int .u8 0, .int .u8 0, .int .u8 0, .int .u8 0, .int .u8 0, .int .u8 0, .int .u8 0, .int .u8 0, .int .u8 0, .int .u8 0, .int .u8 0, .int .u8 0, .int .u8 0, .int .u8 0, .int .u8 0, .int .u8 0, .int .u8 0, .int .u8 0, .int .u8 0, .int .u8 0, .int .u8 0, .int .u8 0, .int .u8 0, .int .u8 0, .int .u8 0, .int .u8 0, .int .u8 0, .int .u8 0, .int .u8 0, .int .u8 0, .int .u8 0, .int .u8 0, .int .u8 0, .int .u8 0, .int .u8 0, .int .u8 0, .int .u8 0, .int .u8 0, .int .u8 0, .int .u8 0, .int .u8 0, .int .u8 0, .int .u8 0, .int .u8 0, .int .u8 0, .int .u8 0], 64⟩)]
def DC : DT := ofTD tdL
theorem td3 : TDok Tryd.prog 3 ⟨.int .i64, 1, [.int .i64 0], 8⟩ := ⟨by kernel_rfl, by kernel_rfl, by kernel_rfl, Tryd.underlying3⟩
theorem td4 : TDok Tryd.prog 4 ⟨.bool, 1, [.bool false], 1⟩ := ⟨by kernel_rfl, by kernel_rfl, by kernel_rfl, Tryd.underlying4⟩
theorem td5 : TDok Tryd.prog 5 ⟨.int .u8, 1, [.int .u8 0], 1⟩ := ⟨by kernel_rfl, by kernel_rfl, by kernel_rfl, Tryd.underlying5⟩
theorem td22 : TDok Tryd.prog 22 ⟨.slice 46, 1, [.nils], 24⟩ := ⟨by kernel_rfl, by kernel_rfl, by kernel_rfl, Tryd.underlying22⟩
theorem td25 : TDok Tryd.prog 25 ⟨.struct [(3, 0), (22, 1)], 2, [.int .i64 0, .nils], 32⟩ := ⟨by kernel_rfl, by kernel_rfl, by kernel_rfl, ⟨_, Tryd.underlying25, rfl⟩⟩
theorem td26 : TDok Tryd.prog 26 ⟨.slice 3, 1, [.nils], 24⟩ := ⟨by kernel_rfl, by kernel_rfl, by kernel_rfl, Tryd.underlying26⟩
theorem td30 : TDok Tryd.prog 30 ⟨.int .i64, 1, [.int .i64 0], 8⟩ := ⟨by kernel_rfl, by kernel_rfl, by kernel_rfl, Tryd.underlying30⟩
theorem td46 : TDok Tryd.prog 46 ⟨.array 2 3, 2, [.int .i64 0, .int .i64 0], 16⟩ := ⟨by kernel_rfl, by kernel_rfl, by kernel_rfl, Tryd.underlying46⟩
theorem td50 : TDok Tryd.prog 50 ⟨.slice 26, 1, [.nils], 24⟩ := ⟨by kernel_rfl, by kernel_rfl, by kernel_rfl, Tryd.underlying50⟩
theorem td53 : TDok Tryd.prog 53 ⟨.array 8 3, 8, [.int .i64 0, .int .i64 0, .int .i64 0, .int .i64 0, .int .i64 0, .int .i64 0, .int .i64 0, .int .i64 0], 64⟩ := ⟨by kernel_rfl, by kernel_rfl, by kernel_rfl, Tryd.underlying53⟩
theorem td60 : TDok Tryd.prog 60 ⟨.array 8 4, 8, [.bool false, .bool false, .bool false, .bool false, .bool false, .bool false, .bool false, .bool false], 8⟩ := ⟨by kernel_rfl, by kernel_rfl, by kernel_rfl, Tryd.underlying60⟩
theorem td61 : TDok Tryd.prog 61 ⟨.array 8 60, 64, [.bool false, .bool false, .bool false, .bool false, .bool false, .bool false, .bool false, .bool false, .bool false, .bool false, .bool false, .bool false, .bool false, .bool false, .bool false, .bool false, .bool false, .bool false, .bool false, .bool false, .bool false, .bool false, .bool false, .bool false, .bool false, .bool false, .bool false, .bool false, .bool false, .bool false, .bool false, .bool false, .bool false, .bool false, .bool false, .bool false, .bool false, .bool false, .bool false, .bool false, .bool false, .bool false, .bool false, .bool false, .bool false, .bool false, .bool false, .bool false, .bool false, .bool false, .bool false, .bool false, .bool false, .bool false, .bool false, .bool false, .bool false, .bool false, .bool false, .bool false, .bool false, .bool false, .bool false, .bool false], 64⟩ := ⟨by kernel_rfl, by kernel_rfl, by kernel_rfl, Tryd.underlying61⟩
theorem td62 : TDok Tryd.prog 62 ⟨.array 8 60, 64, [.bool false, .bool false, .bool false, .bool false, .bool false, .bool false, .bool false, .bool false, .bool false, .bool false, .bool false, .bool false, .bool false, .bool false, .bool false, .bool false, .bool false, .bool false, .bool false, .bool false, .bool false, .bool false, .bool false, .bool false, .bool false, .bool false, .bool false, .bool false, .bool false, .bool false, .bool false, .bool false, .bool false, .bool false, .bool false, .bool false, .bool false, .bool false, .bool false, .bool false, .bool false, .bool false, .bool false, .bool false, .bool false, .bool false, .bool false, .bool false, .bool false, .bool false, .bool false, .bool false, .bool false, .bool false, .bool false, .bool false, .bool false, .bool false, .bool false, .bool false, .bool false, .bool false, .bool false, .bool false], 64⟩ := ⟨by kernel_rfl, by kernel_rfl, by kernel_rfl, Tryd.underlying62⟩
theorem td65 : TDok Tryd.prog 65 ⟨.array 8 3, 8, [.int .i64 0, .int .i64 0, .int .i64 0, .int .i64 0, .int .i64 0, .int .i64 0, .int .i64 0, .int .i64 0], 64⟩ := ⟨by kernel_rfl, by kernel_rfl, by kernel_rfl, Tryd.underlying65⟩
theorem td73 : TDok Tryd.prog 73 ⟨.map .i64 3 (.int .i64 0), 1, [.nilm], 8⟩ := ⟨by kernel_rfl, by kernel_rfl, by kernel_rfl, ⟨by kernel_rfl, by kernel_rfl⟩⟩
theorem td75 : TDok Tryd.prog 75 ⟨.map .i64 26 (.nils), 1, [.nilm], 8⟩ := ⟨by kernel_rfl, by kernel_rfl, by kernel_rfl, ⟨by kernel_rfl, by kernel_rfl⟩⟩
theorem td76 : TDok Tryd.prog 76 ⟨.other, 1, [.nilf], 8⟩ := ⟨by kernel_rfl, by kernel_rfl, by kernel_rfl, (by show aggT _ _ = some false; kernel_rfl)⟩
theorem td80 : TDok Tryd.prog 80 ⟨.other, 1, [.nilf], 8⟩ := ⟨by kernel_rfl, by kernel_rfl, by kernel_rfl, (by show aggT _ _ = some false; kernel_rfl)⟩
theorem td82 : TDok Tryd.prog 82 ⟨.other, 1, [.nilf], 8⟩ := ⟨by kernel_rfl, by kernel_rfl, by kernel_rfl, (by show aggT _ _ = some false; kernel_rfl)⟩
theorem td92 : TDok Tryd.prog 92 ⟨.int .u64, 1, [.int .u64 0], 8⟩ := ⟨by kernel_rfl, by kernel_rfl, by kernel_rfl, Tryd.underlying92⟩
theorem td96 : TDok Tryd.prog 96 ⟨.int .u32, 1, [.int .u32 0], 4⟩ := ⟨by kernel_rfl, by kernel_rfl, by kernel_rfl, Tryd.underlying96⟩
theorem td98 : TDok Tryd.prog 98 ⟨.int .u64, 1, [.int .u64 0], 8⟩ := ⟨by kernel_rfl, by kernel_rfl, by kernel_rfl, Tryd.underlying98⟩
theorem td99 : TDok Tryd.prog 99 ⟨.array 32 5, 32, [.int .u8 0, .int .u8 0, .int .u8 0, .int .u8 0, .int .u8 0, .int .u8 0, .int .u8 0, .int .u8 0, .int .u8 0, .int .u8 0, .int .u8 0, .int .u8 0, .int .u8 0, .int .u8 0, .int .u8 0, .int .u8 0, .int .u8 0, .int .u8 0, .int .u8 0, .int .u8 0, .int .u8 0, .int .u8 0, .int .u8 0, .int .u8 0, .int .u8 0, .int .u8 0, .int .u8 0, .int .u8 0, .int .u8 0, .int .u8 0, .int .u8 0, .int .u8 0], 32⟩ := ⟨by kernel_rfl, by kernel_rfl, by kernel_rfl, Tryd.underlying99⟩
theorem td100 : TDok Tryd.prog 100 ⟨.array 64 5, 64, [.int .u8 0, .int .u8 0, .int .u8 0, .int .u8 0, .int .u8 0, .int .u8 0, .int .u8 0, .int .u8 0, .int .u8 0, .int .u8 0, .int .u8 0, .int .u8 0, .int .u8 0, .int .u8 0, .int .u8 0, .int .u8 0, .int .u8 0, .int .u8 0, .int .u8 0, .int .u8 0, .int .u8 0, .int .u8 0, .int .u8 0, .int .u8 0, .int .u8 0, .int .u8 0, .int .u8 0, .int .u8 0, .int .u8 0, .int .u8 0, .int .u8 0, .int .u8 0, .int .u8 0, .int .u8 0, .int .u8 0, .int .u8 0, .int .u8 0, .int .u8 0, .int .u8 0, .int .u8 0, .int .u8 0, .int .u8 0, .int .u8 0, .int .u8 0, .int .u8 0, .int .u8 0, .int .u8 0, .int .u8 0, .int .u8 0, .int .u8 0, .int .u8 0, .int .u8 0, .int .u8 0, .int .u8 0, .int .u8 0, .int .u8 0, .int .u8 0, .int .u8 0, .int .u8 0, .int .u8 0, .int .u8 0, .int .u8 0, .int .u8 0, .int .u8 0], 64⟩ := ⟨by kernel_rfl, by kernel_rfl, by kernel_rfl, Tryd.underlying100⟩
theorem DC_ok : DOk Tryd.prog DC := (DOk_cons td3 (DOk_cons td4 (DOk_cons td5 (DOk_cons td22 (DOk_cons td25 (DOk_cons td26 (DOk_cons td30 (DOk_cons td46 (DOk_cons td50 (DOk_cons td53 (DOk_cons td60 (DOk_cons td61 (DOk_cons td62 (DOk_cons td65 (DOk_cons td73 (DOk_cons td75 (DOk_cons td76 (DOk_cons td80 (DOk_cons td82 (DOk_cons td92 (DOk_cons td96 (DOk_cons td98 (DOk_cons td99 (DOk_cons td100 (DOk_nil _)))))))))))))))))))))))))
theorem mix_ok : Tryd.prog.follows .mixedOrders = true := by kernel_rfl
end Go.Proofs.YtlmboonbfhkfnaaDoor
namespace Go.Proofs.YtlmboonbfhkfnaaDoor
open Go Go.Eng
def eA46 (x : Int × Int) : AV := .agg [eI x.1, eI x.2]
theorem lo_A46 (x : Int × Int) : (eA46 x).loose := (loose_agg (loose_cons (loose_int _ _) (loose_cons (loose_int _ _) loose_nil)))
structure TOrder where
  N : Int
  Pairs : List (Int × Int)
instance : Inhabited TOrder := ⟨⟨default, default⟩⟩
def eTOrder (x : TOrder) : AV := .agg [eI x.N, (eL 2 eA46 default) x.Pairs]
theorem lo_TOrder (x : TOrder) : (eTOrder x).loose := (loose_agg (loose_cons (loose_int _ _) (loose_cons (loose_lst fun _ => (lo_A46 _)) loose_nil)))
theorem vinv_int (x : Int) : ∀ b vs, Vs b [eI x] vs → vs = [Value.int .i64 x] := fun b vs h => by simpa [Vs, V, eI] using h
theorem vx_int (b : Beta) (x : Int) : Vs b [eI x] [Value.int .i64 x] := ⟨_, _, rfl, by simp [V, eI], rfl⟩
def PF : FuncId → Bool := fun f => [4, 5, 6, 7, 8, 9, 10, 11, 12, 13, 18, 19, 20, 21, 22, 23, 24, 25, 26, 27, 28, 29, 30, 31, 32, 33, 34, 35, 36, 37, 54, 56, 57, 58, 61, 62, 63, 64, 68, 69, 70, 79, 82, 83, 85, 86, 87, 100060].contains f
end Go.Proofs.YtlmboonbfhkfnaaDoor
namespace Go.Proofs.YtlmboonbfhkfnaaDoor
open Go Go.Eng
theorem eqv46 (x0 : Int) (x1 : Int) (y0 : Int) (y1 : Int) : EqV Tryd.prog 46 (.agg [eI x0, eI x1]) (.agg [eI y0, eI y1]) ((x0 == y0) && (x1 == y1)) := by
  intro β w u v ox oy hu hv
  simp only [V, Vs, eI, eB] at hu hv
  obtain ⟨_, rfl, _, _, rfl, rfl, _, _, rfl, rfl, rfl⟩ := hu
  obtain ⟨_, rfl, _, _, rfl, rfl, _, _, rfl, rfl, rfl⟩ := hv
  have u3 := Tryd.underlying3
  have a3 := Tryd.isAgg3
  have z3 := Tryd.sizeOf3
  have hm : Tryd.prog.eqGuardType Tryd.prog.depth 46 = false := by kernel_rfl
  have hi : ∃ i, Tryd.prog.info? 3 = some i := ⟨_, rfl⟩
  obtain ⟨i, hi⟩ := hi
  have hc : Tryd.prog.cellsOf 3 = 1 := by kernel_rfl
  have key : (Op.equalIn 10000 46 (.agg #[.int .i64 x0, .int .i64 x1]) (.agg #[.int .i64 y0, .int .i64 y1])).run Tryd.prog w = .ok ((x0 == y0) && (x1 == y1)) w := by
    rw [show (10000 : Nat) = 9999 + 1 from rfl, run_equalIn_array w 9999 _ _ Tryd.underlying46 hi, hc, show List.range 2 = [0, 1] from rfl]
    simp only [Op.eqItems]
    go_simp
    by_cases h0 : x0 = y0 <;> by_cases h1 : x1 = y1 <;> simp [h0, h1]
  constructor
  · simp only [Sem.run_bind, run_eqGuard_agg w _ 46 _ _ _ _ hm, Result.andThen_ok, run_eql_struct, key]
  · simp only [Sem.run_bind, run_eqGuard_agg w _ 46 _ _ _ _ hm, Result.andThen_ok, run_neq_struct, key]
end Go.Proofs.YtlmboonbfhkfnaaDoor
namespace Go.Proofs.YtlmboonbfhkfnaaDoor
open Go Go.Eng
set_option maxHeartbeats 0
set_option maxRecDepth 100000
def law07_pick_F (a0 : Int) (a1 : Int) : Option Int := jn (fun p1 : Int => gd (a1 ≠ 0) (some (Int.tmod p1 a1))) fun k2 => cn (decide (a0 < 0)) (k2 (wr (0 - (wr (a0 + 1))))) (k2 a0)
def law07_pick_S : List AV → AV → Prop := fun args r => ∃ a0 a1, args = [eI a0, eI a1] ∧ W (law07_pick_F a0 a1) fun y => r = (eI y)
theorem law07_pick_ok {T : Tbl} (hT : TOk Tryd.prog T) (hpf : PfOk T PF) : FOk Tryd.prog 13 (pureR law07_pick_S) := by
  refine FOk_pure hT hpf Tryd.func13 rfl Tryd.ntmps13 Tryd.results13 (by decide) ?_
  rintro args r ⟨a0, a1, rfl, h⟩
  refine ⟨nle rfl, ?_, ?_⟩
  · exact (loose_cons (loose_int _ _) (loose_cons (loose_int _ _) loose_nil))
  rw [law07_pick_F.eq_1] at h
  refine HT_fr DC_ok rfl fun K hK => ?_; (conv => whnf)
  refine hK _ _ _ ?_; clear hK K
  refine HT_seq ?_
  refine HT_fr DC_ok rfl fun K hK => ?_; (conv => whnf)
  refine hK _ _ _ ?_; clear hK K
  replace h := W_jn h
  refine HT_if fun K1 K2 hK1 hK2 => ?_; (conv => whnf)
  refine cond_lk h (fun _ h => ?_) (fun _ h => ?_)
  · refine hK1 ?_; clear hK1 hK2 K1 K2
    refine HT_f DC_ok rfl fun K hK => ?_; (conv => whnf)
    refine hK _ _ _ ?_; clear hK K
    refine Then_n ?_
    refine HT_fr DC_ok rfl fun K hK => ?_; (conv => whnf)
    refine gd_lk h fun _ h => ?_; (conv => whnf)
    refine hK _ _ _ ?_; clear hK K
    refine HT_ret ?_
    replace h := W_some h
    refine PostP_r DC_ok fun K hK => ?_; (conv => whnf)
    refine hK _ ?_; clear hK K
    cases h
    exact Wk.refl _
  refine hK2 ?_; clear hK1 hK2 K1 K2
  refine HT_skip ?_
  refine Then_n ?_
  refine HT_fr DC_ok rfl fun K hK => ?_; (conv => whnf)
  refine gd_lk h fun _ h => ?_; (conv => whnf)
  refine hK _ _ _ ?_; clear hK K
  refine HT_ret ?_
  replace h := W_some h
  refine PostP_r DC_ok fun K hK => ?_; (conv => whnf)
  refine hK _ ?_; clear hK K
  cases h
  exact Wk.refl _
theorem law07_pick_call {T : Tbl} (hT : T 13 = pureR law07_pick_S) {args : List AV} {hp : Heap} {id : Nat} {k : AV → Prop} {a0 : Int} {a1 : Int} {Φ : Int → Prop} (h : W (law07_pick_F a0 a1) Φ) (hw : WkL args [eI a0, eI a1]) (hk : ∀ y, Φ y → k (eI y)) : callpK T 13 args hp id k := by
  obtain ⟨y, e, hy⟩ := W_inv h
  exact callpK_pure hT ⟨a0, a1, rfl, W_of e rfl⟩ (by exact (loose_int _ _)) hw (hk y hy)
def ref07_pick_F (a0 : Int) (a1 : Int) : Option Int := jn (fun p1 : Int => gd (a1 ≠ 0) (some (Int.tmod p1 a1))) fun k2 => cn (decide (a0 < 0)) (k2 (wr (0 - (wr (a0 + 1))))) (k2 a0)
def ref07_pick_S : List AV → AV → Prop := fun args r => ∃ a0 a1, args = [eI a0, eI a1] ∧ W (ref07_pick_F a0 a1) fun y => r = (eI y)
theorem ref07_pick_ok {T : Tbl} (hT : TOk Tryd.prog T) (hpf : PfOk T PF) : FOk Tryd.prog 37 (pureR ref07_pick_S) := by
  refine FOk_pure hT hpf Tryd.func37 rfl Tryd.ntmps37 Tryd.results37 (by decide) ?_
  rintro args r ⟨a0, a1, rfl, h⟩
  refine ⟨nle rfl, ?_, ?_⟩
  · exact (loose_cons (loose_int _ _) (loose_cons (loose_int _ _) loose_nil))
  rw [ref07_pick_F.eq_1] at h
  refine HT_fr DC_ok rfl fun K hK => ?_; (conv => whnf)
  refine hK _ _ _ ?_; clear hK K
  refine HT_seq ?_
  refine HT_fr DC_ok rfl fun K hK => ?_; (conv => whnf)
  refine hK _ _ _ ?_; clear hK K
  replace h := W_jn h
  refine HT_if fun K1 K2 hK1 hK2 => ?_; (conv => whnf)
  refine cond_lk h (fun _ h => ?_) (fun _ h => ?_)
  · refine hK1 ?_; clear hK1 hK2 K1 K2
    refine HT_f DC_ok rfl fun K hK => ?_; (conv => whnf)
    refine hK _ _ _ ?_; clear hK K
    refine Then_n ?_
    refine HT_fr DC_ok rfl fun K hK => ?_; (conv => whnf)
    refine gd_lk h fun _ h => ?_; (conv => whnf)
    refine hK _ _ _ ?_; clear hK K
    refine HT_ret ?_
    replace h := W_some h
    refine PostP_r DC_ok fun K hK => ?_; (conv => whnf)
    refine hK _ ?_; clear hK K
    cases h
    exact Wk.refl _
  refine hK2 ?_; clear hK1 hK2 K1 K2
  refine HT_skip ?_
  refine Then_n ?_
  refine HT_fr DC_ok rfl fun K hK => ?_; (conv => whnf)
  refine gd_lk h fun _ h => ?_; (conv => whnf)
  refine hK _ _ _ ?_; clear hK K
  refine HT_ret ?_
  replace h := W_some h
  refine PostP_r DC_ok fun K hK => ?_; (conv => whnf)
  refine hK _ ?_; clear hK K
  cases h
  exact Wk.refl _
theorem ref07_pick_call {T : Tbl} (hT : T 37 = pureR ref07_pick_S) {args : List AV} {hp : Heap} {id : Nat} {k : AV → Prop} {a0 : Int} {a1 : Int} {Φ : Int → Prop} (h : W (ref07_pick_F a0 a1) Φ) (hw : WkL args [eI a0, eI a1]) (hk : ∀ y, Φ y → k (eI y)) : callpK T 37 args hp id k := by
  obtain ⟨y, e, hy⟩ := W_inv h
  exact callpK_pure hT ⟨a0, a1, rfl, W_of e rfl⟩ (by exact (loose_int _ _)) hw (hk y hy)
def ref07_Ints_b1 (a0 : List Int) (a1 : List Int) (s1 : Int) : Option (Ct Int Bool) := cn (decide (s1 < (a0.length : Int))) (ix a0 default s1 fun e2 => ix a1 default s1 fun e3 =>
    cn (e2 != e3) (some (.rt false)) (some (.nx (wr (s1 + 1))))) (some (.bk s1))
theorem W_bref07_Ints_b1 {a0 : List Int} {a1 : List Int} {s1 : Int} {Φ : Ct Int Bool → Prop} (h : W (ref07_Ints_b1 a0 a1 s1) Φ) : W (cn (decide (s1 < (a0.length : Int))) (ix a0 default s1 fun e2 => ix a1 default s1 fun e3 => cn (e2 != e3) (some (.rt false)) (some (.nx (wr (s1 + 1))))) (some (.bk s1))) Φ := h
def ref07_Ints_F (a0 : List Int) (a1 : List Int) : Option Bool := cn ((a0.length : Int) != (a1.length : Int)) (some false) (bd (lp (ref07_Ints_b1 a0 a1) FU 0) fun c4 =>
    smK c4 (fun s5 => some true) (fun r6 => some r6))
def ref07_Ints_S : List AV → AV → Prop := fun args r => ∃ a0 a1, args = [(eL 1 eI default) a0, (eL 1 eI default) a1] ∧ W (ref07_Ints_F a0 a1) fun y => r = (eB y)
theorem ref07_Ints_ok {T : Tbl} (hT : TOk Tryd.prog T) (hpf : PfOk T PF) : FOk Tryd.prog 36 (pureR ref07_Ints_S) := by
  refine FOk_pure hT hpf Tryd.func36 rfl Tryd.ntmps36 Tryd.results36 (by decide) ?_
  rintro args r ⟨a0, a1, rfl, h⟩
  refine ⟨nle rfl, ?_, ?_⟩
  · exact (loose_cons (loose_lst fun _ => (loose_int _ _)) (loose_cons (loose_lst fun _ => (loose_int _ _)) loose_nil))
  rw [ref07_Ints_F.eq_1] at h
  refine HT_fr DC_ok rfl fun K hK => ?_; (conv => whnf)
  refine hK _ _ _ ?_; clear hK K
  refine HT_seq ?_
  refine HT_fr DC_ok rfl fun K hK => ?_; (conv => whnf)
  refine hK _ _ _ ?_; clear hK K
  refine HT_if fun K1 K2 hK1 hK2 => ?_; (conv => whnf)
  refine cond_lk h (fun _ h => ?_) (fun _ h => ?_)
  · refine hK1 ?_; clear hK1 hK2 K1 K2
    refine HT_fr DC_ok rfl fun K hK => ?_; (conv => whnf)
    refine hK _ _ _ ?_; clear hK K
    refine HT_ret ?_
    refine Then_r ?_
    replace h := W_some h
    refine PostP_r DC_ok fun K hK => ?_; (conv => whnf)
    refine hK _ ?_; clear hK K
    cases h
    exact Wk.refl _
  refine hK2 ?_; clear hK1 hK2 K1 K2
  refine HT_skip ?_
  refine Then_n ?_
  refine HT_seq ?_
  refine HT_fr DC_ok rfl fun K hK => ?_; (conv => whnf)
  refine hK _ _ _ ?_; clear hK K
  refine HT_block ?_
  replace h := W_bd h
  refine HT_lpK (body := ref07_Ints_b1 _ _) rfl h [0, 1] [] [] (fun kl kh ids b s => ⟨ofL ([(5, eI s)] ++ kl), ofH ([] ++ kh), b + 64⟩) ?_; (conv => whnf); refine And.intro ?_ (fun s m h => HT_st ?_)
  · refine weak_k ?_; (conv => whnf)
    exact And.intro rfl (And.intro (allL_c wkI (allL_c (wkr (loose_lst fun _ => (loose_int _ _))) (allL_c (wkr (loose_lst fun _ => (loose_int _ _))) allL_n))) allL_n)
  replace h := W_bref07_Ints_b1 (W_bd h)
  refine HT_seq ?_
  refine HT_fr DC_ok rfl fun K hK => ?_; (conv => whnf)
  refine hK _ _ _ ?_; clear hK K
  refine HT_if fun K1 K2 hK1 hK2 => ?_; (conv => whnf)
  refine cond_lk h (fun _ h => ?_) (fun _ h => ?_)
  · refine hK1 ?_; clear hK1 hK2 K1 K2
    refine HT_skip ?_
    refine Then_n ?_
    refine HT_seq ?_
    refine HT_block ?_
    refine HT_fd DC_ok mix_ok rfl (by kernel_rfl) fun K hK => ?_; (conv => whnf)
    refine ix_lk h fun _ h => ?_; (conv => whnf)
    refine getK_of rfl ?_; (conv => whnf)
    refine ix_lk h fun _ h => ?_; (conv => whnf)
    refine getK_of rfl ?_; (conv => whnf)
    refine hK _ _ _ ?_; clear hK K
    refine HT_if fun K1 K2 hK1 hK2 => ?_; (conv => whnf)
    refine cond_lk h (fun _ h => ?_) (fun _ h => ?_)
    · refine hK1 ?_; clear hK1 hK2 K1 K2
      refine HT_fr DC_ok rfl fun K hK => ?_; (conv => whnf)
      refine hK _ _ _ ?_; clear hK K
      refine HT_ret ?_
      refine InBlock_r ?_
      refine Then_r ?_
      refine Then_r ?_
      refine InBlock_r ?_
      refine Then_r ?_
      replace h := W_xrt h
      replace h := W_inr h
      replace h := W_some h
      refine PostP_r DC_ok fun K hK => ?_; (conv => whnf)
      refine hK _ ?_; clear hK K
      cases h
      exact Wk.refl _
    refine hK2 ?_; clear hK1 hK2 K1 K2
    refine HT_skip ?_
    refine InBlock_n ?_
    refine Then_n ?_
    refine HT_f DC_ok rfl fun K hK => ?_; (conv => whnf)
    refine hK _ _ _ ?_; clear hK K
    refine Then_n ?_
    replace h := W_xnx h
    refine ⟨_, h, ?_⟩
    refine weak_k ?_; (conv => whnf)
    exact And.intro rfl (And.intro (allL_c wkI (allL_c (wkr (loose_lst fun _ => (loose_int _ _))) (allL_c (wkr (loose_lst fun _ => (loose_int _ _))) allL_n))) allL_n)
  refine hK2 ?_; clear hK1 hK2 K1 K2
  refine HT_exit ?_
  refine Then_e ?_
  refine Then_e ?_
  refine InBlock_e ?_
  replace h := W_xbk h
  replace h := W_inl h
  refine Then_n ?_
  refine HT_fr DC_ok rfl fun K hK => ?_; (conv => whnf)
  refine hK _ _ _ ?_; clear hK K
  refine HT_ret ?_
  replace h := W_some h
  refine PostP_r DC_ok fun K hK => ?_; (conv => whnf)
  refine hK _ ?_; clear hK K
  cases h
  exact Wk.refl _
theorem ref07_Ints_call {T : Tbl} (hT : T 36 = pureR ref07_Ints_S) {args : List AV} {hp : Heap} {id : Nat} {k : AV → Prop} {a0 : List Int} {a1 : List Int} {Φ : Bool → Prop} (h : W (ref07_Ints_F a0 a1) Φ) (hw : WkL args [(eL 1 eI default) a0, (eL 1 eI default) a1]) (hk : ∀ y, Φ y → k (eB y)) : callpK T 36 args hp id k := by
  obtain ⟨y, e, hy⟩ := W_inv h
  exact callpK_pure hT ⟨a0, a1, rfl, W_of e rfl⟩ (by exact (loose_bool _)) hw (hk y hy)
def ref07_Same_b1 (a0 : TOrder) (a1 : TOrder) (s3 : Int) : Option (Ct Int Bool) := cn (decide (s3 < (a0.Pairs.length : Int))) (ix a0.Pairs default s3 fun e4 =>
    ix a1.Pairs default s3 fun e5 => cn (!((e4.1 == e5.1) && (e4.2 == e5.2))) (some (.rt false)) (some (.nx (wr (s3 + 1))))) (some (.bk s3))
theorem W_bref07_Same_b1 {a0 : TOrder} {a1 : TOrder} {s3 : Int} {Φ : Ct Int Bool → Prop} (h : W (ref07_Same_b1 a0 a1 s3) Φ) : W (cn (decide (s3 < (a0.Pairs.length : Int))) (ix a0.Pairs default s3 fun e4 => ix a1.Pairs default s3 fun e5 => cn (!((e4.1 == e5.1) && (e4.2 ==
    e5.2))) (some (.rt false)) (some (.nx (wr (s3 + 1))))) (some (.bk s3))) Φ := h
def ref07_Same_F (a0 : TOrder) (a1 : TOrder) : Option Bool := jn (fun p1 : Bool => cn p1 (some false) (bd (lp (ref07_Same_b1 a0 a1) FU 0) fun c6 => smK c6 (fun s7 =>
    some true) (fun r8 => some r8))) fun k2 => cn (a0.N != a1.N) (k2 true) (k2 ((a0.Pairs.length : Int) != (a1.Pairs.length : Int)))
def ref07_Same_S : List AV → AV → Prop := fun args r => ∃ a0 a1, args = [eTOrder a0, eTOrder a1] ∧ W (ref07_Same_F a0 a1) fun y => r = (eB y)
theorem ref07_Same_ok {T : Tbl} (hT : TOk Tryd.prog T) (hpf : PfOk T PF) : FOk Tryd.prog 26 (pureR ref07_Same_S) := by
  refine FOk_pure hT hpf Tryd.func26 rfl Tryd.ntmps26 Tryd.results26 (by decide) ?_
  rintro args r ⟨a0, a1, rfl, h⟩
  refine ⟨nle rfl, ?_, ?_⟩
  · exact (loose_cons (lo_TOrder _) (loose_cons (lo_TOrder _) loose_nil))
  rw [ref07_Same_F.eq_1] at h
  refine HT_fr DC_ok rfl fun K hK => ?_; (conv => whnf)
  refine hK _ _ _ ?_; clear hK K
  refine HT_seq ?_
  refine HT_fr DC_ok rfl fun K hK => ?_; (conv => whnf)
  replace h := W_jn h
  refine nlA rfl ?_; (conv => whnf)
  refine blkK_of rfl ?_; (conv => whnf)
  refine getK_of rfl ?_; (conv => whnf)
  refine nlA rfl ?_; (conv => whnf)
  refine blkK_of rfl ?_; (conv => whnf)
  refine getK_of rfl ?_; (conv => whnf)
  refine cond_lk h (fun _ h => ?_) (fun _ h => ?_) <;> (conv => whnf)
  · refine hK _ _ _ ?_; clear hK K
    refine HT_if fun K1 K2 hK1 hK2 => ?_; (conv => whnf)
    refine hK1 ?_; clear hK1 hK2 K1 K2
    replace h := W_cnT h
    refine HT_fr DC_ok rfl fun K hK => ?_; (conv => whnf)
    refine hK _ _ _ ?_; clear hK K
    refine HT_ret ?_
    refine Then_r ?_
    replace h := W_some h
    refine PostP_r DC_ok fun K hK => ?_; (conv => whnf)
    refine hK _ ?_; clear hK K
    cases h
    exact Wk.refl _
  refine nlA rfl ?_; (conv => whnf)
  refine blkK_of rfl ?_; (conv => whnf)
  refine getK_of rfl ?_; (conv => whnf)
  refine nlA rfl ?_; (conv => whnf)
  refine blkK_of rfl ?_; (conv => whnf)
  refine getK_of rfl ?_; (conv => whnf)
  refine hK _ _ _ ?_; clear hK K
  refine HT_if fun K1 K2 hK1 hK2 => ?_; (conv => whnf)
  refine cond_lk h (fun _ h => ?_) (fun _ h => ?_)
  · refine hK1 ?_; clear hK1 hK2 K1 K2
    refine HT_fr DC_ok rfl fun K hK => ?_; (conv => whnf)
    refine hK _ _ _ ?_; clear hK K
    refine HT_ret ?_
    refine Then_r ?_
    replace h := W_some h
    refine PostP_r DC_ok fun K hK => ?_; (conv => whnf)
    refine hK _ ?_; clear hK K
    cases h
    exact Wk.refl _
  refine hK2 ?_; clear hK1 hK2 K1 K2
  refine HT_skip ?_
  refine Then_n ?_
  refine HT_seq ?_
  refine HT_fr DC_ok rfl fun K hK => ?_; (conv => whnf)
  refine hK _ _ _ ?_; clear hK K
  refine HT_block ?_
  replace h := W_bd h
  refine HT_lpK (body := ref07_Same_b1 _ _) rfl h [2, 3] [2, 3] [] (fun kl kh ids b s => ⟨ofL ([(5, eI s)] ++ kl), ofH ([] ++ kh), b + 64⟩) ?_; (conv => whnf); refine And.intro ?_ (fun s m h => HT_st ?_)
  · refine weak_k ?_; (conv => whnf)
    exact And.intro rfl (And.intro (allL_c wkI (allL_c (WkR.ptr (fun _ => rfl)) (allL_c (WkR.ptr (fun _ => rfl)) allL_n))) (allL_c ⟨some _, rfl, BkR_c rfl (CkR_cons wkI (CkR_cons (wkr (loose_lst fun _ => (lo_A46 _))) CkR_nil))⟩ (allL_c ⟨some _, rfl, BkR_c rfl (CkR_cons wkI (CkR_cons (wkr (loose_lst fun _ => (lo_A46 _))) CkR_nil))⟩ allL_n)))
  replace h := W_bref07_Same_b1 (W_bd h)
  refine HT_seq ?_
  refine HT_fr DC_ok rfl fun K hK => ?_; (conv => whnf)
  refine nlA rfl ?_; (conv => whnf)
  refine blkK_of rfl ?_; (conv => whnf)
  refine getK_of rfl ?_; (conv => whnf)
  refine hK _ _ _ ?_; clear hK K
  refine HT_if fun K1 K2 hK1 hK2 => ?_; (conv => whnf)
  refine cond_lk h (fun _ h => ?_) (fun _ h => ?_)
  · refine hK1 ?_; clear hK1 hK2 K1 K2
    refine HT_skip ?_
    refine Then_n ?_
    refine HT_seq ?_
    refine HT_block ?_
    refine HT_fd DC_ok mix_ok rfl (by kernel_rfl) fun K hK => ?_; (conv => whnf)
    refine nlA rfl ?_; (conv => whnf)
    refine blkK_of rfl ?_; (conv => whnf)
    refine getK_of rfl ?_; (conv => whnf)
    refine ix_lk h fun _ h => ?_; (conv => whnf)
    refine nlA rfl ?_; (conv => whnf)
    refine nlA rfl ?_; (conv => whnf)
    refine blkK_of rfl ?_; (conv => whnf)
    refine getK_of rfl ?_; (conv => whnf)
    refine ix_lk h fun _ h => ?_; (conv => whnf)
    refine nlA rfl ?_; (conv => whnf)
    refine eqK_n (eqv46 _ _ _ _) ?_; (conv => whnf)
    refine hK _ _ _ ?_; clear hK K
    refine HT_if fun K1 K2 hK1 hK2 => ?_; (conv => whnf)
    refine cond_lk h (fun _ h => ?_) (fun _ h => ?_)
    · refine hK1 ?_; clear hK1 hK2 K1 K2
      refine HT_fr DC_ok rfl fun K hK => ?_; (conv => whnf)
      refine hK _ _ _ ?_; clear hK K
      refine HT_ret ?_
      refine InBlock_r ?_
      refine Then_r ?_
      refine Then_r ?_
      refine InBlock_r ?_
      refine Then_r ?_
      replace h := W_xrt h
      replace h := W_inr h
      replace h := W_some h
      refine PostP_r DC_ok fun K hK => ?_; (conv => whnf)
      refine hK _ ?_; clear hK K
      cases h
      exact Wk.refl _
    refine hK2 ?_; clear hK1 hK2 K1 K2
    refine HT_skip ?_
    refine InBlock_n ?_
    refine Then_n ?_
    refine HT_f DC_ok rfl fun K hK => ?_; (conv => whnf)
    refine hK _ _ _ ?_; clear hK K
    refine Then_n ?_
    replace h := W_xnx h
    refine ⟨_, h, ?_⟩
    refine weak_k ?_; (conv => whnf)
    exact And.intro rfl (And.intro (allL_c wkI (allL_c (WkR.ptr (fun _ => rfl)) (allL_c (WkR.ptr (fun _ => rfl)) allL_n))) (allL_c ⟨some _, rfl, BkR_c rfl (CkR_cons wkI (CkR_cons (wkr (loose_lst fun _ => (lo_A46 _))) CkR_nil))⟩ (allL_c ⟨some _, rfl, BkR_c rfl (CkR_cons wkI (CkR_cons (wkr (loose_lst fun _ => (lo_A46 _))) CkR_nil))⟩ allL_n)))
  refine hK2 ?_; clear hK1 hK2 K1 K2
  refine HT_exit ?_
  refine Then_e ?_
  refine Then_e ?_
  refine InBlock_e ?_
  replace h := W_xbk h
  replace h := W_inl h
  refine Then_n ?_
  refine HT_fr DC_ok rfl fun K hK => ?_; (conv => whnf)
  refine hK _ _ _ ?_; clear hK K
  refine HT_ret ?_
  replace h := W_some h
  refine PostP_r DC_ok fun K hK => ?_; (conv => whnf)
  refine hK _ ?_; clear hK K
  cases h
  exact Wk.refl _
theorem ref07_Same_call {T : Tbl} (hT : T 26 = pureR ref07_Same_S) {args : List AV} {hp : Heap} {id : Nat} {k : AV → Prop} {a0 : TOrder} {a1 : TOrder} {Φ : Bool → Prop} (h : W (ref07_Same_F a0 a1) Φ) (hw : WkL args [eTOrder a0, eTOrder a1]) (hk : ∀ y, Φ y → k (eB y)) : callpK T 26 args hp id k := by
  obtain ⟨y, e, hy⟩ := W_inv h
  exact callpK_pure hT ⟨a0, a1, rfl, W_of e rfl⟩ (by exact (loose_bool _)) hw (hk y hy)
def law07_in_b1 (a0 : List Int) (a1 : Int) (s1 : Int) : Option (Ct Int Bool) := cn (decide (s1 < (a0.length : Int))) (ix a0 default s1 fun e2 => cn (e2 ==
    a1) (some (.rt true)) (some (.nx (wr (s1 + 1))))) (some (.bk s1))
theorem W_blaw07_in_b1 {a0 : List Int} {a1 : Int} {s1 : Int} {Φ : Ct Int Bool → Prop} (h : W (law07_in_b1 a0 a1 s1) Φ) : W (cn (decide (s1 < (a0.length : Int))) (ix a0 default s1 fun e2 => cn (e2 == a1) (some (.rt true)) (some (.nx (wr (s1 + 1))))) (some (.bk s1))) Φ := h
def law07_in_F (a0 : List Int) (a1 : Int) : Option Bool := bd (lp (law07_in_b1 a0 a1) FU 0) fun c3 => smK c3 (fun s4 => some false) (fun r5 => some r5)
def law07_in_S : List AV → AV → Prop := fun args r => ∃ a0 a1, args = [(eL 1 eI default) a0, eI a1] ∧ W (law07_in_F a0 a1) fun y => r = (eB y)
theorem law07_in_ok {T : Tbl} (hT : TOk Tryd.prog T) (hpf : PfOk T PF) : FOk Tryd.prog 23 (pureR law07_in_S) := by
  refine FOk_pure hT hpf Tryd.func23 rfl Tryd.ntmps23 Tryd.results23 (by decide) ?_
  rintro args r ⟨a0, a1, rfl, h⟩
  refine ⟨nle rfl, ?_, ?_⟩
  · exact (loose_cons (loose_lst fun _ => (loose_int _ _)) (loose_cons (loose_int _ _) loose_nil))
  rw [law07_in_F.eq_1] at h
  refine HT_fr DC_ok rfl fun K hK => ?_; (conv => whnf)
  refine hK _ _ _ ?_; clear hK K
  refine HT_seq ?_
  refine HT_fr DC_ok rfl fun K hK => ?_; (conv => whnf)
  refine hK _ _ _ ?_; clear hK K
  refine HT_block ?_
  replace h := W_bd h
  refine HT_lpK (body := law07_in_b1 _ _) rfl h [0, 1] [] [] (fun kl kh ids b s => ⟨ofL ([(5, eI s)] ++ kl), ofH ([] ++ kh), b + 64⟩) ?_; (conv => whnf); refine And.intro ?_ (fun s m h => HT_st ?_)
  · refine weak_k ?_; (conv => whnf)
    exact And.intro rfl (And.intro (allL_c wkI (allL_c (wkr (loose_lst fun _ => (loose_int _ _))) (allL_c wkI allL_n))) allL_n)
  replace h := W_blaw07_in_b1 (W_bd h)
  refine HT_seq ?_
  refine HT_fr DC_ok rfl fun K hK => ?_; (conv => whnf)
  refine hK _ _ _ ?_; clear hK K
  refine HT_if fun K1 K2 hK1 hK2 => ?_; (conv => whnf)
  refine cond_lk h (fun _ h => ?_) (fun _ h => ?_)
  · refine hK1 ?_; clear hK1 hK2 K1 K2
    refine HT_skip ?_
    refine Then_n ?_
    refine HT_seq ?_
    refine HT_block ?_
    refine HT_fr DC_ok rfl fun K hK => ?_; (conv => whnf)
    refine ix_lk h fun _ h => ?_; (conv => whnf)
    refine getK_of rfl ?_; (conv => whnf)
    refine hK _ _ _ ?_; clear hK K
    refine HT_if fun K1 K2 hK1 hK2 => ?_; (conv => whnf)
    refine cond_lk h (fun _ h => ?_) (fun _ h => ?_)
    · refine hK1 ?_; clear hK1 hK2 K1 K2
      refine HT_fr DC_ok rfl fun K hK => ?_; (conv => whnf)
      refine hK _ _ _ ?_; clear hK K
      refine HT_ret ?_
      refine InBlock_r ?_
      refine Then_r ?_
      refine Then_r ?_
      refine InBlock_r ?_
      refine Then_r ?_
      replace h := W_xrt h
      replace h := W_inr h
      replace h := W_some h
      refine PostP_r DC_ok fun K hK => ?_; (conv => whnf)
      refine hK _ ?_; clear hK K
      cases h
      exact Wk.refl _
    refine hK2 ?_; clear hK1 hK2 K1 K2
    refine HT_skip ?_
    refine InBlock_n ?_
    refine Then_n ?_
    refine HT_f DC_ok rfl fun K hK => ?_; (conv => whnf)
    refine hK _ _ _ ?_; clear hK K
    refine Then_n ?_
    replace h := W_xnx h
    refine ⟨_, h, ?_⟩
    refine weak_k ?_; (conv => whnf)
    exact And.intro rfl (And.intro (allL_c wkI (allL_c (wkr (loose_lst fun _ => (loose_int _ _))) (allL_c wkI allL_n))) allL_n)
  refine hK2 ?_; clear hK1 hK2 K1 K2
  refine HT_exit ?_
  refine Then_e ?_
  refine Then_e ?_
  refine InBlock_e ?_
  replace h := W_xbk h
  replace h := W_inl h
  refine Then_n ?_
  refine HT_fr DC_ok rfl fun K hK => ?_; (conv => whnf)
  refine hK _ _ _ ?_; clear hK K
  refine HT_ret ?_
  replace h := W_some h
  refine PostP_r DC_ok fun K hK => ?_; (conv => whnf)
  refine hK _ ?_; clear hK K
  cases h
  exact Wk.refl _
theorem law07_in_call {T : Tbl} (hT : T 23 = pureR law07_in_S) {args : List AV} {hp : Heap} {id : Nat} {k : AV → Prop} {a0 : List Int} {a1 : Int} {Φ : Bool → Prop} (h : W (law07_in_F a0 a1) Φ) (hw : WkL args [(eL 1 eI default) a0, eI a1]) (hk : ∀ y, Φ y → k (eB y)) : callpK T 23 args hp id k := by
  obtain ⟨y, e, hy⟩ := W_inv h
  exact callpK_pure hT ⟨a0, a1, rfl, W_of e rfl⟩ (by exact (loose_bool _)) hw (hk y hy)
def law07_paired_b1 (a0 : TOrder) (a1 : Int) (a2 : Int) (s1 : Int) : Option (Ct Int Bool) := cn (decide (s1 < (a0.Pairs.length : Int))) (ix a0.Pairs default s1 fun e2 =>
    cn ((e2.1 == a1) && (e2.2 == a2)) (some (.rt true)) (some (.nx (wr (s1 + 1))))) (some (.bk s1))
theorem W_blaw07_paired_b1 {a0 : TOrder} {a1 : Int} {a2 : Int} {s1 : Int} {Φ : Ct Int Bool → Prop} (h : W (law07_paired_b1 a0 a1 a2 s1) Φ) : W (cn (decide (s1 < (a0.Pairs.length : Int))) (ix a0.Pairs default s1 fun e2 => cn ((e2.1 == a1) && (e2.2 == a2)) (some (.rt true)) (some (.nx (wr (s1 + 1))))) (some (.bk s1))) Φ := h
def law07_paired_F (a0 : TOrder) (a1 : Int) (a2 : Int) : Option Bool := bd (lp (law07_paired_b1 a0 a1 a2) FU 0) fun c3 => smK c3 (fun s4 => some false) (fun r5 => some r5)
def law07_paired_S : List AV → AV → Prop := fun args r => ∃ a0 a1 a2, args = [eTOrder a0, eI a1, eI a2] ∧ W (law07_paired_F a0 a1 a2) fun y => r = (eB y)
theorem law07_paired_ok {T : Tbl} (hT : TOk Tryd.prog T) (hpf : PfOk T PF) : FOk Tryd.prog 70 (pureR law07_paired_S) := by
  refine FOk_pure hT hpf Tryd.func70 rfl Tryd.ntmps70 Tryd.results70 (by decide) ?_
  rintro args r ⟨a0, a1, a2, rfl, h⟩
  refine ⟨nle rfl, ?_, ?_⟩
  · exact (loose_cons (lo_TOrder _) (loose_cons (loose_int _ _) (loose_cons (loose_int _ _) loose_nil)))
  rw [law07_paired_F.eq_1] at h
  refine HT_fr DC_ok rfl fun K hK => ?_; (conv => whnf)
  refine hK _ _ _ ?_; clear hK K
  refine HT_seq ?_
  refine HT_fr DC_ok rfl fun K hK => ?_; (conv => whnf)
  refine hK _ _ _ ?_; clear hK K
  refine HT_block ?_
  replace h := W_bd h
  refine HT_lpK (body := law07_paired_b1 _ _ _) rfl h [1, 2, 3] [3] [] (fun kl kh ids b s => ⟨ofL ([(7, eI s)] ++ kl), ofH ([] ++ kh), b + 64⟩) ?_; (conv => whnf); refine And.intro ?_ (fun s m h => HT_st ?_)
  · refine weak_k ?_; (conv => whnf)
    exact And.intro rfl (And.intro (allL_c wkI (allL_c wkI (allL_c wkI (allL_c (WkR.ptr (fun _ => rfl)) allL_n)))) (allL_c ⟨some _, rfl, BkR_c rfl (CkR_cons wkI (CkR_cons (wkr (loose_lst fun _ => (lo_A46 _))) CkR_nil))⟩ allL_n))
  replace h := W_blaw07_paired_b1 (W_bd h)
  refine HT_seq ?_
  refine HT_fr DC_ok rfl fun K hK => ?_; (conv => whnf)
  refine nlA rfl ?_; (conv => whnf)
  refine blkK_of rfl ?_; (conv => whnf)
  refine getK_of rfl ?_; (conv => whnf)
  refine hK _ _ _ ?_; clear hK K
  refine HT_if fun K1 K2 hK1 hK2 => ?_; (conv => whnf)
  refine cond_lk h (fun _ h => ?_) (fun _ h => ?_)
  · refine hK1 ?_; clear hK1 hK2 K1 K2
    refine HT_skip ?_
    refine Then_n ?_
    refine HT_seq ?_
    refine HT_block ?_
    refine HT_fr DC_ok rfl fun K hK => ?_; (conv => whnf)
    refine nlA rfl ?_; (conv => whnf)
    refine blkK_of rfl ?_; (conv => whnf)
    refine getK_of rfl ?_; (conv => whnf)
    refine ix_lk h fun _ h => ?_; (conv => whnf)
    refine nlA rfl ?_; (conv => whnf)
    refine eqK_e (eqv46 _ _ _ _) ?_; (conv => whnf)
    refine hK _ _ _ ?_; clear hK K
    refine HT_if fun K1 K2 hK1 hK2 => ?_; (conv => whnf)
    refine cond_lk h (fun _ h => ?_) (fun _ h => ?_)
    · refine hK1 ?_; clear hK1 hK2 K1 K2
      refine HT_fr DC_ok rfl fun K hK => ?_; (conv => whnf)
      refine hK _ _ _ ?_; clear hK K
      refine HT_ret ?_
      refine InBlock_r ?_
      refine Then_r ?_
      refine Then_r ?_
      refine InBlock_r ?_
      refine Then_r ?_
      replace h := W_xrt h
      replace h := W_inr h
      replace h := W_some h
      refine PostP_r DC_ok fun K hK => ?_; (conv => whnf)
      refine hK _ ?_; clear hK K
      cases h
      exact Wk.refl _
    refine hK2 ?_; clear hK1 hK2 K1 K2
    refine HT_skip ?_
    refine InBlock_n ?_
    refine Then_n ?_
    refine HT_f DC_ok rfl fun K hK => ?_; (conv => whnf)
    refine hK _ _ _ ?_; clear hK K
    refine Then_n ?_
    replace h := W_xnx h
    refine ⟨_, h, ?_⟩
    refine weak_k ?_; (conv => whnf)
    exact And.intro rfl (And.intro (allL_c wkI (allL_c wkI (allL_c wkI (allL_c (WkR.ptr (fun _ => rfl)) allL_n)))) (allL_c ⟨some _, rfl, BkR_c rfl (CkR_cons wkI (CkR_cons (wkr (loose_lst fun _ => (lo_A46 _))) CkR_nil))⟩ allL_n))
  refine hK2 ?_; clear hK1 hK2 K1 K2
  refine HT_exit ?_
  refine Then_e ?_
  refine Then_e ?_
  refine InBlock_e ?_
  replace h := W_xbk h
  replace h := W_inl h
  refine Then_n ?_
  refine HT_fr DC_ok rfl fun K hK => ?_; (conv => whnf)
  refine hK _ _ _ ?_; clear hK K
  refine HT_ret ?_
  replace h := W_some h
  refine PostP_r DC_ok fun K hK => ?_; (conv => whnf)
  refine hK _ ?_; clear hK K
  cases h
  exact Wk.refl _
theorem law07_paired_call {T : Tbl} (hT : T 70 = pureR law07_paired_S) {args : List AV} {hp : Heap} {id : Nat} {k : AV → Prop} {a0 : TOrder} {a1 : Int} {a2 : Int} {Φ : Bool → Prop} (h : W (law07_paired_F a0 a1 a2) Φ) (hw : WkL args [eTOrder a0, eI a1, eI a2]) (hk : ∀ y, Φ y → k (eB y)) : callpK T 70 args hp id k := by
  obtain ⟨y, e, hy⟩ := W_inv h
  exact callpK_pure hT ⟨a0, a1, a2, rfl, W_of e rfl⟩ (by exact (loose_bool _)) hw (hk y hy)
def cmp_isNaN_int_F (a0 : Int) : Option Bool := some (a0 != a0)
def cmp_isNaN_int_S : List AV → AV → Prop := fun args r => ∃ a0, args = [eI a0] ∧ W (cmp_isNaN_int_F a0) fun y => r = (eB y)
theorem cmp_isNaN_int_ok {T : Tbl} (hT : TOk Tryd.prog T) (hpf : PfOk T PF) : FOk Tryd.prog 83 (pureR cmp_isNaN_int_S) := by
  refine FOk_pure hT hpf Tryd.func83 rfl Tryd.ntmps83 Tryd.results83 (by decide) ?_
  rintro args r ⟨a0, rfl, h⟩
  refine ⟨nle rfl, ?_, ?_⟩
  · exact (loose_cons (loose_int _ _) loose_nil)
  rw [cmp_isNaN_int_F.eq_1] at h
  refine HT_fr DC_ok rfl fun K hK => ?_; (conv => whnf)
  refine hK _ _ _ ?_; clear hK K
  refine HT_fr DC_ok rfl fun K hK => ?_; (conv => whnf)
  refine hK _ _ _ ?_; clear hK K
  refine HT_ret ?_
  replace h := W_some h
  refine PostP_r DC_ok fun K hK => ?_; (conv => whnf)
  refine hK _ ?_; clear hK K
  cases h
  exact Wk.refl _
theorem cmp_isNaN_int_call {T : Tbl} (hT : T 83 = pureR cmp_isNaN_int_S) {args : List AV} {hp : Heap} {id : Nat} {k : AV → Prop} {a0 : Int} {Φ : Bool → Prop} (h : W (cmp_isNaN_int_F a0) Φ) (hw : WkL args [eI a0]) (hk : ∀ y, Φ y → k (eB y)) : callpK T 83 args hp id k := by
  obtain ⟨y, e, hy⟩ := W_inv h
  exact callpK_pure hT ⟨a0, rfl, W_of e rfl⟩ (by exact (loose_bool _)) hw (hk y hy)
def order_Formed_1_F (a0 : Int × Int) (c900 : TOrder) : Option Bool := jn (fun p1 : Bool => some p1) fun k2 =>
    cn (decide ((imin a0.1 a0.2) < 0)) (k2 true) (cn (decide ((imax a0.1 a0.2) ≥ c900.N)) (k2 true) (k2 (a0.1 == a0.2)))
def order_Formed_1_S : List AV → AV → Prop := fun args r => ∃ a0 c900, args = [eA46 a0, .ep [eI c900.N, (eL 2 eA46 default) c900.Pairs] 0] ∧ W (order_Formed_1_F a0 c900) fun y => r = (eB y)
theorem order_Formed_1_ok {T : Tbl} (hT : TOk Tryd.prog T) (hpf : PfOk T PF) : FOk Tryd.prog 69 (pureR order_Formed_1_S) := by
  refine FOk_pure hT hpf Tryd.func69 rfl Tryd.ntmps69 Tryd.results69 (by decide) ?_
  rintro args r ⟨a0, c900, rfl, h⟩
  refine ⟨nle rfl, ?_, ?_⟩
  · exact (loose_cons (lo_A46 _) (loose_cons (loose_ep (loose_cons (loose_int _ _) (loose_cons (loose_lst fun _ => (lo_A46 _)) loose_nil))) loose_nil))
  rw [order_Formed_1_F.eq_1] at h
  refine HT_fr DC_ok rfl fun K hK => ?_; (conv => whnf)
  refine hK _ _ _ ?_; clear hK K
  refine HT_fr DC_ok rfl fun K hK => ?_; (conv => whnf)
  replace h := W_jn h
  refine And.intro (by decide) ?_; (conv => whnf)
  refine nlA rfl ?_; (conv => whnf)
  refine blkK_of rfl ?_; (conv => whnf)
  refine getK_of rfl ?_; (conv => whnf)
  refine And.intro (by decide) ?_; (conv => whnf)
  refine nlA rfl ?_; (conv => whnf)
  refine blkK_of rfl ?_; (conv => whnf)
  refine getK_of rfl ?_; (conv => whnf)
  refine cond_lk h (fun _ h => ?_) (fun _ h => ?_) <;> (conv => whnf)
  · refine hK _ _ _ ?_; clear hK K
    refine HT_ret ?_
    replace h := W_some h
    refine PostP_r DC_ok fun K hK => ?_; (conv => whnf)
    refine hK _ ?_; clear hK K
    cases h
    exact Wk.refl _
  refine And.intro (by decide) ?_; (conv => whnf)
  refine nlA rfl ?_; (conv => whnf)
  refine blkK_of rfl ?_; (conv => whnf)
  refine getK_of rfl ?_; (conv => whnf)
  refine And.intro (by decide) ?_; (conv => whnf)
  refine nlA rfl ?_; (conv => whnf)
  refine blkK_of rfl ?_; (conv => whnf)
  refine getK_of rfl ?_; (conv => whnf)
  refine getK_of rfl ?_; (conv => whnf)
  refine cond_lk h (fun _ h => ?_) (fun _ h => ?_) <;> (conv => whnf)
  · refine hK _ _ _ ?_; clear hK K
    refine HT_ret ?_
    replace h := W_some h
    refine PostP_r DC_ok fun K hK => ?_; (conv => whnf)
    refine hK _ ?_; clear hK K
    cases h
    exact Wk.refl _
  refine And.intro (by decide) ?_; (conv => whnf)
  refine nlA rfl ?_; (conv => whnf)
  refine blkK_of rfl ?_; (conv => whnf)
  refine getK_of rfl ?_; (conv => whnf)
  refine And.intro (by decide) ?_; (conv => whnf)
  refine nlA rfl ?_; (conv => whnf)
  refine blkK_of rfl ?_; (conv => whnf)
  refine getK_of rfl ?_; (conv => whnf)
  refine hK _ _ _ ?_; clear hK K
  refine HT_ret ?_
  replace h := W_some h
  refine PostP_r DC_ok fun K hK => ?_; (conv => whnf)
  refine hK _ ?_; clear hK K
  cases h
  exact Wk.refl _
theorem order_Formed_1_calls {T : Tbl} (hT : T 69 = pureR order_Formed_1_S) {args : List AV} {hp : Heap} {id : Nat} {k : AV → Heap → Prop} {a0 : Int × Int} {c900 : TOrder} {Φ : Bool → Prop} (h : W (order_Formed_1_F a0 c900) Φ) (hw : WkL args [eA46 a0, .ep [eI c900.N, (eL 2 eA46 default) c900.Pairs] 0]) (hk : ∀ y, Φ y → k (eB y) hp) : callsK T 69 args hp id k := by
  obtain ⟨y, e, hy⟩ := W_inv h
  exact callsK_pure hT ⟨a0, c900, rfl, W_of e rfl⟩ (by exact (loose_bool _)) hw (hk y hy)
def cmp_Or_int_b1 (a0 : List Int) (s1 : Int) : Option (Ct Int Int) := cn (decide (s1 < (a0.length : Int))) (ix a0 default s1 fun e2 => cn (e2 !=
    0) (some (.rt e2)) (some (.nx (wr (s1 + 1))))) (some (.bk s1))
theorem W_bcmp_Or_int_b1 {a0 : List Int} {s1 : Int} {Φ : Ct Int Int → Prop} (h : W (cmp_Or_int_b1 a0 s1) Φ) : W (cn (decide (s1 < (a0.length : Int))) (ix a0 default s1 fun e2 => cn (e2 != 0) (some (.rt e2)) (some (.nx (wr (s1 + 1))))) (some (.bk s1))) Φ := h
def cmp_Or_int_F (a0 : List Int) : Option Int := bd (lp (cmp_Or_int_b1 a0) FU 0) fun c3 => smK c3 (fun s4 => some 0) (fun r5 => some r5)
def cmp_Or_int_S : List AV → AV → Prop := fun args r => ∃ a0, args = [(eL 1 eI default) a0] ∧ W (cmp_Or_int_F a0) fun y => r = (eI y)
theorem cmp_Or_int_ok {T : Tbl} (hT : TOk Tryd.prog T) (hpf : PfOk T PF) : FOk Tryd.prog 62 (pureR cmp_Or_int_S) := by
  refine FOk_pure hT hpf Tryd.func62 rfl Tryd.ntmps62 Tryd.results62 (by decide) ?_
  rintro args r ⟨a0, rfl, h⟩
  refine ⟨nle rfl, ?_, ?_⟩
  · exact (loose_cons (loose_lst fun _ => (loose_int _ _)) loose_nil)
  rw [cmp_Or_int_F.eq_1] at h
  refine HT_fr DC_ok rfl fun K hK => ?_; (conv => whnf)
  refine hK _ _ _ ?_; clear hK K
  refine HT_fr DC_ok rfl fun K hK => ?_; (conv => whnf)
  refine hK _ _ _ ?_; clear hK K
  refine HT_seq ?_
  refine HT_fr DC_ok rfl fun K hK => ?_; (conv => whnf)
  refine hK _ _ _ ?_; clear hK K
  refine HT_block ?_
  replace h := W_bd h
  refine HT_lpK (body := cmp_Or_int_b1 _) rfl h [3, 6, 7] [] [] (fun kl kh ids b s => ⟨ofL ([(8, eI s)] ++ kl), ofH ([] ++ kh), b + 64⟩) ?_; (conv => whnf); refine And.intro ?_ (fun s m h => HT_st ?_)
  · refine weak_k ?_; (conv => whnf)
    exact And.intro rfl (And.intro (allL_c wkI (allL_c wkI (allL_c (wkr (loose_lst fun _ => (loose_int _ _))) (allL_c wkI allL_n)))) allL_n)
  replace h := W_bcmp_Or_int_b1 (W_bd h)
  refine HT_fr DC_ok rfl fun K hK => ?_; (conv => whnf)
  refine hK _ _ _ ?_; clear hK K
  refine HT_seq ?_
  refine HT_if fun K1 K2 hK1 hK2 => ?_; (conv => whnf)
  refine cond_lk h (fun _ h => ?_) (fun _ h => ?_)
  · refine hK1 ?_; clear hK1 hK2 K1 K2
    refine HT_skip ?_
    refine Then_n ?_
    refine HT_seq ?_
    refine HT_block ?_
    refine HT_fr DC_ok rfl fun K hK => ?_; (conv => whnf)
    refine ix_lk h fun _ h => ?_; (conv => whnf)
    refine getK_of rfl ?_; (conv => whnf)
    refine hK _ _ _ ?_; clear hK K
    refine HT_fr DC_ok rfl fun K hK => ?_; (conv => whnf)
    refine hK _ _ _ ?_; clear hK K
    refine HT_if fun K1 K2 hK1 hK2 => ?_; (conv => whnf)
    refine cond_lk h (fun _ h => ?_) (fun _ h => ?_)
    · refine hK1 ?_; clear hK1 hK2 K1 K2
      refine HT_fr DC_ok rfl fun K hK => ?_; (conv => whnf)
      refine hK _ _ _ ?_; clear hK K
      refine HT_ret ?_
      refine InBlock_r ?_
      refine Then_r ?_
      refine Then_r ?_
      refine InBlock_r ?_
      refine Then_r ?_
      replace h := W_xrt h
      replace h := W_inr h
      replace h := W_some h
      refine PostP_r DC_ok fun K hK => ?_; (conv => whnf)
      refine hK _ ?_; clear hK K
      cases h
      exact Wk.refl _
    refine hK2 ?_; clear hK1 hK2 K1 K2
    refine HT_skip ?_
    refine InBlock_n ?_
    refine Then_n ?_
    refine HT_f DC_ok rfl fun K hK => ?_; (conv => whnf)
    refine hK _ _ _ ?_; clear hK K
    refine Then_n ?_
    replace h := W_xnx h
    refine ⟨_, h, ?_⟩
    refine weak_k ?_; (conv => whnf)
    exact And.intro rfl (And.intro (allL_c wkI (allL_c wkI (allL_c (wkr (loose_lst fun _ => (loose_int _ _))) (allL_c wkI allL_n)))) allL_n)
  refine hK2 ?_; clear hK1 hK2 K1 K2
  refine HT_exit ?_
  refine Then_e ?_
  refine Then_e ?_
  refine InBlock_e ?_
  replace h := W_xbk h
  replace h := W_inl h
  refine Then_n ?_
  refine HT_fr DC_ok rfl fun K hK => ?_; (conv => whnf)
  refine hK _ _ _ ?_; clear hK K
  refine HT_ret ?_
  replace h := W_some h
  refine PostP_r DC_ok fun K hK => ?_; (conv => whnf)
  refine hK _ ?_; clear hK K
  cases h
  exact Wk.refl _
theorem cmp_Or_int_call {T : Tbl} (hT : T 62 = pureR cmp_Or_int_S) {args : List AV} {hp : Heap} {id : Nat} {k : AV → Prop} {a0 : List Int} {Φ : Int → Prop} (h : W (cmp_Or_int_F a0) Φ) (hw : WkL args [(eL 1 eI default) a0]) (hk : ∀ y, Φ y → k (eI y)) : callpK T 62 args hp id k := by
  obtain ⟨y, e, hy⟩ := W_inv h
  exact callpK_pure hT ⟨a0, rfl, W_of e rfl⟩ (by exact (loose_int _ _)) hw (hk y hy)

    def order_closed_b4 (a0 : TOrder) (s16 : Int × (Ar 8)) (s18 : Int × (Ar 8)) : Option (Ct (Int × (Ar 8)) ((Ar 8) × Bool)) := cn (decide (s18.1 < a0.N)) (gd (0 ≤ s18.1 ∧ s18.1 < (8 : Int)) (gd (0 ≤ s18.1) (cn ((band .i64 (bshr .i64 (s16.2.at1 s18.1) s18.1) 1) ==
    1) (some (.rt (s16.2, false))) (some (.nx ((wr (s18.1 + 1)), s18.2)))))) (some (.bk (s18.1, s18.2)))
theorem W_border_closed_b4 {a0 : TOrder} {s16 : Int × (Ar 8)} {s18 : Int × (Ar 8)} {Φ : Ct (Int × (Ar 8)) ((Ar 8) × Bool) → Prop} (h : W (order_closed_b4 a0 s16 s18) Φ) : W (cn (decide (s18.1 < a0.N)) (gd (0 ≤ s18.1 ∧ s18.1 < (8 : Int)) (gd (0 ≤ s18.1) (cn ((band .i64 (bshr .i64 (s16.2.at1 s18.1) s18.1) 1) ==
    1) (some (.rt (s16.2, false))) (some (.nx ((wr (s18.1 + 1)), s18.2)))))) (some (.bk (s18.1, s18.2)))) Φ := h

    def order_closed_b3 (a0 : TOrder) (s7 : Int × (Ar 8)) (s8 : Int × (Ar 8)) : Option (Ct (Int × (Ar 8)) ((Ar 8) × Bool)) := cn (decide (s8.1 < a0.N)) (gd (0 ≤ s8.1 ∧ s8.1 < (8 : Int)) (gd (0 ≤ s7.1) (jn (fun p9 : (Ar 8) =>
    some (.nx ((wr (s8.1 + 1)), p9))) fun k10 => cn ((band .i64 (bshr .i64 (s8.2.at1 s8.1) s7.1) 1) ==
    1) (gd (0 ≤ s8.1 ∧ s8.1 < (8 : Int)) (gd (0 ≤ s7.1 ∧ s7.1 < (8 : Int)) (gd (0 ≤ s8.1 ∧ s8.1 < (8 : Int)) (let m11 := s8.2.st1 s8.1 (bor .i64 (s8.2.at1 s8.1) (s8.2.at1 s7.1));
    k10 m11)))) (k10 s8.2)))) (some (.bk (s8.1, s8.2)))
theorem W_border_closed_b3 {a0 : TOrder} {s7 : Int × (Ar 8)} {s8 : Int × (Ar 8)} {Φ : Ct (Int × (Ar 8)) ((Ar 8) × Bool) → Prop} (h : W (order_closed_b3 a0 s7 s8) Φ) : W (cn (decide (s8.1 < a0.N)) (gd (0 ≤ s8.1 ∧ s8.1 < (8 : Int)) (gd (0 ≤ s7.1) (jn (fun p9 : (Ar 8) => some (.nx ((wr (s8.1 + 1)), p9))) fun k10 =>
    cn ((band .i64 (bshr .i64 (s8.2.at1 s8.1) s7.1) 1) ==
    1) (gd (0 ≤ s8.1 ∧ s8.1 < (8 : Int)) (gd (0 ≤ s7.1 ∧ s7.1 < (8 : Int)) (gd (0 ≤ s8.1 ∧ s8.1 < (8 : Int)) (let m11 := s8.2.st1 s8.1 (bor .i64 (s8.2.at1 s8.1) (s8.2.at1 s7.1));
    k10 m11)))) (k10 s8.2)))) (some (.bk (s8.1, s8.2)))) Φ := h

    def order_closed_b2 (a0 : TOrder) (s7 : Int × (Ar 8)) : Option (Ct (Int × (Ar 8)) ((Ar 8) × Bool)) := cn (decide (s7.1 < a0.N)) (bd (lp (order_closed_b3 a0 s7) FU (0, s7.2)) fun c12 =>
    smK c12 (fun s13 => some (.nx ((wr (s7.1 + 1)), s13.2))) (fun r14 => some (.rt r14))) (some (.bk (s7.1, s7.2)))
theorem W_border_closed_b2 {a0 : TOrder} {s7 : Int × (Ar 8)} {Φ : Ct (Int × (Ar 8)) ((Ar 8) × Bool) → Prop} (h : W (order_closed_b2 a0 s7) Φ) : W (cn (decide (s7.1 < a0.N)) (bd (lp (order_closed_b3 a0 s7) FU (0, s7.2)) fun c12 => smK c12 (fun s13 => some (.nx ((wr (s7.1 + 1)), s13.2))) (fun r14 =>
    some (.rt r14))) (some (.bk (s7.1, s7.2)))) Φ := h

    def order_closed_b1 (a0 : TOrder) (s1 : Int × (Ar 8)) : Option (Ct (Int × (Ar 8)) ((Ar 8) × Bool)) := cn (decide (s1.1 < (a0.Pairs.length : Int))) (ix a0.Pairs default s1.1 fun e2 =>
    gd (0 ≤ e2.2 ∧ e2.2 < (8 : Int)) (gd (0 ≤ e2.1) (gd (0 ≤ e2.2 ∧ e2.2 < (8 : Int)) (let m3 := s1.2.st1 e2.2 (bor .i64 (s1.2.at1 e2.2) (bshl .i64 1 e2.1));
    some (.nx ((wr (s1.1 + 1)), m3)))))) (some (.bk (s1.1, s1.2)))
theorem W_border_closed_b1 {a0 : TOrder} {s1 : Int × (Ar 8)} {Φ : Ct (Int × (Ar 8)) ((Ar 8) × Bool) → Prop} (h : W (order_closed_b1 a0 s1) Φ) : W (cn (decide (s1.1 < (a0.Pairs.length : Int))) (ix a0.Pairs default s1.1 fun e2 =>
    gd (0 ≤ e2.2 ∧ e2.2 < (8 : Int)) (gd (0 ≤ e2.1) (gd (0 ≤ e2.2 ∧ e2.2 < (8 : Int)) (let m3 := s1.2.st1 e2.2 (bor .i64 (s1.2.at1 e2.2) (bshl .i64 1 e2.1));
    some (.nx ((wr (s1.1 + 1)), m3)))))) (some (.bk (s1.1, s1.2)))) Φ := h
def order_closed_F (a0 : TOrder) : Option ((Ar 8) × Bool) := bd (lp (order_closed_b1 a0) FU (0, (Ar.zero 8))) fun c4 => smK c4 (fun s5 =>
    bd (lp (order_closed_b2 a0) FU (0, s5.2)) fun c15 => smK c15 (fun s16 => bd (lp (order_closed_b4 a0 s16) FU (0, (Ar.zero 8))) fun c19 => smK c19 (fun s20 =>
    some (s16.2, true)) (fun r21 => some r21)) (fun r17 => some r17)) (fun r6 => some r6)
def order_closed_S : List AV → AV → Prop := fun args r => ∃ a0, args = [eTOrder a0] ∧ W (order_closed_F a0) fun y => r = (.tup [eAr y.1, eB y.2])
theorem order_closed_ok {T : Tbl} (hT : TOk Tryd.prog T) (hpf : PfOk T PF) : FOk Tryd.prog 79 (pureR order_closed_S) := by
  refine FOk_pure hT hpf Tryd.func79 rfl Tryd.ntmps79 Tryd.results79 (by decide) ?_
  rintro args r ⟨a0, rfl, h⟩
  refine ⟨nle rfl, ?_, ?_⟩
  · exact (loose_cons (lo_TOrder _) loose_nil)
  rw [order_closed_F.eq_1] at h
  refine HT_fr DC_ok rfl fun K hK => ?_; (conv => whnf)
  refine hK _ _ _ ?_; clear hK K
  refine HT_fr DC_ok rfl fun K hK => ?_; (conv => whnf)
  refine hK _ _ _ ?_; clear hK K
  refine HT_seq ?_
  refine HT_fr DC_ok rfl fun K hK => ?_; (conv => whnf)
  refine nlA rfl ?_; (conv => whnf)
  refine blkK_of rfl ?_; (conv => whnf)
  refine getK_of rfl ?_; (conv => whnf)
  refine hK _ _ _ ?_; clear hK K
  refine HT_block ?_
  replace h := W_bd h
  refine HT_lpR (body := order_closed_b1 _) rfl h [1, 2, 4, 11, 12] [1] [2] [4] (fun kl kh kr ids b s => ⟨ofL ([(13, eI s.1)] ++ kl), ofH (([] ++ kh) ++ ([(nthN ids 0, .cells (cA s.2))] ++ kr)), b + 128⟩) ?_; (conv => whnf); refine And.intro ?_ (fun s m h => HT_st ?_)
  · refine weak_r ?_; (conv => whnf)
    exact And.intro rfl (And.intro (allL_c wkI (allL_c (WkR.ptr (fun _ => rfl)) (allL_c (WkR.ptr (fun _ => rfl)) (allL_c (WkR.ptr (fun _ => rfl)) (allL_c (wkr (loose_lst fun _ => (lo_A46 _))) (allL_c wkI allL_n)))))) (allL_c ⟨some _, rfl, BkR_c rfl (CkR_cons wkI (CkR_cons (wkr (loose_lst fun _ => (lo_A46 _))) CkR_nil))⟩ (allL_c ⟨some _, rfl, BkR_arr (x := (Ar.zero 8)) rfl rfl⟩ (allL_c ⟨some _, rfl, BkR_arr (x := (Ar.zero 8)) rfl rfl⟩ allL_n))))
  replace h := W_border_closed_b1 (W_bd h)
  refine HT_fr DC_ok rfl fun K hK => ?_; (conv => whnf)
  refine hK _ _ _ ?_; clear hK K
  refine HT_seq ?_
  refine HT_if fun K1 K2 hK1 hK2 => ?_; (conv => whnf)
  refine cond_lk h (fun _ h => ?_) (fun _ h => ?_)
  · refine hK1 ?_; clear hK1 hK2 K1 K2
    refine HT_skip ?_
    refine Then_n ?_
    refine HT_seq ?_
    refine HT_block ?_
    refine HT_fr DC_ok rfl fun K hK => ?_; (conv => whnf)
    refine ix_lk h fun _ h => ?_; (conv => whnf)
    refine nlA rfl ?_; (conv => whnf)
    refine blkK_of rfl ?_; (conv => whnf)
    refine And.intro rfl (And.intro (nle rfl) (And.intro rfl ?_)); (conv => whnf)
    refine hK _ _ _ ?_; clear hK K
    refine HT_fD DC_ok mix_ok rfl (by kernel_rfl) fun K hK => ?_; (conv => whnf)
    refine And.intro (by decide) ?_; (conv => whnf)
    refine nlA rfl ?_; (conv => whnf)
    refine blkK_of rfl ?_; (conv => whnf)
    refine getK_of rfl ?_; (conv => whnf)
    refine gd_lk h fun hx215 h => ?_; (conv => whnf)
    refine nlA rfl ?_; (conv => whnf)
    refine blkK_of rfl ?_; (conv => whnf)
    refine get_ar1 rfl hx215 ?_; (conv => whnf)
    refine And.intro (by decide) ?_; (conv => whnf)
    refine nlA rfl ?_; (conv => whnf)
    refine blkK_of rfl ?_; (conv => whnf)
    refine getK_of rfl ?_; (conv => whnf)
    refine gd_lk h fun _ h => ?_; (conv => whnf)
    refine gd_lk h fun hx216 h => ?_; (conv => whnf)
    refine blkK_of rfl ?_; (conv => whnf)
    refine st_ar1 rfl hx216 rfl rfl ?_; (conv => whnf)
    refine hK _ _ _ ?_; clear hK K
    refine InBlock_n ?_
    refine Then_n ?_
    refine HT_f DC_ok rfl fun K hK => ?_; (conv => whnf)
    refine hK _ _ _ ?_; clear hK K
    refine Then_n ?_
    replace h := W_xnx h
    refine ⟨_, h, ?_⟩
    refine weak_r ?_; (conv => whnf)
    exact And.intro rfl (And.intro (allL_c wkI (allL_c (WkR.ptr (fun _ => rfl)) (allL_c (WkR.ptr (fun _ => rfl)) (allL_c (WkR.ptr (fun _ => rfl)) (allL_c (wkr (loose_lst fun _ => (lo_A46 _))) (allL_c wkI allL_n)))))) (allL_c ⟨some _, rfl, BkR_c rfl (CkR_cons wkI (CkR_cons (wkr (loose_lst fun _ => (lo_A46 _))) CkR_nil))⟩ (allL_c ⟨some _, rfl, BkR_arr rfl rfl⟩ (allL_c ⟨some _, rfl, BkR_arr (x := (Ar.zero 8)) rfl rfl⟩ allL_n))))
  refine hK2 ?_; clear hK1 hK2 K1 K2
  refine HT_exit ?_
  refine Then_e ?_
  refine Then_e ?_
  refine InBlock_e ?_
  replace h := W_xbk h
  replace h := W_inl h
  refine Then_n ?_
  refine HT_seq ?_
  refine HT_fr DC_ok rfl fun K hK => ?_; (conv => whnf)
  refine nlA rfl ?_; (conv => whnf)
  refine blkK_of rfl ?_; (conv => whnf)
  refine getK_of rfl ?_; (conv => whnf)
  refine hK _ _ _ ?_; clear hK K
  refine HT_block ?_
  replace h := W_bd h
  refine HT_lpR (body := order_closed_b2 _) rfl h [1, 2, 4, 28] [1] [2] [4] (fun kl kh kr ids b s => ⟨ofL ([(29, eI s.1)] ++ kl), ofH (([] ++ kh) ++ ([(nthN ids 0, .cells (cA s.2))] ++ kr)), b + 128⟩) ?_; (conv => whnf); refine And.intro ?_ (fun s m h => HT_st ?_)
  · refine weak_r ?_; (conv => whnf)
    exact And.intro rfl (And.intro (allL_c wkI (allL_c (WkR.ptr (fun _ => rfl)) (allL_c (WkR.ptr (fun _ => rfl)) (allL_c (WkR.ptr (fun _ => rfl)) (allL_c wkI allL_n))))) (allL_c ⟨some _, rfl, BkR_c rfl (CkR_cons wkI (CkR_cons (wkr (loose_lst fun _ => (lo_A46 _))) CkR_nil))⟩ (allL_c ⟨some _, rfl, BkR_arr rfl rfl⟩ (allL_c ⟨some _, rfl, BkR_arr (x := (Ar.zero 8)) rfl rfl⟩ allL_n))))
  replace h := W_border_closed_b2 (W_bd h)
  refine HT_fr DC_ok rfl fun K hK => ?_; (conv => whnf)
  refine hK _ _ _ ?_; clear hK K
  refine HT_seq ?_
  refine HT_if fun K1 K2 hK1 hK2 => ?_; (conv => whnf)
  refine cond_lk h (fun _ h => ?_) (fun _ h => ?_)
  · refine hK1 ?_; clear hK1 hK2 K1 K2
    refine HT_skip ?_
    refine Then_n ?_
    refine HT_seq ?_
    refine HT_block ?_
    refine HT_fr DC_ok rfl fun K hK => ?_; (conv => whnf)
    refine hK _ _ _ ?_; clear hK K
    refine HT_fr DC_ok rfl fun K hK => ?_; (conv => whnf)
    refine nlA rfl ?_; (conv => whnf)
    refine blkK_of rfl ?_; (conv => whnf)
    refine getK_of rfl ?_; (conv => whnf)
    refine hK _ _ _ ?_; clear hK K
    refine HT_block ?_
    replace h := W_bd h
    refine HT_lpR (body := order_closed_b3 _ _) rfl h [1, 2, 4, 7, 28, 29, 33] [1] [2] [4] (fun kl kh kr ids b s => ⟨ofL ([(34, eI s.1)] ++ kl), ofH (([] ++ kh) ++ ([(nthN ids 0, .cells (cA s.2))] ++ kr)), b + 128⟩) ?_; (conv => whnf); refine And.intro ?_ (fun s m h => HT_st ?_)
    · refine weak_r ?_; (conv => whnf)
      exact And.intro rfl (And.intro (allL_c wkI (allL_c (WkR.ptr (fun _ => rfl)) (allL_c (WkR.ptr (fun _ => rfl)) (allL_c (WkR.ptr (fun _ => rfl)) (allL_c wkI (allL_c wkI (allL_c wkI (allL_c wkI allL_n)))))))) (allL_c ⟨some _, rfl, BkR_c rfl (CkR_cons wkI (CkR_cons (wkr (loose_lst fun _ => (lo_A46 _))) CkR_nil))⟩ (allL_c ⟨some _, rfl, BkR_arr rfl rfl⟩ (allL_c ⟨some _, rfl, BkR_arr (x := (Ar.zero 8)) rfl rfl⟩ allL_n))))
    replace h := W_border_closed_b3 (W_bd h)
    refine HT_fr DC_ok rfl fun K hK => ?_; (conv => whnf)
    refine hK _ _ _ ?_; clear hK K
    refine HT_seq ?_
    refine HT_if fun K1 K2 hK1 hK2 => ?_; (conv => whnf)
    refine cond_lk h (fun _ h => ?_) (fun _ h => ?_)
    · refine hK1 ?_; clear hK1 hK2 K1 K2
      refine HT_skip ?_
      refine Then_n ?_
      refine HT_seq ?_
      refine HT_block ?_
      refine HT_fr DC_ok rfl fun K hK => ?_; (conv => whnf)
      refine hK _ _ _ ?_; clear hK K
      refine HT_fr DC_ok rfl fun K hK => ?_; (conv => whnf)
      refine gd_lk h fun hx469 h => ?_; (conv => whnf)
      refine nlA rfl ?_; (conv => whnf)
      refine blkK_of rfl ?_; (conv => whnf)
      refine get_ar1 rfl hx469 ?_; (conv => whnf)
      refine gd_lk h fun _ h => ?_; (conv => whnf)
      refine hK _ _ _ ?_; clear hK K
      replace h := W_jn h
      refine HT_if fun K1 K2 hK1 hK2 => ?_; (conv => whnf)
      refine cond_lk h (fun _ h => ?_) (fun _ h => ?_)
      · refine hK1 ?_; clear hK1 hK2 K1 K2
        refine HT_fD DC_ok mix_ok rfl (by kernel_rfl) fun K hK => ?_; (conv => whnf)
        refine gd_lk h fun hx473 h => ?_; (conv => whnf)
        refine nlA rfl ?_; (conv => whnf)
        refine blkK_of rfl ?_; (conv => whnf)
        refine get_ar1 rfl hx473 ?_; (conv => whnf)
        refine gd_lk h fun hx474 h => ?_; (conv => whnf)
        refine nlA rfl ?_; (conv => whnf)
        refine blkK_of rfl ?_; (conv => whnf)
        refine get_ar1 rfl hx474 ?_; (conv => whnf)
        refine gd_lk h fun hx475 h => ?_; (conv => whnf)
        refine blkK_of rfl ?_; (conv => whnf)
        refine st_ar1 rfl hx475 rfl rfl ?_; (conv => whnf)
        refine hK _ _ _ ?_; clear hK K
        refine InBlock_n ?_
        refine Then_n ?_
        refine HT_f DC_ok rfl fun K hK => ?_; (conv => whnf)
        refine hK _ _ _ ?_; clear hK K
        refine Then_n ?_
        replace h := W_xnx h
        refine ⟨_, h, ?_⟩
        refine weak_r ?_; (conv => whnf)
        exact And.intro rfl (And.intro (allL_c wkI (allL_c (WkR.ptr (fun _ => rfl)) (allL_c (WkR.ptr (fun _ => rfl)) (allL_c (WkR.ptr (fun _ => rfl)) (allL_c wkI (allL_c wkI (allL_c wkI (allL_c wkI allL_n)))))))) (allL_c ⟨some _, rfl, BkR_c rfl (CkR_cons wkI (CkR_cons (wkr (loose_lst fun _ => (lo_A46 _))) CkR_nil))⟩ (allL_c ⟨some _, rfl, BkR_arr rfl rfl⟩ (allL_c ⟨some _, rfl, BkR_arr (x := (Ar.zero 8)) rfl rfl⟩ allL_n))))
      refine hK2 ?_; clear hK1 hK2 K1 K2
      refine HT_skip ?_
      refine InBlock_n ?_
      refine Then_n ?_
      refine HT_f DC_ok rfl fun K hK => ?_; (conv => whnf)
      refine hK _ _ _ ?_; clear hK K
      refine Then_n ?_
      replace h := W_xnx h
      refine ⟨_, h, ?_⟩
      refine weak_r ?_; (conv => whnf)
      exact And.intro rfl (And.intro (allL_c wkI (allL_c (WkR.ptr (fun _ => rfl)) (allL_c (WkR.ptr (fun _ => rfl)) (allL_c (WkR.ptr (fun _ => rfl)) (allL_c wkI (allL_c wkI (allL_c wkI (allL_c wkI allL_n)))))))) (allL_c ⟨some _, rfl, BkR_c rfl (CkR_cons wkI (CkR_cons (wkr (loose_lst fun _ => (lo_A46 _))) CkR_nil))⟩ (allL_c ⟨some _, rfl, BkR_arr rfl rfl⟩ (allL_c ⟨some _, rfl, BkR_arr (x := (Ar.zero 8)) rfl rfl⟩ allL_n))))
    refine hK2 ?_; clear hK1 hK2 K1 K2
    refine HT_exit ?_
    refine Then_e ?_
    refine Then_e ?_
    refine InBlock_e ?_
    replace h := W_xbk h
    replace h := W_inl h
    refine InBlock_n ?_
    refine Then_n ?_
    refine HT_f DC_ok rfl fun K hK => ?_; (conv => whnf)
    refine hK _ _ _ ?_; clear hK K
    refine Then_n ?_
    replace h := W_xnx h
    refine ⟨_, h, ?_⟩
    refine weak_r ?_; (conv => whnf)
    exact And.intro rfl (And.intro (allL_c wkI (allL_c (WkR.ptr (fun _ => rfl)) (allL_c (WkR.ptr (fun _ => rfl)) (allL_c (WkR.ptr (fun _ => rfl)) (allL_c wkI allL_n))))) (allL_c ⟨some _, rfl, BkR_c rfl (CkR_cons wkI (CkR_cons (wkr (loose_lst fun _ => (lo_A46 _))) CkR_nil))⟩ (allL_c ⟨some _, rfl, BkR_arr rfl rfl⟩ (allL_c ⟨some _, rfl, BkR_arr (x := (Ar.zero 8)) rfl rfl⟩ allL_n))))
  refine hK2 ?_; clear hK1 hK2 K1 K2
  refine HT_exit ?_
  refine Then_e ?_
  refine Then_e ?_
  refine InBlock_e ?_
  replace h := W_xbk h
  replace h := W_inl h
  refine Then_n ?_
  refine HT_seq ?_
  refine HT_fr DC_ok rfl fun K hK => ?_; (conv => whnf)
  refine nlA rfl ?_; (conv => whnf)
  refine blkK_of rfl ?_; (conv => whnf)
  refine getK_of rfl ?_; (conv => whnf)
  refine hK _ _ _ ?_; clear hK K
  refine HT_block ?_
  replace h := W_bd h
  refine HT_lpR (body := order_closed_b4 _ _) rfl h [2, 4, 55] [] [4] [2] (fun kl kh kr ids b s => ⟨ofL ([(56, eI s.1)] ++ kl), ofH (([] ++ kh) ++ ([(nthN ids 0, .cells (cA s.2))] ++ kr)), b + 128⟩) ?_; (conv => whnf); refine And.intro ?_ (fun s m h => HT_st ?_)
  · refine weak_r ?_; (conv => whnf)
    exact And.intro rfl (And.intro (allL_c wkI (allL_c (WkR.ptr (fun _ => rfl)) (allL_c (WkR.ptr (fun _ => rfl)) (allL_c wkI allL_n)))) (allL_c ⟨some _, rfl, BkR_arr (x := (Ar.zero 8)) rfl rfl⟩ (allL_c ⟨some _, rfl, BkR_arr rfl rfl⟩ allL_n)))
  replace h := W_border_closed_b4 (W_bd h)
  refine HT_fr DC_ok rfl fun K hK => ?_; (conv => whnf)
  refine hK _ _ _ ?_; clear hK K
  refine HT_seq ?_
  refine HT_if fun K1 K2 hK1 hK2 => ?_; (conv => whnf)
  refine cond_lk h (fun _ h => ?_) (fun _ h => ?_)
  · refine hK1 ?_; clear hK1 hK2 K1 K2
    refine HT_skip ?_
    refine Then_n ?_
    refine HT_seq ?_
    refine HT_block ?_
    refine HT_fr DC_ok rfl fun K hK => ?_; (conv => whnf)
    refine hK _ _ _ ?_; clear hK K
    refine HT_fr DC_ok rfl fun K hK => ?_; (conv => whnf)
    refine gd_lk h fun hx483 h => ?_; (conv => whnf)
    refine nlA rfl ?_; (conv => whnf)
    refine blkK_of rfl ?_; (conv => whnf)
    refine get_ar1 rfl hx483 ?_; (conv => whnf)
    refine gd_lk h fun _ h => ?_; (conv => whnf)
    refine hK _ _ _ ?_; clear hK K
    refine HT_if fun K1 K2 hK1 hK2 => ?_; (conv => whnf)
    refine cond_lk h (fun _ h => ?_) (fun _ h => ?_)
    · refine hK1 ?_; clear hK1 hK2 K1 K2
      refine HT_fr DC_ok rfl fun K hK => ?_; (conv => whnf)
      refine nlA rfl ?_; (conv => whnf)
      refine blkK_of rfl ?_; (conv => whnf)
      refine ld_ar rfl ?_; (conv => whnf)
      refine blkK_of rfl ?_; (conv => whnf)
      refine sw_ar (cA_len _) rfl rfl ?_; (conv => whnf)
      refine hK _ _ _ ?_; clear hK K
      refine HT_ret ?_
      refine InBlock_r ?_
      refine Then_r ?_
      refine Then_r ?_
      refine InBlock_r ?_
      refine Then_r ?_
      replace h := W_xrt h
      replace h := W_inr h
      replace h := W_some h
      refine PostP_r DC_ok fun K hK => ?_; (conv => whnf)
      refine nlA rfl ?_; (conv => whnf)
      refine blkK_of rfl ?_; (conv => whnf)
      refine ld_ar rfl ?_; (conv => whnf)
      refine hK _ ?_; clear hK K
      cases h
      exact Wk.refl _
    refine hK2 ?_; clear hK1 hK2 K1 K2
    refine HT_skip ?_
    refine InBlock_n ?_
    refine Then_n ?_
    refine HT_f DC_ok rfl fun K hK => ?_; (conv => whnf)
    refine hK _ _ _ ?_; clear hK K
    refine Then_n ?_
    replace h := W_xnx h
    refine ⟨_, h, ?_⟩
    refine weak_r ?_; (conv => whnf)
    exact And.intro rfl (And.intro (allL_c wkI (allL_c (WkR.ptr (fun _ => rfl)) (allL_c (WkR.ptr (fun _ => rfl)) (allL_c wkI allL_n)))) (allL_c ⟨some _, rfl, BkR_arr rfl rfl⟩ (allL_c ⟨some _, rfl, BkR_arr rfl rfl⟩ allL_n)))
  refine hK2 ?_; clear hK1 hK2 K1 K2
  refine HT_exit ?_
  refine Then_e ?_
  refine Then_e ?_
  refine InBlock_e ?_
  replace h := W_xbk h
  replace h := W_inl h
  refine Then_n ?_
  refine HT_fr DC_ok rfl fun K hK => ?_; (conv => whnf)
  refine nlA rfl ?_; (conv => whnf)
  refine blkK_of rfl ?_; (conv => whnf)
  refine ld_ar rfl ?_; (conv => whnf)
  refine blkK_of rfl ?_; (conv => whnf)
  refine sw_ar (cA_len _) rfl rfl ?_; (conv => whnf)
  refine hK _ _ _ ?_; clear hK K
  refine HT_ret ?_
  replace h := W_some h
  refine PostP_r DC_ok fun K hK => ?_; (conv => whnf)
  refine nlA rfl ?_; (conv => whnf)
  refine blkK_of rfl ?_; (conv => whnf)
  refine ld_ar rfl ?_; (conv => whnf)
  refine hK _ ?_; clear hK K
  cases h
  exact Wk.refl _
theorem order_closed_call {T : Tbl} (hT : T 79 = pureR order_closed_S) {args : List AV} {hp : Heap} {id : Nat} {k : AV → Prop} {a0 : TOrder} {Φ : (Ar 8) × Bool → Prop} (h : W (order_closed_F a0) Φ) (hw : WkL args [eTOrder a0]) (hk : ∀ y, Φ y → k (.tup [eAr y.1, eB y.2])) : callpK T 79 args hp id k := by
  obtain ⟨y, e, hy⟩ := W_inv h
  exact callpK_pure hT ⟨a0, rfl, W_of e rfl⟩ (by exact loose_tup (loose_cons (loose_arr _) (loose_cons (loose_bool _) loose_nil))) hw (hk y hy)
end Go.Proofs.YtlmboonbfhkfnaaDoor
namespace Go.Proofs.YtlmboonbfhkfnaaDoor
open Go Go.Eng
set_option maxHeartbeats 0
set_option maxRecDepth 100000
def cmp_Compare_int_F (a0 : Int) (a1 : Int) : Option Int := bd (cmp_isNaN_int_F a0) fun y1 => bd (cmp_isNaN_int_F a1) fun y2 =>
    cn y1 (cn y2 (some 0) (some (-1))) (cn y2 (some 1) (cn (decide (a0 < a1)) (some (-1)) (cn (decide (a0 > a1)) (some 1) (some 0))))
def cmp_Compare_int_S : List AV → AV → Prop := fun args r => ∃ a0 a1, args = [eI a0, eI a1] ∧ W (cmp_Compare_int_F a0 a1) fun y => r = (eI y)
theorem cmp_Compare_int_ok {T : Tbl} (hT : TOk Tryd.prog T) (hpf : PfOk T PF) (h83 : T 83 = pureR cmp_isNaN_int_S) : FOk Tryd.prog 63 (pureR cmp_Compare_int_S) := by
  refine FOk_pure hT hpf Tryd.func63 rfl Tryd.ntmps63 Tryd.results63 (by decide) ?_
  rintro args r ⟨a0, a1, rfl, h⟩
  refine ⟨nle rfl, ?_, ?_⟩
  · exact (loose_cons (loose_int _ _) (loose_cons (loose_int _ _) loose_nil))
  rw [cmp_Compare_int_F.eq_1] at h
  refine HT_fr DC_ok rfl fun K hK => ?_; (conv => whnf)
  refine hK _ _ _ ?_; clear hK K
  refine HT_fr DC_ok rfl fun K hK => ?_; (conv => whnf)
  replace h := W_bd h
  refine cmp_isNaN_int_call h83 h (WkL.refl _) (fun _ h => ?_); (conv => whnf)
  refine hK _ _ _ ?_; clear hK K
  refine HT_fr DC_ok rfl fun K hK => ?_; (conv => whnf)
  replace h := W_bd h
  refine cmp_isNaN_int_call h83 h (WkL.refl _) (fun _ h => ?_); (conv => whnf)
  refine hK _ _ _ ?_; clear hK K
  refine HT_seq ?_
  refine HT_fr DC_ok rfl fun K hK => ?_; (conv => whnf)
  refine hK _ _ _ ?_; clear hK K
  refine HT_if fun K1 K2 hK1 hK2 => ?_; (conv => whnf)
  refine cond_lk h (fun _ h => ?_) (fun _ h => ?_)
  · refine hK1 ?_; clear hK1 hK2 K1 K2
    refine HT_seq ?_
    refine HT_fr DC_ok rfl fun K hK => ?_; (conv => whnf)
    refine hK _ _ _ ?_; clear hK K
    refine HT_if fun K1 K2 hK1 hK2 => ?_; (conv => whnf)
    refine cond_lk h (fun _ h => ?_) (fun _ h => ?_)
    · refine hK1 ?_; clear hK1 hK2 K1 K2
      refine HT_fr DC_ok rfl fun K hK => ?_; (conv => whnf)
      refine hK _ _ _ ?_; clear hK K
      refine HT_ret ?_
      refine Then_r ?_
      refine Then_r ?_
      replace h := W_some h
      refine PostP_r DC_ok fun K hK => ?_; (conv => whnf)
      refine hK _ ?_; clear hK K
      cases h
      exact Wk.refl _
    refine hK2 ?_; clear hK1 hK2 K1 K2
    refine HT_skip ?_
    refine Then_n ?_
    refine HT_fr DC_ok rfl fun K hK => ?_; (conv => whnf)
    refine hK _ _ _ ?_; clear hK K
    refine HT_ret ?_
    refine Then_r ?_
    replace h := W_some h
    refine PostP_r DC_ok fun K hK => ?_; (conv => whnf)
    refine hK _ ?_; clear hK K
    cases h
    exact Wk.refl _
  refine hK2 ?_; clear hK1 hK2 K1 K2
  refine HT_skip ?_
  refine Then_n ?_
  refine HT_seq ?_
  refine HT_fr DC_ok rfl fun K hK => ?_; (conv => whnf)
  refine hK _ _ _ ?_; clear hK K
  refine HT_if fun K1 K2 hK1 hK2 => ?_; (conv => whnf)
  refine cond_lk h (fun _ h => ?_) (fun _ h => ?_)
  · refine hK1 ?_; clear hK1 hK2 K1 K2
    refine HT_fr DC_ok rfl fun K hK => ?_; (conv => whnf)
    refine hK _ _ _ ?_; clear hK K
    refine HT_ret ?_
    refine Then_r ?_
    replace h := W_some h
    refine PostP_r DC_ok fun K hK => ?_; (conv => whnf)
    refine hK _ ?_; clear hK K
    cases h
    exact Wk.refl _
  refine hK2 ?_; clear hK1 hK2 K1 K2
  refine HT_skip ?_
  refine Then_n ?_
  refine HT_seq ?_
  refine HT_fr DC_ok rfl fun K hK => ?_; (conv => whnf)
  refine hK _ _ _ ?_; clear hK K
  refine HT_if fun K1 K2 hK1 hK2 => ?_; (conv => whnf)
  refine cond_lk h (fun _ h => ?_) (fun _ h => ?_)
  · refine hK1 ?_; clear hK1 hK2 K1 K2
    refine HT_fr DC_ok rfl fun K hK => ?_; (conv => whnf)
    refine hK _ _ _ ?_; clear hK K
    refine HT_ret ?_
    refine Then_r ?_
    replace h := W_some h
    refine PostP_r DC_ok fun K hK => ?_; (conv => whnf)
    refine hK _ ?_; clear hK K
    cases h
    exact Wk.refl _
  refine hK2 ?_; clear hK1 hK2 K1 K2
  refine HT_skip ?_
  refine Then_n ?_
  refine HT_seq ?_
  refine HT_fr DC_ok rfl fun K hK => ?_; (conv => whnf)
  refine hK _ _ _ ?_; clear hK K
  refine HT_if fun K1 K2 hK1 hK2 => ?_; (conv => whnf)
  refine cond_lk h (fun _ h => ?_) (fun _ h => ?_)
  · refine hK1 ?_; clear hK1 hK2 K1 K2
    refine HT_fr DC_ok rfl fun K hK => ?_; (conv => whnf)
    refine hK _ _ _ ?_; clear hK K
    refine HT_ret ?_
    refine Then_r ?_
    replace h := W_some h
    refine PostP_r DC_ok fun K hK => ?_; (conv => whnf)
    refine hK _ ?_; clear hK K
    cases h
    exact Wk.refl _
  refine hK2 ?_; clear hK1 hK2 K1 K2
  refine HT_skip ?_
  refine Then_n ?_
  refine HT_fr DC_ok rfl fun K hK => ?_; (conv => whnf)
  refine hK _ _ _ ?_; clear hK K
  refine HT_ret ?_
  replace h := W_some h
  refine PostP_r DC_ok fun K hK => ?_; (conv => whnf)
  refine hK _ ?_; clear hK K
  cases h
  exact Wk.refl _
theorem cmp_Compare_int_call {T : Tbl} (hT : T 63 = pureR cmp_Compare_int_S) {args : List AV} {hp : Heap} {id : Nat} {k : AV → Prop} {a0 : Int} {a1 : Int} {Φ : Int → Prop} (h : W (cmp_Compare_int_F a0 a1) Φ) (hw : WkL args [eI a0, eI a1]) (hk : ∀ y, Φ y → k (eI y)) : callpK T 63 args hp id k := by
  obtain ⟨y, e, hy⟩ := W_inv h
  exact callpK_pure hT ⟨a0, a1, rfl, W_of e rfl⟩ (by exact (loose_int _ _)) hw (hk y hy)
def slices_Compare_int_b1 (a0 : List Int) (a1 : List Int) (s1 : Int) : Option (Ct Int Int) := cn (decide (s1 < (a0.length : Int))) (ix a0 default s1 fun e2 =>
    cn (decide (s1 ≥ (a1.length : Int))) (some (.rt 1)) (ix a1 default s1 fun e3 => bd (cmp_Compare_int_F e2 e3) fun y4 => cn (y4 !=
    0) (some (.rt y4)) (some (.nx (wr (s1 + 1)))))) (some (.bk s1))
theorem W_bslices_Compare_int_b1 {a0 : List Int} {a1 : List Int} {s1 : Int} {Φ : Ct Int Int → Prop} (h : W (slices_Compare_int_b1 a0 a1 s1) Φ) : W (cn (decide (s1 < (a0.length : Int))) (ix a0 default s1 fun e2 => cn (decide (s1 ≥ (a1.length : Int))) (some (.rt 1)) (ix a1 default s1 fun e3 =>
    bd (cmp_Compare_int_F e2 e3) fun y4 => cn (y4 != 0) (some (.rt y4)) (some (.nx (wr (s1 + 1)))))) (some (.bk s1))) Φ := h
def slices_Compare_int_F (a0 : List Int) (a1 : List Int) : Option Int := bd (lp (slices_Compare_int_b1 a0 a1) FU 0) fun c5 => smK c5 (fun s6 =>
    cn (decide ((a0.length : Int) < (a1.length : Int))) (some (-1)) (some 0)) (fun r7 => some r7)
def slices_Compare_int_S : List AV → AV → Prop := fun args r => ∃ a0 a1, args = [(eL 1 eI default) a0, (eL 1 eI default) a1] ∧ W (slices_Compare_int_F a0 a1) fun y => r = (eI y)
theorem slices_Compare_int_ok {T : Tbl} (hT : TOk Tryd.prog T) (hpf : PfOk T PF) (h63 : T 63 = pureR cmp_Compare_int_S) : FOk Tryd.prog 64 (pureR slices_Compare_int_S) := by
  refine FOk_pure hT hpf Tryd.func64 rfl Tryd.ntmps64 Tryd.results64 (by decide) ?_
  rintro args r ⟨a0, a1, rfl, h⟩
  refine ⟨nle rfl, ?_, ?_⟩
  · exact (loose_cons (loose_lst fun _ => (loose_int _ _)) (loose_cons (loose_lst fun _ => (loose_int _ _)) loose_nil))
  rw [slices_Compare_int_F.eq_1] at h
  refine HT_fr DC_ok rfl fun K hK => ?_; (conv => whnf)
  refine hK _ _ _ ?_; clear hK K
  refine HT_seq ?_
  refine HT_fr DC_ok rfl fun K hK => ?_; (conv => whnf)
  refine hK _ _ _ ?_; clear hK K
  refine HT_block ?_
  replace h := W_bd h
  refine HT_lpK (body := slices_Compare_int_b1 _ _) rfl h [0, 1, 9, 10] [] [] (fun kl kh ids b s => ⟨ofL ([(11, eI s)] ++ kl), ofH ([] ++ kh), b + 64⟩) ?_; (conv => whnf); refine And.intro ?_ (fun s m h => HT_st ?_)
  · refine weak_k ?_; (conv => whnf)
    exact And.intro rfl (And.intro (allL_c wkI (allL_c (wkr (loose_lst fun _ => (loose_int _ _))) (allL_c (wkr (loose_lst fun _ => (loose_int _ _))) (allL_c (wkr (loose_lst fun _ => (loose_int _ _))) (allL_c wkI allL_n))))) allL_n)
  replace h := W_bslices_Compare_int_b1 (W_bd h)
  refine HT_fr DC_ok rfl fun K hK => ?_; (conv => whnf)
  refine hK _ _ _ ?_; clear hK K
  refine HT_seq ?_
  refine HT_if fun K1 K2 hK1 hK2 => ?_; (conv => whnf)
  refine cond_lk h (fun _ h => ?_) (fun _ h => ?_)
  · refine hK1 ?_; clear hK1 hK2 K1 K2
    refine HT_skip ?_
    refine Then_n ?_
    refine HT_seq ?_
    refine HT_block ?_
    refine HT_fr DC_ok rfl fun K hK => ?_; (conv => whnf)
    refine ix_lk h fun _ h => ?_; (conv => whnf)
    refine getK_of rfl ?_; (conv => whnf)
    refine hK _ _ _ ?_; clear hK K
    refine HT_seq ?_
    refine HT_fr DC_ok rfl fun K hK => ?_; (conv => whnf)
    refine hK _ _ _ ?_; clear hK K
    refine HT_if fun K1 K2 hK1 hK2 => ?_; (conv => whnf)
    refine cond_lk h (fun _ h => ?_) (fun _ h => ?_)
    · refine hK1 ?_; clear hK1 hK2 K1 K2
      refine HT_fr DC_ok rfl fun K hK => ?_; (conv => whnf)
      refine hK _ _ _ ?_; clear hK K
      refine HT_ret ?_
      refine Then_r ?_
      refine InBlock_r ?_
      refine Then_r ?_
      refine Then_r ?_
      refine InBlock_r ?_
      refine Then_r ?_
      replace h := W_xrt h
      replace h := W_inr h
      replace h := W_some h
      refine PostP_r DC_ok fun K hK => ?_; (conv => whnf)
      refine hK _ ?_; clear hK K
      cases h
      exact Wk.refl _
    refine hK2 ?_; clear hK1 hK2 K1 K2
    refine HT_skip ?_
    refine Then_n ?_
    refine HT_fr DC_ok rfl fun K hK => ?_; (conv => whnf)
    refine ix_lk h fun _ h => ?_; (conv => whnf)
    refine getK_of rfl ?_; (conv => whnf)
    refine hK _ _ _ ?_; clear hK K
    refine HT_fr DC_ok rfl fun K hK => ?_; (conv => whnf)
    replace h := W_bd h
    refine cmp_Compare_int_call h63 h (WkL.refl _) (fun _ h => ?_); (conv => whnf)
    refine hK _ _ _ ?_; clear hK K
    refine HT_fr DC_ok rfl fun K hK => ?_; (conv => whnf)
    refine hK _ _ _ ?_; clear hK K
    refine HT_if fun K1 K2 hK1 hK2 => ?_; (conv => whnf)
    refine cond_lk h (fun _ h => ?_) (fun _ h => ?_)
    · refine hK1 ?_; clear hK1 hK2 K1 K2
      refine HT_fr DC_ok rfl fun K hK => ?_; (conv => whnf)
      refine hK _ _ _ ?_; clear hK K
      refine HT_ret ?_
      refine InBlock_r ?_
      refine Then_r ?_
      refine Then_r ?_
      refine InBlock_r ?_
      refine Then_r ?_
      replace h := W_xrt h
      replace h := W_inr h
      replace h := W_some h
      refine PostP_r DC_ok fun K hK => ?_; (conv => whnf)
      refine hK _ ?_; clear hK K
      cases h
      exact Wk.refl _
    refine hK2 ?_; clear hK1 hK2 K1 K2
    refine HT_skip ?_
    refine InBlock_n ?_
    refine Then_n ?_
    refine HT_f DC_ok rfl fun K hK => ?_; (conv => whnf)
    refine hK _ _ _ ?_; clear hK K
    refine Then_n ?_
    replace h := W_xnx h
    refine ⟨_, h, ?_⟩
    refine weak_k ?_; (conv => whnf)
    exact And.intro rfl (And.intro (allL_c wkI (allL_c (wkr (loose_lst fun _ => (loose_int _ _))) (allL_c (wkr (loose_lst fun _ => (loose_int _ _))) (allL_c (wkr (loose_lst fun _ => (loose_int _ _))) (allL_c wkI allL_n))))) allL_n)
  refine hK2 ?_; clear hK1 hK2 K1 K2
  refine HT_exit ?_
  refine Then_e ?_
  refine Then_e ?_
  refine InBlock_e ?_
  replace h := W_xbk h
  replace h := W_inl h
  refine Then_n ?_
  refine HT_seq ?_
  refine HT_fr DC_ok rfl fun K hK => ?_; (conv => whnf)
  refine hK _ _ _ ?_; clear hK K
  refine HT_if fun K1 K2 hK1 hK2 => ?_; (conv => whnf)
  refine cond_lk h (fun _ h => ?_) (fun _ h => ?_)
  · refine hK1 ?_; clear hK1 hK2 K1 K2
    refine HT_fr DC_ok rfl fun K hK => ?_; (conv => whnf)
    refine hK _ _ _ ?_; clear hK K
    refine HT_ret ?_
    refine Then_r ?_
    replace h := W_some h
    refine PostP_r DC_ok fun K hK => ?_; (conv => whnf)
    refine hK _ ?_; clear hK K
    cases h
    exact Wk.refl _
  refine hK2 ?_; clear hK1 hK2 K1 K2
  refine HT_skip ?_
  refine Then_n ?_
  refine HT_fr DC_ok rfl fun K hK => ?_; (conv => whnf)
  refine hK _ _ _ ?_; clear hK K
  refine HT_ret ?_
  replace h := W_some h
  refine PostP_r DC_ok fun K hK => ?_; (conv => whnf)
  refine hK _ ?_; clear hK K
  cases h
  exact Wk.refl _
theorem slices_Compare_int_call {T : Tbl} (hT : T 64 = pureR slices_Compare_int_S) {args : List AV} {hp : Heap} {id : Nat} {k : AV → Prop} {a0 : List Int} {a1 : List Int} {Φ : Int → Prop} (h : W (slices_Compare_int_F a0 a1) Φ) (hw : WkL args [(eL 1 eI default) a0, (eL 1 eI default) a1]) (hk : ∀ y, Φ y → k (eI y)) : callpK T 64 args hp id k := by
  obtain ⟨y, e, hy⟩ := W_inv h
  exact callpK_pure hT ⟨a0, a1, rfl, W_of e rfl⟩ (by exact (loose_int _ _)) hw (hk y hy)
def slices_IndexFunc_2int_69_b1 (a0 : List (Int × Int)) (c910 : TOrder) (s1 : Int) : Option (Ct Int Int) := cn (decide (s1 < (a0.length : Int))) (ix a0 default s1 fun e2 =>
    bd (order_Formed_1_F e2 c910) fun y3 => cn y3 (some (.rt s1)) (some (.nx (wr (s1 + 1))))) (some (.bk s1))
theorem W_bslices_IndexFunc_2int_69_b1 {a0 : List (Int × Int)} {c910 : TOrder} {s1 : Int} {Φ : Ct Int Int → Prop} (h : W (slices_IndexFunc_2int_69_b1 a0 c910 s1) Φ) : W (cn (decide (s1 < (a0.length : Int))) (ix a0 default s1 fun e2 => bd (order_Formed_1_F e2 c910) fun y3 => cn y3 (some (.rt s1)) (some (.nx (wr (s1 + 1))))) (some (.bk s1))) Φ := h
def slices_IndexFunc_2int_69_F (a0 : List (Int × Int)) (c910 : TOrder) : Option Int := bd (lp (slices_IndexFunc_2int_69_b1 a0 c910) FU 0) fun c4 => smK c4 (fun s5 =>
    some (-1)) (fun r6 => some r6)
def slices_IndexFunc_2int_69_S : List AV → AV → Prop := fun args r => ∃ a0 c910, args = [(eL 2 eA46 default) a0, .fn 69 [] [.ep [eI c910.N, (eL 2 eA46 default) c910.Pairs] 0]] ∧ W (slices_IndexFunc_2int_69_F a0 c910) fun y => r = (eI y)
theorem slices_IndexFunc_2int_69_ok {T : Tbl} (hT : TOk Tryd.prog T) (hpf : PfOk T PF) (h69 : T 69 = pureR order_Formed_1_S) : FOk Tryd.prog 85 (pureR slices_IndexFunc_2int_69_S) := by
  refine FOk_pure hT hpf Tryd.func85 rfl Tryd.ntmps85 Tryd.results85 (by decide) ?_
  rintro args r ⟨a0, c910, rfl, h⟩
  refine ⟨nle rfl, ?_, ?_⟩
  · exact (loose_cons (loose_lst fun _ => (lo_A46 _)) (loose_cons (loose_fn loose_nil (loose_cons (loose_ep (loose_cons (loose_int _ _) (loose_cons (loose_lst fun _ => (lo_A46 _)) loose_nil))) loose_nil)) loose_nil))
  rw [slices_IndexFunc_2int_69_F.eq_1] at h
  refine HT_fr DC_ok rfl fun K hK => ?_; (conv => whnf)
  refine hK _ _ _ ?_; clear hK K
  refine HT_seq ?_
  refine HT_fr DC_ok rfl fun K hK => ?_; (conv => whnf)
  refine hK _ _ _ ?_; clear hK K
  refine HT_block ?_
  replace h := W_bd h
  refine HT_lpK (body := slices_IndexFunc_2int_69_b1 _ _) rfl h [0, 1, 7] [] [] (fun kl kh ids b s => ⟨ofL ([(8, eI s)] ++ kl), ofH ([] ++ kh), b + 64⟩) ?_; (conv => whnf); refine And.intro ?_ (fun s m h => HT_st ?_)
  · refine weak_k ?_; (conv => whnf)
    exact And.intro rfl (And.intro (allL_c wkI (allL_c (wkr (loose_lst fun _ => (lo_A46 _))) (allL_c (WkR_fn VsR_nil (VsR_cons (wkr (loose_ep (loose_cons (loose_int _ _) (loose_cons (loose_lst fun _ => (lo_A46 _)) loose_nil)))) VsR_nil)) (allL_c wkI allL_n)))) allL_n)
  replace h := W_bslices_IndexFunc_2int_69_b1 (W_bd h)
  refine HT_fr DC_ok rfl fun K hK => ?_; (conv => whnf)
  refine hK _ _ _ ?_; clear hK K
  refine HT_seq ?_
  refine HT_if fun K1 K2 hK1 hK2 => ?_; (conv => whnf)
  refine cond_lk h (fun _ h => ?_) (fun _ h => ?_)
  · refine hK1 ?_; clear hK1 hK2 K1 K2
    refine HT_skip ?_
    refine Then_n ?_
    refine HT_seq ?_
    refine HT_block ?_
    refine HT_fr DC_ok rfl fun K hK => ?_; (conv => whnf)
    refine hK _ _ _ ?_; clear hK K
    refine HT_fr DC_ok rfl fun K hK => ?_; (conv => whnf)
    refine ix_lk h fun _ h => ?_; (conv => whnf)
    refine nlA rfl ?_; (conv => whnf)
    replace h := W_bd h
    refine order_Formed_1_calls h69 h (WkL.refl _) (fun _ h => ?_); (conv => whnf)
    refine hK _ _ _ ?_; clear hK K
    refine HT_if fun K1 K2 hK1 hK2 => ?_; (conv => whnf)
    refine cond_lk h (fun _ h => ?_) (fun _ h => ?_)
    · refine hK1 ?_; clear hK1 hK2 K1 K2
      refine HT_fr DC_ok rfl fun K hK => ?_; (conv => whnf)
      refine hK _ _ _ ?_; clear hK K
      refine HT_ret ?_
      refine InBlock_r ?_
      refine Then_r ?_
      refine Then_r ?_
      refine InBlock_r ?_
      refine Then_r ?_
      replace h := W_xrt h
      replace h := W_inr h
      replace h := W_some h
      refine PostP_r DC_ok fun K hK => ?_; (conv => whnf)
      refine hK _ ?_; clear hK K
      cases h
      exact Wk.refl _
    refine hK2 ?_; clear hK1 hK2 K1 K2
    refine HT_skip ?_
    refine InBlock_n ?_
    refine Then_n ?_
    refine HT_f DC_ok rfl fun K hK => ?_; (conv => whnf)
    refine hK _ _ _ ?_; clear hK K
    refine Then_n ?_
    replace h := W_xnx h
    refine ⟨_, h, ?_⟩
    refine weak_k ?_; (conv => whnf)
    exact And.intro rfl (And.intro (allL_c wkI (allL_c (wkr (loose_lst fun _ => (lo_A46 _))) (allL_c (WkR_fn VsR_nil (VsR_cons (wkr (loose_ep (loose_cons (loose_int _ _) (loose_cons (loose_lst fun _ => (lo_A46 _)) loose_nil)))) VsR_nil)) (allL_c wkI allL_n)))) allL_n)
  refine hK2 ?_; clear hK1 hK2 K1 K2
  refine HT_exit ?_
  refine Then_e ?_
  refine Then_e ?_
  refine InBlock_e ?_
  replace h := W_xbk h
  replace h := W_inl h
  refine Then_n ?_
  refine HT_fr DC_ok rfl fun K hK => ?_; (conv => whnf)
  refine hK _ _ _ ?_; clear hK K
  refine HT_ret ?_
  replace h := W_some h
  refine PostP_r DC_ok fun K hK => ?_; (conv => whnf)
  refine hK _ ?_; clear hK K
  cases h
  exact Wk.refl _
def slices_IndexFunc_2int_S : List AV → AV → Prop := fun args r => slices_IndexFunc_2int_69_S args r
theorem slices_IndexFunc_2int_69_call {T : Tbl} (hT : T 85 = pureR slices_IndexFunc_2int_S) {args : List AV} {hp : Heap} {id : Nat} {k : AV → Prop} {a0 : List (Int × Int)} {c910 : TOrder} {Φ : Int → Prop} (h : W (slices_IndexFunc_2int_69_F a0 c910) Φ) (hw : WkL args [(eL 2 eA46 default) a0, .fn 69 [] [.ep [eI c910.N, (eL 2 eA46 default) c910.Pairs] 0]]) (hk : ∀ y, Φ y → k (eI y)) : callpK T 85 args hp id k := by
  obtain ⟨y, e, hy⟩ := W_inv h
  exact callpK_pure hT ⟨a0, c910, rfl, W_of e rfl⟩ (by exact (loose_int _ _)) hw (hk y hy)
theorem slices_IndexFunc_2int_ok {T : Tbl} (hT : TOk Tryd.prog T) (hpf : PfOk T PF) (h69 : T 69 = pureR order_Formed_1_S) : FOk Tryd.prog 85 (pureR slices_IndexFunc_2int_S) := (slices_IndexFunc_2int_69_ok hT hpf h69)
def slices_ContainsFunc_2int_69_F (a0 : List (Int × Int)) (c910 : TOrder) : Option Bool := bd (slices_IndexFunc_2int_69_F a0 c910) fun y1 => some (decide (y1 ≥ 0))
def slices_ContainsFunc_2int_69_S : List AV → AV → Prop := fun args r => ∃ a0 c910, args = [(eL 2 eA46 default) a0, .fn 69 [] [.ep [eI c910.N, (eL 2 eA46 default) c910.Pairs] 0]] ∧ W (slices_ContainsFunc_2int_69_F a0 c910) fun y => r = (eB y)
theorem slices_ContainsFunc_2int_69_ok {T : Tbl} (hT : TOk Tryd.prog T) (hpf : PfOk T PF) (h85 : T 85 = pureR slices_IndexFunc_2int_S) : FOk Tryd.prog 68 (pureR slices_ContainsFunc_2int_69_S) := by
  refine FOk_pure hT hpf Tryd.func68 rfl Tryd.ntmps68 Tryd.results68 (by decide) ?_
  rintro args r ⟨a0, c910, rfl, h⟩
  refine ⟨nle rfl, ?_, ?_⟩
  · exact (loose_cons (loose_lst fun _ => (lo_A46 _)) (loose_cons (loose_fn loose_nil (loose_cons (loose_ep (loose_cons (loose_int _ _) (loose_cons (loose_lst fun _ => (lo_A46 _)) loose_nil))) loose_nil)) loose_nil))
  rw [slices_ContainsFunc_2int_69_F.eq_1] at h
  refine HT_fr DC_ok rfl fun K hK => ?_; (conv => whnf)
  refine hK _ _ _ ?_; clear hK K
  refine HT_fr DC_ok rfl fun K hK => ?_; (conv => whnf)
  replace h := W_bd h
  refine slices_IndexFunc_2int_69_call h85 h (WkL.refl _) (fun _ h => ?_); (conv => whnf)
  refine hK _ _ _ ?_; clear hK K
  refine HT_ret ?_
  replace h := W_some h
  refine PostP_r DC_ok fun K hK => ?_; (conv => whnf)
  refine hK _ ?_; clear hK K
  cases h
  exact Wk.refl _
def slices_ContainsFunc_2int_S : List AV → AV → Prop := fun args r => slices_ContainsFunc_2int_69_S args r
theorem slices_ContainsFunc_2int_69_call {T : Tbl} (hT : T 68 = pureR slices_ContainsFunc_2int_S) {args : List AV} {hp : Heap} {id : Nat} {k : AV → Prop} {a0 : List (Int × Int)} {c910 : TOrder} {Φ : Bool → Prop} (h : W (slices_ContainsFunc_2int_69_F a0 c910) Φ) (hw : WkL args [(eL 2 eA46 default) a0, .fn 69 [] [.ep [eI c910.N, (eL 2 eA46 default) c910.Pairs] 0]]) (hk : ∀ y, Φ y → k (eB y)) : callpK T 68 args hp id k := by
  obtain ⟨y, e, hy⟩ := W_inv h
  exact callpK_pure hT ⟨a0, c910, rfl, W_of e rfl⟩ (by exact (loose_bool _)) hw (hk y hy)
theorem slices_ContainsFunc_2int_ok {T : Tbl} (hT : TOk Tryd.prog T) (hpf : PfOk T PF) (h85 : T 85 = pureR slices_IndexFunc_2int_S) : FOk Tryd.prog 68 (pureR slices_ContainsFunc_2int_S) := (slices_ContainsFunc_2int_69_ok hT hpf h85)
def law07_round_b1 (a0 : TOrder) (a1 : List Int) (s1 : Int) : Option (Ct Int Bool) := cn (decide (s1 < (a1.length : Int))) (ix a1 default s1 fun e2 =>
    gd ((a1.length : Int) ≠ 0) (ix a1 default (Int.tmod (wr (s1 + 1)) (a1.length : Int)) fun e3 => bd (law07_paired_F a0 e2 e3) fun y4 =>
    cn (!y4) (some (.rt false)) (some (.nx (wr (s1 + 1)))))) (some (.bk s1))
theorem W_blaw07_round_b1 {a0 : TOrder} {a1 : List Int} {s1 : Int} {Φ : Ct Int Bool → Prop} (h : W (law07_round_b1 a0 a1 s1) Φ) : W (cn (decide (s1 < (a1.length : Int))) (ix a1 default s1 fun e2 => gd ((a1.length : Int) ≠ 0) (ix a1 default (Int.tmod (wr (s1 + 1)) (a1.length : Int)) fun e3 =>
    bd (law07_paired_F a0 e2 e3) fun y4 => cn (!y4) (some (.rt false)) (some (.nx (wr (s1 + 1)))))) (some (.bk s1))) Φ := h
def law07_round_F (a0 : TOrder) (a1 : List Int) : Option Bool := bd (lp (law07_round_b1 a0 a1) FU 0) fun c5 => smK c5 (fun s6 => let v8 := (decide ((a1.length : Int) ≥ 2));
    some v8) (fun r7 => some r7)
def law07_round_S : List AV → AV → Prop := fun args r => ∃ a0 a1, args = [eTOrder a0, (eL 1 eI default) a1] ∧ W (law07_round_F a0 a1) fun y => r = (eB y)
theorem law07_round_ok {T : Tbl} (hT : TOk Tryd.prog T) (hpf : PfOk T PF) (h70 : T 70 = pureR law07_paired_S) : FOk Tryd.prog 35 (pureR law07_round_S) := by
  refine FOk_pure hT hpf Tryd.func35 rfl Tryd.ntmps35 Tryd.results35 (by decide) ?_
  rintro args r ⟨a0, a1, rfl, h⟩
  refine ⟨nle rfl, ?_, ?_⟩
  · exact (loose_cons (lo_TOrder _) (loose_cons (loose_lst fun _ => (loose_int _ _)) loose_nil))
  rw [law07_round_F.eq_1] at h
  refine HT_fr DC_ok rfl fun K hK => ?_; (conv => whnf)
  refine hK _ _ _ ?_; clear hK K
  refine HT_seq ?_
  refine HT_fr DC_ok rfl fun K hK => ?_; (conv => whnf)
  refine hK _ _ _ ?_; clear hK K
  refine HT_block ?_
  replace h := W_bd h
  refine HT_lpK (body := law07_round_b1 _ _) rfl h [1, 2] [2] [] (fun kl kh ids b s => ⟨ofL ([(5, eI s)] ++ kl), ofH ([] ++ kh), b + 64⟩) ?_; (conv => whnf); refine And.intro ?_ (fun s m h => HT_st ?_)
  · refine weak_k ?_; (conv => whnf)
    exact And.intro rfl (And.intro (allL_c wkI (allL_c (wkr (loose_lst fun _ => (loose_int _ _))) (allL_c (WkR.ptr (fun _ => rfl)) allL_n))) (allL_c ⟨some _, rfl, BkR_c rfl (CkR_cons wkI (CkR_cons (wkr (loose_lst fun _ => (lo_A46 _))) CkR_nil))⟩ allL_n))
  replace h := W_blaw07_round_b1 (W_bd h)
  refine HT_seq ?_
  refine HT_fr DC_ok rfl fun K hK => ?_; (conv => whnf)
  refine hK _ _ _ ?_; clear hK K
  refine HT_if fun K1 K2 hK1 hK2 => ?_; (conv => whnf)
  refine cond_lk h (fun _ h => ?_) (fun _ h => ?_)
  · refine hK1 ?_; clear hK1 hK2 K1 K2
    refine HT_skip ?_
    refine Then_n ?_
    refine HT_seq ?_
    refine HT_block ?_
    refine HT_fd DC_ok mix_ok rfl (by kernel_rfl) fun K hK => ?_; (conv => whnf)
    refine nlA rfl ?_; (conv => whnf)
    refine blkK_of rfl ?_; (conv => whnf)
    refine nlA rfl ?_; (conv => whnf)
    refine ix_lk h fun _ h => ?_; (conv => whnf)
    refine getK_of rfl ?_; (conv => whnf)
    refine gd_lk h fun _ h => ?_; (conv => whnf)
    refine ix_lk h fun _ h => ?_; (conv => whnf)
    refine getK_of rfl ?_; (conv => whnf)
    replace h := W_bd h
    refine law07_paired_call h70 h (WkL.refl _) (fun _ h => ?_); (conv => whnf)
    refine hK _ _ _ ?_; clear hK K
    refine HT_if fun K1 K2 hK1 hK2 => ?_; (conv => whnf)
    refine cond_lk h (fun _ h => ?_) (fun _ h => ?_)
    · refine hK1 ?_; clear hK1 hK2 K1 K2
      refine HT_fr DC_ok rfl fun K hK => ?_; (conv => whnf)
      refine hK _ _ _ ?_; clear hK K
      refine HT_ret ?_
      refine InBlock_r ?_
      refine Then_r ?_
      refine Then_r ?_
      refine InBlock_r ?_
      refine Then_r ?_
      replace h := W_xrt h
      replace h := W_inr h
      replace h := W_some h
      refine PostP_r DC_ok fun K hK => ?_; (conv => whnf)
      refine hK _ ?_; clear hK K
      cases h
      exact Wk.refl _
    refine hK2 ?_; clear hK1 hK2 K1 K2
    refine HT_skip ?_
    refine InBlock_n ?_
    refine Then_n ?_
    refine HT_f DC_ok rfl fun K hK => ?_; (conv => whnf)
    refine hK _ _ _ ?_; clear hK K
    refine Then_n ?_
    replace h := W_xnx h
    refine ⟨_, h, ?_⟩
    refine weak_k ?_; (conv => whnf)
    exact And.intro rfl (And.intro (allL_c wkI (allL_c (wkr (loose_lst fun _ => (loose_int _ _))) (allL_c (WkR.ptr (fun _ => rfl)) allL_n))) (allL_c ⟨some _, rfl, BkR_c rfl (CkR_cons wkI (CkR_cons (wkr (loose_lst fun _ => (lo_A46 _))) CkR_nil))⟩ allL_n))
  refine hK2 ?_; clear hK1 hK2 K1 K2
  refine HT_exit ?_
  refine Then_e ?_
  refine Then_e ?_
  refine InBlock_e ?_
  replace h := W_xbk h
  replace h := W_inl h
  refine Then_n ?_
  refine HT_fr DC_ok rfl fun K hK => ?_; (conv => whnf)
  refine hK _ _ _ ?_; clear hK K
  refine HT_ret ?_
  replace h := W_some h
  refine PostP_r DC_ok fun K hK => ?_; (conv => whnf)
  refine hK _ ?_; clear hK K
  cases h
  exact Wk.refl _
    def order_listed_b2 (a0 : Int) (a1 : Ar 8) (s1 : Int × TOrder) (s2 : Int × TOrder) : Option (Ct (Int × TOrder) TOrder) := cn (decide (s2.1 < a0)) (gd (0 ≤ s2.1 ∧ s2.1 < (8 : Int)) (gd (0 ≤ s1.1) (jn (fun p3 : TOrder =>
    some (.nx ((wr (s2.1 + 1)), p3))) fun k4 => cn ((band .i64 (bshr .i64 (a1.at1 s2.1) s1.1) 1) == 1) (lt ([(s1.1, s2.1)] : List (Int × Int)) fun l5 => ap s2.2.Pairs l5 fun l6 =>
    k4 (⟨s2.2.N, l6⟩ : TOrder)) (k4 s2.2)))) (some (.bk (s2.1, s2.2)))
theorem W_border_listed_b2 {a0 : Int} {a1 : Ar 8} {s1 : Int × TOrder} {s2 : Int × TOrder} {Φ : Ct (Int × TOrder) TOrder → Prop} (h : W (order_listed_b2 a0 a1 s1 s2) Φ) : W (cn (decide (s2.1 < a0)) (gd (0 ≤ s2.1 ∧ s2.1 < (8 : Int)) (gd (0 ≤ s1.1) (jn (fun p3 : TOrder => some (.nx ((wr (s2.1 + 1)), p3))) fun k4 =>
    cn ((band .i64 (bshr .i64 (a1.at1 s2.1) s1.1) 1) == 1) (lt ([(s1.1, s2.1)] : List (Int × Int)) fun l5 => ap s2.2.Pairs l5 fun l6 =>
    k4 (⟨s2.2.N, l6⟩ : TOrder)) (k4 s2.2)))) (some (.bk (s2.1, s2.2)))) Φ := h

    def order_listed_b1 (a0 : Int) (a1 : Ar 8) (s1 : Int × TOrder) : Option (Ct (Int × TOrder) TOrder) := cn (decide (s1.1 < a0)) (bd (lp (order_listed_b2 a0 a1 s1) FU (0, s1.2)) fun c7 =>
    smK c7 (fun s8 => some (.nx ((wr (s1.1 + 1)), s8.2))) (fun r9 => some (.rt r9))) (some (.bk (s1.1, s1.2)))
theorem W_border_listed_b1 {a0 : Int} {a1 : Ar 8} {s1 : Int × TOrder} {Φ : Ct (Int × TOrder) TOrder → Prop} (h : W (order_listed_b1 a0 a1 s1) Φ) : W (cn (decide (s1.1 < a0)) (bd (lp (order_listed_b2 a0 a1 s1) FU (0, s1.2)) fun c7 => smK c7 (fun s8 => some (.nx ((wr (s1.1 + 1)), s8.2))) (fun r9 =>
    some (.rt r9))) (some (.bk (s1.1, s1.2)))) Φ := h
def order_listed_F (a0 : Int) (a1 : Ar 8) : Option TOrder := bd (lp (order_listed_b1 a0 a1) FU (0, (⟨a0, []⟩ : TOrder))) fun c10 => smK c10 (fun s11 => some s11.2) (fun r12 =>
    some r12)
def order_listed_S : List AV → AV → Prop := fun args r => ∃ a0 a1, args = [eI a0, eAr a1] ∧ W (order_listed_F a0 a1) fun y => r = (eTOrder y)
theorem order_listed_ok {T : Tbl} (hT : TOk Tryd.prog T) (hpf : PfOk T PF) : FOk Tryd.prog 58 (pureR order_listed_S) := by
  refine FOk_pure hT hpf Tryd.func58 rfl Tryd.ntmps58 Tryd.results58 (by decide) ?_
  rintro args r ⟨a0, a1, rfl, h⟩
  refine ⟨nle rfl, ?_, ?_⟩
  · exact (loose_cons (loose_int _ _) (loose_cons (loose_arr _) loose_nil))
  rw [order_listed_F.eq_1] at h
  refine HT_fr DC_ok rfl fun K hK => ?_; (conv => whnf)
  refine forceL_skip ?_; (conv => whnf)
  refine hK _ _ _ ?_; clear hK K
  refine HT_fr DC_ok rfl fun K hK => ?_; (conv => whnf)
  refine blkK_of rfl ?_; (conv => whnf)
  refine And.intro rfl (And.intro (nle rfl) (And.intro rfl ?_)); (conv => whnf)
  refine hK _ _ _ ?_; clear hK K
  refine HT_seq ?_
  refine HT_fr DC_ok rfl fun K hK => ?_; (conv => whnf)
  refine hK _ _ _ ?_; clear hK K
  refine HT_block ?_
  replace h := W_bd h
  refine HT_lpR (body := order_listed_b1 _ _) rfl h [0, 3, 4, 5, 10] [4] [3] [5] (fun kl kh kr ids b s => ⟨ofL ([(11, eI s.1)] ++ kl), ofH (([(nthN ids 0, .cells [eI s.2.N, .lst (.tok (b + 0)) 2 s.2.Pairs.length (fun j => eA46 (s.2.Pairs.getD j default))]), (b + 0, .cells [])] ++ kh) ++ ([] ++ kr)), b + 128⟩) ?_; (conv => whnf); refine And.intro ?_ (fun s m h => HT_st ?_)
  · refine weak_r ?_; (conv => whnf)
    exact And.intro rfl (And.intro (allL_c wkI (allL_c wkI (allL_c (WkR.ptr (fun _ => rfl)) (allL_c (WkR.ptr (fun _ => rfl)) (allL_c (WkR.ptr (fun _ => rfl)) (allL_c wkI allL_n)))))) (allL_c ⟨some _, rfl, BkR_c rfl (CkR_cons wkI (CkR_cons (WkR.nil (fun _ => rfl)) CkR_nil))⟩ (allL_c ⟨none, rfl, BkR_n⟩ (allL_c ⟨some _, rfl, BkR_c rfl (CkR_cons wkI (CkR_cons (wkr loose_nils) CkR_nil))⟩ (allL_c ⟨some _, rfl, BkR_arr rfl rfl⟩ allL_n)))))
  replace h := W_border_listed_b1 (W_bd h)
  refine HT_fr DC_ok rfl fun K hK => ?_; (conv => whnf)
  refine hK _ _ _ ?_; clear hK K
  refine HT_seq ?_
  refine HT_if fun K1 K2 hK1 hK2 => ?_; (conv => whnf)
  refine cond_lk h (fun _ h => ?_) (fun _ h => ?_)
  · refine hK1 ?_; clear hK1 hK2 K1 K2
    refine HT_skip ?_
    refine Then_n ?_
    refine HT_seq ?_
    refine HT_block ?_
    refine HT_fr DC_ok rfl fun K hK => ?_; (conv => whnf)
    refine hK _ _ _ ?_; clear hK K
    refine HT_fr DC_ok rfl fun K hK => ?_; (conv => whnf)
    refine hK _ _ _ ?_; clear hK K
    refine HT_block ?_
    replace h := W_bd h
    refine HT_lpR (body := order_listed_b2 _ _ _) rfl h [0, 3, 4, 5, 6, 10, 11, 14] [4] [3] [5] (fun kl kh kr ids b s => ⟨ofL ([(15, eI s.1)] ++ kl), ofH (([(nthN ids 0, .cells [eI s.2.N, .lst (.tok (b + 0)) 2 s.2.Pairs.length (fun j => eA46 (s.2.Pairs.getD j default))]), (b + 0, .cells [])] ++ kh) ++ ([] ++ kr)), b + 128⟩) ?_; (conv => whnf); refine And.intro ?_ (fun s m h => HT_st ?_)
    · refine weak_r ?_; (conv => whnf)
      exact And.intro rfl (And.intro (allL_c wkI (allL_c wkI (allL_c (WkR.ptr (fun _ => rfl)) (allL_c (WkR.ptr (fun _ => rfl)) (allL_c (WkR.ptr (fun _ => rfl)) (allL_c wkI (allL_c wkI (allL_c wkI (allL_c wkI allL_n))))))))) (allL_c ⟨some _, rfl, BkR_c rfl (CkR_cons wkI (CkR_cons (WkR.tok (fun _ => rfl) rfl (fun _ _ => Wk.refl _) (fun _ => (lo_A46 _))) CkR_nil))⟩ (allL_c ⟨some _, rfl, BkR_c rfl CkR_nil⟩ (allL_c ⟨some _, rfl, BkR_c rfl (CkR_cons wkI (CkR_cons (wkr loose_nils) CkR_nil))⟩ (allL_c ⟨some _, rfl, BkR_arr rfl rfl⟩ allL_n)))))
    replace h := W_border_listed_b2 (W_bd h)
    refine HT_fr DC_ok rfl fun K hK => ?_; (conv => whnf)
    refine hK _ _ _ ?_; clear hK K
    refine HT_seq ?_
    refine HT_if fun K1 K2 hK1 hK2 => ?_; (conv => whnf)
    refine cond_lk h (fun _ h => ?_) (fun _ h => ?_)
    · refine hK1 ?_; clear hK1 hK2 K1 K2
      refine HT_skip ?_
      refine Then_n ?_
      refine HT_seq ?_
      refine HT_block ?_
      refine HT_fr DC_ok rfl fun K hK => ?_; (conv => whnf)
      refine hK _ _ _ ?_; clear hK K
      refine HT_fr DC_ok rfl fun K hK => ?_; (conv => whnf)
      refine gd_lk h fun hx195 h => ?_; (conv => whnf)
      refine nlA rfl ?_; (conv => whnf)
      refine blkK_of rfl ?_; (conv => whnf)
      refine get_ar1 rfl hx195 ?_; (conv => whnf)
      refine gd_lk h fun _ h => ?_; (conv => whnf)
      refine hK _ _ _ ?_; clear hK K
      replace h := W_jn h
      refine HT_if fun K1 K2 hK1 hK2 => ?_; (conv => whnf)
      refine cond_lk h (fun _ h => ?_) (fun _ h => ?_)
      · refine hK1 ?_; clear hK1 hK2 K1 K2
        refine HT_f DC_ok rfl fun K hK => ?_; (conv => whnf)
        refine nlA rfl ?_; (conv => whnf)
        refine blkK_of rfl ?_; (conv => whnf)
        refine getK_of rfl ?_; (conv => whnf)
        refine lt_lk (enc := eA46) (d := default) DC_ok h rfl rfl rfl ⟨nle rfl, nle rfl, rfl⟩ rfl ⟨⟨rfl, nle rfl⟩, trivial⟩ (fun h => ?_); (conv => whnf)
        refine ap_lk (enc := eA46) (d := default) DC_ok h (.inl rfl) rfl rfl rfl ⟨rfl, nle rfl, nle rfl, nle rfl, rfl⟩ (fun _ => rfl) (.inr (.inr ⟨_, _, rfl, rfl, rfl⟩)) (fun h => ?_); (conv => whnf)
        refine blkK_of rfl ?_; (conv => whnf)
        refine And.intro rfl (And.intro (nle rfl) (And.intro rfl ?_)); (conv => whnf)
        refine hK _ _ _ ?_; clear hK K
        refine InBlock_n ?_
        refine Then_n ?_
        refine HT_f DC_ok rfl fun K hK => ?_; (conv => whnf)
        refine hK _ _ _ ?_; clear hK K
        refine Then_n ?_
        replace h := W_xnx h
        refine ⟨_, h, ?_⟩
        refine weak_r ?_; (conv => whnf)
        exact And.intro rfl (And.intro (allL_c wkI (allL_c wkI (allL_c (WkR.ptr (fun _ => rfl)) (allL_c (WkR.ptr (fun _ => rfl)) (allL_c (WkR.ptr (fun _ => rfl)) (allL_c wkI (allL_c wkI (allL_c wkI (allL_c wkI allL_n))))))))) (allL_c ⟨some _, rfl, BkR_c rfl (CkR_cons wkI (CkR_cons (WkR.tok (fun _ => rfl) rfl (fun _ _ => Wk.refl _) (fun _ => (lo_A46 _))) CkR_nil))⟩ (allL_c ⟨some _, rfl, BkR_c rfl CkR_nil⟩ (allL_c ⟨some _, rfl, BkR_c rfl (CkR_cons wkI (CkR_cons (wkr loose_nils) CkR_nil))⟩ (allL_c ⟨some _, rfl, BkR_arr rfl rfl⟩ allL_n)))))
      refine hK2 ?_; clear hK1 hK2 K1 K2
      refine HT_skip ?_
      refine InBlock_n ?_
      refine Then_n ?_
      refine HT_f DC_ok rfl fun K hK => ?_; (conv => whnf)
      refine hK _ _ _ ?_; clear hK K
      refine Then_n ?_
      replace h := W_xnx h
      refine ⟨_, h, ?_⟩
      refine weak_r ?_; (conv => whnf)
      exact And.intro rfl (And.intro (allL_c wkI (allL_c wkI (allL_c (WkR.ptr (fun _ => rfl)) (allL_c (WkR.ptr (fun _ => rfl)) (allL_c (WkR.ptr (fun _ => rfl)) (allL_c wkI (allL_c wkI (allL_c wkI (allL_c wkI allL_n))))))))) (allL_c ⟨some _, rfl, BkR_c rfl (CkR_cons wkI (CkR_cons (WkR.tok (fun _ => rfl) rfl (fun _ _ => Wk.refl _) (fun _ => (lo_A46 _))) CkR_nil))⟩ (allL_c ⟨some _, rfl, BkR_c rfl CkR_nil⟩ (allL_c ⟨some _, rfl, BkR_c rfl (CkR_cons wkI (CkR_cons (wkr loose_nils) CkR_nil))⟩ (allL_c ⟨some _, rfl, BkR_arr rfl rfl⟩ allL_n)))))
    refine hK2 ?_; clear hK1 hK2 K1 K2
    refine HT_exit ?_
    refine Then_e ?_
    refine Then_e ?_
    refine InBlock_e ?_
    replace h := W_xbk h
    replace h := W_inl h
    refine InBlock_n ?_
    refine Then_n ?_
    refine HT_f DC_ok rfl fun K hK => ?_; (conv => whnf)
    refine hK _ _ _ ?_; clear hK K
    refine Then_n ?_
    replace h := W_xnx h
    refine ⟨_, h, ?_⟩
    refine weak_r ?_; (conv => whnf)
    exact And.intro rfl (And.intro (allL_c wkI (allL_c wkI (allL_c (WkR.ptr (fun _ => rfl)) (allL_c (WkR.ptr (fun _ => rfl)) (allL_c (WkR.ptr (fun _ => rfl)) (allL_c wkI allL_n)))))) (allL_c ⟨some _, rfl, BkR_c rfl (CkR_cons wkI (CkR_cons (WkR.tok (fun _ => rfl) rfl (fun _ _ => Wk.refl _) (fun _ => (lo_A46 _))) CkR_nil))⟩ (allL_c ⟨some _, rfl, BkR_c rfl CkR_nil⟩ (allL_c ⟨some _, rfl, BkR_c rfl (CkR_cons wkI (CkR_cons (wkr loose_nils) CkR_nil))⟩ (allL_c ⟨some _, rfl, BkR_arr rfl rfl⟩ allL_n)))))
  refine hK2 ?_; clear hK1 hK2 K1 K2
  refine HT_exit ?_
  refine Then_e ?_
  refine Then_e ?_
  refine InBlock_e ?_
  replace h := W_xbk h
  replace h := W_inl h
  refine Then_n ?_
  refine HT_fr DC_ok rfl fun K hK => ?_; (conv => whnf)
  refine nlA rfl ?_; (conv => whnf)
  refine blkK_of rfl ?_; (conv => whnf)
  refine nlA rfl ?_; (conv => whnf)
  refine blkK_of rfl ?_; (conv => whnf)
  refine And.intro rfl (And.intro (nle rfl) (And.intro rfl ?_)); (conv => whnf)
  refine hK _ _ _ ?_; clear hK K
  refine HT_ret ?_
  replace h := W_some h
  refine PostP_r DC_ok fun K hK => ?_; (conv => whnf)
  refine nlA rfl ?_; (conv => whnf)
  refine blkK_of rfl ?_; (conv => whnf)
  refine nlA rfl ?_; (conv => whnf)
  refine hK _ ?_; clear hK K
  cases h
  exact (Wk_agg (WkL_cons (Wk.refl _) (WkL_cons Wk_free WkL_nil)))
theorem order_listed_call {T : Tbl} (hT : T 58 = pureR order_listed_S) {args : List AV} {hp : Heap} {id : Nat} {k : AV → Prop} {a0 : Int} {a1 : Ar 8} {Φ : TOrder → Prop} (h : W (order_listed_F a0 a1) Φ) (hw : WkL args [eI a0, eAr a1]) (hk : ∀ y, Φ y → k (eTOrder y)) : callpK T 58 args hp id k := by
  obtain ⟨y, e, hy⟩ := W_inv h
  exact callpK_pure hT ⟨a0, a1, rfl, W_of e rfl⟩ (by exact (lo_TOrder _)) hw (hk y hy)
def order_Formed_F (a0 : TOrder) : Option Bool := jn (fun p1 : Bool => cn p1 (some false) (bd (slices_ContainsFunc_2int_69_F a0.Pairs a0) fun y3 => some (!y3))) fun k2 =>
    cn (decide (a0.N < 0)) (k2 true) (cn (decide (a0.N > 8)) (k2 true) (k2 (decide ((a0.Pairs.length : Int) > 28))))
def order_Formed_S : List AV → AV → Prop := fun args r => ∃ a0, args = [eTOrder a0] ∧ W (order_Formed_F a0) fun y => r = (eB y)
theorem order_Formed_ok {T : Tbl} (hT : TOk Tryd.prog T) (hpf : PfOk T PF) (h68 : T 68 = pureR slices_ContainsFunc_2int_S) : FOk Tryd.prog 33 (pureR order_Formed_S) := by
  refine FOk_pure hT hpf Tryd.func33 rfl Tryd.ntmps33 Tryd.results33 (by decide) ?_
  rintro args r ⟨a0, rfl, h⟩
  refine ⟨nle rfl, ?_, ?_⟩
  · exact (loose_cons (lo_TOrder _) loose_nil)
  rw [order_Formed_F.eq_1] at h
  refine HT_fr DC_ok rfl fun K hK => ?_; (conv => whnf)
  refine hK _ _ _ ?_; clear hK K
  refine HT_seq ?_
  refine HT_fr DC_ok rfl fun K hK => ?_; (conv => whnf)
  replace h := W_jn h
  refine nlA rfl ?_; (conv => whnf)
  refine blkK_of rfl ?_; (conv => whnf)
  refine getK_of rfl ?_; (conv => whnf)
  refine cond_lk h (fun _ h => ?_) (fun _ h => ?_) <;> (conv => whnf)
  · refine hK _ _ _ ?_; clear hK K
    refine HT_if fun K1 K2 hK1 hK2 => ?_; (conv => whnf)
    refine hK1 ?_; clear hK1 hK2 K1 K2
    replace h := W_cnT h
    refine HT_fr DC_ok rfl fun K hK => ?_; (conv => whnf)
    refine hK _ _ _ ?_; clear hK K
    refine HT_ret ?_
    refine Then_r ?_
    replace h := W_some h
    refine PostP_r DC_ok fun K hK => ?_; (conv => whnf)
    refine hK _ ?_; clear hK K
    cases h
    exact Wk.refl _
  refine nlA rfl ?_; (conv => whnf)
  refine blkK_of rfl ?_; (conv => whnf)
  refine getK_of rfl ?_; (conv => whnf)
  refine cond_lk h (fun _ h => ?_) (fun _ h => ?_) <;> (conv => whnf)
  · refine hK _ _ _ ?_; clear hK K
    refine HT_if fun K1 K2 hK1 hK2 => ?_; (conv => whnf)
    refine hK1 ?_; clear hK1 hK2 K1 K2
    replace h := W_cnT h
    refine HT_fr DC_ok rfl fun K hK => ?_; (conv => whnf)
    refine hK _ _ _ ?_; clear hK K
    refine HT_ret ?_
    refine Then_r ?_
    replace h := W_some h
    refine PostP_r DC_ok fun K hK => ?_; (conv => whnf)
    refine hK _ ?_; clear hK K
    cases h
    exact Wk.refl _
  refine nlA rfl ?_; (conv => whnf)
  refine blkK_of rfl ?_; (conv => whnf)
  refine getK_of rfl ?_; (conv => whnf)
  refine hK _ _ _ ?_; clear hK K
  refine HT_if fun K1 K2 hK1 hK2 => ?_; (conv => whnf)
  refine cond_lk h (fun _ h => ?_) (fun _ h => ?_)
  · refine hK1 ?_; clear hK1 hK2 K1 K2
    refine HT_fr DC_ok rfl fun K hK => ?_; (conv => whnf)
    refine hK _ _ _ ?_; clear hK K
    refine HT_ret ?_
    refine Then_r ?_
    replace h := W_some h
    refine PostP_r DC_ok fun K hK => ?_; (conv => whnf)
    refine hK _ ?_; clear hK K
    cases h
    exact Wk.refl _
  refine hK2 ?_; clear hK1 hK2 K1 K2
  refine HT_skip ?_
  refine Then_n ?_
  refine HT_frzK 1 ?_; (conv => whnf); refine ⟨_, rfl, ?_⟩
  refine HT_fr DC_ok rfl fun K hK => ?_; (conv => whnf)
  refine getK_of rfl ?_; (conv => whnf)
  replace h := W_bd h
  refine slices_ContainsFunc_2int_69_call h68 h (WkL.refl _) (fun _ h => ?_); (conv => whnf)
  refine hK _ _ _ ?_; clear hK K
  refine HT_ret ?_
  replace h := W_some h
  refine PostP_r DC_ok fun K hK => ?_; (conv => whnf)
  refine hK _ ?_; clear hK K
  cases h
  exact Wk.refl _
theorem order_Formed_call {T : Tbl} (hT : T 33 = pureR order_Formed_S) {args : List AV} {hp : Heap} {id : Nat} {k : AV → Prop} {a0 : TOrder} {Φ : Bool → Prop} (h : W (order_Formed_F a0) Φ) (hw : WkL args [eTOrder a0]) (hk : ∀ y, Φ y → k (eB y)) : callpK T 33 args hp id k := by
  obtain ⟨y, e, hy⟩ := W_inv h
  exact callpK_pure hT ⟨a0, rfl, W_of e rfl⟩ (by exact (loose_bool _)) hw (hk y hy)
end Go.Proofs.YtlmboonbfhkfnaaDoor
namespace Go.Proofs.YtlmboonbfhkfnaaDoor
open Go Go.Eng
set_option maxHeartbeats 0
set_option maxRecDepth 100000
def order_read_F (a0 : TOrder) : Option ((Ar 8) × Bool) := bd (order_Formed_F a0) fun y1 => cn (!y1) (some ((Ar.zero 8), false)) (bd (order_closed_F a0) fun y2 => some (y2.1, y2.2))
def order_read_S : List AV → AV → Prop := fun args r => ∃ a0, args = [eTOrder a0] ∧ W (order_read_F a0) fun y => r = (.tup [eAr y.1, eB y.2])
theorem order_read_ok {T : Tbl} (hT : TOk Tryd.prog T) (hpf : PfOk T PF) (h33 : T 33 = pureR order_Formed_S) (h79 : T 79 = pureR order_closed_S) : FOk Tryd.prog 54 (pureR order_read_S) := by
  refine FOk_pure hT hpf Tryd.func54 rfl Tryd.ntmps54 Tryd.results54 (by decide) ?_
  rintro args r ⟨a0, rfl, h⟩
  refine ⟨nle rfl, ?_, ?_⟩
  · exact (loose_cons (lo_TOrder _) loose_nil)
  rw [order_read_F.eq_1] at h
  refine HT_fr DC_ok rfl fun K hK => ?_; (conv => whnf)
  refine hK _ _ _ ?_; clear hK K
  refine HT_seq ?_
  refine HT_fr DC_ok rfl fun K hK => ?_; (conv => whnf)
  refine nlA rfl ?_; (conv => whnf)
  refine blkK_of rfl ?_; (conv => whnf)
  refine nlA rfl ?_; (conv => whnf)
  replace h := W_bd h
  refine order_Formed_call h33 h (WkL.refl _) (fun _ h => ?_); (conv => whnf)
  refine hK _ _ _ ?_; clear hK K
  refine HT_if fun K1 K2 hK1 hK2 => ?_; (conv => whnf)
  refine cond_lk h (fun _ h => ?_) (fun _ h => ?_)
  · refine hK1 ?_; clear hK1 hK2 K1 K2
    refine HT_fr DC_ok rfl fun K hK => ?_; (conv => whnf)
    refine blkK_of rfl ?_; (conv => whnf)
    refine sw_ar (x := (Ar.zero 8)) rfl rfl rfl ?_; (conv => whnf)
    refine hK _ _ _ ?_; clear hK K
    refine HT_ret ?_
    refine Then_r ?_
    replace h := W_some h
    refine PostP_r DC_ok fun K hK => ?_; (conv => whnf)
    refine nlA rfl ?_; (conv => whnf)
    refine blkK_of rfl ?_; (conv => whnf)
    refine ld_ar (x := (Ar.zero 8)) rfl ?_; (conv => whnf)
    refine hK _ ?_; clear hK K
    cases h
    exact Wk.refl _
  refine hK2 ?_; clear hK1 hK2 K1 K2
  refine HT_skip ?_
  refine Then_n ?_
  refine HT_fr DC_ok rfl fun K hK => ?_; (conv => whnf)
  refine nlA rfl ?_; (conv => whnf)
  refine blkK_of rfl ?_; (conv => whnf)
  refine nlA rfl ?_; (conv => whnf)
  replace h := W_bd h
  refine order_closed_call h79 h (WkL.refl _) (fun _ h => ?_); (conv => whnf)
  refine forceL_skip ?_; (conv => whnf)
  refine forceL_skip ?_; (conv => whnf)
  refine blkK_of rfl ?_; (conv => whnf)
  refine sw_ar rfl rfl rfl ?_; (conv => whnf)
  refine hK _ _ _ ?_; clear hK K
  refine HT_ret ?_
  replace h := W_some h
  refine PostP_r DC_ok fun K hK => ?_; (conv => whnf)
  refine nlA rfl ?_; (conv => whnf)
  refine blkK_of rfl ?_; (conv => whnf)
  refine ld_ar rfl ?_; (conv => whnf)
  refine hK _ ?_; clear hK K
  cases h
  exact Wk.refl _
theorem order_read_call {T : Tbl} (hT : T 54 = pureR order_read_S) {args : List AV} {hp : Heap} {id : Nat} {k : AV → Prop} {a0 : TOrder} {Φ : (Ar 8) × Bool → Prop} (h : W (order_read_F a0) Φ) (hw : WkL args [eTOrder a0]) (hk : ∀ y, Φ y → k (.tup [eAr y.1, eB y.2])) : callpK T 54 args hp id k := by
  obtain ⟨y, e, hy⟩ := W_inv h
  exact callpK_pure hT ⟨a0, rfl, W_of e rfl⟩ (by exact loose_tup (loose_cons (loose_arr _) (loose_cons (loose_bool _) loose_nil))) hw (hk y hy)
end Go.Proofs.YtlmboonbfhkfnaaDoor
namespace Go.Proofs.YtlmboonbfhkfnaaDoor
open Go Go.Eng
set_option maxHeartbeats 0
set_option maxRecDepth 100000

    def order_IsLine_b1 (a0 : TOrder) (a1 : List Int) (y1 : (Ar 8) × Bool) (s4 : Int × Int) : Option (Ct (Int × Int) Bool) := cn (decide (s4.2 < (a1.length : Int))) (ix a1 default s4.2 fun e5 =>
    jn (fun p6 : Bool => cn p6 (some (.rt false)) (gd (0 ≤ e5) (let v8 := (bor .i64 s4.1 (bshl .i64 1 e5)); some (.nx (v8, (wr (s4.2 + 1))))))) fun k7 =>
    cn (decide (e5 < 0)) (k7 true) (cn (decide (e5 ≥ a0.N)) (k7 true) (gd (0 ≤ e5) (cn ((band .i64 (bshr .i64 s4.1 e5) 1) ==
    1) (k7 true) (gd (0 ≤ e5 ∧ e5 < (8 : Int)) (k7 ((bandNot .i64 (y1.1.at1 e5) s4.1) != 0))))))) (some (.bk (s4.1, s4.2)))
theorem W_border_IsLine_b1 {a0 : TOrder} {a1 : List Int} {y1 : (Ar 8) × Bool} {s4 : Int × Int} {Φ : Ct (Int × Int) Bool → Prop} (h : W (order_IsLine_b1 a0 a1 y1 s4) Φ) : W (cn (decide (s4.2 < (a1.length : Int))) (ix a1 default s4.2 fun e5 => jn (fun p6 : Bool => cn p6 (some (.rt false)) (gd (0 ≤ e5) (let v8 := (bor .i64 s4.1 (bshl .i64 1 e5));
    some (.nx (v8, (wr (s4.2 + 1))))))) fun k7 => cn (decide (e5 < 0)) (k7 true) (cn (decide (e5 ≥ a0.N)) (k7 true) (gd (0 ≤ e5) (cn ((band .i64 (bshr .i64 s4.1 e5) 1) ==
    1) (k7 true) (gd (0 ≤ e5 ∧ e5 < (8 : Int)) (k7 ((bandNot .i64 (y1.1.at1 e5) s4.1) != 0))))))) (some (.bk (s4.1, s4.2)))) Φ := h
def order_IsLine_F (a0 : TOrder) (a1 : List Int) : Option Bool := bd (order_read_F a0) fun y1 => jn (fun p2 : Bool =>
    cn p2 (some false) (bd (lp (order_IsLine_b1 a0 a1 y1) FU (0, 0)) fun c9 => smK c9 (fun s10 => some true) (fun r11 => some r11))) fun k3 =>
    cn (!y1.2) (k3 true) (k3 ((a1.length : Int) != a0.N))
def order_IsLine_S : List AV → AV → Prop := fun args r => ∃ a0 a1, args = [eTOrder a0, (eL 1 eI default) a1] ∧ W (order_IsLine_F a0 a1) fun y => r = (eB y)
theorem order_IsLine_ok {T : Tbl} (hT : TOk Tryd.prog T) (hpf : PfOk T PF) (h54 : T 54 = pureR order_read_S) : FOk Tryd.prog 22 (pureR order_IsLine_S) := by
  refine FOk_pure hT hpf Tryd.func22 rfl Tryd.ntmps22 Tryd.results22 (by decide) ?_
  rintro args r ⟨a0, a1, rfl, h⟩
  refine ⟨nle rfl, ?_, ?_⟩
  · exact (loose_cons (lo_TOrder _) (loose_cons (loose_lst fun _ => (loose_int _ _)) loose_nil))
  rw [order_IsLine_F.eq_1] at h
  refine HT_fr DC_ok rfl fun K hK => ?_; (conv => whnf)
  refine hK _ _ _ ?_; clear hK K
  refine HT_fr DC_ok rfl fun K hK => ?_; (conv => whnf)
  refine nlA rfl ?_; (conv => whnf)
  refine blkK_of rfl ?_; (conv => whnf)
  refine nlA rfl ?_; (conv => whnf)
  replace h := W_bd h
  refine order_read_call h54 h (WkL.refl _) (fun _ h => ?_); (conv => whnf)
  refine forceL_skip ?_; (conv => whnf)
  refine forceL_skip ?_; (conv => whnf)
  refine forceL_skip ?_; (conv => whnf)
  refine blkK_of rfl ?_; (conv => whnf)
  refine sw_ar rfl rfl rfl ?_; (conv => whnf)
  refine hK _ _ _ ?_; clear hK K
  refine HT_seq ?_
  refine HT_fr DC_ok rfl fun K hK => ?_; (conv => whnf)
  replace h := W_jn h
  refine cond_lk h (fun _ h => ?_) (fun _ h => ?_) <;> (conv => whnf)
  · refine hK _ _ _ ?_; clear hK K
    refine HT_if fun K1 K2 hK1 hK2 => ?_; (conv => whnf)
    refine hK1 ?_; clear hK1 hK2 K1 K2
    replace h := W_cnT h
    refine HT_fr DC_ok rfl fun K hK => ?_; (conv => whnf)
    refine hK _ _ _ ?_; clear hK K
    refine HT_ret ?_
    refine Then_r ?_
    replace h := W_some h
    refine PostP_r DC_ok fun K hK => ?_; (conv => whnf)
    refine hK _ ?_; clear hK K
    cases h
    exact Wk.refl _
  refine nlA rfl ?_; (conv => whnf)
  refine blkK_of rfl ?_; (conv => whnf)
  refine getK_of rfl ?_; (conv => whnf)
  refine hK _ _ _ ?_; clear hK K
  refine HT_if fun K1 K2 hK1 hK2 => ?_; (conv => whnf)
  refine cond_lk h (fun _ h => ?_) (fun _ h => ?_)
  · refine hK1 ?_; clear hK1 hK2 K1 K2
    refine HT_fr DC_ok rfl fun K hK => ?_; (conv => whnf)
    refine hK _ _ _ ?_; clear hK K
    refine HT_ret ?_
    refine Then_r ?_
    replace h := W_some h
    refine PostP_r DC_ok fun K hK => ?_; (conv => whnf)
    refine hK _ ?_; clear hK K
    cases h
    exact Wk.refl _
  refine hK2 ?_; clear hK1 hK2 K1 K2
  refine HT_skip ?_
  refine Then_n ?_
  refine HT_fr DC_ok rfl fun K hK => ?_; (conv => whnf)
  refine hK _ _ _ ?_; clear hK K
  refine HT_seq ?_
  refine HT_fr DC_ok rfl fun K hK => ?_; (conv => whnf)
  refine hK _ _ _ ?_; clear hK K
  refine HT_block ?_
  replace h := W_bd h
  refine HT_lpR (body := order_IsLine_b1 _ _ _) rfl h [2, 5, 24, 25] [2] [5] [] (fun kl kh kr ids b s => ⟨ofL ([(7, eI s.1), (26, eI s.2)] ++ kl), ofH (([] ++ kh) ++ ([] ++ kr)), b + 64⟩) ?_; (conv => whnf); refine And.intro ?_ (fun s m h => HT_st ?_)
  · refine weak_r ?_; (conv => whnf)
    exact And.intro rfl (And.intro (allL_c wkI (allL_c wkI (allL_c (WkR.ptr (fun _ => rfl)) (allL_c (WkR.ptr (fun _ => rfl)) (allL_c (wkr (loose_lst fun _ => (loose_int _ _))) (allL_c wkI allL_n)))))) (allL_c ⟨some _, rfl, BkR_c rfl (CkR_cons wkI (CkR_cons (wkr (loose_lst fun _ => (lo_A46 _))) CkR_nil))⟩ (allL_c ⟨some _, rfl, BkR_arr rfl rfl⟩ allL_n)))
  replace h := W_border_IsLine_b1 (W_bd h)
  refine HT_fr DC_ok rfl fun K hK => ?_; (conv => whnf)
  refine hK _ _ _ ?_; clear hK K
  refine HT_seq ?_
  refine HT_if fun K1 K2 hK1 hK2 => ?_; (conv => whnf)
  refine cond_lk h (fun _ h => ?_) (fun _ h => ?_)
  · refine hK1 ?_; clear hK1 hK2 K1 K2
    refine HT_skip ?_
    refine Then_n ?_
    refine HT_seq ?_
    refine HT_block ?_
    refine HT_fr DC_ok rfl fun K hK => ?_; (conv => whnf)
    refine ix_lk h fun _ h => ?_; (conv => whnf)
    refine getK_of rfl ?_; (conv => whnf)
    refine hK _ _ _ ?_; clear hK K
    refine HT_seq ?_
    refine HT_fr DC_ok rfl fun K hK => ?_; (conv => whnf)
    replace h := W_jn h
    refine cond_lk h (fun _ h => ?_) (fun _ h => ?_) <;> (conv => whnf)
    · refine hK _ _ _ ?_; clear hK K
      refine HT_if fun K1 K2 hK1 hK2 => ?_; (conv => whnf)
      refine hK1 ?_; clear hK1 hK2 K1 K2
      replace h := W_cnT h
      refine HT_fr DC_ok rfl fun K hK => ?_; (conv => whnf)
      refine hK _ _ _ ?_; clear hK K
      refine HT_ret ?_
      refine Then_r ?_
      refine InBlock_r ?_
      refine Then_r ?_
      refine Then_r ?_
      refine InBlock_r ?_
      refine Then_r ?_
      replace h := W_xrt h
      replace h := W_inr h
      replace h := W_some h
      refine PostP_r DC_ok fun K hK => ?_; (conv => whnf)
      refine hK _ ?_; clear hK K
      cases h
      exact Wk.refl _
    refine nlA rfl ?_; (conv => whnf)
    refine blkK_of rfl ?_; (conv => whnf)
    refine getK_of rfl ?_; (conv => whnf)
    refine cond_lk h (fun _ h => ?_) (fun _ h => ?_) <;> (conv => whnf)
    · refine hK _ _ _ ?_; clear hK K
      refine HT_if fun K1 K2 hK1 hK2 => ?_; (conv => whnf)
      refine hK1 ?_; clear hK1 hK2 K1 K2
      replace h := W_cnT h
      refine HT_fr DC_ok rfl fun K hK => ?_; (conv => whnf)
      refine hK _ _ _ ?_; clear hK K
      refine HT_ret ?_
      refine Then_r ?_
      refine InBlock_r ?_
      refine Then_r ?_
      refine Then_r ?_
      refine InBlock_r ?_
      refine Then_r ?_
      replace h := W_xrt h
      replace h := W_inr h
      replace h := W_some h
      refine PostP_r DC_ok fun K hK => ?_; (conv => whnf)
      refine hK _ ?_; clear hK K
      cases h
      exact Wk.refl _
    refine gd_lk h fun _ h => ?_; (conv => whnf)
    refine cond_lk h (fun _ h => ?_) (fun _ h => ?_) <;> (conv => whnf)
    · refine hK _ _ _ ?_; clear hK K
      refine HT_if fun K1 K2 hK1 hK2 => ?_; (conv => whnf)
      refine hK1 ?_; clear hK1 hK2 K1 K2
      replace h := W_cnT h
      refine HT_fr DC_ok rfl fun K hK => ?_; (conv => whnf)
      refine hK _ _ _ ?_; clear hK K
      refine HT_ret ?_
      refine Then_r ?_
      refine InBlock_r ?_
      refine Then_r ?_
      refine Then_r ?_
      refine InBlock_r ?_
      refine Then_r ?_
      replace h := W_xrt h
      replace h := W_inr h
      replace h := W_some h
      refine PostP_r DC_ok fun K hK => ?_; (conv => whnf)
      refine hK _ ?_; clear hK K
      cases h
      exact Wk.refl _
    refine gd_lk h fun hx30 h => ?_; (conv => whnf)
    refine nlA rfl ?_; (conv => whnf)
    refine blkK_of rfl ?_; (conv => whnf)
    refine get_ar1 rfl hx30 ?_; (conv => whnf)
    refine hK _ _ _ ?_; clear hK K
    refine HT_if fun K1 K2 hK1 hK2 => ?_; (conv => whnf)
    refine cond_lk h (fun _ h => ?_) (fun _ h => ?_)
    · refine hK1 ?_; clear hK1 hK2 K1 K2
      refine HT_fr DC_ok rfl fun K hK => ?_; (conv => whnf)
      refine hK _ _ _ ?_; clear hK K
      refine HT_ret ?_
      refine Then_r ?_
      refine InBlock_r ?_
      refine Then_r ?_
      refine Then_r ?_
      refine InBlock_r ?_
      refine Then_r ?_
      replace h := W_xrt h
      replace h := W_inr h
      replace h := W_some h
      refine PostP_r DC_ok fun K hK => ?_; (conv => whnf)
      refine hK _ ?_; clear hK K
      cases h
      exact Wk.refl _
    refine hK2 ?_; clear hK1 hK2 K1 K2
    refine HT_skip ?_
    refine Then_n ?_
    refine HT_f DC_ok rfl fun K hK => ?_; (conv => whnf)
    refine gd_lk h fun _ h => ?_; (conv => whnf)
    refine hK _ _ _ ?_; clear hK K
    refine InBlock_n ?_
    refine Then_n ?_
    refine HT_f DC_ok rfl fun K hK => ?_; (conv => whnf)
    refine hK _ _ _ ?_; clear hK K
    refine Then_n ?_
    replace h := W_xnx h
    refine ⟨_, h, ?_⟩
    refine weak_r ?_; (conv => whnf)
    exact And.intro rfl (And.intro (allL_c wkI (allL_c wkI (allL_c (WkR.ptr (fun _ => rfl)) (allL_c (WkR.ptr (fun _ => rfl)) (allL_c (wkr (loose_lst fun _ => (loose_int _ _))) (allL_c wkI allL_n)))))) (allL_c ⟨some _, rfl, BkR_c rfl (CkR_cons wkI (CkR_cons (wkr (loose_lst fun _ => (lo_A46 _))) CkR_nil))⟩ (allL_c ⟨some _, rfl, BkR_arr rfl rfl⟩ allL_n)))
  refine hK2 ?_; clear hK1 hK2 K1 K2
  refine HT_exit ?_
  refine Then_e ?_
  refine Then_e ?_
  refine InBlock_e ?_
  replace h := W_xbk h
  replace h := W_inl h
  refine Then_n ?_
  refine HT_fr DC_ok rfl fun K hK => ?_; (conv => whnf)
  refine hK _ _ _ ?_; clear hK K
  refine HT_ret ?_
  replace h := W_some h
  refine PostP_r DC_ok fun K hK => ?_; (conv => whnf)
  refine hK _ ?_; clear hK K
  cases h
  exact Wk.refl _
theorem order_IsLine_call {T : Tbl} (hT : T 22 = pureR order_IsLine_S) {args : List AV} {hp : Heap} {id : Nat} {k : AV → Prop} {a0 : TOrder} {a1 : List Int} {Φ : Bool → Prop} (h : W (order_IsLine_F a0 a1) Φ) (hw : WkL args [eTOrder a0, (eL 1 eI default) a1]) (hk : ∀ y, Φ y → k (eB y)) : callpK T 22 args hp id k := by
  obtain ⟨y, e, hy⟩ := W_inv h
  exact callpK_pure hT ⟨a0, a1, rfl, W_of e rfl⟩ (by exact (loose_bool _)) hw (hk y hy)
def order_Close_F (a0 : TOrder) : Option (TOrder × Int) := bd (order_read_F a0) fun y1 => cn (!y1.2) (some ((⟨0, []⟩ : TOrder), 70)) (bd (order_listed_F a0.N y1.1) fun y2 =>
    some (y2, 0))
def order_Close_S : List AV → AV → Prop := fun args r => ∃ a0, args = [eTOrder a0] ∧ W (order_Close_F a0) fun y => r = (.tup [eTOrder y.1, eI y.2])
theorem order_Close_ok {T : Tbl} (hT : TOk Tryd.prog T) (hpf : PfOk T PF) (h54 : T 54 = pureR order_read_S) (h58 : T 58 = pureR order_listed_S) : FOk Tryd.prog 24 (pureR order_Close_S) := by
  refine FOk_pure hT hpf Tryd.func24 rfl Tryd.ntmps24 Tryd.results24 (by decide) ?_
  rintro args r ⟨a0, rfl, h⟩
  refine ⟨nle rfl, ?_, ?_⟩
  · exact (loose_cons (lo_TOrder _) loose_nil)
  rw [order_Close_F.eq_1] at h
  refine HT_fr DC_ok rfl fun K hK => ?_; (conv => whnf)
  refine hK _ _ _ ?_; clear hK K
  refine HT_fr DC_ok rfl fun K hK => ?_; (conv => whnf)
  refine nlA rfl ?_; (conv => whnf)
  refine blkK_of rfl ?_; (conv => whnf)
  refine nlA rfl ?_; (conv => whnf)
  replace h := W_bd h
  refine order_read_call h54 h (WkL.refl _) (fun _ h => ?_); (conv => whnf)
  refine forceL_skip ?_; (conv => whnf)
  refine forceL_skip ?_; (conv => whnf)
  refine forceL_skip ?_; (conv => whnf)
  refine blkK_of rfl ?_; (conv => whnf)
  refine sw_ar rfl rfl rfl ?_; (conv => whnf)
  refine hK _ _ _ ?_; clear hK K
  refine HT_seq ?_
  refine HT_fr DC_ok rfl fun K hK => ?_; (conv => whnf)
  refine hK _ _ _ ?_; clear hK K
  refine HT_if fun K1 K2 hK1 hK2 => ?_; (conv => whnf)
  refine cond_lk h (fun _ h => ?_) (fun _ h => ?_)
  · refine hK1 ?_; clear hK1 hK2 K1 K2
    refine HT_fr DC_ok rfl fun K hK => ?_; (conv => whnf)
    refine blkK_of rfl ?_; (conv => whnf)
    refine And.intro rfl (And.intro (nle rfl) (And.intro rfl ?_)); (conv => whnf)
    refine hK _ _ _ ?_; clear hK K
    refine HT_ret ?_
    refine Then_r ?_
    replace h := W_some h
    refine PostP_r DC_ok fun K hK => ?_; (conv => whnf)
    refine nlA rfl ?_; (conv => whnf)
    refine blkK_of rfl ?_; (conv => whnf)
    refine nlA rfl ?_; (conv => whnf)
    refine hK _ ?_; clear hK K
    cases h
    exact Wk_tup (WkL_cons (Wk_agg (WkL_cons (Wk.refl _) (WkL_cons Wk_nil WkL_nil))) (WkL_cons (Wk.refl _) WkL_nil))
  refine hK2 ?_; clear hK1 hK2 K1 K2
  refine HT_skip ?_
  refine Then_n ?_
  refine HT_fr DC_ok rfl fun K hK => ?_; (conv => whnf)
  refine nlA rfl ?_; (conv => whnf)
  refine blkK_of rfl ?_; (conv => whnf)
  refine getK_of rfl ?_; (conv => whnf)
  refine nlA rfl ?_; (conv => whnf)
  refine blkK_of rfl ?_; (conv => whnf)
  refine ld_ar rfl ?_; (conv => whnf)
  refine forceL_skip ?_; (conv => whnf)
  replace h := W_bd h
  refine order_listed_call h58 h (WkL.refl _) (fun _ h => ?_); (conv => whnf)
  refine blkK_of rfl ?_; (conv => whnf)
  refine And.intro rfl (And.intro (nle rfl) (And.intro rfl ?_)); (conv => whnf)
  refine hK _ _ _ ?_; clear hK K
  refine HT_ret ?_
  replace h := W_some h
  refine PostP_r DC_ok fun K hK => ?_; (conv => whnf)
  refine nlA rfl ?_; (conv => whnf)
  refine blkK_of rfl ?_; (conv => whnf)
  refine nlA rfl ?_; (conv => whnf)
  refine hK _ ?_; clear hK K
  cases h
  exact Wk.refl _
theorem order_Close_call {T : Tbl} (hT : T 24 = pureR order_Close_S) {args : List AV} {hp : Heap} {id : Nat} {k : AV → Prop} {a0 : TOrder} {Φ : TOrder × Int → Prop} (h : W (order_Close_F a0) Φ) (hw : WkL args [eTOrder a0]) (hk : ∀ y, Φ y → k (.tup [eTOrder y.1, eI y.2])) : callpK T 24 args hp id k := by
  obtain ⟨y, e, hy⟩ := W_inv h
  exact callpK_pure hT ⟨a0, rfl, W_of e rfl⟩ (by exact loose_tup (loose_cons (lo_TOrder _) (loose_cons (loose_int _ _) loose_nil))) hw (hk y hy)

    def order_Reduce_b2 (a0 : TOrder) (s2 : Int × (Ar 8)) (y1 : (Ar 8) × Bool) (s3 : Int × (Ar 8)) : Option (Ct (Int × (Ar 8)) (TOrder × Int)) := cn (decide (s3.1 < a0.N)) (gd (0 ≤ s2.1 ∧ s2.1 < (8 : Int)) (gd (0 ≤ s3.1) (jn (fun p4 : (Ar 8) =>
    some (.nx ((wr (s3.1 + 1)), p4))) fun k5 => cn ((band .i64 (bshr .i64 (y1.1.at1 s2.1) s3.1) 1) ==
    1) (gd (0 ≤ s2.1 ∧ s2.1 < (8 : Int)) (gd (0 ≤ s3.1 ∧ s3.1 < (8 : Int)) (gd (0 ≤ s2.1 ∧ s2.1 < (8 : Int)) (let m6 := s3.2.st1 s2.1 (bandNot .i64 (s3.2.at1 s2.1) (y1.1.at1 s3.1));
    k5 m6)))) (k5 s3.2)))) (some (.bk (s3.1, s3.2)))
theorem W_border_Reduce_b2 {a0 : TOrder} {s2 : Int × (Ar 8)} {y1 : (Ar 8) × Bool} {s3 : Int × (Ar 8)} {Φ : Ct (Int × (Ar 8)) (TOrder × Int) → Prop} (h : W (order_Reduce_b2 a0 s2 y1 s3) Φ) : W (cn (decide (s3.1 < a0.N)) (gd (0 ≤ s2.1 ∧ s2.1 < (8 : Int)) (gd (0 ≤ s3.1) (jn (fun p4 : (Ar 8) => some (.nx ((wr (s3.1 + 1)), p4))) fun k5 =>
    cn ((band .i64 (bshr .i64 (y1.1.at1 s2.1) s3.1) 1) ==
    1) (gd (0 ≤ s2.1 ∧ s2.1 < (8 : Int)) (gd (0 ≤ s3.1 ∧ s3.1 < (8 : Int)) (gd (0 ≤ s2.1 ∧ s2.1 < (8 : Int)) (let m6 := s3.2.st1 s2.1 (bandNot .i64 (s3.2.at1 s2.1) (y1.1.at1 s3.1));
    k5 m6)))) (k5 s3.2)))) (some (.bk (s3.1, s3.2)))) Φ := h

    def order_Reduce_b1 (a0 : TOrder) (y1 : (Ar 8) × Bool) (s2 : Int × (Ar 8)) : Option (Ct (Int × (Ar 8)) (TOrder × Int)) := cn (decide (s2.1 < a0.N)) (bd (lp (order_Reduce_b2 a0 s2 y1) FU (0, s2.2)) fun c7 =>
    smK c7 (fun s8 => some (.nx ((wr (s2.1 + 1)), s8.2))) (fun r9 => some (.rt r9))) (some (.bk (s2.1, s2.2)))
theorem W_border_Reduce_b1 {a0 : TOrder} {y1 : (Ar 8) × Bool} {s2 : Int × (Ar 8)} {Φ : Ct (Int × (Ar 8)) (TOrder × Int) → Prop} (h : W (order_Reduce_b1 a0 y1 s2) Φ) : W (cn (decide (s2.1 < a0.N)) (bd (lp (order_Reduce_b2 a0 s2 y1) FU (0, s2.2)) fun c7 => smK c7 (fun s8 => some (.nx ((wr (s2.1 + 1)), s8.2))) (fun r9 =>
    some (.rt r9))) (some (.bk (s2.1, s2.2)))) Φ := h
def order_Reduce_F (a0 : TOrder) : Option (TOrder × Int) := bd (order_read_F a0) fun y1 =>
    cn (!y1.2) (some ((⟨0, []⟩ : TOrder), 70)) (bd (lp (order_Reduce_b1 a0 y1) FU (0, y1.1)) fun c10 => smK c10 (fun s11 => bd (order_listed_F a0.N s11.2) fun y13 =>
    some (y13, 0)) (fun r12 => some r12))
def order_Reduce_S : List AV → AV → Prop := fun args r => ∃ a0, args = [eTOrder a0] ∧ W (order_Reduce_F a0) fun y => r = (.tup [eTOrder y.1, eI y.2])
theorem order_Reduce_ok {T : Tbl} (hT : TOk Tryd.prog T) (hpf : PfOk T PF) (h54 : T 54 = pureR order_read_S) (h58 : T 58 = pureR order_listed_S) : FOk Tryd.prog 25 (pureR order_Reduce_S) := by
  refine FOk_pure hT hpf Tryd.func25 rfl Tryd.ntmps25 Tryd.results25 (by decide) ?_
  rintro args r ⟨a0, rfl, h⟩
  refine ⟨nle rfl, ?_, ?_⟩
  · exact (loose_cons (lo_TOrder _) loose_nil)
  rw [order_Reduce_F.eq_1] at h
  refine HT_fr DC_ok rfl fun K hK => ?_; (conv => whnf)
  refine hK _ _ _ ?_; clear hK K
  refine HT_fr DC_ok rfl fun K hK => ?_; (conv => whnf)
  refine nlA rfl ?_; (conv => whnf)
  refine blkK_of rfl ?_; (conv => whnf)
  refine nlA rfl ?_; (conv => whnf)
  replace h := W_bd h
  refine order_read_call h54 h (WkL.refl _) (fun _ h => ?_); (conv => whnf)
  refine forceL_skip ?_; (conv => whnf)
  refine forceL_skip ?_; (conv => whnf)
  refine forceL_skip ?_; (conv => whnf)
  refine blkK_of rfl ?_; (conv => whnf)
  refine sw_ar rfl rfl rfl ?_; (conv => whnf)
  refine hK _ _ _ ?_; clear hK K
  refine HT_seq ?_
  refine HT_fr DC_ok rfl fun K hK => ?_; (conv => whnf)
  refine hK _ _ _ ?_; clear hK K
  refine HT_if fun K1 K2 hK1 hK2 => ?_; (conv => whnf)
  refine cond_lk h (fun _ h => ?_) (fun _ h => ?_)
  · refine hK1 ?_; clear hK1 hK2 K1 K2
    refine HT_fr DC_ok rfl fun K hK => ?_; (conv => whnf)
    refine blkK_of rfl ?_; (conv => whnf)
    refine And.intro rfl (And.intro (nle rfl) (And.intro rfl ?_)); (conv => whnf)
    refine hK _ _ _ ?_; clear hK K
    refine HT_ret ?_
    refine Then_r ?_
    replace h := W_some h
    refine PostP_r DC_ok fun K hK => ?_; (conv => whnf)
    refine nlA rfl ?_; (conv => whnf)
    refine blkK_of rfl ?_; (conv => whnf)
    refine nlA rfl ?_; (conv => whnf)
    refine hK _ ?_; clear hK K
    cases h
    exact Wk_tup (WkL_cons (Wk_agg (WkL_cons (Wk.refl _) (WkL_cons Wk_nil WkL_nil))) (WkL_cons (Wk.refl _) WkL_nil))
  refine hK2 ?_; clear hK1 hK2 K1 K2
  refine HT_skip ?_
  refine Then_n ?_
  refine HT_fr DC_ok rfl fun K hK => ?_; (conv => whnf)
  refine nlA rfl ?_; (conv => whnf)
  refine blkK_of rfl ?_; (conv => whnf)
  refine ld_ar rfl ?_; (conv => whnf)
  refine blkK_of rfl ?_; (conv => whnf)
  refine sw_ar rfl rfl rfl ?_; (conv => whnf)
  refine hK _ _ _ ?_; clear hK K
  refine HT_seq ?_
  refine HT_fr DC_ok rfl fun K hK => ?_; (conv => whnf)
  refine nlA rfl ?_; (conv => whnf)
  refine blkK_of rfl ?_; (conv => whnf)
  refine getK_of rfl ?_; (conv => whnf)
  refine hK _ _ _ ?_; clear hK K
  refine HT_block ?_
  replace h := W_bd h
  refine HT_lpR (body := order_Reduce_b1 _ _) rfl h [1, 2, 4, 6, 19] [1, 2] [4] [6] (fun kl kh kr ids b s => ⟨ofL ([(20, eI s.1)] ++ kl), ofH (([] ++ kh) ++ ([(nthN ids 0, .cells (cA s.2))] ++ kr)), b + 128⟩) ?_; (conv => whnf); refine And.intro ?_ (fun s m h => HT_st ?_)
  · refine weak_r ?_; (conv => whnf)
    exact And.intro rfl (And.intro (allL_c wkI (allL_c (WkR.ptr (fun _ => rfl)) (allL_c (WkR.ptr (fun _ => rfl)) (allL_c (WkR.ptr (fun _ => rfl)) (allL_c (WkR.ptr (fun _ => rfl)) (allL_c wkI allL_n)))))) (allL_c ⟨some _, rfl, BkR_c rfl (CkR_cons wkI (CkR_cons (wkr (loose_lst fun _ => (lo_A46 _))) CkR_nil))⟩ (allL_c ⟨some _, rfl, BkR_c rfl (CkR_cons wkI (CkR_cons (wkr loose_nils) CkR_nil))⟩ (allL_c ⟨some _, rfl, BkR_arr rfl rfl⟩ (allL_c ⟨some _, rfl, BkR_arr rfl rfl⟩ allL_n)))))
  replace h := W_border_Reduce_b1 (W_bd h)
  refine HT_fr DC_ok rfl fun K hK => ?_; (conv => whnf)
  refine hK _ _ _ ?_; clear hK K
  refine HT_seq ?_
  refine HT_if fun K1 K2 hK1 hK2 => ?_; (conv => whnf)
  refine cond_lk h (fun _ h => ?_) (fun _ h => ?_)
  · refine hK1 ?_; clear hK1 hK2 K1 K2
    refine HT_skip ?_
    refine Then_n ?_
    refine HT_seq ?_
    refine HT_block ?_
    refine HT_fr DC_ok rfl fun K hK => ?_; (conv => whnf)
    refine hK _ _ _ ?_; clear hK K
    refine HT_fr DC_ok rfl fun K hK => ?_; (conv => whnf)
    refine nlA rfl ?_; (conv => whnf)
    refine blkK_of rfl ?_; (conv => whnf)
    refine getK_of rfl ?_; (conv => whnf)
    refine hK _ _ _ ?_; clear hK K
    refine HT_block ?_
    replace h := W_bd h
    refine HT_lpR (body := order_Reduce_b2 _ _ _) rfl h [1, 2, 4, 6, 7, 19, 20, 24] [1, 2] [4] [6] (fun kl kh kr ids b s => ⟨ofL ([(25, eI s.1)] ++ kl), ofH (([] ++ kh) ++ ([(nthN ids 0, .cells (cA s.2))] ++ kr)), b + 128⟩) ?_; (conv => whnf); refine And.intro ?_ (fun s m h => HT_st ?_)
    · refine weak_r ?_; (conv => whnf)
      exact And.intro rfl (And.intro (allL_c wkI (allL_c (WkR.ptr (fun _ => rfl)) (allL_c (WkR.ptr (fun _ => rfl)) (allL_c (WkR.ptr (fun _ => rfl)) (allL_c (WkR.ptr (fun _ => rfl)) (allL_c wkI (allL_c wkI (allL_c wkI (allL_c wkI allL_n))))))))) (allL_c ⟨some _, rfl, BkR_c rfl (CkR_cons wkI (CkR_cons (wkr (loose_lst fun _ => (lo_A46 _))) CkR_nil))⟩ (allL_c ⟨some _, rfl, BkR_c rfl (CkR_cons wkI (CkR_cons (wkr loose_nils) CkR_nil))⟩ (allL_c ⟨some _, rfl, BkR_arr rfl rfl⟩ (allL_c ⟨some _, rfl, BkR_arr rfl rfl⟩ allL_n)))))
    replace h := W_border_Reduce_b2 (W_bd h)
    refine HT_fr DC_ok rfl fun K hK => ?_; (conv => whnf)
    refine hK _ _ _ ?_; clear hK K
    refine HT_seq ?_
    refine HT_if fun K1 K2 hK1 hK2 => ?_; (conv => whnf)
    refine cond_lk h (fun _ h => ?_) (fun _ h => ?_)
    · refine hK1 ?_; clear hK1 hK2 K1 K2
      refine HT_skip ?_
      refine Then_n ?_
      refine HT_seq ?_
      refine HT_block ?_
      refine HT_fr DC_ok rfl fun K hK => ?_; (conv => whnf)
      refine hK _ _ _ ?_; clear hK K
      refine HT_fr DC_ok rfl fun K hK => ?_; (conv => whnf)
      refine gd_lk h fun hx465 h => ?_; (conv => whnf)
      refine nlA rfl ?_; (conv => whnf)
      refine blkK_of rfl ?_; (conv => whnf)
      refine get_ar1 rfl hx465 ?_; (conv => whnf)
      refine gd_lk h fun _ h => ?_; (conv => whnf)
      refine hK _ _ _ ?_; clear hK K
      replace h := W_jn h
      refine HT_if fun K1 K2 hK1 hK2 => ?_; (conv => whnf)
      refine cond_lk h (fun _ h => ?_) (fun _ h => ?_)
      · refine hK1 ?_; clear hK1 hK2 K1 K2
        refine HT_fD DC_ok mix_ok rfl (by kernel_rfl) fun K hK => ?_; (conv => whnf)
        refine gd_lk h fun hx469 h => ?_; (conv => whnf)
        refine nlA rfl ?_; (conv => whnf)
        refine blkK_of rfl ?_; (conv => whnf)
        refine get_ar1 rfl hx469 ?_; (conv => whnf)
        refine gd_lk h fun hx470 h => ?_; (conv => whnf)
        refine nlA rfl ?_; (conv => whnf)
        refine blkK_of rfl ?_; (conv => whnf)
        refine get_ar1 rfl hx470 ?_; (conv => whnf)
        refine gd_lk h fun hx471 h => ?_; (conv => whnf)
        refine blkK_of rfl ?_; (conv => whnf)
        refine st_ar1 rfl hx471 rfl rfl ?_; (conv => whnf)
        refine hK _ _ _ ?_; clear hK K
        refine InBlock_n ?_
        refine Then_n ?_
        refine HT_f DC_ok rfl fun K hK => ?_; (conv => whnf)
        refine hK _ _ _ ?_; clear hK K
        refine Then_n ?_
        replace h := W_xnx h
        refine ⟨_, h, ?_⟩
        refine weak_r ?_; (conv => whnf)
        exact And.intro rfl (And.intro (allL_c wkI (allL_c (WkR.ptr (fun _ => rfl)) (allL_c (WkR.ptr (fun _ => rfl)) (allL_c (WkR.ptr (fun _ => rfl)) (allL_c (WkR.ptr (fun _ => rfl)) (allL_c wkI (allL_c wkI (allL_c wkI (allL_c wkI allL_n))))))))) (allL_c ⟨some _, rfl, BkR_c rfl (CkR_cons wkI (CkR_cons (wkr (loose_lst fun _ => (lo_A46 _))) CkR_nil))⟩ (allL_c ⟨some _, rfl, BkR_c rfl (CkR_cons wkI (CkR_cons (wkr loose_nils) CkR_nil))⟩ (allL_c ⟨some _, rfl, BkR_arr rfl rfl⟩ (allL_c ⟨some _, rfl, BkR_arr rfl rfl⟩ allL_n)))))
      refine hK2 ?_; clear hK1 hK2 K1 K2
      refine HT_skip ?_
      refine InBlock_n ?_
      refine Then_n ?_
      refine HT_f DC_ok rfl fun K hK => ?_; (conv => whnf)
      refine hK _ _ _ ?_; clear hK K
      refine Then_n ?_
      replace h := W_xnx h
      refine ⟨_, h, ?_⟩
      refine weak_r ?_; (conv => whnf)
      exact And.intro rfl (And.intro (allL_c wkI (allL_c (WkR.ptr (fun _ => rfl)) (allL_c (WkR.ptr (fun _ => rfl)) (allL_c (WkR.ptr (fun _ => rfl)) (allL_c (WkR.ptr (fun _ => rfl)) (allL_c wkI (allL_c wkI (allL_c wkI (allL_c wkI allL_n))))))))) (allL_c ⟨some _, rfl, BkR_c rfl (CkR_cons wkI (CkR_cons (wkr (loose_lst fun _ => (lo_A46 _))) CkR_nil))⟩ (allL_c ⟨some _, rfl, BkR_c rfl (CkR_cons wkI (CkR_cons (wkr loose_nils) CkR_nil))⟩ (allL_c ⟨some _, rfl, BkR_arr rfl rfl⟩ (allL_c ⟨some _, rfl, BkR_arr rfl rfl⟩ allL_n)))))
    refine hK2 ?_; clear hK1 hK2 K1 K2
    refine HT_exit ?_
    refine Then_e ?_
    refine Then_e ?_
    refine InBlock_e ?_
    replace h := W_xbk h
    replace h := W_inl h
    refine InBlock_n ?_
    refine Then_n ?_
    refine HT_f DC_ok rfl fun K hK => ?_; (conv => whnf)
    refine hK _ _ _ ?_; clear hK K
    refine Then_n ?_
    replace h := W_xnx h
    refine ⟨_, h, ?_⟩
    refine weak_r ?_; (conv => whnf)
    exact And.intro rfl (And.intro (allL_c wkI (allL_c (WkR.ptr (fun _ => rfl)) (allL_c (WkR.ptr (fun _ => rfl)) (allL_c (WkR.ptr (fun _ => rfl)) (allL_c (WkR.ptr (fun _ => rfl)) (allL_c wkI allL_n)))))) (allL_c ⟨some _, rfl, BkR_c rfl (CkR_cons wkI (CkR_cons (wkr (loose_lst fun _ => (lo_A46 _))) CkR_nil))⟩ (allL_c ⟨some _, rfl, BkR_c rfl (CkR_cons wkI (CkR_cons (wkr loose_nils) CkR_nil))⟩ (allL_c ⟨some _, rfl, BkR_arr rfl rfl⟩ (allL_c ⟨some _, rfl, BkR_arr rfl rfl⟩ allL_n)))))
  refine hK2 ?_; clear hK1 hK2 K1 K2
  refine HT_exit ?_
  refine Then_e ?_
  refine Then_e ?_
  refine InBlock_e ?_
  replace h := W_xbk h
  replace h := W_inl h
  refine Then_n ?_
  refine HT_fr DC_ok rfl fun K hK => ?_; (conv => whnf)
  refine nlA rfl ?_; (conv => whnf)
  refine blkK_of rfl ?_; (conv => whnf)
  refine getK_of rfl ?_; (conv => whnf)
  refine nlA rfl ?_; (conv => whnf)
  refine blkK_of rfl ?_; (conv => whnf)
  refine ld_ar rfl ?_; (conv => whnf)
  refine forceL_skip ?_; (conv => whnf)
  replace h := W_bd h
  refine order_listed_call h58 h (WkL.refl _) (fun _ h => ?_); (conv => whnf)
  refine blkK_of rfl ?_; (conv => whnf)
  refine And.intro rfl (And.intro (nle rfl) (And.intro rfl ?_)); (conv => whnf)
  refine hK _ _ _ ?_; clear hK K
  refine HT_ret ?_
  replace h := W_some h
  refine PostP_r DC_ok fun K hK => ?_; (conv => whnf)
  refine nlA rfl ?_; (conv => whnf)
  refine blkK_of rfl ?_; (conv => whnf)
  refine nlA rfl ?_; (conv => whnf)
  refine hK _ ?_; clear hK K
  cases h
  exact Wk.refl _
theorem order_Reduce_call {T : Tbl} (hT : T 25 = pureR order_Reduce_S) {args : List AV} {hp : Heap} {id : Nat} {k : AV → Prop} {a0 : TOrder} {Φ : TOrder × Int → Prop} (h : W (order_Reduce_F a0) Φ) (hw : WkL args [eTOrder a0]) (hk : ∀ y, Φ y → k (.tup [eTOrder y.1, eI y.2])) : callpK T 25 args hp id k := by
  obtain ⟨y, e, hy⟩ := W_inv h
  exact callpK_pure hT ⟨a0, rfl, W_of e rfl⟩ (by exact loose_tup (loose_cons (lo_TOrder _) (loose_cons (loose_int _ _) loose_nil))) hw (hk y hy)
def order_Before_F (a0 : TOrder) (a1 : Int) (a2 : Int) : Option Bool := bd (order_read_F a0) fun y1 => jn (fun p2 : Bool => some p2) fun k3 =>
    cn y1.2 (cn (decide ((imin a1 a2) ≥ 0)) (cn (decide ((imax a1 a2) < a0.N)) (gd (0 ≤ a2 ∧ a2 < (8 : Int)) (gd (0 ≤ a1) (let v4 := ((band .i64 (bshr .i64 (y1.1.at1 a2) a1) 1) ==
    1); k3 v4))) (k3 false)) (k3 false)) (k3 false)
def order_Before_S : List AV → AV → Prop := fun args r => ∃ a0 a1 a2, args = [eTOrder a0, eI a1, eI a2] ∧ W (order_Before_F a0 a1 a2) fun y => r = (eB y)
theorem order_Before_ok {T : Tbl} (hT : TOk Tryd.prog T) (hpf : PfOk T PF) (h54 : T 54 = pureR order_read_S) : FOk Tryd.prog 27 (pureR order_Before_S) := by
  refine FOk_pure hT hpf Tryd.func27 rfl Tryd.ntmps27 Tryd.results27 (by decide) ?_
  rintro args r ⟨a0, a1, a2, rfl, h⟩
  refine ⟨nle rfl, ?_, ?_⟩
  · exact (loose_cons (lo_TOrder _) (loose_cons (loose_int _ _) (loose_cons (loose_int _ _) loose_nil)))
  rw [order_Before_F.eq_1] at h
  refine HT_fr DC_ok rfl fun K hK => ?_; (conv => whnf)
  refine hK _ _ _ ?_; clear hK K
  refine HT_fr DC_ok rfl fun K hK => ?_; (conv => whnf)
  refine nlA rfl ?_; (conv => whnf)
  refine blkK_of rfl ?_; (conv => whnf)
  refine nlA rfl ?_; (conv => whnf)
  replace h := W_bd h
  refine order_read_call h54 h (WkL.refl _) (fun _ h => ?_); (conv => whnf)
  refine forceL_skip ?_; (conv => whnf)
  refine forceL_skip ?_; (conv => whnf)
  refine forceL_skip ?_; (conv => whnf)
  refine blkK_of rfl ?_; (conv => whnf)
  refine sw_ar rfl rfl rfl ?_; (conv => whnf)
  refine hK _ _ _ ?_; clear hK K
  refine HT_fr DC_ok rfl fun K hK => ?_; (conv => whnf)
  replace h := W_jn h
  refine cond_lk h (fun _ h => ?_) (fun _ h => ?_) <;> (conv => whnf)
  · refine cond_lk h (fun _ h => ?_) (fun _ h => ?_) <;> (conv => whnf)
    · refine nlA rfl ?_; (conv => whnf)
      refine blkK_of rfl ?_; (conv => whnf)
      refine getK_of rfl ?_; (conv => whnf)
      refine cond_lk h (fun _ h => ?_) (fun _ h => ?_) <;> (conv => whnf)
      · refine gd_lk h fun hx476 h => ?_; (conv => whnf)
        refine nlA rfl ?_; (conv => whnf)
        refine blkK_of rfl ?_; (conv => whnf)
        refine get_ar1 rfl hx476 ?_; (conv => whnf)
        refine gd_lk h fun _ h => ?_; (conv => whnf)
        refine hK _ _ _ ?_; clear hK K
        refine HT_ret ?_
        replace h := W_some h
        refine PostP_r DC_ok fun K hK => ?_; (conv => whnf)
        refine hK _ ?_; clear hK K
        cases h
        exact Wk.refl _
      refine hK _ _ _ ?_; clear hK K
      refine HT_ret ?_
      replace h := W_some h
      refine PostP_r DC_ok fun K hK => ?_; (conv => whnf)
      refine hK _ ?_; clear hK K
      cases h
      exact Wk.refl _
    refine hK _ _ _ ?_; clear hK K
    refine HT_ret ?_
    replace h := W_some h
    refine PostP_r DC_ok fun K hK => ?_; (conv => whnf)
    refine hK _ ?_; clear hK K
    cases h
    exact Wk.refl _
  refine hK _ _ _ ?_; clear hK K
  refine HT_ret ?_
  replace h := W_some h
  refine PostP_r DC_ok fun K hK => ?_; (conv => whnf)
  refine hK _ ?_; clear hK K
  cases h
  exact Wk.refl _
theorem order_Before_call {T : Tbl} (hT : T 27 = pureR order_Before_S) {args : List AV} {hp : Heap} {id : Nat} {k : AV → Prop} {a0 : TOrder} {a1 : Int} {a2 : Int} {Φ : Bool → Prop} (h : W (order_Before_F a0 a1 a2) Φ) (hw : WkL args [eTOrder a0, eI a1, eI a2]) (hk : ∀ y, Φ y → k (eB y)) : callpK T 27 args hp id k := by
  obtain ⟨y, e, hy⟩ := W_inv h
  exact callpK_pure hT ⟨a0, a1, a2, rfl, W_of e rfl⟩ (by exact (loose_bool _)) hw (hk y hy)
def order_Valid_F (a0 : TOrder) : Option Bool := bd (order_read_F a0) fun y1 => some y1.2
def order_Valid_S : List AV → AV → Prop := fun args r => ∃ a0, args = [eTOrder a0] ∧ W (order_Valid_F a0) fun y => r = (eB y)
theorem order_Valid_ok {T : Tbl} (hT : TOk Tryd.prog T) (hpf : PfOk T PF) (h54 : T 54 = pureR order_read_S) : FOk Tryd.prog 34 (pureR order_Valid_S) := by
  refine FOk_pure hT hpf Tryd.func34 rfl Tryd.ntmps34 Tryd.results34 (by decide) ?_
  rintro args r ⟨a0, rfl, h⟩
  refine ⟨nle rfl, ?_, ?_⟩
  · exact (loose_cons (lo_TOrder _) loose_nil)
  rw [order_Valid_F.eq_1] at h
  refine HT_fr DC_ok rfl fun K hK => ?_; (conv => whnf)
  refine hK _ _ _ ?_; clear hK K
  refine HT_fr DC_ok rfl fun K hK => ?_; (conv => whnf)
  refine nlA rfl ?_; (conv => whnf)
  refine blkK_of rfl ?_; (conv => whnf)
  refine nlA rfl ?_; (conv => whnf)
  replace h := W_bd h
  refine order_read_call h54 h (WkL.refl _) (fun _ h => ?_); (conv => whnf)
  refine forceL_skip ?_; (conv => whnf)
  refine forceL_skip ?_; (conv => whnf)
  refine forceL_skip ?_; (conv => whnf)
  refine blkK_of rfl ?_; (conv => whnf)
  refine sw_ar rfl rfl rfl ?_; (conv => whnf)
  refine hK _ _ _ ?_; clear hK K
  refine HT_fr DC_ok rfl fun K hK => ?_; (conv => whnf)
  refine hK _ _ _ ?_; clear hK K
  refine HT_ret ?_
  replace h := W_some h
  refine PostP_r DC_ok fun K hK => ?_; (conv => whnf)
  refine hK _ ?_; clear hK K
  cases h
  exact Wk.refl _
theorem order_Valid_call {T : Tbl} (hT : T 34 = pureR order_Valid_S) {args : List AV} {hp : Heap} {id : Nat} {k : AV → Prop} {a0 : TOrder} {Φ : Bool → Prop} (h : W (order_Valid_F a0) Φ) (hw : WkL args [eTOrder a0]) (hk : ∀ y, Φ y → k (eB y)) : callpK T 34 args hp id k := by
  obtain ⟨y, e, hy⟩ := W_inv h
  exact callpK_pure hT ⟨a0, rfl, W_of e rfl⟩ (by exact (loose_bool _)) hw (hk y hy)
end Go.Proofs.YtlmboonbfhkfnaaDoor
namespace Go.Proofs.YtlmboonbfhkfnaaDoor
open Go Go.Eng
set_option maxHeartbeats 0
set_option maxRecDepth 100000
def order_prefixes_S : List AV → AV → Prop := fun args r => ∃ (a0 : Int) (a1 : Ar 8), args = [eI a0, eAr a1] ∧ r = .fn 81 [] [.ep [eI a0] 0, .ep (cA a1) 0]
theorem order_prefixes_ok {T : Tbl} (hT : TOk Tryd.prog T) (hpf : PfOk T PF) : FOk Tryd.prog 56 (pureR order_prefixes_S) := by
  refine FOk_pure hT hpf Tryd.func56 rfl Tryd.ntmps56 Tryd.results56 (by decide) ?_
  rintro args r ⟨a0, a1, rfl, rfl⟩
  refine ⟨nle rfl, ?_, ?_⟩
  · exact (loose_cons (loose_int _ _) (loose_cons (loose_arr _) loose_nil))
  refine HT_fr DC_ok rfl fun K hK => ?_; (conv => whnf)
  refine forceL_skip ?_; (conv => whnf)
  refine hK _ _ _ ?_; clear hK K
  refine HT_frzK 2 ?_; (conv => whnf); refine ⟨_, rfl, ?_⟩
  refine HT_frzK 3 ?_; (conv => whnf); refine ⟨_, rfl, ?_⟩
  refine HT_fr DC_ok rfl fun K hK => ?_; (conv => whnf)
  refine hK _ _ _ ?_; clear hK K
  refine HT_ret ?_
  refine PostP_r DC_ok fun K hK => ?_; (conv => whnf)
  refine hK _ ?_; clear hK K
  exact Wk.refl _

    def order_prefixes_1_b2 (a9000 : Type) (c900 : Int) (c901 : Ar 8) (s1 : Int × a9000) (s2 : Int × Int) : Option (Ct (Int × Int) a9000) := cn (decide (s2.2 < c900)) (gd (0 ≤ s2.2) (jn (fun p3 : Int =>
    some (.nx (p3, (wr (s2.2 + 1))))) fun k4 => cn ((band .i64 (bshr .i64 s1.1 s2.2) 1) == 1) (gd (0 ≤ s2.2 ∧ s2.2 < (8 : Int)) (let v5 := (bor .i64 s2.1 (c901.at1 s2.2));
    k4 v5)) (k4 s2.1))) (some (.bk (s2.1, s2.2)))
theorem W_border_prefixes_1_b2 {a9000 : Type} {c900 : Int} {c901 : Ar 8} {s1 : Int × a9000} {s2 : Int × Int} {Φ : Ct (Int × Int) a9000 → Prop} (h : W (order_prefixes_1_b2 a9000 c900 c901 s1 s2) Φ) : W (cn (decide (s2.2 < c900)) (gd (0 ≤ s2.2) (jn (fun p3 : Int => some (.nx (p3, (wr (s2.2 + 1))))) fun k4 => cn ((band .i64 (bshr .i64 s1.1 s2.2) 1) ==
    1) (gd (0 ≤ s2.2 ∧ s2.2 < (8 : Int)) (let v5 := (bor .i64 s2.1 (c901.at1 s2.2)); k4 v5)) (k4 s2.1))) (some (.bk (s2.1, s2.2)))) Φ := h

    def order_prefixes_1_b1 (a9000 : Type) (c900 : Int) (c901 : Ar 8) (f9001 : Int → a9000 → Option a9000) (s1 : Int × a9000) : Option (Ct (Int × a9000) a9000) := cn (decide (s1.1 < (bshl .i64 1 c900))) (bd (lp (order_prefixes_1_b2 a9000 c900 c901 s1) FU (0, 0)) fun c6 =>
    smK c6 (fun s7 => jn (fun p9 : a9000 => some (.nx ((wr (s1.1 + 1)), p9))) fun k10 => cn ((bandNot .i64 s7.1 s1.1) == 0) (bd (f9001 s1.1 s1.2) fun g11 =>
    k10 g11) (k10 s1.2)) (fun r8 => some (.rt r8))) (some (.bk (s1.1, s1.2)))
theorem W_border_prefixes_1_b1 {a9000 : Type} {c900 : Int} {c901 : Ar 8} {f9001 : Int → a9000 → Option a9000} {s1 : Int × a9000} {Φ : Ct (Int × a9000) a9000 → Prop} (h : W (order_prefixes_1_b1 a9000 c900 c901 f9001 s1) Φ) : W (cn (decide (s1.1 < (bshl .i64 1 c900))) (bd (lp (order_prefixes_1_b2 a9000 c900 c901 s1) FU (0, 0)) fun c6 => smK c6 (fun s7 => jn (fun p9 : a9000 =>
    some (.nx ((wr (s1.1 + 1)), p9))) fun k10 => cn ((bandNot .i64 s7.1 s1.1) == 0) (bd (f9001 s1.1 s1.2) fun g11 => k10 g11) (k10 s1.2)) (fun r8 =>
    some (.rt r8))) (some (.bk (s1.1, s1.2)))) Φ := h

    def order_prefixes_1_F (c900 : Int) (c901 : Ar 8) (a9000 : Type) (f9001 : Int → a9000 → Option a9000) (g9002 : a9000) : Option a9000 := gd (0 ≤ c900) (bd (lp (order_prefixes_1_b1 a9000 c900 c901 f9001) FU (0, g9002)) fun c12 =>
    smK c12 (fun s13 => some s13.2) (fun r14 => some r14))
def order_prefixes_1_C : List AV → (∀ σ : Type, (Int → σ → Option σ) → σ → Option σ) → Prop := fun caps F => ∃ (c900 : Int) (c901 : Ar 8), caps = [.ep [eI c900] 0, .ep (cA c901) 0] ∧ F = order_prefixes_1_F c900 c901
theorem order_prefixes_1_ok {T : Tbl} (hT : TOk Tryd.prog T) (hpf : PfOk T PF) : FOk Tryd.prog 81 (itR Tryd.prog (fun x => [Value.int .i64 x]) order_prefixes_1_C) := by
  refine FOk_it hT hpf Tryd.func81 rfl Tryd.ntmps81 Tryd.results81 (by decide) ?_
  rintro caps F ⟨c900, c901, rfl, rfl⟩
  refine ⟨(loose_cons (loose_ep (loose_cons (loose_int _ _) loose_nil)) (loose_cons (loose_ep (cA_loose _)) loose_nil)), nle rfl, fun gS gG a9000 gi f9001 g9002 gfin hP hY h => ?_⟩
  rw [order_prefixes_1_F.eq_1] at h
  refine HT_fr DC_ok rfl fun K hK => ?_; (conv => whnf)
  refine getK_of rfl ?_; (conv => whnf)
  refine gd_lk h fun _ h => ?_; (conv => whnf)
  refine hK _ _ _ ?_; clear hK K
  refine HT_block ?_
  replace h := W_bd h
  refine HT_lpK (body := order_prefixes_1_b1 _ _ _ _) rfl h [0, 1, 2, 8] [] [] (fun kl kh ids b s => ⟨ofL ([(9, eI s.1)] ++ kl), ofH ([(0, .gh gS gG (gi s.2))] ++ kh), b + 64⟩) ?_; (conv => whnf); refine And.intro ?_ (fun s m h => HT_st ?_)
  · refine weak_k ?_; (conv => whnf)
    exact And.intro rfl (And.intro (allL_c wkI (allL_c (WkR_yld (fun _ => rfl)) (allL_c (wkr (loose_ep (loose_cons (loose_int _ _) loose_nil))) (allL_c (wkr (loose_ep (cA_loose _))) (allL_c wkI allL_n))))) (allL_c ⟨some _, rfl, BkR_g rfl⟩ allL_n))
  replace h := W_border_prefixes_1_b1 (W_bd h)
  refine HT_fr DC_ok rfl fun K hK => ?_; (conv => whnf)
  refine hK _ _ _ ?_; clear hK K
  refine HT_seq ?_
  refine HT_if fun K1 K2 hK1 hK2 => ?_; (conv => whnf)
  refine cond_lk h (fun _ h => ?_) (fun _ h => ?_)
  · refine hK1 ?_; clear hK1 hK2 K1 K2
    refine HT_skip ?_
    refine Then_n ?_
    refine HT_seq ?_
    refine HT_block ?_
    refine HT_fr DC_ok rfl fun K hK => ?_; (conv => whnf)
    refine hK _ _ _ ?_; clear hK K
    refine HT_fr DC_ok rfl fun K hK => ?_; (conv => whnf)
    refine hK _ _ _ ?_; clear hK K
    refine HT_seq ?_
    refine HT_fr DC_ok rfl fun K hK => ?_; (conv => whnf)
    refine getK_of rfl ?_; (conv => whnf)
    refine hK _ _ _ ?_; clear hK K
    refine HT_block ?_
    replace h := W_bd h
    refine HT_lpG (body := order_prefixes_1_b2 _ _ _ _) rfl h [0, 1, 2, 4, 8, 9, 12] (fun σ => keepG σ ++ keepH σ [] ++ keepT σ []) [] (fun kl kh ids b s => ⟨ofL ([(5, eI s.1), (13, eI s.2)] ++ kl), ofH ([] ++ kh), b + 64⟩) ?_; (conv => whnf); refine And.intro ?_ (fun s m h => HT_st ?_)
    · refine weak_k ?_; (conv => whnf)
      exact And.intro rfl (And.intro (allL_c wkI (allL_c wkI (allL_c (WkR_yld (fun _ => rfl)) (allL_c (wkr (loose_ep (loose_cons (loose_int _ _) loose_nil))) (allL_c (wkr (loose_ep (cA_loose _))) (allL_c wkI (allL_c wkI (allL_c wkI (allL_c wkI allL_n))))))))) (allL_c ⟨some _, rfl, BkR_g rfl⟩ allL_n))
    replace h := W_border_prefixes_1_b2 (W_bd h)
    refine HT_fr DC_ok rfl fun K hK => ?_; (conv => whnf)
    refine hK _ _ _ ?_; clear hK K
    refine HT_seq ?_
    refine HT_if fun K1 K2 hK1 hK2 => ?_; (conv => whnf)
    refine cond_lk h (fun _ h => ?_) (fun _ h => ?_)
    · refine hK1 ?_; clear hK1 hK2 K1 K2
      refine HT_skip ?_
      refine Then_n ?_
      refine HT_seq ?_
      refine HT_block ?_
      refine HT_fr DC_ok rfl fun K hK => ?_; (conv => whnf)
      refine hK _ _ _ ?_; clear hK K
      refine HT_fr DC_ok rfl fun K hK => ?_; (conv => whnf)
      refine gd_lk h fun _ h => ?_; (conv => whnf)
      refine hK _ _ _ ?_; clear hK K
      replace h := W_jn h
      refine HT_if fun K1 K2 hK1 hK2 => ?_; (conv => whnf)
      refine cond_lk h (fun _ h => ?_) (fun _ h => ?_)
      · refine hK1 ?_; clear hK1 hK2 K1 K2
        refine HT_f DC_ok rfl fun K hK => ?_; (conv => whnf)
        refine gd_lk h fun hx200 h => ?_; (conv => whnf)
        refine get_ar1 rfl hx200 ?_; (conv => whnf)
        refine hK _ _ _ ?_; clear hK K
        refine InBlock_n ?_
        refine Then_n ?_
        refine HT_f DC_ok rfl fun K hK => ?_; (conv => whnf)
        refine hK _ _ _ ?_; clear hK K
        refine Then_n ?_
        replace h := W_xnx h
        refine ⟨_, h, ?_⟩
        refine weak_k ?_; (conv => whnf)
        exact And.intro rfl (And.intro (allL_c wkI (allL_c wkI (allL_c (WkR_yld (fun _ => rfl)) (allL_c (wkr (loose_ep (loose_cons (loose_int _ _) loose_nil))) (allL_c (wkr (loose_ep (cA_loose _))) (allL_c wkI (allL_c wkI (allL_c wkI (allL_c wkI allL_n))))))))) (allL_c ⟨some _, rfl, BkR_g rfl⟩ allL_n))
      refine hK2 ?_; clear hK1 hK2 K1 K2
      refine HT_skip ?_
      refine InBlock_n ?_
      refine Then_n ?_
      refine HT_f DC_ok rfl fun K hK => ?_; (conv => whnf)
      refine hK _ _ _ ?_; clear hK K
      refine Then_n ?_
      replace h := W_xnx h
      refine ⟨_, h, ?_⟩
      refine weak_k ?_; (conv => whnf)
      exact And.intro rfl (And.intro (allL_c wkI (allL_c wkI (allL_c (WkR_yld (fun _ => rfl)) (allL_c (wkr (loose_ep (loose_cons (loose_int _ _) loose_nil))) (allL_c (wkr (loose_ep (cA_loose _))) (allL_c wkI (allL_c wkI (allL_c wkI (allL_c wkI allL_n))))))))) (allL_c ⟨some _, rfl, BkR_g rfl⟩ allL_n))
    refine hK2 ?_; clear hK1 hK2 K1 K2
    refine HT_exit ?_
    refine Then_e ?_
    refine Then_e ?_
    refine InBlock_e ?_
    replace h := W_xbk h
    replace h := W_inl h
    refine Then_n ?_
    refine HT_fr DC_ok rfl fun K hK => ?_; (conv => whnf)
    replace h := W_jn h
    refine cond_lk h (fun _ h => ?_) (fun _ h => ?_) <;> (conv => whnf)
    · refine yld_lk hY hP h rfl (vinv_int _) (fun _ h => ?_); (conv => whnf)
      refine hK _ _ _ ?_; clear hK K
      refine HT_if fun K1 K2 hK1 hK2 => ?_; (conv => whnf)
      refine hK2 ?_; clear hK1 hK2 K1 K2
      refine HT_skip ?_
      refine InBlock_n ?_
      refine Then_n ?_
      refine HT_f DC_ok rfl fun K hK => ?_; (conv => whnf)
      refine hK _ _ _ ?_; clear hK K
      refine Then_n ?_
      replace h := W_xnx h
      refine ⟨_, h, ?_⟩
      refine weak_k ?_; (conv => whnf)
      exact And.intro rfl (And.intro (allL_c wkI (allL_c (WkR_yld (fun _ => rfl)) (allL_c (wkr (loose_ep (loose_cons (loose_int _ _) loose_nil))) (allL_c (wkr (loose_ep (cA_loose _))) (allL_c wkI allL_n))))) (allL_c ⟨some _, rfl, BkR_g rfl⟩ allL_n))
    refine hK _ _ _ ?_; clear hK K
    refine HT_if fun K1 K2 hK1 hK2 => ?_; (conv => whnf)
    refine hK2 ?_; clear hK1 hK2 K1 K2
    refine HT_skip ?_
    refine InBlock_n ?_
    refine Then_n ?_
    refine HT_f DC_ok rfl fun K hK => ?_; (conv => whnf)
    refine hK _ _ _ ?_; clear hK K
    refine Then_n ?_
    replace h := W_xnx h
    refine ⟨_, h, ?_⟩
    refine weak_k ?_; (conv => whnf)
    exact And.intro rfl (And.intro (allL_c wkI (allL_c (WkR_yld (fun _ => rfl)) (allL_c (wkr (loose_ep (loose_cons (loose_int _ _) loose_nil))) (allL_c (wkr (loose_ep (cA_loose _))) (allL_c wkI allL_n))))) (allL_c ⟨some _, rfl, BkR_g rfl⟩ allL_n))
  refine hK2 ?_; clear hK1 hK2 K1 K2
  refine HT_exit ?_
  refine Then_e ?_
  refine Then_e ?_
  refine InBlock_e ?_
  replace h := W_xbk h
  replace h := W_inl h
  replace h := W_some h
  cases h
  exact ⟨rfl, rfl⟩
end Go.Proofs.YtlmboonbfhkfnaaDoor
namespace Go.Proofs.YtlmboonbfhkfnaaDoor
open Go Go.Eng
set_option maxHeartbeats 0
set_option maxRecDepth 100000

def col_b (x : Int) (l : List Int) : Option (List Int) := ap l [x] some
def col_res (y : List Int) (b : Nat) : AV := .so b 0 y.length 1
def col_blk (y : List Int) : List AB := [.cells (flE (ceE eI) y)]
def slices_Collect_int_F (a0 : Int) (a1 : Ar 8) : Option (List Int) := order_prefixes_1_F a0 a1 (List Int) col_b []
def slices_AppendSeq_int_S : List AV → List Int → Prop := fun args y => ∃ (a0 : Int) (a1 : Ar 8), args = [.nils, .fn 81 [] [.ep [eI a0] 0, .ep (cA a1) 0]] ∧ slices_Collect_int_F a0 a1 = some y
def slices_Collect_int_S : List AV → List Int → Prop := fun args y => ∃ (a0 : Int) (a1 : Ar 8), args = [.fn 81 [] [.ep [eI a0] 0, .ep (cA a1) 0]] ∧ slices_Collect_int_F a0 a1 = some y
theorem slices_AppendSeq_int_ok {T : Tbl} (hT : TOk Tryd.prog T) (hpf : PfOk T PF) (h81 : T 81 = itR Tryd.prog (fun x => [Value.int .i64 x]) order_prefixes_1_C) : FOk Tryd.prog 80 (ownR col_res col_blk slices_AppendSeq_int_S) := by
  refine FOk_own hT hpf Tryd.func80 rfl Tryd.ntmps80 Tryd.results80 (by decide) (fun y => ⟨by simp [col_blk], by simp [col_blk, noGh]⟩) ?_
  rintro args y ⟨a0, a1, rfl, hF⟩
  have lofn : (AV.fn 81 [] [.ep [eI a0] 0, .ep (cA a1) 0]).loose := (loose_fn loose_nil (loose_cons (loose_ep (loose_cons (loose_int _ _) loose_nil)) (loose_cons (loose_ep (cA_loose _)) loose_nil)))
  refine ⟨nle rfl, (loose_cons loose_nils (loose_cons lofn loose_nil)), fun base => ?_⟩
  refine HT_fr DC_ok rfl fun K hK => ?_; (conv => whnf)
  refine hK _ _ _ ?_; clear hK K
  refine HT_seq ?_
  refine HT_fr DC_ok rfl fun K hK => ?_; (conv => whnf)
  refine hK _ _ _ ?_; clear hK K
  refine HT_block ?_
  refine HT_weakN rfl rfl (n := 32) (Nat.le_refl _) (σ' := ⟨ofL [(2, .ptr 32 0), (6, .fn 81 [] [.ep [eI a0] 0, .ep (cA a1) 0])], ofH [(32, .cells [.so 48 0 ([] : List Int).length 1]), (48, .cells (flE (ceE eI) ([] : List Int)))], 1024⟩)
    (weak_ofN (by decide) [(32, some 64), (48, none)] ⟨WkR.ptr (fun _ => rfl), wkr lofn, trivial⟩ ⟨⟨_, rfl, BkR_c rfl (CkR_cons (WkR.nilso (fun _ => rfl)) CkR_nil)⟩, ⟨_, rfl, BkR_nr⟩, trivial⟩ rfl) ?_
  refine HT_rngSM 48 (by decide) (by decide) rfl rfl (fun x => [eI x]) vx_int (fun _ => rfl) (by decide) h81 rfl (F := order_prefixes_1_F _ _) (y := col_b) hF ⟨_, _, rfl, rfl⟩ (nle rfl)
    (am_ofL (allL_c (am_ptr (by decide)) (allL_c (am_loose lofn) allL_n))) (fun l : List Int => [(32, .cells [.so 48 0 l.length 1]), (48, .cells (flE (ceE eI) l))]) (fun s => (allL_c rfl (allL_c rfl allL_n))) (fun x s gfin h => ?_) ?_
  · rw [col_b.eq_1] at h
    refine HT_f DC_ok rfl fun K hK => ?_; (conv => whnf)
    refine hK _ _ _ ?_; clear hK K
    refine Then_n ?_
    refine HT_block ?_
    refine HT_f DC_ok rfl fun K hK => ?_; (conv => whnf)
    refine nlA rfl ?_; (conv => whnf)
    refine blkK_of rfl ?_; (conv => whnf)
    refine getK_of rfl ?_; (conv => whnf)
    refine lt_lk (enc := eI) (d := default) (l := [x]) (f := some) (Φ := fun _ => True) DC_ok (W_of (a := [x]) (by unfold lt; rfl) trivial) rfl rfl rfl ⟨nle rfl, nle rfl, rfl⟩ rfl ⟨⟨rfl, rfl, rfl⟩, trivial⟩ (fun _ => ?_); (conv => whnf)
    refine apo_lk (enc := eI) (d := default) DC_ok h rfl rfl rfl ⟨rfl, nle rfl, nle rfl, nle rfl, rfl⟩ (fun _ => rfl) (fun _ => rfl) (fun _ => nofun) rfl rfl (fun h => ?_); (conv => whnf)
    refine blkK_of rfl ?_; (conv => whnf)
    refine And.intro rfl (And.intro (nle rfl) (And.intro rfl ?_)); (conv => whnf)
    refine hK _ _ _ ?_; clear hK K
    refine InBlock_n ?_
    replace h := W_some h
    cases h
    refine ⟨rfl, _, weak_ofN (by decide) [(48, some 1344)] trivial ⟨⟨_, rfl, BkR_c rfl (CkR_cons (WkR.so (fun _ => rfl)) CkR_nil)⟩, ⟨_, rfl, BkR_r rfl (fun _ => (loose_cons (loose_int _ _) loose_nil))⟩, trivial⟩ rfl⟩
  refine InBlock_n ?_
  refine Then_n ?_
  refine HT_weakN rfl rfl (n := 32) (Nat.le_refl _) (σ' := ⟨ofL [(2, .ptr 32 0)], ofH [(32, .cells [.so 64 0 y.length 1]), (64, .cells (flE (ceE eI) y))], 2048⟩)
    (weak_48 (by decide) ⟨WkR.ptr (fun _ => rfl), trivial⟩ ⟨⟨_, rfl, BkR_c rfl (CkR_cons (WkR.so (fun _ => rfl)) CkR_nil)⟩, ⟨_, rfl, BkR_r rfl (fun _ => (loose_cons (loose_int _ _) loose_nil))⟩, trivial⟩) ?_
  refine HT_fr DC_ok rfl fun K hK => ?_; (conv => whnf)
  refine nlA rfl ?_; (conv => whnf)
  refine blkK_of rfl ?_; (conv => whnf)
  refine getK_of rfl ?_; (conv => whnf)
  refine hK _ _ _ ?_; clear hK K
  refine HT_ret ?_
  refine PostO_r DC_ok fun K hK => ?_; (conv => whnf)
  refine hK _ ?_; clear hK K
  refine ⟨rfl, rfl, rfl, WkB_soN (mm_ns (k := 0) rfl) rfl, fun k n x h1 h2 => ?_⟩
  exact match k, n, x, h1, h2 with | 0, n, x, h1, h2 => by cases h1; cases h2; exact ⟨_, rfl, BkX_fl (fun _ => (loose_cons (loose_int _ _) loose_nil)) _⟩ | k + 1, n, x, h1, h2 => by cases h1
theorem slices_Collect_int_ok {T : Tbl} (hT : TOk Tryd.prog T) (hpf : PfOk T PF) (h80 : T 80 = ownR col_res col_blk slices_AppendSeq_int_S) : FOk Tryd.prog 55 (ownR col_res col_blk slices_Collect_int_S) := by
  refine FOk_own hT hpf Tryd.func55 rfl Tryd.ntmps55 Tryd.results55 (by decide) (fun y => ⟨by simp [col_blk], by simp [col_blk, noGh]⟩) ?_
  rintro args y ⟨a0, a1, rfl, hF⟩
  have lofn : (AV.fn 81 [] [.ep [eI a0] 0, .ep (cA a1) 0]).loose := (loose_fn loose_nil (loose_cons (loose_ep (loose_cons (loose_int _ _) loose_nil)) (loose_cons (loose_ep (cA_loose _)) loose_nil)))
  refine ⟨nle rfl, (loose_cons lofn loose_nil), fun base => ?_⟩
  have h : W (bd (slices_Collect_int_F a0 a1) some) (fun z => z = y) := W_of (a := y) (by rw [hF]; unfold bd; rfl) rfl
  refine HT_fr DC_ok rfl fun K hK => ?_; (conv => whnf)
  refine hK _ _ _ ?_; clear hK K
  refine HT_fr DC_ok rfl fun K hK => ?_; (conv => whnf)
  refine callsK_own h80 h (fun y e => (⟨_, _, rfl, e⟩ : slices_AppendSeq_int_S _ _)) (WkL.refl _) (fun _ h => ?_); (conv => whnf)
  refine hK _ _ _ ?_; clear hK K
  refine HT_ret ?_
  replace h := W_some h
  refine PostO_r DC_ok fun K hK => ?_; (conv => whnf)
  refine hK _ ?_; clear hK K
  cases h
  refine ⟨rfl, rfl, rfl, WkB_soN (mm_ns (k := 0) rfl) rfl, fun k n x h1 h2 => ?_⟩
  exact match k, n, x, h1, h2 with | 0, n, x, h1, h2 => by cases h1; cases h2; exact ⟨_, rfl, BkX_fl (fun _ => (loose_cons (loose_int _ _) loose_nil)) _⟩ | k + 1, n, x, h1, h2 => by cases h1

end Go.Proofs.YtlmboonbfhkfnaaDoor
namespace Go.Proofs.YtlmboonbfhkfnaaDoor
open Go Go.Eng
set_option maxHeartbeats 0
set_option maxRecDepth 100000
def order_Prefixes_F (a0 : TOrder) : Option ((List Int) × Int) := bd (order_read_F a0) fun y1 => cn (!y1.2) (some ([], 70)) (bd (slices_Collect_int_F a0.N y1.1) fun y2 =>
    some (y2, 0))
def order_Prefixes_S : List AV → AV → Prop := fun args r => ∃ a0, args = [eTOrder a0] ∧ W (order_Prefixes_F a0) fun y => r = (.tup [(eL 1 eI default) y.1, eI y.2])
theorem order_Prefixes_ok {T : Tbl} (hT : TOk Tryd.prog T) (hpf : PfOk T PF) (h54 : T 54 = pureR order_read_S) (h55 : T 55 = ownR col_res col_blk slices_Collect_int_S) (h56 : T 56 = pureR order_prefixes_S) : FOk Tryd.prog 18 (pureR order_Prefixes_S) := by
  refine FOk_pure hT hpf Tryd.func18 rfl Tryd.ntmps18 Tryd.results18 (by decide) ?_
  rintro args r ⟨a0, rfl, h⟩
  refine ⟨nle rfl, ?_, ?_⟩
  · exact (loose_cons (lo_TOrder _) loose_nil)
  rw [order_Prefixes_F.eq_1] at h
  refine HT_fr DC_ok rfl fun K hK => ?_; (conv => whnf)
  refine hK _ _ _ ?_; clear hK K
  refine HT_fr DC_ok rfl fun K hK => ?_; (conv => whnf)
  refine nlA rfl ?_; (conv => whnf)
  refine blkK_of rfl ?_; (conv => whnf)
  refine nlA rfl ?_; (conv => whnf)
  replace h := W_bd h
  refine order_read_call h54 h (WkL.refl _) (fun _ h => ?_); (conv => whnf)
  refine forceL_skip ?_; (conv => whnf)
  refine forceL_skip ?_; (conv => whnf)
  refine forceL_skip ?_; (conv => whnf)
  refine blkK_of rfl ?_; (conv => whnf)
  refine sw_ar rfl rfl rfl ?_; (conv => whnf)
  refine hK _ _ _ ?_; clear hK K
  refine HT_seq ?_
  refine HT_fr DC_ok rfl fun K hK => ?_; (conv => whnf)
  refine hK _ _ _ ?_; clear hK K
  refine HT_if fun K1 K2 hK1 hK2 => ?_; (conv => whnf)
  refine cond_lk h (fun _ h => ?_) (fun _ h => ?_)
  · refine hK1 ?_; clear hK1 hK2 K1 K2
    refine HT_fr DC_ok rfl fun K hK => ?_; (conv => whnf)
    refine hK _ _ _ ?_; clear hK K
    refine HT_ret ?_
    refine Then_r ?_
    replace h := W_some h
    refine PostP_r DC_ok fun K hK => ?_; (conv => whnf)
    refine hK _ ?_; clear hK K
    cases h
    exact Wk_tup (WkL_cons Wk_nil (WkL_cons (Wk.refl _) WkL_nil))
  refine hK2 ?_; clear hK1 hK2 K1 K2
  refine HT_skip ?_
  refine Then_n ?_
  refine HT_fr DC_ok rfl fun K hK => ?_; (conv => whnf)
  refine nlA rfl ?_; (conv => whnf)
  refine blkK_of rfl ?_; (conv => whnf)
  refine getK_of rfl ?_; (conv => whnf)
  refine nlA rfl ?_; (conv => whnf)
  refine blkK_of rfl ?_; (conv => whnf)
  refine ld_ar rfl ?_; (conv => whnf)
  refine forceL_skip ?_; (conv => whnf)
  refine callpK_pure h56 (S := order_prefixes_S) ⟨_, _, rfl, rfl⟩ (loose_fn loose_nil (loose_cons (loose_ep (loose_cons (loose_int _ _) loose_nil)) (loose_cons (loose_ep (cA_loose _)) loose_nil))) (WkL.refl _) ?_; (conv => whnf)
  refine callsK_own h55 h (fun y e => (⟨_, _, rfl, e⟩ : slices_Collect_int_S _ _)) (WkL.refl _) (fun _ h => ?_); (conv => whnf)
  refine hK _ _ _ ?_; clear hK K
  refine HT_frzSK 2 (enc := eI) (e := 3) default (ElOk_one DC_ok rfl rfl rfl (fun _ => ⟨rfl, rfl⟩)) ?_; (conv => whnf); refine ⟨_, _, rfl, rfl, rfl, ?_⟩
  refine HT_ret ?_
  replace h := W_some h
  refine PostP_r DC_ok fun K hK => ?_; (conv => whnf)
  refine hK _ ?_; clear hK K
  cases h
  exact Wk.refl _
theorem order_Prefixes_call {T : Tbl} (hT : T 18 = pureR order_Prefixes_S) {args : List AV} {hp : Heap} {id : Nat} {k : AV → Prop} {a0 : TOrder} {Φ : (List Int) × Int → Prop} (h : W (order_Prefixes_F a0) Φ) (hw : WkL args [eTOrder a0]) (hk : ∀ y, Φ y → k (.tup [(eL 1 eI default) y.1, eI y.2])) : callpK T 18 args hp id k := by
  obtain ⟨y, e, hy⟩ := W_inv h
  exact callpK_pure hT ⟨a0, rfl, W_of e rfl⟩ (by exact loose_tup (loose_cons (loose_lst fun _ => (loose_int _ _)) (loose_cons (loose_int _ _) loose_nil))) hw (hk y hy)
end Go.Proofs.YtlmboonbfhkfnaaDoor
namespace Go.Proofs.YtlmboonbfhkfnaaDoor
open Go Go.Eng
set_option maxHeartbeats 0
set_option maxRecDepth 100000
def order_Lines_b2 (a0 : TOrder) (x3 : Int) (s6 : Int × (GM Int)) : Option (Ct (Int × (GM Int)) ((GM Int))) := cn (decide (s6.1 < a0.N)) (gd (0 ≤ s6.1) (jn (fun p7 : (GM Int) =>
    some (.nx ((wr (s6.1 + 1)), p7))) fun k8 => cn ((band .i64 (bshr .i64 x3 s6.1) 1) ==
    1) (gd (0 ≤ s6.1) (let m9 := s6.2.put x3 (wr ((s6.2.get x3 0) + (s6.2.get (bandNot .i64 x3 (bshl .i64 1 s6.1)) 0))); k8 m9)) (k8 s6.2))) (some (.bk (s6.1, s6.2)))
theorem W_border_Lines_b2 {a0 : TOrder} {x3 : Int} {s6 : Int × (GM Int)} {Φ : Ct (Int × (GM Int)) ((GM Int)) → Prop} (h : W (order_Lines_b2 a0 x3 s6) Φ) : W (cn (decide (s6.1 < a0.N)) (gd (0 ≤ s6.1) (jn (fun p7 : (GM Int) => some (.nx ((wr (s6.1 + 1)), p7))) fun k8 => cn ((band .i64 (bshr .i64 x3 s6.1) 1) ==
    1) (gd (0 ≤ s6.1) (let m9 := s6.2.put x3 (wr ((s6.2.get x3 0) + (s6.2.get (bandNot .i64 x3 (bshl .i64 1 s6.1)) 0))); k8 m9)) (k8 s6.2))) (some (.bk (s6.1, s6.2)))) Φ := h
def order_Lines_b1 (a0 : TOrder) (x3 : Int) (s4 : (GM Int)) : Option ((GM Int)) := bd (lp (order_Lines_b2 a0 x3) FU (0, s4)) fun c10 => smK c10 (fun s11 => some s11.2) (fun r12 =>
    some r12)
def order_Lines_F (a0 : TOrder) : Option (Int × Int) := bd (order_read_F a0) fun y1 => cn (!y1.2) (some (0, 70)) (let m2 := (GM.mt Int).put 0 1;
    bd (order_prefixes_1_F a0.N y1.1 ((GM Int)) (order_Lines_b1 a0) m2) fun s5 => gd (0 ≤ a0.N) (let v13 := (s5.get (wr ((bshl .i64 1 a0.N) - 1)) 0); some (v13, 0)))
def order_Lines_S : List AV → AV → Prop := fun args r => ∃ a0, args = [eTOrder a0] ∧ W (order_Lines_F a0) fun y => r = (.tup [eI y.1, eI y.2])
theorem order_Lines_ok {T : Tbl} (hT : TOk Tryd.prog T) (hpf : PfOk T PF) (h54 : T 54 = pureR order_read_S) (h56 : T 56 = pureR order_prefixes_S) (h81 : T 81 = itR Tryd.prog (fun x => [Value.int .i64 x]) order_prefixes_1_C) : FOk Tryd.prog 20 (pureR order_Lines_S) := by
  refine FOk_pure hT hpf Tryd.func20 rfl Tryd.ntmps20 Tryd.results20 (by decide) ?_
  rintro args r ⟨a0, rfl, h⟩
  refine ⟨nle rfl, ?_, ?_⟩
  · exact (loose_cons (lo_TOrder _) loose_nil)
  rw [order_Lines_F.eq_1] at h
  refine HT_fr DC_ok rfl fun K hK => ?_; (conv => whnf)
  refine hK _ _ _ ?_; clear hK K
  refine HT_fr DC_ok rfl fun K hK => ?_; (conv => whnf)
  refine nlA rfl ?_; (conv => whnf)
  refine blkK_of rfl ?_; (conv => whnf)
  refine nlA rfl ?_; (conv => whnf)
  replace h := W_bd h
  refine order_read_call h54 h (WkL.refl _) (fun _ h => ?_); (conv => whnf)
  refine forceL_skip ?_; (conv => whnf)
  refine forceL_skip ?_; (conv => whnf)
  refine forceL_skip ?_; (conv => whnf)
  refine blkK_of rfl ?_; (conv => whnf)
  refine sw_ar rfl rfl rfl ?_; (conv => whnf)
  refine hK _ _ _ ?_; clear hK K
  refine HT_seq ?_
  refine HT_fr DC_ok rfl fun K hK => ?_; (conv => whnf)
  refine hK _ _ _ ?_; clear hK K
  refine HT_if fun K1 K2 hK1 hK2 => ?_; (conv => whnf)
  refine cond_lk h (fun _ h => ?_) (fun _ h => ?_)
  · refine hK1 ?_; clear hK1 hK2 K1 K2
    refine HT_fr DC_ok rfl fun K hK => ?_; (conv => whnf)
    refine hK _ _ _ ?_; clear hK K
    refine HT_ret ?_
    refine Then_r ?_
    replace h := W_some h
    refine PostP_r DC_ok fun K hK => ?_; (conv => whnf)
    refine hK _ ?_; clear hK K
    cases h
    exact Wk.refl _
  refine hK2 ?_; clear hK1 hK2 K1 K2
  refine HT_skip ?_
  refine Then_n ?_
  refine HT_fr DC_ok rfl fun K hK => ?_; (conv => whnf)
  refine mput_lk (enc := eI) (m := (GM.mt Int)) DC_ok rfl rfl ?_; (conv => whnf)
  refine blkK_of rfl ?_; (conv => whnf)
  refine And.intro rfl (And.intro (nle rfl) (And.intro rfl ?_)); (conv => whnf)
  refine hK _ _ _ ?_; clear hK K
  refine HT_seq ?_
  refine HT_fr DC_ok rfl fun K hK => ?_; (conv => whnf)
  refine nlA rfl ?_; (conv => whnf)
  refine blkK_of rfl ?_; (conv => whnf)
  refine getK_of rfl ?_; (conv => whnf)
  refine nlA rfl ?_; (conv => whnf)
  refine blkK_of rfl ?_; (conv => whnf)
  refine ld_ar rfl ?_; (conv => whnf)
  refine forceL_skip ?_; (conv => whnf)
  refine callpK_pure h56 (S := order_prefixes_S) ⟨_, _, rfl, rfl⟩ (loose_fn loose_nil (loose_cons (loose_ep (loose_cons (loose_int _ _) loose_nil)) (loose_cons (loose_ep (cA_loose _)) loose_nil))) (WkL.refl _) ?_; (conv => whnf)
  refine hK _ _ _ ?_; clear hK K
  refine HT_block ?_
  refine HT_ancKM rfl rfl [1, 6, 17, 21] [(1, 32), (6, 33), (17, 34)] 33 34 ?_; (conv => whnf)
  refine And.intro ?_ ?_
  · refine weak_kN ?_; (conv => whnf)
    exact And.intro rfl (And.intro (allL_c (WkR.ptr (fun _ => rfl)) (allL_c (WkR.ptr (fun _ => rfl)) (allL_c (WkR.mp (fun _ => rfl)) (allL_c (WkR_fn VsR_nil (VsR_cons (wkr (loose_ep (loose_cons (loose_int _ _) loose_nil))) (VsR_cons (wkr (loose_ep (cA_loose _))) VsR_nil))) allL_n)))) (allL_c ⟨some _, rfl, BkR_c rfl (CkR_cons wkI (CkR_cons (wkr (loose_lst fun _ => (lo_A46 _))) CkR_nil))⟩ (allL_c ⟨some _, rfl, BkR_c rfl (CkR_cons (WkR.mp (fun _ => rfl)) CkR_nil)⟩ (allL_c ⟨some _, rfl, BkR_m (enc := eI) rfl (fun _ => (loose_int _ _))⟩ allL_n))))
  obtain ⟨gfin, hfin, h⟩ := W_inv (W_bd h)
  refine HT_rngS rfl rfl (fun x => [eI x]) vx_int (fun _ => rfl) (by decide) h81 rfl (F := order_prefixes_1_F _ _) hfin ⟨_, _, rfl, rfl⟩ (nle rfl) (allL_c (a64_ptr (by decide)) (allL_c (a64_ptr (by decide)) (allL_c (a64_mp (by decide)) (allL_c (a64_fn a64_nil (a64_cons (a64_ep (a64_cons (a64_loose (loose_int _ _)) a64_nil)) (a64_cons (a64_loose (loose_ep (cA_loose _))) a64_nil))) allL_n)))) (fun s => [(32, .cells [eI a0.N, (eL 2 eA46 default) a0.Pairs]), (33, .cells [.mp 34]), (34, abM eI s)]) (fun s => (allL_c rfl (allL_c rfl (allL_c rfl allL_n)))) (fun x s gfin h => ?_) ?_
  · clear hfin
    rw [order_Lines_b1.eq_1] at h
    refine HT_f DC_ok rfl fun K hK => ?_; (conv => whnf)
    refine hK _ _ _ ?_; clear hK K
    refine Then_n ?_
    refine HT_block ?_
    refine HT_fr DC_ok rfl fun K hK => ?_; (conv => whnf)
    refine nlA rfl ?_; (conv => whnf)
    refine blkK_of rfl ?_; (conv => whnf)
    refine getK_of rfl ?_; (conv => whnf)
    refine hK _ _ _ ?_; clear hK K
    refine HT_block ?_
    replace h := W_bd h
    refine HT_lpK (body := order_Lines_b2 _ _) rfl h [1, 6, 7, 17, 24] [1, 6] [17] (fun kl kh ids b s => ⟨ofL ([(25, eI s.1)] ++ kl), ofH ([(nthN ids 0, abM eI s.2)] ++ kh), b + 64⟩) ?_; (conv => whnf); refine And.intro ?_ (fun s m h => HT_st ?_)
    · refine weak_k ?_; (conv => whnf)
      exact And.intro rfl (And.intro (allL_c wkI (allL_c (WkR.ptr (fun _ => rfl)) (allL_c (WkR.ptr (fun _ => rfl)) (allL_c wkI (allL_c (WkR.mp (fun _ => rfl)) (allL_c wkI allL_n)))))) (allL_c ⟨some _, rfl, BkR_m (enc := eI) rfl (fun _ => (loose_int _ _))⟩ (allL_c ⟨some _, rfl, BkR_c rfl (CkR_cons wkI (CkR_cons (wkr (loose_lst fun _ => (lo_A46 _))) CkR_nil))⟩ (allL_c ⟨some _, rfl, BkR_c rfl (CkR_cons (WkR.mp (fun _ => rfl)) CkR_nil)⟩ allL_n))))
    replace h := W_border_Lines_b2 (W_bd h)
    refine HT_fr DC_ok rfl fun K hK => ?_; (conv => whnf)
    refine hK _ _ _ ?_; clear hK K
    refine HT_seq ?_
    refine HT_if fun K1 K2 hK1 hK2 => ?_; (conv => whnf)
    refine cond_lk h (fun _ h => ?_) (fun _ h => ?_)
    · refine hK1 ?_; clear hK1 hK2 K1 K2
      refine HT_skip ?_
      refine Then_n ?_
      refine HT_seq ?_
      refine HT_block ?_
      refine HT_fr DC_ok rfl fun K hK => ?_; (conv => whnf)
      refine hK _ _ _ ?_; clear hK K
      refine HT_fr DC_ok rfl fun K hK => ?_; (conv => whnf)
      refine gd_lk h fun _ h => ?_; (conv => whnf)
      refine hK _ _ _ ?_; clear hK K
      replace h := W_jn h
      refine HT_if fun K1 K2 hK1 hK2 => ?_; (conv => whnf)
      refine cond_lk h (fun _ h => ?_) (fun _ h => ?_)
      · refine hK1 ?_; clear hK1 hK2 K1 K2
        refine HT_fD DC_ok mix_ok rfl (by kernel_rfl) fun K hK => ?_; (conv => whnf)
        refine nlA rfl ?_; (conv => whnf)
        refine blkK_of rfl ?_; (conv => whnf)
        refine getK_of rfl ?_; (conv => whnf)
        refine mget_lk (enc := eI) DC_ok rfl (0 : Int) rfl rfl (nle rfl) ?_; (conv => whnf)
        refine nlA rfl ?_; (conv => whnf)
        refine blkK_of rfl ?_; (conv => whnf)
        refine getK_of rfl ?_; (conv => whnf)
        refine gd_lk h fun _ h => ?_; (conv => whnf)
        refine mget_lk (enc := eI) DC_ok rfl (0 : Int) rfl rfl (nle rfl) ?_; (conv => whnf)
        refine mput_lk (enc := eI) DC_ok rfl rfl ?_; (conv => whnf)
        refine hK _ _ _ ?_; clear hK K
        refine InBlock_n ?_
        refine Then_n ?_
        refine HT_f DC_ok rfl fun K hK => ?_; (conv => whnf)
        refine hK _ _ _ ?_; clear hK K
        refine Then_n ?_
        replace h := W_xnx h
        refine ⟨_, h, ?_⟩
        refine weak_k ?_; (conv => whnf)
        exact And.intro rfl (And.intro (allL_c wkI (allL_c (WkR.ptr (fun _ => rfl)) (allL_c (WkR.ptr (fun _ => rfl)) (allL_c wkI (allL_c (WkR.mp (fun _ => rfl)) (allL_c wkI allL_n)))))) (allL_c ⟨some _, rfl, BkR_m (enc := eI) rfl (fun _ => (loose_int _ _))⟩ (allL_c ⟨some _, rfl, BkR_c rfl (CkR_cons wkI (CkR_cons (wkr (loose_lst fun _ => (lo_A46 _))) CkR_nil))⟩ (allL_c ⟨some _, rfl, BkR_c rfl (CkR_cons (WkR.mp (fun _ => rfl)) CkR_nil)⟩ allL_n))))
      refine hK2 ?_; clear hK1 hK2 K1 K2
      refine HT_skip ?_
      refine InBlock_n ?_
      refine Then_n ?_
      refine HT_f DC_ok rfl fun K hK => ?_; (conv => whnf)
      refine hK _ _ _ ?_; clear hK K
      refine Then_n ?_
      replace h := W_xnx h
      refine ⟨_, h, ?_⟩
      refine weak_k ?_; (conv => whnf)
      exact And.intro rfl (And.intro (allL_c wkI (allL_c (WkR.ptr (fun _ => rfl)) (allL_c (WkR.ptr (fun _ => rfl)) (allL_c wkI (allL_c (WkR.mp (fun _ => rfl)) (allL_c wkI allL_n)))))) (allL_c ⟨some _, rfl, BkR_m (enc := eI) rfl (fun _ => (loose_int _ _))⟩ (allL_c ⟨some _, rfl, BkR_c rfl (CkR_cons wkI (CkR_cons (wkr (loose_lst fun _ => (lo_A46 _))) CkR_nil))⟩ (allL_c ⟨some _, rfl, BkR_c rfl (CkR_cons (WkR.mp (fun _ => rfl)) CkR_nil)⟩ allL_n))))
    refine hK2 ?_; clear hK1 hK2 K1 K2
    refine HT_exit ?_
    refine Then_e ?_
    refine Then_e ?_
    refine InBlock_e ?_
    replace h := W_xbk h
    replace h := W_inl h
    refine InBlock_n ?_
    replace h := W_some h
    cases h
    refine ⟨rfl, ?_⟩
    refine weak_k (l := []) ?_; (conv => whnf)
    exact And.intro rfl (And.intro allL_n (allL_c ⟨some _, rfl, BkR_c rfl (CkR_cons wkI (CkR_cons (wkr (loose_lst fun _ => (lo_A46 _))) CkR_nil))⟩ (allL_c ⟨some _, rfl, BkR_c rfl (CkR_cons (WkR.mp (fun _ => rfl)) CkR_nil)⟩ (allL_c ⟨some _, rfl, BkR_m (enc := eI) rfl (fun _ => (loose_int _ _))⟩ allL_n))))
  clear hfin
  refine InBlock_n ?_
  refine Then_n ?_
  refine HT_fd DC_ok mix_ok rfl (by kernel_rfl) fun K hK => ?_; (conv => whnf)
  refine nlA rfl ?_; (conv => whnf)
  refine blkK_of rfl ?_; (conv => whnf)
  refine getK_of rfl ?_; (conv => whnf)
  refine nlA rfl ?_; (conv => whnf)
  refine blkK_of rfl ?_; (conv => whnf)
  refine getK_of rfl ?_; (conv => whnf)
  refine gd_lk h fun _ h => ?_; (conv => whnf)
  refine mget_lk (enc := eI) DC_ok rfl (0 : Int) rfl rfl (nle rfl) ?_; (conv => whnf)
  refine hK _ _ _ ?_; clear hK K
  refine HT_ret ?_
  replace h := W_some h
  refine PostP_r DC_ok fun K hK => ?_; (conv => whnf)
  refine hK _ ?_; clear hK K
  cases h
  exact Wk.refl _
theorem order_Lines_call {T : Tbl} (hT : T 20 = pureR order_Lines_S) {args : List AV} {hp : Heap} {id : Nat} {k : AV → Prop} {a0 : TOrder} {Φ : Int × Int → Prop} (h : W (order_Lines_F a0) Φ) (hw : WkL args [eTOrder a0]) (hk : ∀ y, Φ y → k (.tup [eI y.1, eI y.2])) : callpK T 20 args hp id k := by
  obtain ⟨y, e, hy⟩ := W_inv h
  exact callpK_pure hT ⟨a0, rfl, W_of e rfl⟩ (by exact loose_tup (loose_cons (loose_int _ _) (loose_cons (loose_int _ _) loose_nil))) hw (hk y hy)
end Go.Proofs.YtlmboonbfhkfnaaDoor
namespace Go.Proofs.YtlmboonbfhkfnaaDoor
open Go Go.Eng
set_option maxHeartbeats 0
set_option maxRecDepth 100000

    def follow_b1 (a0 : Int) (c1 : TOrder) (c2 : Ar 8) (f9002 : Int → TOrder → (Ar 8) → (Ar 8) → Int → Option (Bool × (Ar 8) × Int)) (s1 : Int × Int × (Ar 8)) : Option (Ct (Int × Int × (Ar 8)) (Bool × (Ar 8) × Int)) := cn (decide (s1.1 < c1.N)) (jn (fun p2 : (Ar 8) × Int =>
    some (.nx ((wr (s1.1 + 1)), p2.2, p2.1))) fun k3 => jn (fun p4 : Bool => cn p4 (k3 (s1.2.2, s1.2.1)) (gd (0 ≤ s1.1) (jn (fun p6 : Bool × (Ar 8) × Int =>
    cn p6.1 (gd (0 ≤ s1.1 ∧ s1.1 < (8 : Int)) (let m9 := p6.2.1.st1 s1.1 (wr (a0 + 1)); some (.rt (true, m9, p6.2.2)))) (k3 (p6.2.1, p6.2.2))) fun k7 =>
    gd (0 ≤ s1.1 ∧ s1.1 < (8 : Int)) (cn ((s1.2.2.at1 s1.1) ==
    0) (k7 (true, s1.2.2, (bor .i64 s1.2.1 (bshl .i64 1 s1.1)))) (gd (0 ≤ s1.1 ∧ s1.1 < (8 : Int)) (bd (f9002 (wr ((s1.2.2.at1 s1.1) - 1)) c1 c2 s1.2.2 (bor .i64 s1.2.1 (bshl .i64 1 s1.1))) fun y8 =>
    k7 (y8.1, y8.2.1, y8.2.2))))))) fun k5 => gd (0 ≤ s1.1 ∧ s1.1 < (8 : Int)) (gd (0 ≤ a0) (cn ((band .i64 (bshr .i64 (c2.at1 s1.1) a0) 1) ==
    0) (k5 true) (gd (0 ≤ s1.1) (k5 ((band .i64 (bshr .i64 s1.2.1 s1.1) 1) == 1)))))) (some (.bk (s1.1, s1.2.1, s1.2.2)))
theorem W_bfollow_b1 {a0 : Int} {c1 : TOrder} {c2 : Ar 8} {f9002 : Int → TOrder → (Ar 8) → (Ar 8) → Int → Option (Bool × (Ar 8) × Int)} {s1 : Int × Int × (Ar 8)} {Φ : Ct (Int × Int × (Ar 8)) (Bool × (Ar 8) × Int) → Prop} (h : W (follow_b1 a0 c1 c2 f9002 s1) Φ) : W (cn (decide (s1.1 < c1.N)) (jn (fun p2 : (Ar 8) × Int => some (.nx ((wr (s1.1 + 1)), p2.2, p2.1))) fun k3 => jn (fun p4 : Bool =>
    cn p4 (k3 (s1.2.2, s1.2.1)) (gd (0 ≤ s1.1) (jn (fun p6 : Bool × (Ar 8) × Int => cn p6.1 (gd (0 ≤ s1.1 ∧ s1.1 < (8 : Int)) (let m9 := p6.2.1.st1 s1.1 (wr (a0 + 1));
    some (.rt (true, m9, p6.2.2)))) (k3 (p6.2.1, p6.2.2))) fun k7 => gd (0 ≤ s1.1 ∧ s1.1 < (8 : Int)) (cn ((s1.2.2.at1 s1.1) ==
    0) (k7 (true, s1.2.2, (bor .i64 s1.2.1 (bshl .i64 1 s1.1)))) (gd (0 ≤ s1.1 ∧ s1.1 < (8 : Int)) (bd (f9002 (wr ((s1.2.2.at1 s1.1) - 1)) c1 c2 s1.2.2 (bor .i64 s1.2.1 (bshl .i64 1 s1.1))) fun y8 =>
    k7 (y8.1, y8.2.1, y8.2.2))))))) fun k5 => gd (0 ≤ s1.1 ∧ s1.1 < (8 : Int)) (gd (0 ≤ a0) (cn ((band .i64 (bshr .i64 (c2.at1 s1.1) a0) 1) ==
    0) (k5 true) (gd (0 ≤ s1.1) (k5 ((band .i64 (bshr .i64 s1.2.1 s1.1) 1) == 1)))))) (some (.bk (s1.1, s1.2.1, s1.2.2)))) Φ := h

    def follow_f (f9002 : Int → TOrder → (Ar 8) → (Ar 8) → Int → Option (Bool × (Ar 8) × Int)) (a0 : Int) (c1 : TOrder) (c2 : Ar 8) (m0 : Ar 8) (x1 : Int) : Option (Bool × (Ar 8) × Int) := bd (lp (follow_b1 a0 c1 c2 f9002) FU (0, x1, m0)) fun c10 =>
    smK c10 (fun s11 => some (false, s11.2.2, s11.2.1)) (fun r12 => some r12)
def follow_F : Nat → Int → TOrder → (Ar 8) → (Ar 8) → Int → Option (Bool × (Ar 8) × Int)
  | 0 => fun _ _ _ _ _ => none
  | k + 1 => follow_f (follow_F k)
def follow_S (k : Nat) : List AV → List BD → AV → List BD → Prop := fun args bs r bs' => ∃ a0 c1 c2 m0 x1 y, args = [eI a0, .ep [eI c1.N, (eL 2 eA46 default) c1.Pairs] 0, .ep (cA c2) 0, .ptr 1 0, .ptr 0 0, .ptr 2 0] ∧ bs = [.ab (.cells (cA m0)), .ab (.cells ([eI x1])), .fn 65 [.v (.ep [eI c1.N, (eL 2 eA46 default) c1.Pairs] 0), .v (.ep (cA c2) 0), .p 1, .p 0, .p 2]] ∧ follow_F k a0 c1 c2 m0 x1 = some y ∧ r = eB y.1 ∧ bs' = [.ab (.cells (cA y.2.1)), .ab (.cells ([eI y.2.2])), .fn 65 [.v (.ep [eI c1.N, (eL 2 eA46 default) c1.Pairs] 0), .v (.ep (cA c2) 0), .p 1, .p 0, .p 2]]
theorem follow_st (k : Nat) {T : Tbl} (hT : TOk Tryd.prog T) (hpf : PfOk T PF) (h65 : T 65 = ancR (follow_S k)) : FOk Tryd.prog 65 (ancR (follow_S (k + 1))) := by
  refine FOk_ancR hT hpf Tryd.func65 rfl Tryd.ntmps65 Tryd.results65 (by decide) ?_
  rintro args bs r bs' ⟨a0, c1, c2, m0, x1, y, rfl, rfl, hF, rfl, rfl⟩
  refine ⟨nle rfl, Nat.le_refl _, (loose_bool _), ⟨(cA_loose _), ⟨(loose_1 _), ⟨⟨(loose_ep (loose_cons (loose_int _ _) (loose_cons (loose_lst fun _ => (lo_A46 _)) loose_nil))), ⟨(loose_ep (cA_loose _)), ⟨nle rfl, ⟨nle rfl, ⟨nle rfl, trivial⟩⟩⟩⟩⟩, trivial⟩⟩⟩, ⟨(cA_loose _), ⟨(loose_1 _), ⟨⟨(loose_ep (loose_cons (loose_int _ _) (loose_cons (loose_lst fun _ => (lo_A46 _)) loose_nil))), ⟨(loose_ep (cA_loose _)), ⟨nle rfl, ⟨nle rfl, ⟨nle rfl, trivial⟩⟩⟩⟩⟩, trivial⟩⟩⟩, ?_⟩
  have h : W (follow_f (follow_F k) a0 c1 c2 m0 x1) (fun z => z = y) := W_of hF rfl
  rw [follow_f.eq_1] at h
  refine HT_fr DC_ok rfl fun K hK => ?_; (conv => whnf)
  refine hK _ _ _ ?_; clear hK K
  refine HT_seq ?_
  refine HT_fr DC_ok rfl fun K hK => ?_; (conv => whnf)
  refine getK_of rfl ?_; (conv => whnf)
  refine hK _ _ _ ?_; clear hK K
  refine HT_block ?_
  replace h := W_bd h
  refine HT_lpQ (body := follow_b1 _ _ _ _) rfl h [0, 2, 3, 4, 5, 10] (fun σ => keepN σ [2] ++ keepH σ [] ++ keepT σ []) (fun σ => keepT σ [] ++ keepH σ [] ++ keepN σ []) [] (fun kl kh kr ids b s => ⟨ofL ([(11, eI s.1)] ++ kl), ofH (([(1, .cells ([eI s.2.1]))] ++ kh) ++ ([(0, .cells (cA s.2.2))] ++ kr)), b + 128⟩) ?_; (conv => whnf); refine And.intro ?_ (fun s m h => HT_st ?_)
  · refine weak_r ?_; (conv => whnf)
    exact And.intro rfl (And.intro (allL_c wkI (allL_c wkI (allL_c (wkr (loose_ep (cA_loose _))) (allL_c (WkR.ptr (fun _ => rfl)) (allL_c (WkR.ptr (fun _ => rfl)) (allL_c (WkR.ptr (fun _ => rfl)) (allL_c wkI allL_n))))))) (allL_c ⟨some _, rfl, BkR_c rfl (CkR_cons wkI CkR_nil)⟩ (allL_c ⟨some _, rfl, BkR_c rfl (CkR_cons (WkR_fn VsR_nil (VsR_cons (wkr (loose_ep (loose_cons (loose_int _ _) (loose_cons (loose_lst fun _ => (lo_A46 _)) loose_nil)))) (VsR_cons (wkr (loose_ep (cA_loose _))) (VsR_cons (WkR.ptr (fun _ => rfl)) (VsR_cons (WkR.ptr (fun _ => rfl)) (VsR_cons (WkR.ptr (fun _ => rfl)) VsR_nil)))))) CkR_nil)⟩ (allL_c ⟨some _, rfl, BkR_arr rfl rfl⟩ allL_n))))
  replace h := W_bfollow_b1 (W_bd h)
  refine HT_fr DC_ok rfl fun K hK => ?_; (conv => whnf)
  refine hK _ _ _ ?_; clear hK K
  refine HT_seq ?_
  refine HT_if fun K1 K2 hK1 hK2 => ?_; (conv => whnf)
  refine cond_lk h (fun _ h => ?_) (fun _ h => ?_)
  · refine hK1 ?_; clear hK1 hK2 K1 K2
    refine HT_skip ?_
    refine Then_n ?_
    refine HT_seq ?_
    replace h := W_jn h
    refine HT_block ?_
    refine HT_fr DC_ok rfl fun K hK => ?_; (conv => whnf)
    refine hK _ _ _ ?_; clear hK K
    refine HT_seq ?_
    refine HT_fr DC_ok rfl fun K hK => ?_; (conv => whnf)
    replace h := W_jn h
    refine gd_lk h fun hx112 h => ?_; (conv => whnf)
    refine get_ar1 rfl hx112 ?_; (conv => whnf)
    refine gd_lk h fun _ h => ?_; (conv => whnf)
    refine cond_lk h (fun _ h => ?_) (fun _ h => ?_) <;> (conv => whnf)
    · refine hK _ _ _ ?_; clear hK K
      refine HT_if fun K1 K2 hK1 hK2 => ?_; (conv => whnf)
      refine hK1 ?_; clear hK1 hK2 K1 K2
      replace h := W_cnT h
      refine HT_exit ?_
      refine Then_e ?_
      refine InBlock_e ?_
      refine Then_n ?_
      refine HT_f DC_ok rfl fun K hK => ?_; (conv => whnf)
      refine hK _ _ _ ?_; clear hK K
      refine Then_n ?_
      replace h := W_xnx h
      refine ⟨_, h, ?_⟩
      refine weak_r ?_; (conv => whnf)
      exact And.intro rfl (And.intro (allL_c wkI (allL_c wkI (allL_c (wkr (loose_ep (cA_loose _))) (allL_c (WkR.ptr (fun _ => rfl)) (allL_c (WkR.ptr (fun _ => rfl)) (allL_c (WkR.ptr (fun _ => rfl)) (allL_c wkI allL_n))))))) (allL_c ⟨some _, rfl, BkR_c rfl (CkR_cons wkI CkR_nil)⟩ (allL_c ⟨some _, rfl, BkR_c rfl (CkR_cons (WkR_fn VsR_nil (VsR_cons (wkr (loose_ep (loose_cons (loose_int _ _) (loose_cons (loose_lst fun _ => (lo_A46 _)) loose_nil)))) (VsR_cons (wkr (loose_ep (cA_loose _))) (VsR_cons (WkR.ptr (fun _ => rfl)) (VsR_cons (WkR.ptr (fun _ => rfl)) (VsR_cons (WkR.ptr (fun _ => rfl)) VsR_nil)))))) CkR_nil)⟩ (allL_c ⟨some _, rfl, BkR_arr rfl rfl⟩ allL_n))))
    refine nlA rfl ?_; (conv => whnf)
    refine blkK_of rfl ?_; (conv => whnf)
    refine getK_of rfl ?_; (conv => whnf)
    refine gd_lk h fun _ h => ?_; (conv => whnf)
    refine hK _ _ _ ?_; clear hK K
    refine HT_if fun K1 K2 hK1 hK2 => ?_; (conv => whnf)
    refine cond_lk h (fun _ h => ?_) (fun _ h => ?_)
    · refine hK1 ?_; clear hK1 hK2 K1 K2
      refine HT_exit ?_
      refine Then_e ?_
      refine InBlock_e ?_
      refine Then_n ?_
      refine HT_f DC_ok rfl fun K hK => ?_; (conv => whnf)
      refine hK _ _ _ ?_; clear hK K
      refine Then_n ?_
      replace h := W_xnx h
      refine ⟨_, h, ?_⟩
      refine weak_r ?_; (conv => whnf)
      exact And.intro rfl (And.intro (allL_c wkI (allL_c wkI (allL_c (wkr (loose_ep (cA_loose _))) (allL_c (WkR.ptr (fun _ => rfl)) (allL_c (WkR.ptr (fun _ => rfl)) (allL_c (WkR.ptr (fun _ => rfl)) (allL_c wkI allL_n))))))) (allL_c ⟨some _, rfl, BkR_c rfl (CkR_cons wkI CkR_nil)⟩ (allL_c ⟨some _, rfl, BkR_c rfl (CkR_cons (WkR_fn VsR_nil (VsR_cons (wkr (loose_ep (loose_cons (loose_int _ _) (loose_cons (loose_lst fun _ => (lo_A46 _)) loose_nil)))) (VsR_cons (wkr (loose_ep (cA_loose _))) (VsR_cons (WkR.ptr (fun _ => rfl)) (VsR_cons (WkR.ptr (fun _ => rfl)) (VsR_cons (WkR.ptr (fun _ => rfl)) VsR_nil)))))) CkR_nil)⟩ (allL_c ⟨some _, rfl, BkR_arr rfl rfl⟩ allL_n))))
    refine hK2 ?_; clear hK1 hK2 K1 K2
    refine HT_skip ?_
    refine Then_n ?_
    refine HT_fd DC_ok mix_ok rfl (by kernel_rfl) fun K hK => ?_; (conv => whnf)
    refine nlA rfl ?_; (conv => whnf)
    refine blkK_of rfl ?_; (conv => whnf)
    refine getK_of rfl ?_; (conv => whnf)
    refine gd_lk h fun _ h => ?_; (conv => whnf)
    refine blkK_of rfl ?_; (conv => whnf)
    refine And.intro rfl (And.intro (nle rfl) (And.intro rfl ?_)); (conv => whnf)
    refine hK _ _ _ ?_; clear hK K
    refine HT_fd DC_ok mix_ok rfl (by kernel_rfl) fun K hK => ?_; (conv => whnf)
    replace h := W_jn h
    refine gd_lk h fun hx117 h => ?_; (conv => whnf)
    refine nlA rfl ?_; (conv => whnf)
    refine blkK_of rfl ?_; (conv => whnf)
    refine get_ar1 rfl hx117 ?_; (conv => whnf)
    refine cond_lk h (fun _ h => ?_) (fun _ h => ?_) <;> (conv => whnf)
    · refine hK _ _ _ ?_; clear hK K
      refine HT_if fun K1 K2 hK1 hK2 => ?_; (conv => whnf)
      refine hK1 ?_; clear hK1 hK2 K1 K2
      replace h := W_cnT h
      refine HT_fr DC_ok rfl fun K hK => ?_; (conv => whnf)
      refine gd_lk h fun hx119 h => ?_; (conv => whnf)
      refine blkK_of rfl ?_; (conv => whnf)
      refine st_ar1 rfl hx119 rfl rfl ?_; (conv => whnf)
      refine hK _ _ _ ?_; clear hK K
      refine HT_fr DC_ok rfl fun K hK => ?_; (conv => whnf)
      refine hK _ _ _ ?_; clear hK K
      refine HT_ret ?_
      refine InBlock_r ?_
      refine Then_r ?_
      refine Then_r ?_
      refine InBlock_r ?_
      refine Then_r ?_
      replace h := W_xrt h
      replace h := W_inr h
      replace h := W_some h
      refine PostC_r DC_ok fun K hK => ?_; (conv => whnf)
      refine hK _ ?_; clear hK K
      cases h
      exact ⟨Wk.refl _, ⟨_, rfl, bkW _⟩, ⟨_, rfl, bkW _⟩, rfl, trivial⟩
    refine nlA rfl ?_; (conv => whnf)
    refine blkK_of rfl ?_; (conv => whnf)
    refine getK_of rfl ?_; (conv => whnf)
    refine gd_lk h fun hx120 h => ?_; (conv => whnf)
    refine nlA rfl ?_; (conv => whnf)
    refine blkK_of rfl ?_; (conv => whnf)
    refine get_ar1 rfl hx120 ?_; (conv => whnf)
    refine callsK_ancR (bs := [.ab _, .ab _, .fn 65 [.v _, .v _, .p 1, .p 0, .p 2]]) (args0 := [_, _, _, .ptr 1 0, .ptr 0 0, .ptr 2 0]) h65 [_, _, _] h (.cons (WkA_wk (Wk.refl _) (loose_int _ _)) (.cons (WkA_loose (loose_ep (loose_cons (loose_int _ _) (loose_cons (loose_lst fun _ => (lo_A46 _)) loose_nil)))) (.cons (WkA_loose (loose_ep (cA_loose _))) (.cons (WkA_ptr rfl) (.cons (WkA_ptr rfl) (.cons (WkA_ptr rfl) .nil)))))) ⟨⟨_, rfl, bkW _⟩, ⟨_, rfl, bkW _⟩, rfl, trivial⟩ rfl (nle rfl) (fun y e => (⟨_, _, _, _, _, _, rfl, rfl, e, rfl, rfl⟩ : follow_S _ _ _ _ _)) (fun _ h => ?_); (conv => whnf)
    refine hK _ _ _ ?_; clear hK K
    refine HT_if fun K1 K2 hK1 hK2 => ?_; (conv => whnf)
    refine cond_lk h (fun _ h => ?_) (fun _ h => ?_)
    · refine hK1 ?_; clear hK1 hK2 K1 K2
      refine HT_fr DC_ok rfl fun K hK => ?_; (conv => whnf)
      refine gd_lk h fun hx122 h => ?_; (conv => whnf)
      refine blkK_of rfl ?_; (conv => whnf)
      refine st_ar1 rfl hx122 rfl rfl ?_; (conv => whnf)
      refine hK _ _ _ ?_; clear hK K
      refine HT_fr DC_ok rfl fun K hK => ?_; (conv => whnf)
      refine hK _ _ _ ?_; clear hK K
      refine HT_ret ?_
      refine InBlock_r ?_
      refine Then_r ?_
      refine Then_r ?_
      refine InBlock_r ?_
      refine Then_r ?_
      replace h := W_xrt h
      replace h := W_inr h
      replace h := W_some h
      refine PostC_r DC_ok fun K hK => ?_; (conv => whnf)
      refine hK _ ?_; clear hK K
      cases h
      exact ⟨Wk.refl _, ⟨_, rfl, bkW _⟩, ⟨_, rfl, bkW _⟩, rfl, trivial⟩
    refine hK2 ?_; clear hK1 hK2 K1 K2
    refine HT_skip ?_
    refine InBlock_n ?_
    refine Then_n ?_
    refine HT_f DC_ok rfl fun K hK => ?_; (conv => whnf)
    refine hK _ _ _ ?_; clear hK K
    refine Then_n ?_
    replace h := W_xnx h
    refine ⟨_, h, ?_⟩
    refine weak_r ?_; (conv => whnf)
    exact And.intro rfl (And.intro (allL_c wkI (allL_c wkI (allL_c (wkr (loose_ep (cA_loose _))) (allL_c (WkR.ptr (fun _ => rfl)) (allL_c (WkR.ptr (fun _ => rfl)) (allL_c (WkR.ptr (fun _ => rfl)) (allL_c wkI allL_n))))))) (allL_c ⟨some _, rfl, BkR_c rfl (CkR_cons wkI CkR_nil)⟩ (allL_c ⟨some _, rfl, BkR_c rfl (CkR_cons (WkR_fn VsR_nil (VsR_cons (wkr (loose_ep (loose_cons (loose_int _ _) (loose_cons (loose_lst fun _ => (lo_A46 _)) loose_nil)))) (VsR_cons (wkr (loose_ep (cA_loose _))) (VsR_cons (WkR.ptr (fun _ => rfl)) (VsR_cons (WkR.ptr (fun _ => rfl)) (VsR_cons (WkR.ptr (fun _ => rfl)) VsR_nil)))))) CkR_nil)⟩ (allL_c ⟨some _, rfl, BkR_arr rfl rfl⟩ allL_n))))
  refine hK2 ?_; clear hK1 hK2 K1 K2
  refine HT_exit ?_
  refine Then_e ?_
  refine Then_e ?_
  refine InBlock_e ?_
  replace h := W_xbk h
  replace h := W_inl h
  refine Then_n ?_
  refine HT_fr DC_ok rfl fun K hK => ?_; (conv => whnf)
  refine hK _ _ _ ?_; clear hK K
  refine HT_ret ?_
  replace h := W_some h
  refine PostC_r DC_ok fun K hK => ?_; (conv => whnf)
  refine hK _ ?_; clear hK K
  cases h
  exact ⟨Wk.refl _, ⟨_, rfl, bkW _⟩, ⟨_, rfl, bkW _⟩, rfl, trivial⟩
theorem follow_ok {T : Tbl} (hT : TOk Tryd.prog T) (hpf : PfOk T PF) : FOk Tryd.prog 65 (ancR (follow_S 10)) :=
  FOk_fuel (S := follow_S) hT hpf (by decide) Tryd.func65 rfl (by decide) (by rintro a b c d ⟨a0, c1, c2, m0, x1, y, -, -, h, -⟩; cases h) (fun k T' hT' hpf' hne h => follow_st k hT' hpf' h) 10
end Go.Proofs.YtlmboonbfhkfnaaDoor
namespace Go.Proofs.YtlmboonbfhkfnaaDoor
open Go Go.Eng
set_option maxHeartbeats 0
set_option maxRecDepth 100000

    def from_b1 (a0 : Int) (c1 : TOrder) (c2 : Ar 8) (f9002 : Int → TOrder → (Ar 8) → (GM (List Int)) → Option ((List Int) × (GM (List Int)))) (s1 : (List Int) × Int × (GM (List Int))) : Option (Ct ((List Int) × Int × (GM (List Int))) ((List Int) × (GM (List Int)))) := cn (decide (s1.2.1 < c1.N)) (jn (fun p2 : Bool × (GM (List Int)) =>
    jn (fun p5 : (List Int) × (GM (List Int)) => some (.nx (p5.1, (wr (s1.2.1 + 1)), p5.2))) fun k6 => cn p2.1 (bd (f9002 s1.2.1 c1 c2 p2.2) fun y7 =>
    k6 (y7.1, y7.2)) (k6 (s1.1, p2.2))) fun k3 => gd (0 ≤ s1.2.1 ∧ s1.2.1 < (8 : Int)) (gd (0 ≤ a0) (cn ((band .i64 (bshr .i64 (c2.at1 s1.2.1) a0) 1) ==
    1) (bd (f9002 s1.2.1 c1 c2 s1.2.2) fun y4 => k3 ((decide ((y4.1.length : Int) > (s1.1.length : Int))), y4.2)) (k3 (false, s1.2.2))))) (some (.bk (s1.1, s1.2.1, s1.2.2)))
theorem W_bfrom_b1 {a0 : Int} {c1 : TOrder} {c2 : Ar 8} {f9002 : Int → TOrder → (Ar 8) → (GM (List Int)) → Option ((List Int) × (GM (List Int)))} {s1 : (List Int) × Int × (GM (List Int))} {Φ : Ct ((List Int) × Int × (GM (List Int))) ((List Int) × (GM (List Int))) → Prop} (h : W (from_b1 a0 c1 c2 f9002 s1) Φ) : W (cn (decide (s1.2.1 < c1.N)) (jn (fun p2 : Bool × (GM (List Int)) => jn (fun p5 : (List Int) × (GM (List Int)) => some (.nx (p5.1, (wr (s1.2.1 + 1)), p5.2))) fun k6 =>
    cn p2.1 (bd (f9002 s1.2.1 c1 c2 p2.2) fun y7 => k6 (y7.1, y7.2)) (k6 (s1.1, p2.2))) fun k3 =>
    gd (0 ≤ s1.2.1 ∧ s1.2.1 < (8 : Int)) (gd (0 ≤ a0) (cn ((band .i64 (bshr .i64 (c2.at1 s1.2.1) a0) 1) == 1) (bd (f9002 s1.2.1 c1 c2 s1.2.2) fun y4 =>
    k3 ((decide ((y4.1.length : Int) > (s1.1.length : Int))), y4.2)) (k3 (false, s1.2.2))))) (some (.bk (s1.1, s1.2.1, s1.2.2)))) Φ := h

    def from_f (f9002 : Int → TOrder → (Ar 8) → (GM (List Int)) → Option ((List Int) × (GM (List Int)))) (a0 : Int) (c1 : TOrder) (c2 : Ar 8) (m0 : GM (List Int)) : Option ((List Int) × (GM (List Int))) := cn (m0.has a0) (some ((m0.get a0 []), m0)) (bd (lp (from_b1 a0 c1 c2 f9002) FU ([], 0, m0)) fun c8 =>
    smK c8 (fun s9 => lt ([a0] : List Int) fun l11 => ap l11 s9.1 fun l12 => let m13 := s9.2.2.put a0 l12; some ((m13.get a0 []), m13)) (fun r10 => some r10))
def from_F : Nat → Int → TOrder → (Ar 8) → (GM (List Int)) → Option ((List Int) × (GM (List Int)))
  | 0 => fun _ _ _ _ => none
  | k + 1 => from_f (from_F k)
def from_S (k : Nat) : List AV → List BD → AV → List BD → Prop := fun args bs r bs' => ∃ a0 c1 c2 m0 y, args = [eI a0, .ep [.mp 0] 0, .ep [eI c1.N, (eL 2 eA46 default) c1.Pairs] 0, .ep (cA c2) 0, .ptr 1 0] ∧ bs = [.ab (abM (eL 1 eI default) m0), .fn 59 [.m 0, .v (.ep [eI c1.N, (eL 2 eA46 default) c1.Pairs] 0), .v (.ep (cA c2) 0), .p 1]] ∧ from_F k a0 c1 c2 m0 = some y ∧ r = (eL 1 eI default) y.1 ∧ bs' = [.ab (abM (eL 1 eI default) y.2), .fn 59 [.m 0, .v (.ep [eI c1.N, (eL 2 eA46 default) c1.Pairs] 0), .v (.ep (cA c2) 0), .p 1]]
theorem from_st (k : Nat) {T : Tbl} (hT : TOk Tryd.prog T) (hpf : PfOk T PF) (h59 : T 59 = ancR (from_S k)) : FOk Tryd.prog 59 (ancR (from_S (k + 1))) := by
  refine FOk_ancR hT hpf Tryd.func59 rfl Tryd.ntmps59 Tryd.results59 (by decide) ?_
  rintro args bs r bs' ⟨a0, c1, c2, m0, y, rfl, rfl, hF, rfl, rfl⟩
  refine ⟨nle rfl, Nat.le_refl _, (loose_lst fun _ => (loose_int _ _)), ⟨(abL_m (fun _ => (loose_lst fun _ => (loose_int _ _))) _), ⟨⟨nle rfl, ⟨(loose_ep (loose_cons (loose_int _ _) (loose_cons (loose_lst fun _ => (lo_A46 _)) loose_nil))), ⟨(loose_ep (cA_loose _)), ⟨nle rfl, trivial⟩⟩⟩⟩, trivial⟩⟩, ⟨(abL_m (fun _ => (loose_lst fun _ => (loose_int _ _))) _), ⟨⟨nle rfl, ⟨(loose_ep (loose_cons (loose_int _ _) (loose_cons (loose_lst fun _ => (lo_A46 _)) loose_nil))), ⟨(loose_ep (cA_loose _)), ⟨nle rfl, trivial⟩⟩⟩⟩, trivial⟩⟩, ?_⟩
  have h : W (from_f (from_F k) a0 c1 c2 m0) (fun z => z = y) := W_of hF rfl
  rw [from_f.eq_1] at h
  refine HT_fr DC_ok rfl fun K hK => ?_; (conv => whnf)
  refine hK _ _ _ ?_; clear hK K
  refine HT_seq ?_
  refine HT_fr DC_ok rfl fun K hK => ?_; (conv => whnf)
  refine getK_of rfl ?_; (conv => whnf)
  refine mget2W_lk (enc := (eL 1 eI default)) DC_ok rfl [] Wk_nil rfl (nle rfl) ?_; (conv => whnf)
  refine hK _ _ _ ?_; clear hK K
  refine HT_fr DC_ok rfl fun K hK => ?_; (conv => whnf)
  refine hK _ _ _ ?_; clear hK K
  refine HT_if fun K1 K2 hK1 hK2 => ?_; (conv => whnf)
  refine cond_lk h (fun _ h => ?_) (fun _ h => ?_)
  · refine hK1 ?_; clear hK1 hK2 K1 K2
    refine HT_fr DC_ok rfl fun K hK => ?_; (conv => whnf)
    refine hK _ _ _ ?_; clear hK K
    refine HT_ret ?_
    refine Then_r ?_
    replace h := W_some h
    refine PostC_r DC_ok fun K hK => ?_; (conv => whnf)
    refine hK _ ?_; clear hK K
    cases h
    exact ⟨Wk.refl _, ⟨_, rfl, bkW _⟩, rfl, trivial⟩
  refine hK2 ?_; clear hK1 hK2 K1 K2
  refine HT_skip ?_
  refine Then_n ?_
  refine HT_fr DC_ok rfl fun K hK => ?_; (conv => whnf)
  refine hK _ _ _ ?_; clear hK K
  refine HT_seq ?_
  refine HT_fr DC_ok rfl fun K hK => ?_; (conv => whnf)
  refine getK_of rfl ?_; (conv => whnf)
  refine hK _ _ _ ?_; clear hK K
  refine HT_block ?_
  replace h := W_bd h
  refine HT_lpG (body := from_b1 _ _ _ _) rfl h [0, 1, 3, 4, 20] (fun σ => keepN σ [1] ++ keepH σ [] ++ keepT σ []) [] (fun kl kh ids b s => ⟨ofL ([(9, (eL 1 eI default) s.1), (21, eI s.2.1)] ++ kl), ofH ([(0, abM (eL 1 eI default) s.2.2)] ++ kh), b + 64⟩) ?_; (conv => whnf); refine And.intro ?_ (fun s m h => HT_st ?_)
  · refine weak_k ?_; (conv => whnf)
    exact And.intro rfl (And.intro (allL_c (WkR.wk Wk_nil (loose_lst fun _ => (loose_int _ _))) (allL_c wkI (allL_c wkI (allL_c (WkR_ep (VsR_cons (WkR.mp (fun _ => rfl)) VsR_nil)) (allL_c (wkr (loose_ep (cA_loose _))) (allL_c (WkR.ptr (fun _ => rfl)) (allL_c wkI allL_n))))))) (allL_c ⟨some _, rfl, BkR_m (enc := (eL 1 eI default)) rfl (fun _ => (loose_lst fun _ => (loose_int _ _)))⟩ (allL_c ⟨some _, rfl, BkR_c rfl (CkR_cons (WkR_fn VsR_nil (VsR_cons (WkR_ep (VsR_cons (WkR.mp (fun _ => rfl)) VsR_nil)) (VsR_cons (wkr (loose_ep (loose_cons (loose_int _ _) (loose_cons (loose_lst fun _ => (lo_A46 _)) loose_nil)))) (VsR_cons (wkr (loose_ep (cA_loose _))) (VsR_cons (WkR.ptr (fun _ => rfl)) VsR_nil))))) CkR_nil)⟩ allL_n)))
  replace h := W_bfrom_b1 (W_bd h)
  refine HT_fr DC_ok rfl fun K hK => ?_; (conv => whnf)
  refine hK _ _ _ ?_; clear hK K
  refine HT_seq ?_
  refine HT_if fun K1 K2 hK1 hK2 => ?_; (conv => whnf)
  refine cond_lk h (fun _ h => ?_) (fun _ h => ?_)
  · refine hK1 ?_; clear hK1 hK2 K1 K2
    refine HT_skip ?_
    refine Then_n ?_
    refine HT_seq ?_
    refine HT_block ?_
    refine HT_fr DC_ok rfl fun K hK => ?_; (conv => whnf)
    refine hK _ _ _ ?_; clear hK K
    refine HT_fr DC_ok rfl fun K hK => ?_; (conv => whnf)
    replace h := W_jn h
    refine gd_lk h fun hx49 h => ?_; (conv => whnf)
    refine get_ar1 rfl hx49 ?_; (conv => whnf)
    refine gd_lk h fun _ h => ?_; (conv => whnf)
    refine cond_lk h (fun _ h => ?_) (fun _ h => ?_) <;> (conv => whnf)
    · refine nlA rfl ?_; (conv => whnf)
      refine blkK_of rfl ?_; (conv => whnf)
      refine getK_of rfl ?_; (conv => whnf)
      refine callsK_ancR (bs := [.ab (abM (eL 1 eI default) _), .fn 59 [.m 0, .v _, .v _, .p 1]]) (args0 := [_, .ep [.mp 0] 0, _, _, .ptr 1 0]) h59 [_, _] h (.cons (WkA_wk (Wk.refl _) (loose_int _ _)) (.cons (WkA_ep (VsA_cons (WkA_mp rfl) VsA_nil)) (.cons (WkA_loose (loose_ep (loose_cons (loose_int _ _) (loose_cons (loose_lst fun _ => (lo_A46 _)) loose_nil)))) (.cons (WkA_loose (loose_ep (cA_loose _))) (.cons (WkA_ptr rfl) .nil))))) ⟨⟨_, rfl, bkW _⟩, rfl, trivial⟩ rfl (nle rfl) (fun y e => (⟨_, _, _, _, _, rfl, rfl, e, rfl, rfl⟩ : from_S _ _ _ _ _)) (fun _ h => ?_); (conv => whnf)
      refine hK _ _ _ ?_; clear hK K
      replace h := W_jn h
      refine HT_if fun K1 K2 hK1 hK2 => ?_; (conv => whnf)
      refine cond_lk h (fun _ h => ?_) (fun _ h => ?_)
      · refine hK1 ?_; clear hK1 hK2 K1 K2
        refine HT_f DC_ok rfl fun K hK => ?_; (conv => whnf)
        refine nlA rfl ?_; (conv => whnf)
        refine blkK_of rfl ?_; (conv => whnf)
        refine getK_of rfl ?_; (conv => whnf)
        refine callsK_ancR (bs := [.ab (abM (eL 1 eI default) _), .fn 59 [.m 0, .v _, .v _, .p 1]]) (args0 := [_, .ep [.mp 0] 0, _, _, .ptr 1 0]) h59 [_, _] h (.cons (WkA_wk (Wk.refl _) (loose_int _ _)) (.cons (WkA_ep (VsA_cons (WkA_mp rfl) VsA_nil)) (.cons (WkA_loose (loose_ep (loose_cons (loose_int _ _) (loose_cons (loose_lst fun _ => (lo_A46 _)) loose_nil)))) (.cons (WkA_loose (loose_ep (cA_loose _))) (.cons (WkA_ptr rfl) .nil))))) ⟨⟨_, rfl, bkW _⟩, rfl, trivial⟩ rfl (nle rfl) (fun y e => (⟨_, _, _, _, _, rfl, rfl, e, rfl, rfl⟩ : from_S _ _ _ _ _)) (fun _ h => ?_); (conv => whnf)
        refine hK _ _ _ ?_; clear hK K
        refine InBlock_n ?_
        refine Then_n ?_
        refine HT_f DC_ok rfl fun K hK => ?_; (conv => whnf)
        refine hK _ _ _ ?_; clear hK K
        refine Then_n ?_
        replace h := W_xnx h
        refine ⟨_, h, ?_⟩
        refine weak_k ?_; (conv => whnf)
        exact And.intro rfl (And.intro (allL_c (wkr (loose_lst fun _ => (loose_int _ _))) (allL_c wkI (allL_c wkI (allL_c (WkR_ep (VsR_cons (WkR.mp (fun _ => rfl)) VsR_nil)) (allL_c (wkr (loose_ep (cA_loose _))) (allL_c (WkR.ptr (fun _ => rfl)) (allL_c wkI allL_n))))))) (allL_c ⟨some _, rfl, BkR_m (enc := (eL 1 eI default)) rfl (fun _ => (loose_lst fun _ => (loose_int _ _)))⟩ (allL_c ⟨some _, rfl, BkR_c rfl (CkR_cons (WkR_fn VsR_nil (VsR_cons (WkR_ep (VsR_cons (WkR.mp (fun _ => rfl)) VsR_nil)) (VsR_cons (wkr (loose_ep (loose_cons (loose_int _ _) (loose_cons (loose_lst fun _ => (lo_A46 _)) loose_nil)))) (VsR_cons (wkr (loose_ep (cA_loose _))) (VsR_cons (WkR.ptr (fun _ => rfl)) VsR_nil))))) CkR_nil)⟩ allL_n)))
      refine hK2 ?_; clear hK1 hK2 K1 K2
      refine HT_skip ?_
      refine InBlock_n ?_
      refine Then_n ?_
      refine HT_f DC_ok rfl fun K hK => ?_; (conv => whnf)
      refine hK _ _ _ ?_; clear hK K
      refine Then_n ?_
      replace h := W_xnx h
      refine ⟨_, h, ?_⟩
      refine weak_k ?_; (conv => whnf)
      exact And.intro rfl (And.intro (allL_c (wkr (loose_lst fun _ => (loose_int _ _))) (allL_c wkI (allL_c wkI (allL_c (WkR_ep (VsR_cons (WkR.mp (fun _ => rfl)) VsR_nil)) (allL_c (wkr (loose_ep (cA_loose _))) (allL_c (WkR.ptr (fun _ => rfl)) (allL_c wkI allL_n))))))) (allL_c ⟨some _, rfl, BkR_m (enc := (eL 1 eI default)) rfl (fun _ => (loose_lst fun _ => (loose_int _ _)))⟩ (allL_c ⟨some _, rfl, BkR_c rfl (CkR_cons (WkR_fn VsR_nil (VsR_cons (WkR_ep (VsR_cons (WkR.mp (fun _ => rfl)) VsR_nil)) (VsR_cons (wkr (loose_ep (loose_cons (loose_int _ _) (loose_cons (loose_lst fun _ => (lo_A46 _)) loose_nil)))) (VsR_cons (wkr (loose_ep (cA_loose _))) (VsR_cons (WkR.ptr (fun _ => rfl)) VsR_nil))))) CkR_nil)⟩ allL_n)))
    refine hK _ _ _ ?_; clear hK K
    replace h := W_jn h
    refine HT_if fun K1 K2 hK1 hK2 => ?_; (conv => whnf)
    refine hK2 ?_; clear hK1 hK2 K1 K2
    replace h := W_cnF h
    refine HT_skip ?_
    refine InBlock_n ?_
    refine Then_n ?_
    refine HT_f DC_ok rfl fun K hK => ?_; (conv => whnf)
    refine hK _ _ _ ?_; clear hK K
    refine Then_n ?_
    replace h := W_xnx h
    refine ⟨_, h, ?_⟩
    refine weak_k ?_; (conv => whnf)
    exact And.intro rfl (And.intro (allL_c (wkr (loose_lst fun _ => (loose_int _ _))) (allL_c wkI (allL_c wkI (allL_c (WkR_ep (VsR_cons (WkR.mp (fun _ => rfl)) VsR_nil)) (allL_c (wkr (loose_ep (cA_loose _))) (allL_c (WkR.ptr (fun _ => rfl)) (allL_c wkI allL_n))))))) (allL_c ⟨some _, rfl, BkR_m (enc := (eL 1 eI default)) rfl (fun _ => (loose_lst fun _ => (loose_int _ _)))⟩ (allL_c ⟨some _, rfl, BkR_c rfl (CkR_cons (WkR_fn VsR_nil (VsR_cons (WkR_ep (VsR_cons (WkR.mp (fun _ => rfl)) VsR_nil)) (VsR_cons (wkr (loose_ep (loose_cons (loose_int _ _) (loose_cons (loose_lst fun _ => (lo_A46 _)) loose_nil)))) (VsR_cons (wkr (loose_ep (cA_loose _))) (VsR_cons (WkR.ptr (fun _ => rfl)) VsR_nil))))) CkR_nil)⟩ allL_n)))
  refine hK2 ?_; clear hK1 hK2 K1 K2
  refine HT_exit ?_
  refine Then_e ?_
  refine Then_e ?_
  refine InBlock_e ?_
  replace h := W_xbk h
  replace h := W_inl h
  refine Then_n ?_
  refine HT_fd DC_ok mix_ok rfl (by kernel_rfl) fun K hK => ?_; (conv => whnf)
  refine getK_of rfl ?_; (conv => whnf)
  refine lt_lk (enc := eI) (d := default) DC_ok h rfl rfl rfl ⟨nle rfl, nle rfl, rfl⟩ rfl ⟨⟨rfl, rfl, rfl⟩, trivial⟩ (fun h => ?_); (conv => whnf)
  refine apfW_lk (enc := eI) (d := default) DC_ok h rfl rfl rfl ⟨rfl, nle rfl, nle rfl, nle rfl, rfl⟩ (fun _ => rfl) (fun h => ?_); (conv => whnf)
  refine mput_lk (enc := (eL 1 eI default)) DC_ok rfl rfl ?_; (conv => whnf)
  refine hK _ _ _ ?_; clear hK K
  refine HT_fr DC_ok rfl fun K hK => ?_; (conv => whnf)
  refine getK_of rfl ?_; (conv => whnf)
  refine mgetW_lk (enc := (eL 1 eI default)) DC_ok rfl [] Wk_nil rfl (nle rfl) ?_; (conv => whnf)
  refine hK _ _ _ ?_; clear hK K
  refine HT_ret ?_
  replace h := W_some h
  refine PostC_r DC_ok fun K hK => ?_; (conv => whnf)
  refine hK _ ?_; clear hK K
  cases h
  exact ⟨Wk.refl _, ⟨_, rfl, bkW _⟩, rfl, trivial⟩
theorem from_ok {T : Tbl} (hT : TOk Tryd.prog T) (hpf : PfOk T PF) : FOk Tryd.prog 59 (ancR (from_S 10)) :=
  FOk_fuel (S := from_S) hT hpf (by decide) Tryd.func59 rfl (by decide) (by rintro a b c d ⟨a0, c1, c2, m0, y, -, -, h, -⟩; cases h) (fun k T' hT' hpf' hne h => from_st k hT' hpf' h) 10
end Go.Proofs.YtlmboonbfhkfnaaDoor
namespace Go.Proofs.YtlmboonbfhkfnaaDoor
open Go Go.Eng
set_option maxHeartbeats 0
set_option maxRecDepth 100000

    def order_Chain_b1 (a0 : TOrder) (y1 : (Ar 8) × Bool) (s2 : (List Int) × Int × (GM (List Int))) : Option (Ct ((List Int) × Int × (GM (List Int))) ((List Int) × Int)) := cn (decide (s2.2.1 < a0.N)) (bd (from_F 10 s2.2.1 a0 y1.1 s2.2.2) fun y3 =>
    jn (fun p4 : (List Int) × (GM (List Int)) => some (.nx (p4.1, (wr (s2.2.1 + 1)), p4.2))) fun k5 => cn (decide ((y3.1.length : Int) >
    (s2.1.length : Int))) (bd (from_F 10 s2.2.1 a0 y1.1 y3.2) fun y6 => k5 (y6.1, y6.2)) (k5 (s2.1, y3.2))) (some (.bk (s2.1, s2.2.1, s2.2.2)))
theorem W_border_Chain_b1 {a0 : TOrder} {y1 : (Ar 8) × Bool} {s2 : (List Int) × Int × (GM (List Int))} {Φ : Ct ((List Int) × Int × (GM (List Int))) ((List Int) × Int) → Prop} (h : W (order_Chain_b1 a0 y1 s2) Φ) : W (cn (decide (s2.2.1 < a0.N)) (bd (from_F 10 s2.2.1 a0 y1.1 s2.2.2) fun y3 => jn (fun p4 : (List Int) × (GM (List Int)) => some (.nx (p4.1, (wr (s2.2.1 + 1)), p4.2))) fun k5 =>
    cn (decide ((y3.1.length : Int) > (s2.1.length : Int))) (bd (from_F 10 s2.2.1 a0 y1.1 y3.2) fun y6 => k5 (y6.1, y6.2)) (k5 (s2.1, y3.2))) (some (.bk (s2.1, s2.2.1, s2.2.2)))) Φ := h
def order_Chain_F (a0 : TOrder) : Option ((List Int) × Int) := bd (order_read_F a0) fun y1 =>
    cn (!y1.2) (some ([], 70)) (bd (lp (order_Chain_b1 a0 y1) FU ([], 0, (GM.mt (List Int)))) fun c7 => smK c7 (fun s8 => gd (s8.1.length ≤ 1048576) (lt s8.1 fun m10 =>
    some (m10, 0))) (fun r9 => some r9))
def order_Chain_S : List AV → AV → Prop := fun args r => ∃ a0, args = [eTOrder a0] ∧ W (order_Chain_F a0) fun y => r = (.tup [(eL 1 eI default) y.1, eI y.2])
theorem order_Chain_ok {T : Tbl} (hT : TOk Tryd.prog T) (hpf : PfOk T PF) (h54 : T 54 = pureR order_read_S) (h59 : T 59 = ancR (from_S 10)) (h60 : T 60 = cloneR 1 eI default) : FOk Tryd.prog 29 (pureR order_Chain_S) := by
  refine FOk_pure hT hpf Tryd.func29 rfl Tryd.ntmps29 Tryd.results29 (by decide) ?_
  rintro args r ⟨a0, rfl, h⟩
  refine ⟨nle rfl, ?_, ?_⟩
  · exact (loose_cons (lo_TOrder _) loose_nil)
  rw [order_Chain_F.eq_1] at h
  refine HT_fr DC_ok rfl fun K hK => ?_; (conv => whnf)
  refine hK _ _ _ ?_; clear hK K
  refine HT_fr DC_ok rfl fun K hK => ?_; (conv => whnf)
  refine nlA rfl ?_; (conv => whnf)
  refine blkK_of rfl ?_; (conv => whnf)
  refine nlA rfl ?_; (conv => whnf)
  replace h := W_bd h
  refine order_read_call h54 h (WkL.refl _) (fun _ h => ?_); (conv => whnf)
  refine forceL_skip ?_; (conv => whnf)
  refine forceL_skip ?_; (conv => whnf)
  refine forceL_skip ?_; (conv => whnf)
  refine blkK_of rfl ?_; (conv => whnf)
  refine sw_ar rfl rfl rfl ?_; (conv => whnf)
  refine hK _ _ _ ?_; clear hK K
  refine HT_seq ?_
  refine HT_fr DC_ok rfl fun K hK => ?_; (conv => whnf)
  refine hK _ _ _ ?_; clear hK K
  refine HT_if fun K1 K2 hK1 hK2 => ?_; (conv => whnf)
  refine cond_lk h (fun _ h => ?_) (fun _ h => ?_)
  · refine hK1 ?_; clear hK1 hK2 K1 K2
    refine HT_fr DC_ok rfl fun K hK => ?_; (conv => whnf)
    refine hK _ _ _ ?_; clear hK K
    refine HT_ret ?_
    refine Then_r ?_
    replace h := W_some h
    refine PostP_r DC_ok fun K hK => ?_; (conv => whnf)
    refine hK _ ?_; clear hK K
    cases h
    exact Wk_tup (WkL_cons Wk_nil (WkL_cons (Wk.refl _) WkL_nil))
  refine hK2 ?_; clear hK1 hK2 K1 K2
  refine HT_skip ?_
  refine Then_n ?_
  refine HT_fr DC_ok rfl fun K hK => ?_; (conv => whnf)
  refine blkK_of rfl ?_; (conv => whnf)
  refine And.intro rfl (And.intro (nle rfl) (And.intro rfl ?_)); (conv => whnf)
  refine hK _ _ _ ?_; clear hK K
  refine HT_fr DC_ok rfl fun K hK => ?_; (conv => whnf)
  refine hK _ _ _ ?_; clear hK K
  refine HT_frzK 6 ?_; (conv => whnf); refine ⟨_, rfl, ?_⟩
  refine HT_frzK 1 ?_; (conv => whnf); refine ⟨_, rfl, ?_⟩
  refine HT_frzK 4 ?_; (conv => whnf); refine ⟨_, rfl, ?_⟩
  refine HT_fr DC_ok rfl fun K hK => ?_; (conv => whnf)
  refine blkK_of rfl ?_; (conv => whnf)
  refine And.intro rfl (And.intro (nle rfl) (And.intro rfl ?_)); (conv => whnf)
  refine hK _ _ _ ?_; clear hK K
  refine HT_fr DC_ok rfl fun K hK => ?_; (conv => whnf)
  refine hK _ _ _ ?_; clear hK K
  refine HT_seq ?_
  refine HT_fr DC_ok rfl fun K hK => ?_; (conv => whnf)
  refine getK_of rfl ?_; (conv => whnf)
  refine hK _ _ _ ?_; clear hK K
  refine HT_block ?_
  replace h := W_bd h
  refine HT_lpK (body := order_Chain_b1 _ _) rfl h [7, 17, 20] [7] [17] (fun kl kh ids b s => ⟨ofL ([(8, (eL 1 eI default) s.1), (21, eI s.2.1)] ++ kl), ofH ([(nthN ids 0, abM (eL 1 eI default) s.2.2)] ++ kh), b + 64⟩) ?_; (conv => whnf); refine And.intro ?_ (fun s m h => HT_st ?_)
  · refine weak_k ?_; (conv => whnf)
    exact And.intro rfl (And.intro (allL_c (WkR.wk Wk_nil (loose_lst fun _ => (loose_int _ _))) (allL_c wkI (allL_c (WkR.ptr (fun _ => rfl)) (allL_c (WkR.mp (fun _ => rfl)) (allL_c wkI allL_n))))) (allL_c ⟨some _, rfl, BkR_m (enc := (eL 1 eI default)) (m := (GM.mt (List Int))) rfl (fun _ => (loose_lst fun _ => (loose_int _ _)))⟩ (allL_c ⟨some _, rfl, BkR_c rfl (CkR_cons (WkR_fn VsR_nil (VsR_cons (WkR_ep (VsR_cons (WkR.mp (fun _ => rfl)) VsR_nil)) (VsR_cons (wkr (loose_ep (loose_cons (loose_int _ _) (loose_cons (loose_lst fun _ => (lo_A46 _)) loose_nil)))) (VsR_cons (wkr (loose_ep (cA_loose _))) (VsR_cons (WkR.ptr (fun _ => rfl)) VsR_nil))))) CkR_nil)⟩ allL_n)))
  replace h := W_border_Chain_b1 (W_bd h)
  refine HT_fr DC_ok rfl fun K hK => ?_; (conv => whnf)
  refine hK _ _ _ ?_; clear hK K
  refine HT_seq ?_
  refine HT_if fun K1 K2 hK1 hK2 => ?_; (conv => whnf)
  refine cond_lk h (fun _ h => ?_) (fun _ h => ?_)
  · refine hK1 ?_; clear hK1 hK2 K1 K2
    refine HT_skip ?_
    refine Then_n ?_
    refine HT_seq ?_
    refine HT_block ?_
    refine HT_fr DC_ok rfl fun K hK => ?_; (conv => whnf)
    refine hK _ _ _ ?_; clear hK K
    refine HT_fr DC_ok rfl fun K hK => ?_; (conv => whnf)
    refine nlA rfl ?_; (conv => whnf)
    refine blkK_of rfl ?_; (conv => whnf)
    refine getK_of rfl ?_; (conv => whnf)
    refine callsK_ancR (bs := [.ab (abM (eL 1 eI default) _), .fn 59 [.m 0, .v _, .v _, .p 1]]) (args0 := [_, .ep [.mp 0] 0, _, _, .ptr 1 0]) h59 [_, _] h (.cons (WkA_wk (Wk.refl _) (loose_int _ _)) (.cons (WkA_ep (VsA_cons (WkA_mp rfl) VsA_nil)) (.cons (WkA_loose (loose_ep (loose_cons (loose_int _ _) (loose_cons (loose_lst fun _ => (lo_A46 _)) loose_nil)))) (.cons (WkA_loose (loose_ep (cA_loose _))) (.cons (WkA_ptr rfl) .nil))))) ⟨⟨_, rfl, bkW _⟩, rfl, trivial⟩ rfl (nle rfl) (fun y e => (⟨_, _, _, _, _, rfl, rfl, e, rfl, rfl⟩ : from_S 10 _ _ _ _)) (fun _ h => ?_); (conv => whnf)
    refine hK _ _ _ ?_; clear hK K
    replace h := W_jn h
    refine HT_if fun K1 K2 hK1 hK2 => ?_; (conv => whnf)
    refine cond_lk h (fun _ h => ?_) (fun _ h => ?_)
    · refine hK1 ?_; clear hK1 hK2 K1 K2
      refine HT_f DC_ok rfl fun K hK => ?_; (conv => whnf)
      refine nlA rfl ?_; (conv => whnf)
      refine blkK_of rfl ?_; (conv => whnf)
      refine getK_of rfl ?_; (conv => whnf)
      refine callsK_ancR (bs := [.ab (abM (eL 1 eI default) _), .fn 59 [.m 0, .v _, .v _, .p 1]]) (args0 := [_, .ep [.mp 0] 0, _, _, .ptr 1 0]) h59 [_, _] h (.cons (WkA_wk (Wk.refl _) (loose_int _ _)) (.cons (WkA_ep (VsA_cons (WkA_mp rfl) VsA_nil)) (.cons (WkA_loose (loose_ep (loose_cons (loose_int _ _) (loose_cons (loose_lst fun _ => (lo_A46 _)) loose_nil)))) (.cons (WkA_loose (loose_ep (cA_loose _))) (.cons (WkA_ptr rfl) .nil))))) ⟨⟨_, rfl, bkW _⟩, rfl, trivial⟩ rfl (nle rfl) (fun y e => (⟨_, _, _, _, _, rfl, rfl, e, rfl, rfl⟩ : from_S 10 _ _ _ _)) (fun _ h => ?_); (conv => whnf)
      refine hK _ _ _ ?_; clear hK K
      refine InBlock_n ?_
      refine Then_n ?_
      refine HT_f DC_ok rfl fun K hK => ?_; (conv => whnf)
      refine hK _ _ _ ?_; clear hK K
      refine Then_n ?_
      replace h := W_xnx h
      refine ⟨_, h, ?_⟩
      refine weak_k ?_; (conv => whnf)
      exact And.intro rfl (And.intro (allL_c (wkr (loose_lst fun _ => (loose_int _ _))) (allL_c wkI (allL_c (WkR.ptr (fun _ => rfl)) (allL_c (WkR.mp (fun _ => rfl)) (allL_c wkI allL_n))))) (allL_c ⟨some _, rfl, BkR_m (enc := (eL 1 eI default)) rfl (fun _ => (loose_lst fun _ => (loose_int _ _)))⟩ (allL_c ⟨some _, rfl, BkR_c rfl (CkR_cons (WkR_fn VsR_nil (VsR_cons (WkR_ep (VsR_cons (WkR.mp (fun _ => rfl)) VsR_nil)) (VsR_cons (wkr (loose_ep (loose_cons (loose_int _ _) (loose_cons (loose_lst fun _ => (lo_A46 _)) loose_nil)))) (VsR_cons (wkr (loose_ep (cA_loose _))) (VsR_cons (WkR.ptr (fun _ => rfl)) VsR_nil))))) CkR_nil)⟩ allL_n)))
    refine hK2 ?_; clear hK1 hK2 K1 K2
    refine HT_skip ?_
    refine InBlock_n ?_
    refine Then_n ?_
    refine HT_f DC_ok rfl fun K hK => ?_; (conv => whnf)
    refine hK _ _ _ ?_; clear hK K
    refine Then_n ?_
    replace h := W_xnx h
    refine ⟨_, h, ?_⟩
    refine weak_k ?_; (conv => whnf)
    exact And.intro rfl (And.intro (allL_c (wkr (loose_lst fun _ => (loose_int _ _))) (allL_c wkI (allL_c (WkR.ptr (fun _ => rfl)) (allL_c (WkR.mp (fun _ => rfl)) (allL_c wkI allL_n))))) (allL_c ⟨some _, rfl, BkR_m (enc := (eL 1 eI default)) rfl (fun _ => (loose_lst fun _ => (loose_int _ _)))⟩ (allL_c ⟨some _, rfl, BkR_c rfl (CkR_cons (WkR_fn VsR_nil (VsR_cons (WkR_ep (VsR_cons (WkR.mp (fun _ => rfl)) VsR_nil)) (VsR_cons (wkr (loose_ep (loose_cons (loose_int _ _) (loose_cons (loose_lst fun _ => (lo_A46 _)) loose_nil)))) (VsR_cons (wkr (loose_ep (cA_loose _))) (VsR_cons (WkR.ptr (fun _ => rfl)) VsR_nil))))) CkR_nil)⟩ allL_n)))
  refine hK2 ?_; clear hK1 hK2 K1 K2
  refine HT_exit ?_
  refine Then_e ?_
  refine Then_e ?_
  refine InBlock_e ?_
  replace h := W_xbk h
  replace h := W_inl h
  refine Then_n ?_
  refine HT_fr DC_ok rfl fun K hK => ?_; (conv => whnf)
  refine gd_lk_u h fun hg h => ?_
  replace h := W_lt h
  refine callaK_clone h60 (WkL_cons (Wk.refl _) WkL_nil) hg (fun _ => (loose_cons (loose_int _ _) loose_nil)) ?_; (conv => whnf)
  refine hK _ _ _ ?_; clear hK K
  refine HT_frzSK 2 (enc := eI) (e := 3) default (ElOk_one DC_ok rfl rfl rfl (fun _ => ⟨rfl, rfl⟩)) ?_; (conv => whnf); refine ⟨_, _, rfl, rfl, rfl, ?_⟩
  refine HT_ret ?_
  replace h := W_some h
  refine PostP_r DC_ok fun K hK => ?_; (conv => whnf)
  refine hK _ ?_; clear hK K
  cases h
  exact Wk.refl _
theorem order_Chain_call {T : Tbl} (hT : T 29 = pureR order_Chain_S) {args : List AV} {hp : Heap} {id : Nat} {k : AV → Prop} {a0 : TOrder} {Φ : (List Int) × Int → Prop} (h : W (order_Chain_F a0) Φ) (hw : WkL args [eTOrder a0]) (hk : ∀ y, Φ y → k (.tup [(eL 1 eI default) y.1, eI y.2])) : callpK T 29 args hp id k := by
  obtain ⟨y, e, hy⟩ := W_inv h
  exact callpK_pure hT ⟨a0, rfl, W_of e rfl⟩ (by exact loose_tup (loose_cons (loose_lst fun _ => (loose_int _ _)) (loose_cons (loose_int _ _) loose_nil))) hw (hk y hy)
end Go.Proofs.YtlmboonbfhkfnaaDoor
namespace Go.Proofs.YtlmboonbfhkfnaaDoor
open Go Go.Eng
set_option maxHeartbeats 0
set_option maxRecDepth 100000
def order_line_b2 (a0 : Int) (a1 : Ar 8) (s2 : (List Int) × Int × Int) : Option (Ct ((List Int) × Int × Int) (List Int)) := cn (decide (s2.2.2 < a0)) (jn (fun p3 : Bool =>
    cn p3 (lt ([s2.2.2] : List Int) fun l5 => ap s2.1 l5 fun l6 => gd (0 ≤ s2.2.2) (let v7 := (bor .i64 s2.2.1 (bshl .i64 1 s2.2.2));
    some (.bk (l6, v7, s2.2.2)))) (some (.nx (s2.1, s2.2.1, (wr (s2.2.2 + 1)))))) fun k4 => gd (0 ≤ s2.2.2) (cn ((band .i64 (bshr .i64 s2.2.1 s2.2.2) 1) ==
    0) (gd (0 ≤ s2.2.2 ∧ s2.2.2 < (8 : Int)) (k4 ((bandNot .i64 (a1.at1 s2.2.2) s2.2.1) == 0))) (k4 false))) (some (.bk (s2.1, s2.2.1, s2.2.2)))
theorem W_border_line_b2 {a0 : Int} {a1 : Ar 8} {s2 : (List Int) × Int × Int} {Φ : Ct ((List Int) × Int × Int) (List Int) → Prop} (h : W (order_line_b2 a0 a1 s2) Φ) : W (cn (decide (s2.2.2 < a0)) (jn (fun p3 : Bool => cn p3 (lt ([s2.2.2] : List Int) fun l5 => ap s2.1 l5 fun l6 => gd (0 ≤ s2.2.2) (let v7 := (bor .i64 s2.2.1 (bshl .i64 1 s2.2.2));
    some (.bk (l6, v7, s2.2.2)))) (some (.nx (s2.1, s2.2.1, (wr (s2.2.2 + 1)))))) fun k4 => gd (0 ≤ s2.2.2) (cn ((band .i64 (bshr .i64 s2.2.1 s2.2.2) 1) ==
    0) (gd (0 ≤ s2.2.2 ∧ s2.2.2 < (8 : Int)) (k4 ((bandNot .i64 (a1.at1 s2.2.2) s2.2.1) == 0))) (k4 false))) (some (.bk (s2.1, s2.2.1, s2.2.2)))) Φ := h

    def order_line_b1 (a0 : Int) (a1 : Ar 8) (s1 : (List Int) × Int) : Option (Ct ((List Int) × Int) (List Int)) := cn (decide ((s1.1.length : Int) < a0)) (bd (lp (order_line_b2 a0 a1) FU (s1.1, s1.2, 0)) fun c8 =>
    smK c8 (fun s9 => some (.nx (s9.1, s9.2.1))) (fun r10 => some (.rt r10))) (some (.bk (s1.1, s1.2)))
theorem W_border_line_b1 {a0 : Int} {a1 : Ar 8} {s1 : (List Int) × Int} {Φ : Ct ((List Int) × Int) (List Int) → Prop} (h : W (order_line_b1 a0 a1 s1) Φ) : W (cn (decide ((s1.1.length : Int) < a0)) (bd (lp (order_line_b2 a0 a1) FU (s1.1, s1.2, 0)) fun c8 => smK c8 (fun s9 => some (.nx (s9.1, s9.2.1))) (fun r10 =>
    some (.rt r10))) (some (.bk (s1.1, s1.2)))) Φ := h
def order_line_F (a0 : Int) (a1 : Ar 8) : Option (List Int) := bd (lp (order_line_b1 a0 a1) FU ([], 0)) fun c11 => smK c11 (fun s12 => some s12.1) (fun r13 => some r13)
def order_line_S : List AV → AV → Prop := fun args r => ∃ a0 a1, args = [eI a0, eAr a1] ∧ W (order_line_F a0 a1) fun y => r = ((eL 1 eI default) y)
theorem order_line_ok {T : Tbl} (hT : TOk Tryd.prog T) (hpf : PfOk T PF) : FOk Tryd.prog 57 (pureR order_line_S) := by
  refine FOk_pure hT hpf Tryd.func57 rfl Tryd.ntmps57 Tryd.results57 (by decide) ?_
  rintro args r ⟨a0, a1, rfl, h⟩
  refine ⟨nle rfl, ?_, ?_⟩
  · exact (loose_cons (loose_int _ _) (loose_cons (loose_arr _) loose_nil))
  rw [order_line_F.eq_1] at h
  refine HT_fr DC_ok rfl fun K hK => ?_; (conv => whnf)
  refine forceL_skip ?_; (conv => whnf)
  refine hK _ _ _ ?_; clear hK K
  refine HT_fr DC_ok rfl fun K hK => ?_; (conv => whnf)
  refine hK _ _ _ ?_; clear hK K
  refine HT_seq ?_
  refine HT_fr DC_ok rfl fun K hK => ?_; (conv => whnf)
  refine hK _ _ _ ?_; clear hK K
  refine HT_block ?_
  replace h := W_bd h
  refine HT_lpR (body := order_line_b1 _ _) rfl h [0, 3] [] [3] [] (fun kl kh kr ids b s => ⟨ofL ([(5, .so (b + 0) 0 s.1.length 1), (6, eI s.2)] ++ kl), ofH (([] ++ kh) ++ ([(b + 0, .cells (flE (ceE eI) s.1))] ++ kr)), b + 128⟩) ?_; (conv => whnf); refine And.intro ?_ (fun s m h => HT_st ?_)
  · refine weak_r ?_; (conv => whnf)
    exact And.intro rfl (And.intro (allL_c (WkR.nilso (fun _ => rfl)) (allL_c wkI (allL_c wkI (allL_c (WkR.ptr (fun _ => rfl)) allL_n)))) (allL_c ⟨none, rfl, BkR_nr⟩ (allL_c ⟨some _, rfl, BkR_arr rfl rfl⟩ allL_n)))
  replace h := W_border_line_b1 (W_bd h)
  refine HT_seq ?_
  refine HT_fr DC_ok rfl fun K hK => ?_; (conv => whnf)
  refine hK _ _ _ ?_; clear hK K
  refine HT_if fun K1 K2 hK1 hK2 => ?_; (conv => whnf)
  refine cond_lk h (fun _ h => ?_) (fun _ h => ?_)
  · refine hK1 ?_; clear hK1 hK2 K1 K2
    refine HT_skip ?_
    refine Then_n ?_
    refine HT_block ?_
    refine HT_fr DC_ok rfl fun K hK => ?_; (conv => whnf)
    refine hK _ _ _ ?_; clear hK K
    refine HT_block ?_
    replace h := W_bd h
    refine HT_lpR (body := order_line_b2 _ _) rfl h [0, 3, 12] [] [3] [] (fun kl kh kr ids b s => ⟨ofL ([(5, .so (b + 0) 0 s.1.length 1), (6, eI s.2.1), (13, eI s.2.2)] ++ kl), ofH (([] ++ kh) ++ ([(b + 0, .cells (flE (ceE eI) s.1))] ++ kr)), b + 128⟩) ?_; (conv => whnf); refine And.intro ?_ (fun s m h => HT_st ?_)
    · refine weak_r ?_; (conv => whnf)
      exact And.intro rfl (And.intro (allL_c (WkR.so (fun _ => rfl)) (allL_c wkI (allL_c wkI (allL_c wkI (allL_c (WkR.ptr (fun _ => rfl)) (allL_c wkI allL_n)))))) (allL_c ⟨some _, rfl, BkR_r rfl (fun _ => (loose_cons (loose_int _ _) loose_nil))⟩ (allL_c ⟨some _, rfl, BkR_arr rfl rfl⟩ allL_n)))
    replace h := W_border_line_b2 (W_bd h)
    refine HT_fr DC_ok rfl fun K hK => ?_; (conv => whnf)
    refine hK _ _ _ ?_; clear hK K
    refine HT_seq ?_
    refine HT_if fun K1 K2 hK1 hK2 => ?_; (conv => whnf)
    refine cond_lk h (fun _ h => ?_) (fun _ h => ?_)
    · refine hK1 ?_; clear hK1 hK2 K1 K2
      refine HT_skip ?_
      refine Then_n ?_
      refine HT_seq ?_
      refine HT_block ?_
      refine HT_fr DC_ok rfl fun K hK => ?_; (conv => whnf)
      refine hK _ _ _ ?_; clear hK K
      refine HT_fr DC_ok rfl fun K hK => ?_; (conv => whnf)
      replace h := W_jn h
      refine gd_lk h fun _ h => ?_; (conv => whnf)
      refine cond_lk h (fun _ h => ?_) (fun _ h => ?_) <;> (conv => whnf)
      · refine gd_lk h fun hx113 h => ?_; (conv => whnf)
        refine nlA rfl ?_; (conv => whnf)
        refine blkK_of rfl ?_; (conv => whnf)
        refine get_ar1 rfl hx113 ?_; (conv => whnf)
        refine hK _ _ _ ?_; clear hK K
        refine HT_if fun K1 K2 hK1 hK2 => ?_; (conv => whnf)
        refine cond_lk h (fun _ h => ?_) (fun _ h => ?_)
        · refine hK1 ?_; clear hK1 hK2 K1 K2
          refine HT_fd DC_ok mix_ok rfl (by kernel_rfl) fun K hK => ?_; (conv => whnf)
          refine lt_lk (enc := eI) (d := default) DC_ok h rfl rfl rfl ⟨nle rfl, nle rfl, rfl⟩ rfl ⟨⟨rfl, rfl, rfl⟩, trivial⟩ (fun h => ?_); (conv => whnf)
          refine apo_lk (enc := eI) (d := default) DC_ok h rfl rfl rfl ⟨rfl, nle rfl, nle rfl, nle rfl, rfl⟩ (fun _ => rfl) (fun _ => rfl) (fun _ => nofun) rfl (rfl) (fun h => ?_); (conv => whnf)
          refine gd_lk h fun _ h => ?_; (conv => whnf)
          refine hK _ _ _ ?_; clear hK K
          refine HT_exit ?_
          refine InBlock_o (by decide) ?_
          refine Then_e ?_
          refine Then_e ?_
          refine InBlock_e ?_
          replace h := W_xbk h
          replace h := W_inl h
          refine InBlock_n ?_
          refine Then_n ?_
          replace h := W_xnx h
          refine ⟨_, h, ?_⟩
          refine weak_r ?_; (conv => whnf)
          exact And.intro rfl (And.intro (allL_c (WkR.so (fun _ => rfl)) (allL_c wkI (allL_c wkI (allL_c (WkR.ptr (fun _ => rfl)) allL_n)))) (allL_c ⟨some _, rfl, BkR_r rfl (fun _ => (loose_cons (loose_int _ _) loose_nil))⟩ (allL_c ⟨some _, rfl, BkR_arr rfl rfl⟩ allL_n)))
        refine hK2 ?_; clear hK1 hK2 K1 K2
        refine HT_skip ?_
        refine InBlock_n ?_
        refine Then_n ?_
        refine HT_f DC_ok rfl fun K hK => ?_; (conv => whnf)
        refine hK _ _ _ ?_; clear hK K
        refine Then_n ?_
        replace h := W_xnx h
        refine ⟨_, h, ?_⟩
        refine weak_r ?_; (conv => whnf)
        exact And.intro rfl (And.intro (allL_c (WkR.so (fun _ => rfl)) (allL_c wkI (allL_c wkI (allL_c wkI (allL_c (WkR.ptr (fun _ => rfl)) (allL_c wkI allL_n)))))) (allL_c ⟨some _, rfl, BkR_r rfl (fun _ => (loose_cons (loose_int _ _) loose_nil))⟩ (allL_c ⟨some _, rfl, BkR_arr rfl rfl⟩ allL_n)))
      refine hK _ _ _ ?_; clear hK K
      refine HT_if fun K1 K2 hK1 hK2 => ?_; (conv => whnf)
      refine hK2 ?_; clear hK1 hK2 K1 K2
      replace h := W_cnF h
      refine HT_skip ?_
      refine InBlock_n ?_
      refine Then_n ?_
      refine HT_f DC_ok rfl fun K hK => ?_; (conv => whnf)
      refine hK _ _ _ ?_; clear hK K
      refine Then_n ?_
      replace h := W_xnx h
      refine ⟨_, h, ?_⟩
      refine weak_r ?_; (conv => whnf)
      exact And.intro rfl (And.intro (allL_c (WkR.so (fun _ => rfl)) (allL_c wkI (allL_c wkI (allL_c wkI (allL_c (WkR.ptr (fun _ => rfl)) (allL_c wkI allL_n)))))) (allL_c ⟨some _, rfl, BkR_r rfl (fun _ => (loose_cons (loose_int _ _) loose_nil))⟩ (allL_c ⟨some _, rfl, BkR_arr rfl rfl⟩ allL_n)))
    refine hK2 ?_; clear hK1 hK2 K1 K2
    refine HT_exit ?_
    refine Then_e ?_
    refine Then_e ?_
    refine InBlock_e ?_
    replace h := W_xbk h
    replace h := W_inl h
    refine InBlock_n ?_
    refine Then_n ?_
    replace h := W_xnx h
    refine ⟨_, h, ?_⟩
    refine weak_r ?_; (conv => whnf)
    exact And.intro rfl (And.intro (allL_c (WkR.so (fun _ => rfl)) (allL_c wkI (allL_c wkI (allL_c (WkR.ptr (fun _ => rfl)) allL_n)))) (allL_c ⟨some _, rfl, BkR_r rfl (fun _ => (loose_cons (loose_int _ _) loose_nil))⟩ (allL_c ⟨some _, rfl, BkR_arr rfl rfl⟩ allL_n)))
  refine hK2 ?_; clear hK1 hK2 K1 K2
  refine HT_exit ?_
  refine Then_e ?_
  refine Then_e ?_
  refine InBlock_e ?_
  replace h := W_xbk h
  replace h := W_inl h
  refine Then_n ?_
  refine HT_fr DC_ok rfl fun K hK => ?_; (conv => whnf)
  refine hK _ _ _ ?_; clear hK K
  refine HT_frzSK 4 (enc := eI) (e := 3) default (ElOk_one DC_ok rfl rfl rfl (fun _ => ⟨rfl, rfl⟩)) ?_; (conv => whnf); refine ⟨_, _, rfl, rfl, rfl, ?_⟩
  refine HT_ret ?_
  replace h := W_some h
  refine PostP_r DC_ok fun K hK => ?_; (conv => whnf)
  refine hK _ ?_; clear hK K
  cases h
  exact Wk.refl _
theorem order_line_call {T : Tbl} (hT : T 57 = pureR order_line_S) {args : List AV} {hp : Heap} {id : Nat} {k : AV → Prop} {a0 : Int} {a1 : Ar 8} {Φ : List Int → Prop} (h : W (order_line_F a0 a1) Φ) (hw : WkL args [eI a0, eAr a1]) (hk : ∀ y, Φ y → k ((eL 1 eI default) y)) : callpK T 57 args hp id k := by
  obtain ⟨y, e, hy⟩ := W_inv h
  exact callpK_pure hT ⟨a0, a1, rfl, W_of e rfl⟩ (by exact (loose_lst fun _ => (loose_int _ _))) hw (hk y hy)
def order_Line_F (a0 : TOrder) : Option ((List Int) × Int) := bd (order_read_F a0) fun y1 => cn (!y1.2) (some ([], 70)) (bd (order_line_F a0.N y1.1) fun y2 => some (y2, 0))
def order_Line_S : List AV → AV → Prop := fun args r => ∃ a0, args = [eTOrder a0] ∧ W (order_Line_F a0) fun y => r = (.tup [(eL 1 eI default) y.1, eI y.2])
theorem order_Line_ok {T : Tbl} (hT : TOk Tryd.prog T) (hpf : PfOk T PF) (h54 : T 54 = pureR order_read_S) (h57 : T 57 = pureR order_line_S) : FOk Tryd.prog 19 (pureR order_Line_S) := by
  refine FOk_pure hT hpf Tryd.func19 rfl Tryd.ntmps19 Tryd.results19 (by decide) ?_
  rintro args r ⟨a0, rfl, h⟩
  refine ⟨nle rfl, ?_, ?_⟩
  · exact (loose_cons (lo_TOrder _) loose_nil)
  rw [order_Line_F.eq_1] at h
  refine HT_fr DC_ok rfl fun K hK => ?_; (conv => whnf)
  refine hK _ _ _ ?_; clear hK K
  refine HT_fr DC_ok rfl fun K hK => ?_; (conv => whnf)
  refine nlA rfl ?_; (conv => whnf)
  refine blkK_of rfl ?_; (conv => whnf)
  refine nlA rfl ?_; (conv => whnf)
  replace h := W_bd h
  refine order_read_call h54 h (WkL.refl _) (fun _ h => ?_); (conv => whnf)
  refine forceL_skip ?_; (conv => whnf)
  refine forceL_skip ?_; (conv => whnf)
  refine forceL_skip ?_; (conv => whnf)
  refine blkK_of rfl ?_; (conv => whnf)
  refine sw_ar rfl rfl rfl ?_; (conv => whnf)
  refine hK _ _ _ ?_; clear hK K
  refine HT_seq ?_
  refine HT_fr DC_ok rfl fun K hK => ?_; (conv => whnf)
  refine hK _ _ _ ?_; clear hK K
  refine HT_if fun K1 K2 hK1 hK2 => ?_; (conv => whnf)
  refine cond_lk h (fun _ h => ?_) (fun _ h => ?_)
  · refine hK1 ?_; clear hK1 hK2 K1 K2
    refine HT_fr DC_ok rfl fun K hK => ?_; (conv => whnf)
    refine hK _ _ _ ?_; clear hK K
    refine HT_ret ?_
    refine Then_r ?_
    replace h := W_some h
    refine PostP_r DC_ok fun K hK => ?_; (conv => whnf)
    refine hK _ ?_; clear hK K
    cases h
    exact Wk_tup (WkL_cons Wk_nil (WkL_cons (Wk.refl _) WkL_nil))
  refine hK2 ?_; clear hK1 hK2 K1 K2
  refine HT_skip ?_
  refine Then_n ?_
  refine HT_fr DC_ok rfl fun K hK => ?_; (conv => whnf)
  refine nlA rfl ?_; (conv => whnf)
  refine blkK_of rfl ?_; (conv => whnf)
  refine getK_of rfl ?_; (conv => whnf)
  refine nlA rfl ?_; (conv => whnf)
  refine blkK_of rfl ?_; (conv => whnf)
  refine ld_ar rfl ?_; (conv => whnf)
  refine forceL_skip ?_; (conv => whnf)
  replace h := W_bd h
  refine order_line_call h57 h (WkL.refl _) (fun _ h => ?_); (conv => whnf)
  refine hK _ _ _ ?_; clear hK K
  refine HT_ret ?_
  replace h := W_some h
  refine PostP_r DC_ok fun K hK => ?_; (conv => whnf)
  refine hK _ ?_; clear hK K
  cases h
  exact Wk.refl _
theorem order_Line_call {T : Tbl} (hT : T 19 = pureR order_Line_S) {args : List AV} {hp : Heap} {id : Nat} {k : AV → Prop} {a0 : TOrder} {Φ : (List Int) × Int → Prop} (h : W (order_Line_F a0) Φ) (hw : WkL args [eTOrder a0]) (hk : ∀ y, Φ y → k (.tup [(eL 1 eI default) y.1, eI y.2])) : callpK T 19 args hp id k := by
  obtain ⟨y, e, hy⟩ := W_inv h
  exact callpK_pure hT ⟨a0, rfl, W_of e rfl⟩ (by exact loose_tup (loose_cons (loose_lst fun _ => (loose_int _ _)) (loose_cons (loose_int _ _) loose_nil))) hw (hk y hy)
def math_bits_TrailingZeros64_F (a0 : Int) : Option Int := cn (a0 ==
    0) (some 64) (gd (0 ≤ (bshr .u64 (IntKind.u64.wrap ((band .u64 a0 (IntKind.u64.wrap (0 - a0))) * 285870213051353865)) 58) ∧ (bshr .u64 (IntKind.u64.wrap ((band .u64 a0 (IntKind.u64.wrap (0 - a0))) * 285870213051353865)) 58) < (64 : Int)) (let v1 := (wr ((gTz 1 (bshr .u64 (IntKind.u64.wrap ((band .u64 a0 (IntKind.u64.wrap (0 - a0))) * 285870213051353865)) 58))));
    some v1))
def math_bits_TrailingZeros64_S : List AV → AV → Prop := fun args r => ∃ a0, args = [(AV.int .u64) a0] ∧ W (math_bits_TrailingZeros64_F a0) fun y => r = (eI y)
theorem math_bits_TrailingZeros64_ok {T : Tbl} (hT : TOk Tryd.prog T) (hpf : PfOk T PF) : FOk Tryd.prog 87 (pureR math_bits_TrailingZeros64_S) := by
  refine FOk_pure hT hpf Tryd.func87 rfl Tryd.ntmps87 Tryd.results87 (by decide) ?_
  rintro args r ⟨a0, rfl, h⟩
  refine ⟨nle rfl, ?_, ?_⟩
  · exact (loose_cons (loose_int _ _) loose_nil)
  rw [math_bits_TrailingZeros64_F.eq_1] at h
  refine HT_fr DC_ok rfl fun K hK => ?_; (conv => whnf)
  refine hK _ _ _ ?_; clear hK K
  refine HT_seq ?_
  refine HT_fr DC_ok rfl fun K hK => ?_; (conv => whnf)
  refine hK _ _ _ ?_; clear hK K
  refine HT_if fun K1 K2 hK1 hK2 => ?_; (conv => whnf)
  refine cond_lk h (fun _ h => ?_) (fun _ h => ?_)
  · refine hK1 ?_; clear hK1 hK2 K1 K2
    refine HT_fr DC_ok rfl fun K hK => ?_; (conv => whnf)
    refine hK _ _ _ ?_; clear hK K
    refine HT_ret ?_
    refine Then_r ?_
    replace h := W_some h
    refine PostP_r DC_ok fun K hK => ?_; (conv => whnf)
    refine hK _ ?_; clear hK K
    cases h
    exact Wk.refl _
  refine hK2 ?_; clear hK1 hK2 K1 K2
  refine HT_skip ?_
  refine Then_n ?_
  refine HT_fr DC_ok rfl fun K hK => ?_; (conv => whnf)
  refine And.intro (by decide) ?_; (conv => whnf)
  refine gd_lk h fun hx117 h => ?_; (conv => whnf)
  refine get_gt 1 64 rfl rfl hx117 ?_; (conv => whnf)
  refine hK _ _ _ ?_; clear hK K
  refine HT_ret ?_
  replace h := W_some h
  refine PostP_r DC_ok fun K hK => ?_; (conv => whnf)
  refine hK _ ?_; clear hK K
  cases h
  exact Wk.refl _
theorem math_bits_TrailingZeros64_call {T : Tbl} (hT : T 87 = pureR math_bits_TrailingZeros64_S) {args : List AV} {hp : Heap} {id : Nat} {k : AV → Prop} {a0 : Int} {Φ : Int → Prop} (h : W (math_bits_TrailingZeros64_F a0) Φ) (hw : WkL args [(AV.int .u64) a0]) (hk : ∀ y, Φ y → k (eI y)) : callpK T 87 args hp id k := by
  obtain ⟨y, e, hy⟩ := W_inv h
  exact callpK_pure hT ⟨a0, rfl, W_of e rfl⟩ (by exact (loose_int _ _)) hw (hk y hy)
def math_bits_TrailingZeros_F (a0 : Int) : Option Int := bd (math_bits_TrailingZeros64_F a0) fun y1 => some y1
def math_bits_TrailingZeros_S : List AV → AV → Prop := fun args r => ∃ a0, args = [(AV.int .u64) a0] ∧ W (math_bits_TrailingZeros_F a0) fun y => r = (eI y)
theorem math_bits_TrailingZeros_ok {T : Tbl} (hT : TOk Tryd.prog T) (hpf : PfOk T PF) (h87 : T 87 = pureR math_bits_TrailingZeros64_S) : FOk Tryd.prog 82 (pureR math_bits_TrailingZeros_S) := by
  refine FOk_pure hT hpf Tryd.func82 rfl Tryd.ntmps82 Tryd.results82 (by decide) ?_
  rintro args r ⟨a0, rfl, h⟩
  refine ⟨nle rfl, ?_, ?_⟩
  · exact (loose_cons (loose_int _ _) loose_nil)
  rw [math_bits_TrailingZeros_F.eq_1] at h
  refine HT_fr DC_ok rfl fun K hK => ?_; (conv => whnf)
  refine hK _ _ _ ?_; clear hK K
  refine HT_seq ?_
  refine HT_if fun K1 K2 hK1 hK2 => ?_; (conv => whnf)
  refine hK2 ?_; clear hK1 hK2 K1 K2
  refine HT_skip ?_
  refine Then_n ?_
  refine HT_fr DC_ok rfl fun K hK => ?_; (conv => whnf)
  replace h := W_bd h
  refine math_bits_TrailingZeros64_call h87 h (WkL.refl _) (fun _ h => ?_); (conv => whnf)
  refine hK _ _ _ ?_; clear hK K
  refine HT_ret ?_
  replace h := W_some h
  refine PostP_r DC_ok fun K hK => ?_; (conv => whnf)
  refine hK _ ?_; clear hK K
  cases h
  exact Wk.refl _
theorem math_bits_TrailingZeros_call {T : Tbl} (hT : T 82 = pureR math_bits_TrailingZeros_S) {args : List AV} {hp : Heap} {id : Nat} {k : AV → Prop} {a0 : Int} {Φ : Int → Prop} (h : W (math_bits_TrailingZeros_F a0) Φ) (hw : WkL args [(AV.int .u64) a0]) (hk : ∀ y, Φ y → k (eI y)) : callpK T 82 args hp id k := by
  obtain ⟨y, e, hy⟩ := W_inv h
  exact callpK_pure hT ⟨a0, rfl, W_of e rfl⟩ (by exact (loose_int _ _)) hw (hk y hy)
def order_things_b1 (s1 : Int × (List Int)) : Option (Ct (Int × (List Int)) (List Int)) := cn (s1.1 != 0) (bd (math_bits_TrailingZeros_F (IntKind.u64.wrap (s1.1))) fun y2 =>
    lt ([y2] : List Int) fun l3 => ap s1.2 l3 fun l4 => let v5 := (band .i64 s1.1 (wr (s1.1 - 1))); some (.nx (v5, l4))) (some (.bk (s1.1, s1.2)))
theorem W_border_things_b1 {s1 : Int × (List Int)} {Φ : Ct (Int × (List Int)) (List Int) → Prop} (h : W (order_things_b1 s1) Φ) : W (cn (s1.1 != 0) (bd (math_bits_TrailingZeros_F (IntKind.u64.wrap (s1.1))) fun y2 => lt ([y2] : List Int) fun l3 => ap s1.2 l3 fun l4 => let v5 := (band .i64 s1.1 (wr (s1.1 - 1)));
    some (.nx (v5, l4))) (some (.bk (s1.1, s1.2)))) Φ := h
def order_things_F (a0 : Int) : Option (List Int) := bd (lp (order_things_b1) FU (a0, [])) fun c6 => smK c6 (fun s7 => some s7.2) (fun r8 => some r8)
def order_things_S : List AV → AV → Prop := fun args r => ∃ a0, args = [eI a0] ∧ W (order_things_F a0) fun y => r = ((eL 1 eI default) y)
theorem order_things_ok {T : Tbl} (hT : TOk Tryd.prog T) (hpf : PfOk T PF) (h82 : T 82 = pureR math_bits_TrailingZeros_S) : FOk Tryd.prog 61 (pureR order_things_S) := by
  refine FOk_pure hT hpf Tryd.func61 rfl Tryd.ntmps61 Tryd.results61 (by decide) ?_
  rintro args r ⟨a0, rfl, h⟩
  refine ⟨nle rfl, ?_, ?_⟩
  · exact (loose_cons (loose_int _ _) loose_nil)
  rw [order_things_F.eq_1] at h
  refine HT_fr DC_ok rfl fun K hK => ?_; (conv => whnf)
  refine hK _ _ _ ?_; clear hK K
  refine HT_seq ?_
  refine HT_block ?_
  replace h := W_bd h
  refine HT_lpK (body := order_things_b1) rfl h [] [] [] (fun kl kh ids b s => ⟨ofL ([(0, eI s.1), (2, .lst (.tok (b + 0)) 1 s.2.length (fun j => eI (s.2.getD j default)))] ++ kl), ofH ([(b + 0, .cells [])] ++ kh), b + 128⟩) ?_; (conv => whnf); refine And.intro ?_ (fun s m h => HT_st ?_)
  · refine weak_k ?_; (conv => whnf)
    exact And.intro rfl (And.intro (allL_c wkI (allL_c (WkR.nil (fun _ => rfl)) allL_n)) (allL_c ⟨none, rfl, BkR_n⟩ allL_n))
  replace h := W_border_things_b1 (W_bd h)
  refine HT_seq ?_
  refine HT_fr DC_ok rfl fun K hK => ?_; (conv => whnf)
  refine hK _ _ _ ?_; clear hK K
  refine HT_if fun K1 K2 hK1 hK2 => ?_; (conv => whnf)
  refine cond_lk h (fun _ h => ?_) (fun _ h => ?_)
  · refine hK1 ?_; clear hK1 hK2 K1 K2
    refine HT_skip ?_
    refine Then_n ?_
    refine HT_seq ?_
    refine HT_block ?_
    refine HT_f DC_ok rfl fun K hK => ?_; (conv => whnf)
    replace h := W_bd h
    refine math_bits_TrailingZeros_call h82 h (WkL.refl _) (fun _ h => ?_); (conv => whnf)
    refine lt_lk (enc := eI) (d := default) DC_ok h rfl rfl rfl ⟨nle rfl, nle rfl, rfl⟩ rfl ⟨⟨rfl, rfl, rfl⟩, trivial⟩ (fun h => ?_); (conv => whnf)
    refine ap_lk (enc := eI) (d := default) DC_ok h (.inl rfl) rfl rfl rfl ⟨rfl, nle rfl, nle rfl, nle rfl, rfl⟩ (fun _ => rfl) (.inr (.inr ⟨_, _, rfl, rfl, rfl⟩)) (fun h => ?_); (conv => whnf)
    refine hK _ _ _ ?_; clear hK K
    refine InBlock_n ?_
    refine Then_n ?_
    refine HT_f DC_ok rfl fun K hK => ?_; (conv => whnf)
    refine hK _ _ _ ?_; clear hK K
    refine Then_n ?_
    replace h := W_xnx h
    refine ⟨_, h, ?_⟩
    refine weak_k ?_; (conv => whnf)
    exact And.intro rfl (And.intro (allL_c wkI (allL_c (WkR.tok (fun _ => rfl) rfl (fun _ _ => Wk.refl _) (fun _ => (loose_int _ _))) allL_n)) (allL_c ⟨some _, rfl, BkR_c rfl CkR_nil⟩ allL_n))
  refine hK2 ?_; clear hK1 hK2 K1 K2
  refine HT_exit ?_
  refine Then_e ?_
  refine Then_e ?_
  refine InBlock_e ?_
  replace h := W_xbk h
  replace h := W_inl h
  refine Then_n ?_
  refine HT_fr DC_ok rfl fun K hK => ?_; (conv => whnf)
  refine hK _ _ _ ?_; clear hK K
  refine HT_ret ?_
  replace h := W_some h
  refine PostP_r DC_ok fun K hK => ?_; (conv => whnf)
  refine hK _ ?_; clear hK K
  cases h
  exact Wk_free
theorem order_things_call {T : Tbl} (hT : T 61 = pureR order_things_S) {args : List AV} {hp : Heap} {id : Nat} {k : AV → Prop} {a0 : Int} {Φ : List Int → Prop} (h : W (order_things_F a0) Φ) (hw : WkL args [eI a0]) (hk : ∀ y, Φ y → k ((eL 1 eI default) y)) : callpK T 61 args hp id k := by
  obtain ⟨y, e, hy⟩ := W_inv h
  exact callpK_pure hT ⟨a0, rfl, W_of e rfl⟩ (by exact (loose_lst fun _ => (loose_int _ _))) hw (hk y hy)
end Go.Proofs.YtlmboonbfhkfnaaDoor
