import Derived.Test.YthbonailomfjlaaProg
import Derived.Test.YthbonailomfjlaaEngV
import Derived.KernelRfl
namespace Go.Proofs.Ythbonailomfjlaa
open Go Go.Eng

def tdL : List (Nat × TD) := [
  (3, ⟨.int .i64, 1, [.int .i64 0], 8⟩),
  (4, ⟨.bool, 1, [.bool false], 1⟩),
  (22, ⟨.slice 50, 1, [.nils], 24⟩),
  (24, ⟨.struct [(3, 0), (22, 1)], 2, [.int .i64 0, .nils], 32⟩),
  (25, ⟨.slice 3, 1, [.nils], 24⟩),
  (26, ⟨.slice 60, 1, [.nils], 24⟩),
  (27, ⟨.slice 32, 1, [.nils], 24⟩),
  (32, ⟨.struct [(3, 0), (3, 1)], 2, [.int .i64 0, .int .i64 0], 16⟩),
  (37, ⟨.slice 24, 1, [.nils], 24⟩),
  (40, ⟨.int .i64, 1, [.int .i64 0], 8⟩),
  (48, ⟨.array 2 3, 2, [.int .i64 0, .int .i64 0], 16⟩),
  (50, ⟨.struct [(3, 0), (3, 1), (3, 2)], 3, [.int .i64 0, .int .i64 0, .int .i64 0], 24⟩),
  (54, ⟨.slice 56, 1, [.nils], 24⟩),
  (56, ⟨.struct [(3, 0), (3, 1)], 2, [.int .i64 0, .int .i64 0], 16⟩),
  (60, ⟨.array 3 3, 3, [.int .i64 0, .int .i64 0, .int .i64 0], 24⟩),
  (62, ⟨.struct [(3, 0), (3, 1)], 2, [.int .i64 0, .int .i64 0], 16⟩),
  (69, ⟨.int .u64, 1, [.int .u64 0], 8⟩),
  (81, ⟨.int .u32, 1, [.int .u32 0], 4⟩)]
def DC : DT := ofTD tdL
theorem td3 : TDok Try.prog 3 ⟨.int .i64, 1, [.int .i64 0], 8⟩ := ⟨by rfl, by rfl, by rfl, Try.underlying3⟩
theorem td4 : TDok Try.prog 4 ⟨.bool, 1, [.bool false], 1⟩ := ⟨by rfl, by rfl, by rfl, Try.underlying4⟩
theorem td22 : TDok Try.prog 22 ⟨.slice 50, 1, [.nils], 24⟩ := ⟨by rfl, by rfl, by rfl, Try.underlying22⟩
theorem td24 : TDok Try.prog 24 ⟨.struct [(3, 0), (22, 1)], 2, [.int .i64 0, .nils], 32⟩ := ⟨by rfl, by rfl, by rfl, ⟨_, Try.underlying24, rfl⟩⟩
theorem td25 : TDok Try.prog 25 ⟨.slice 3, 1, [.nils], 24⟩ := ⟨by rfl, by rfl, by rfl, Try.underlying25⟩
theorem td26 : TDok Try.prog 26 ⟨.slice 60, 1, [.nils], 24⟩ := ⟨by rfl, by rfl, by rfl, Try.underlying26⟩
theorem td27 : TDok Try.prog 27 ⟨.slice 32, 1, [.nils], 24⟩ := ⟨by rfl, by rfl, by rfl, Try.underlying27⟩
theorem td32 : TDok Try.prog 32 ⟨.struct [(3, 0), (3, 1)], 2, [.int .i64 0, .int .i64 0], 16⟩ := ⟨by rfl, by rfl, by rfl, ⟨_, Try.underlying32, rfl⟩⟩
theorem td37 : TDok Try.prog 37 ⟨.slice 24, 1, [.nils], 24⟩ := ⟨by rfl, by rfl, by rfl, Try.underlying37⟩
theorem td40 : TDok Try.prog 40 ⟨.int .i64, 1, [.int .i64 0], 8⟩ := ⟨by rfl, by rfl, by rfl, Try.underlying40⟩
theorem td48 : TDok Try.prog 48 ⟨.array 2 3, 2, [.int .i64 0, .int .i64 0], 16⟩ := ⟨by rfl, by rfl, by rfl, Try.underlying48⟩
theorem td50 : TDok Try.prog 50 ⟨.struct [(3, 0), (3, 1), (3, 2)], 3, [.int .i64 0, .int .i64 0, .int .i64 0], 24⟩ := ⟨by rfl, by rfl, by rfl, ⟨_, Try.underlying50, rfl⟩⟩
theorem td54 : TDok Try.prog 54 ⟨.slice 56, 1, [.nils], 24⟩ := ⟨by rfl, by rfl, by rfl, Try.underlying54⟩
theorem td56 : TDok Try.prog 56 ⟨.struct [(3, 0), (3, 1)], 2, [.int .i64 0, .int .i64 0], 16⟩ := ⟨by rfl, by rfl, by rfl, ⟨_, Try.underlying56, rfl⟩⟩
theorem td60 : TDok Try.prog 60 ⟨.array 3 3, 3, [.int .i64 0, .int .i64 0, .int .i64 0], 24⟩ := ⟨by rfl, by rfl, by rfl, Try.underlying60⟩
theorem td62 : TDok Try.prog 62 ⟨.struct [(3, 0), (3, 1)], 2, [.int .i64 0, .int .i64 0], 16⟩ := ⟨by rfl, by rfl, by rfl, ⟨_, Try.underlying62, rfl⟩⟩
theorem td69 : TDok Try.prog 69 ⟨.int .u64, 1, [.int .u64 0], 8⟩ := ⟨by rfl, by rfl, by rfl, Try.underlying69⟩
theorem td81 : TDok Try.prog 81 ⟨.int .u32, 1, [.int .u32 0], 4⟩ := ⟨by rfl, by rfl, by rfl, Try.underlying81⟩
theorem DC_ok : DOk Try.prog DC := (DOk_cons td3 (DOk_cons td4 (DOk_cons td22 (DOk_cons td24 (DOk_cons td25 (DOk_cons td26 (DOk_cons td27 (DOk_cons td32 (DOk_cons td37 (DOk_cons td40 (DOk_cons td48 (DOk_cons td50 (DOk_cons td54 (DOk_cons td56 (DOk_cons td60 (DOk_cons td62 (DOk_cons td69 (DOk_cons td81 (DOk_nil _)))))))))))))))))))
theorem mix_ok : Try.prog.follows .mixedOrders = true := by rfl
end Go.Proofs.Ythbonailomfjlaa
