import Derived.Test.YtcidmnpihffphaaProg
import Derived.Test.YtcidmnpihffphaaEngY
import Derived.KernelRfl
namespace Go.Proofs.Ytcidmnpihffphaa
open Go Go.Eng

def tdL : List (Nat × TD) := [
  (3, ⟨.int .i64, 1, [.int .i64 0], 8⟩),
  (4, ⟨.bool, 1, [.bool false], 1⟩),
  (22, ⟨.slice 71, 1, [.nils], 24⟩),
  (23, ⟨.array 3 3, 3, [.int .i64 0, .int .i64 0, .int .i64 0], 24⟩),
  (25, ⟨.slice 65, 1, [.nils], 24⟩),
  (27, ⟨.struct [(25, 0), (3, 1)], 2, [.nils, .int .i64 0], 32⟩),
  (29, ⟨.slice 58, 1, [.nils], 24⟩),
  (32, ⟨.slice 27, 1, [.nils], 24⟩),
  (34, ⟨.slice 29, 1, [.nils], 24⟩),
  (35, ⟨.slice 53, 1, [.nils], 24⟩),
  (36, ⟨.int .i64, 1, [.int .i64 0], 8⟩),
  (40, ⟨.other, 1, [.nilf], 8⟩),
  (47, ⟨.slice 3, 1, [.nils], 24⟩),
  (53, ⟨.struct [(3, 0), (3, 1), (3, 2)], 3, [.int .i64 0, .int .i64 0, .int .i64 0], 24⟩),
  (54, ⟨.slice 35, 1, [.nils], 24⟩),
  (58, ⟨.struct [(3, 0), (3, 1), (4, 2)], 3, [.int .i64 0, .int .i64 0, .bool false], 24⟩),
  (60, ⟨.slice 4, 1, [.nils], 24⟩),
  (65, ⟨.struct [(3, 0), (3, 1)], 2, [.int .i64 0, .int .i64 0], 16⟩),
  (71, ⟨.array 2 3, 2, [.int .i64 0, .int .i64 0], 16⟩),
  (72, ⟨.map .i64 3 (.int .i64 0), 1, [.nilm], 8⟩),
  (74, ⟨.other, 1, [.nilf], 8⟩),
  (81, ⟨.map .i64 4 (.bool false), 1, [.nilm], 8⟩),
  (82, ⟨.map .i64 47 (.nils), 1, [.nilm], 8⟩),
  (87, ⟨.other, 1, [.nilf], 8⟩),
  (88, ⟨.other, 1, [.nilf], 8⟩),
  (90, ⟨.other, 1, [.nilf], 8⟩),
  (96, ⟨.int .u64, 1, [.int .u64 0], 8⟩)]
def DC : DT := ofTD tdL
theorem td3 : TDok Try.prog 3 ⟨.int .i64, 1, [.int .i64 0], 8⟩ := ⟨by kernel_rfl, by kernel_rfl, by kernel_rfl, Try.underlying3⟩
theorem td4 : TDok Try.prog 4 ⟨.bool, 1, [.bool false], 1⟩ := ⟨by kernel_rfl, by kernel_rfl, by kernel_rfl, Try.underlying4⟩
theorem td22 : TDok Try.prog 22 ⟨.slice 71, 1, [.nils], 24⟩ := ⟨by kernel_rfl, by kernel_rfl, by kernel_rfl, Try.underlying22⟩
theorem td23 : TDok Try.prog 23 ⟨.array 3 3, 3, [.int .i64 0, .int .i64 0, .int .i64 0], 24⟩ := ⟨by kernel_rfl, by kernel_rfl, by kernel_rfl, Try.underlying23⟩
theorem td25 : TDok Try.prog 25 ⟨.slice 65, 1, [.nils], 24⟩ := ⟨by kernel_rfl, by kernel_rfl, by kernel_rfl, Try.underlying25⟩
theorem td27 : TDok Try.prog 27 ⟨.struct [(25, 0), (3, 1)], 2, [.nils, .int .i64 0], 32⟩ := ⟨by kernel_rfl, by kernel_rfl, by kernel_rfl, ⟨_, Try.underlying27, rfl⟩⟩
theorem td29 : TDok Try.prog 29 ⟨.slice 58, 1, [.nils], 24⟩ := ⟨by kernel_rfl, by kernel_rfl, by kernel_rfl, Try.underlying29⟩
theorem td32 : TDok Try.prog 32 ⟨.slice 27, 1, [.nils], 24⟩ := ⟨by kernel_rfl, by kernel_rfl, by kernel_rfl, Try.underlying32⟩
theorem td34 : TDok Try.prog 34 ⟨.slice 29, 1, [.nils], 24⟩ := ⟨by kernel_rfl, by kernel_rfl, by kernel_rfl, Try.underlying34⟩
theorem td35 : TDok Try.prog 35 ⟨.slice 53, 1, [.nils], 24⟩ := ⟨by kernel_rfl, by kernel_rfl, by kernel_rfl, Try.underlying35⟩
theorem td36 : TDok Try.prog 36 ⟨.int .i64, 1, [.int .i64 0], 8⟩ := ⟨by kernel_rfl, by kernel_rfl, by kernel_rfl, Try.underlying36⟩
theorem td40 : TDok Try.prog 40 ⟨.other, 1, [.nilf], 8⟩ := ⟨by kernel_rfl, by kernel_rfl, by kernel_rfl, (by show aggT _ _ = some false; kernel_rfl)⟩
theorem td47 : TDok Try.prog 47 ⟨.slice 3, 1, [.nils], 24⟩ := ⟨by kernel_rfl, by kernel_rfl, by kernel_rfl, Try.underlying47⟩
theorem td53 : TDok Try.prog 53 ⟨.struct [(3, 0), (3, 1), (3, 2)], 3, [.int .i64 0, .int .i64 0, .int .i64 0], 24⟩ := ⟨by kernel_rfl, by kernel_rfl, by kernel_rfl, ⟨_, Try.underlying53, rfl⟩⟩
theorem td54 : TDok Try.prog 54 ⟨.slice 35, 1, [.nils], 24⟩ := ⟨by kernel_rfl, by kernel_rfl, by kernel_rfl, Try.underlying54⟩
theorem td58 : TDok Try.prog 58 ⟨.struct [(3, 0), (3, 1), (4, 2)], 3, [.int .i64 0, .int .i64 0, .bool false], 24⟩ := ⟨by kernel_rfl, by kernel_rfl, by kernel_rfl, ⟨_, Try.underlying58, rfl⟩⟩
theorem td60 : TDok Try.prog 60 ⟨.slice 4, 1, [.nils], 24⟩ := ⟨by kernel_rfl, by kernel_rfl, by kernel_rfl, Try.underlying60⟩
theorem td65 : TDok Try.prog 65 ⟨.struct [(3, 0), (3, 1)], 2, [.int .i64 0, .int .i64 0], 16⟩ := ⟨by kernel_rfl, by kernel_rfl, by kernel_rfl, ⟨_, Try.underlying65, rfl⟩⟩
theorem td71 : TDok Try.prog 71 ⟨.array 2 3, 2, [.int .i64 0, .int .i64 0], 16⟩ := ⟨by kernel_rfl, by kernel_rfl, by kernel_rfl, Try.underlying71⟩
theorem td72 : TDok Try.prog 72 ⟨.map .i64 3 (.int .i64 0), 1, [.nilm], 8⟩ := ⟨by kernel_rfl, by kernel_rfl, by kernel_rfl, ⟨by kernel_rfl, by kernel_rfl⟩⟩
theorem td74 : TDok Try.prog 74 ⟨.other, 1, [.nilf], 8⟩ := ⟨by kernel_rfl, by kernel_rfl, by kernel_rfl, (by show aggT _ _ = some false; kernel_rfl)⟩
theorem td81 : TDok Try.prog 81 ⟨.map .i64 4 (.bool false), 1, [.nilm], 8⟩ := ⟨by kernel_rfl, by kernel_rfl, by kernel_rfl, ⟨by kernel_rfl, by kernel_rfl⟩⟩
theorem td82 : TDok Try.prog 82 ⟨.map .i64 47 (.nils), 1, [.nilm], 8⟩ := ⟨by kernel_rfl, by kernel_rfl, by kernel_rfl, ⟨by kernel_rfl, by kernel_rfl⟩⟩
theorem td87 : TDok Try.prog 87 ⟨.other, 1, [.nilf], 8⟩ := ⟨by kernel_rfl, by kernel_rfl, by kernel_rfl, (by show aggT _ _ = some false; kernel_rfl)⟩
theorem td88 : TDok Try.prog 88 ⟨.other, 1, [.nilf], 8⟩ := ⟨by kernel_rfl, by kernel_rfl, by kernel_rfl, (by show aggT _ _ = some false; kernel_rfl)⟩
theorem td90 : TDok Try.prog 90 ⟨.other, 1, [.nilf], 8⟩ := ⟨by kernel_rfl, by kernel_rfl, by kernel_rfl, (by show aggT _ _ = some false; kernel_rfl)⟩
theorem td96 : TDok Try.prog 96 ⟨.int .u64, 1, [.int .u64 0], 8⟩ := ⟨by kernel_rfl, by kernel_rfl, by kernel_rfl, Try.underlying96⟩
theorem DC_ok : DOk Try.prog DC := (DOk_cons td3 (DOk_cons td4 (DOk_cons td22 (DOk_cons td23 (DOk_cons td25 (DOk_cons td27 (DOk_cons td29 (DOk_cons td32 (DOk_cons td34 (DOk_cons td35 (DOk_cons td36 (DOk_cons td40 (DOk_cons td47 (DOk_cons td53 (DOk_cons td54 (DOk_cons td58 (DOk_cons td60 (DOk_cons td65 (DOk_cons td71 (DOk_cons td72 (DOk_cons td74 (DOk_cons td81 (DOk_cons td82 (DOk_cons td87 (DOk_cons td88 (DOk_cons td90 (DOk_cons td96 (DOk_nil _))))))))))))))))))))))))))))
theorem mix_ok : Try.prog.follows .mixedOrders = true := by kernel_rfl
end Go.Proofs.Ytcidmnpihffphaa
