import Derived.Test.YtcidmnpihffphaaTy
import Derived.Laws.StructEq
namespace Go.Proofs.Ytcidmnpihffphaa
open Go Go.Eng
theorem eqv53 (x0 : Int) (x1 : Int) (x2 : Int) (y0 : Int) (y1 : Int) (y2 : Int) : EqV Try.prog 53 (.agg [eI x0, eI x1, eI x2]) (.agg [eI y0, eI y1, eI y2]) ((x0 == y0) && ((x1 == y1) && (x2 == y2))) := by
  intro β w u v ox oy hu hv
  simp only [V, Vs, eI, eB] at hu hv
  obtain ⟨_, rfl, _, _, rfl, rfl, _, _, rfl, rfl, _, _, rfl, rfl, rfl⟩ := hu
  obtain ⟨_, rfl, _, _, rfl, rfl, _, _, rfl, rfl, _, _, rfl, rfl, rfl⟩ := hv
  have u3 := Try.underlying3
  have a3 := Try.isAgg3
  have z3 := Try.sizeOf3
  have hS : Try.prog.underlying 53 = some (.struct (Try.prog.fieldsOf 53)) := by kernel_rfl
  have hp : Try.prog.stoodInHeld 53 = false := by kernel_rfl
  have hm : Try.prog.eqGuardType Try.prog.depth 53 = false := by kernel_rfl
  have key : (Op.equalIn 10000 53 (.agg #[.int .i64 x0, .int .i64 x1, .int .i64 x2]) (.agg #[.int .i64 y0, .int .i64 y1, .int .i64 y2])).run Try.prog w = .ok ((x0 == y0) && ((x1 == y1) && (x2 == y2))) w := by
    rw [show (10000 : Nat) = 9999 + 1 from rfl, run_equalIn_agg w 9999 53 _ _ hS hp]
    simp only [Program.fieldsOf, Try.underlying53]
    go_simp
    by_cases h0 : x0 = y0 <;> by_cases h1 : x1 = y1 <;> by_cases h2 : x2 = y2 <;> simp [h0, h1, h2]
  constructor
  · simp only [Sem.run_bind, run_eqGuard_agg w _ 53 _ _ _ _ hm, Result.andThen_ok, run_eql_struct, key]
  · simp only [Sem.run_bind, run_eqGuard_agg w _ 53 _ _ _ _ hm, Result.andThen_ok, run_neq_struct, key]
end Go.Proofs.Ytcidmnpihffphaa
