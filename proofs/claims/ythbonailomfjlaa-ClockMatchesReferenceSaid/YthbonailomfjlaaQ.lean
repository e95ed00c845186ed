import Derived.Test.YthbonailomfjlaaTy
import Derived.Laws.StructEq
namespace Go.Proofs.Ythbonailomfjlaa
open Go Go.Eng
theorem eqv32 (x0 : Int) (x1 : Int) (y0 : Int) (y1 : Int) : EqV Try.prog 32 (.agg [eI x0, eI x1]) (.agg [eI y0, eI y1]) ((x0 == y0) && (x1 == y1)) := by
  intro β w u v ox oy hu hv
  simp only [V, Vs, eI, eB] at hu hv
  obtain ⟨_, rfl, _, _, rfl, rfl, _, _, rfl, rfl, rfl⟩ := hu
  obtain ⟨_, rfl, _, _, rfl, rfl, _, _, rfl, rfl, rfl⟩ := hv
  have u3 := Try.underlying3
  have a3 := Try.isAgg3
  have z3 := Try.sizeOf3
  have hS : Try.prog.underlying 32 = some (.struct (Try.prog.fieldsOf 32)) := by kernel_rfl
  have hp : Try.prog.stoodInHeld 32 = false := by kernel_rfl
  have hm : Try.prog.eqGuardType Try.prog.depth 32 = false := by kernel_rfl
  have key : (Op.equalIn 10000 32 (.agg #[.int .i64 x0, .int .i64 x1]) (.agg #[.int .i64 y0, .int .i64 y1])).run Try.prog w = .ok ((x0 == y0) && (x1 == y1)) w := by
    rw [show (10000 : Nat) = 9999 + 1 from rfl, run_equalIn_agg w 9999 32 _ _ hS hp]
    simp only [Program.fieldsOf, Try.underlying32]
    go_simp
    by_cases h0 : x0 = y0 <;> by_cases h1 : x1 = y1 <;> simp [h0, h1]
  constructor
  · simp only [Sem.run_bind, run_eqGuard_agg w _ 32 _ _ _ _ hm, Result.andThen_ok, run_eql_struct, key]
  · simp only [Sem.run_bind, run_eqGuard_agg w _ 32 _ _ _ _ hm, Result.andThen_ok, run_neq_struct, key]
end Go.Proofs.Ythbonailomfjlaa
