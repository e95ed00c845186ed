import Derived.Test.YtcidmnpihffphaaProg
import Derived.Test.YtcidmnpihffphaaM3
import Derived.KernelRfl
import Derived.Laws.StructEq
import Derived.Test.YtcidmnpihffphaaM4
import Derived.Handy
set_option linter.unusedVariables false
set_option linter.unusedSimpArgs false
set_option linter.unusedSectionVars false
namespace Go.Proofs.Ytcidmnpihffphaa
open Go Go.Eng

def tdL : List (Nat × TD) := [
  (3, ⟨.int .i64, 1, [.int .i64 0], 8⟩),
  (4, ⟨.bool, 1, [.bool false], 1⟩),
  (22, ⟨.slice 71, 1, [.nils], 24⟩),
  (23, ⟨.array 3 3, 3, [.int .i64 0, .int .i64 0, .int .i64 0], 24⟩),
  (25, ⟨.slice 65, 1, [.nils], 24⟩),
  (27, ⟨.struct [(25, 0), (3, 1)], 2, [.nils, .int .i64 0], 32⟩),
  (29, ⟨.slice 58, 1, [.nils], 24⟩),
  (32, ⟨.slice 27, 1, [.nils], 24⟩),
  (34, ⟨.slice 29, 1, [.nils], 24⟩),
  (35, ⟨.slice 53, 1, [.nils], 24⟩),
  (36, ⟨.int .i64, 1, [.int .i64 0], 8⟩),
  (40, ⟨.other, 1, [.nilf], 8⟩),
  (47, ⟨.slice 3, 1, [.nils], 24⟩),
  (53, ⟨.struct [(3, 0), (3, 1), (3, 2)], 3, [.int .i64 0, .int .i64 0, .int .i64 0], 24⟩),
  (54, ⟨.slice 35, 1, [.nils], 24⟩),
  (58, ⟨.struct [(3, 0), (3, 1), (4, 2)], 3, [.int .i64 0, .int .i64 0, .bool false], 24⟩),
  (60, ⟨.slice 4, 1, [.nils], 24⟩),
  (65, ⟨.struct [(3, 0), (3, 1)], 2, [.int .i64 0, .int .i64 0], 16⟩),
  (71, ⟨.array 2 3, 2, [.int .i64 0, .int .i64 0], 16⟩),
  (72, ⟨.map .i64 3 (.int .i64 0), 1, [.nilm], 8⟩),
  (74, ⟨.other, 1, [.nilf], 8⟩),
  (81, ⟨.map .i64 4 (.bool false), 1, [.nilm], 8⟩),
  (82, ⟨.map .i64 47 (.nils), 1, [.nilm], 8⟩),
  (87, ⟨.other, 1, [.nilf], 8⟩),
  (88, ⟨.other, 1, [.nilf], 8⟩),
  (90, ⟨.other, 1, [.nilf], 8⟩),
  (96, ⟨.int .u64, 1, [.int .u64 0], 8⟩)]
def DC : DT := ofTD tdL
theorem td3 : TDok Try.prog 3 ⟨.int .i64, 1, [.int .i64 0], 8⟩ := ⟨by kernel_rfl, by kernel_rfl, by kernel_rfl, Try.underlying3⟩
theorem td4 : TDok Try.prog 4 ⟨.bool, 1, [.bool false], 1⟩ := ⟨by kernel_rfl, by kernel_rfl, by kernel_rfl, Try.underlying4⟩
theorem td22 : TDok Try.prog 22 ⟨.slice 71, 1, [.nils], 24⟩ := ⟨by kernel_rfl, by kernel_rfl, by kernel_rfl, Try.underlying22⟩
theorem td23 : TDok Try.prog 23 ⟨.array 3 3, 3, [.int .i64 0, .int .i64 0, .int .i64 0], 24⟩ := ⟨by kernel_rfl, by kernel_rfl, by kernel_rfl, Try.underlying23⟩
theorem td25 : TDok Try.prog 25 ⟨.slice 65, 1, [.nils], 24⟩ := ⟨by kernel_rfl, by kernel_rfl, by kernel_rfl, Try.underlying25⟩
theorem td27 : TDok Try.prog 27 ⟨.struct [(25, 0), (3, 1)], 2, [.nils, .int .i64 0], 32⟩ := ⟨by kernel_rfl, by kernel_rfl, by kernel_rfl, ⟨_, Try.underlying27, rfl⟩⟩
theorem td29 : TDok Try.prog 29 ⟨.slice 58, 1, [.nils], 24⟩ := ⟨by kernel_rfl, by kernel_rfl, by kernel_rfl, Try.underlying29⟩
theorem td32 : TDok Try.prog 32 ⟨.slice 27, 1, [.nils], 24⟩ := ⟨by kernel_rfl, by kernel_rfl, by kernel_rfl, Try.underlying32⟩
theorem td34 : TDok Try.prog 34 ⟨.slice 29, 1, [.nils], 24⟩ := ⟨by kernel_rfl, by kernel_rfl, by kernel_rfl, Try.underlying34⟩
theorem td35 : TDok Try.prog 35 ⟨.slice 53, 1, [.nils], 24⟩ := ⟨by kernel_rfl, by kernel_rfl, by kernel_rfl, Try.underlying35⟩
theorem td36 : TDok Try.prog 36 ⟨.int .i64, 1, [.int .i64 0], 8⟩ := ⟨by kernel_rfl, by kernel_rfl, by kernel_rfl, Try.underlying36⟩
theorem td40 : TDok Try.prog 40 ⟨.other, 1, [.nilf], 8⟩ := ⟨by kernel_rfl, by kernel_rfl, by kernel_rfl, (by show aggT _ _ = some false; kernel_rfl)⟩
theorem td47 : TDok Try.prog 47 ⟨.slice 3, 1, [.nils], 24⟩ := ⟨by kernel_rfl, by kernel_rfl, by kernel_rfl, Try.underlying47⟩
theorem td53 : TDok Try.prog 53 ⟨.struct [(3, 0), (3, 1), (3, 2)], 3, [.int .i64 0, .int .i64 0, .int .i64 0], 24⟩ := ⟨by kernel_rfl, by kernel_rfl, by kernel_rfl, ⟨_, Try.underlying53, rfl⟩⟩
theorem td54 : TDok Try.prog 54 ⟨.slice 35, 1, [.nils], 24⟩ := ⟨by kernel_rfl, by kernel_rfl, by kernel_rfl, Try.underlying54⟩
theorem td58 : TDok Try.prog 58 ⟨.struct [(3, 0), (3, 1), (4, 2)], 3, [.int .i64 0, .int .i64 0, .bool false], 24⟩ := ⟨by kernel_rfl, by kernel_rfl, by kernel_rfl, ⟨_, Try.underlying58, rfl⟩⟩
theorem td60 : TDok Try.prog 60 ⟨.slice 4, 1, [.nils], 24⟩ := ⟨by kernel_rfl, by kernel_rfl, by kernel_rfl, Try.underlying60⟩
theorem td65 : TDok Try.prog 65 ⟨.struct [(3, 0), (3, 1)], 2, [.int .i64 0, .int .i64 0], 16⟩ := ⟨by kernel_rfl, by kernel_rfl, by kernel_rfl, ⟨_, Try.underlying65, rfl⟩⟩
theorem td71 : TDok Try.prog 71 ⟨.array 2 3, 2, [.int .i64 0, .int .i64 0], 16⟩ := ⟨by kernel_rfl, by kernel_rfl, by kernel_rfl, Try.underlying71⟩
theorem td72 : TDok Try.prog 72 ⟨.map .i64 3 (.int .i64 0), 1, [.nilm], 8⟩ := ⟨by kernel_rfl, by kernel_rfl, by kernel_rfl, ⟨by kernel_rfl, by kernel_rfl⟩⟩
theorem td74 : TDok Try.prog 74 ⟨.other, 1, [.nilf], 8⟩ := ⟨by kernel_rfl, by kernel_rfl, by kernel_rfl, (by show aggT _ _ = some false; kernel_rfl)⟩
theorem td81 : TDok Try.prog 81 ⟨.map .i64 4 (.bool false), 1, [.nilm], 8⟩ := ⟨by kernel_rfl, by kernel_rfl, by kernel_rfl, ⟨by kernel_rfl, by kernel_rfl⟩⟩
theorem td82 : TDok Try.prog 82 ⟨.map .i64 47 (.nils), 1, [.nilm], 8⟩ := ⟨by kernel_rfl, by kernel_rfl, by kernel_rfl, ⟨by kernel_rfl, by kernel_rfl⟩⟩
theorem td87 : TDok Try.prog 87 ⟨.other, 1, [.nilf], 8⟩ := ⟨by kernel_rfl, by kernel_rfl, by kernel_rfl, (by show aggT _ _ = some false; kernel_rfl)⟩
theorem td88 : TDok Try.prog 88 ⟨.other, 1, [.nilf], 8⟩ := ⟨by kernel_rfl, by kernel_rfl, by kernel_rfl, (by show aggT _ _ = some false; kernel_rfl)⟩
theorem td90 : TDok Try.prog 90 ⟨.other, 1, [.nilf], 8⟩ := ⟨by kernel_rfl, by kernel_rfl, by kernel_rfl, (by show aggT _ _ = some false; kernel_rfl)⟩
theorem td96 : TDok Try.prog 96 ⟨.int .u64, 1, [.int .u64 0], 8⟩ := ⟨by kernel_rfl, by kernel_rfl, by kernel_rfl, Try.underlying96⟩
theorem DC_ok : DOk Try.prog DC := (DOk_cons td3 (DOk_cons td4 (DOk_cons td22 (DOk_cons td23 (DOk_cons td25 (DOk_cons td27 (DOk_cons td29 (DOk_cons td32 (DOk_cons td34 (DOk_cons td35 (DOk_cons td36 (DOk_cons td40 (DOk_cons td47 (DOk_cons td53 (DOk_cons td54 (DOk_cons td58 (DOk_cons td60 (DOk_cons td65 (DOk_cons td71 (DOk_cons td72 (DOk_cons td74 (DOk_cons td81 (DOk_cons td82 (DOk_cons td87 (DOk_cons td88 (DOk_cons td90 (DOk_cons td96 (DOk_nil _))))))))))))))))))))))))))))
theorem mix_ok : Try.prog.follows .mixedOrders = true := by kernel_rfl
end Go.Proofs.Ytcidmnpihffphaa
namespace Go.Proofs.Ytcidmnpihffphaa
open Go Go.Eng
def eA71 (x : Int × Int) : AV := .agg [eI x.1, eI x.2]
theorem lo_A71 (x : Int × Int) : (eA71 x).loose := (loose_agg (loose_cons (loose_int _ _) (loose_cons (loose_int _ _) loose_nil)))
def eA23 (x : Int × Int × Int) : AV := .agg [eI x.1, eI x.2.1, eI x.2.2]
theorem lo_A23 (x : Int × Int × Int) : (eA23 x).loose := (loose_agg (loose_cons (loose_int _ _) (loose_cons (loose_int _ _) (loose_cons (loose_int _ _) loose_nil))))
structure TGrowth where
  From : Int
  Capacity : Int
instance : Inhabited TGrowth := ⟨⟨default, default⟩⟩
def eTGrowth (x : TGrowth) : AV := .agg [eI x.From, eI x.Capacity]
theorem lo_TGrowth (x : TGrowth) : (eTGrowth x).loose := (loose_agg (loose_cons (loose_int _ _) (loose_cons (loose_int _ _) loose_nil)))
structure TRegion where
  Steps : List TGrowth
  Signals : Int
instance : Inhabited TRegion := ⟨⟨default, default⟩⟩
def eTRegion (x : TRegion) : AV := .agg [(eL 2 eTGrowth default) x.Steps, eI x.Signals]
theorem lo_TRegion (x : TRegion) : (eTRegion x).loose := (loose_agg (loose_cons (loose_lst fun _ => (lo_TGrowth _)) (loose_cons (loose_int _ _) loose_nil)))
structure TAttempt where
  Caller : Int
  At : Int
  Urgent : Bool
instance : Inhabited TAttempt := ⟨⟨default, default, default⟩⟩
def eTAttempt (x : TAttempt) : AV := .agg [eI x.Caller, eI x.At, eB x.Urgent]
theorem lo_TAttempt (x : TAttempt) : (eTAttempt x).loose := (loose_agg (loose_cons (loose_int _ _) (loose_cons (loose_int _ _) (loose_cons (loose_bool _) loose_nil))))
structure TTicket where
  Caller : Int
  First : Int
  At : Int
instance : Inhabited TTicket := ⟨⟨default, default, default⟩⟩
def eTTicket (x : TTicket) : AV := .agg [eI x.Caller, eI x.First, eI x.At]
theorem lo_TTicket (x : TTicket) : (eTTicket x).loose := (loose_agg (loose_cons (loose_int _ _) (loose_cons (loose_int _ _) (loose_cons (loose_int _ _) loose_nil))))
def PF : FuncId → Bool := fun f => [3, 4, 5, 6, 7, 8, 9, 10, 11, 12, 13, 14, 15, 16, 17, 18, 19, 20, 21, 22, 23, 24, 25, 26, 27, 28, 29, 30, 31, 32, 33, 34, 35, 36, 37, 38, 39, 40, 41, 43, 45, 46, 47, 48, 49, 50, 51, 52, 53, 54, 55, 57, 58, 61].contains f
end Go.Proofs.Ytcidmnpihffphaa
namespace Go.Proofs.Ytcidmnpihffphaa
open Go Go.Eng
theorem eqv53 (x0 : Int) (x1 : Int) (x2 : Int) (y0 : Int) (y1 : Int) (y2 : Int) : EqV Try.prog 53 (.agg [eI x0, eI x1, eI x2]) (.agg [eI y0, eI y1, eI y2]) ((x0 == y0) && ((x1 == y1) && (x2 == y2))) := by
  intro β w u v ox oy hu hv
  simp only [V, Vs, eI, eB] at hu hv
  obtain ⟨_, rfl, _, _, rfl, rfl, _, _, rfl, rfl, _, _, rfl, rfl, rfl⟩ := hu
  obtain ⟨_, rfl, _, _, rfl, rfl, _, _, rfl, rfl, _, _, rfl, rfl, rfl⟩ := hv
  have u3 := Try.underlying3
  have a3 := Try.isAgg3
  have z3 := Try.sizeOf3
  have hS : Try.prog.underlying 53 = some (.struct (Try.prog.fieldsOf 53)) := by kernel_rfl
  have hp : Try.prog.stoodInHeld 53 = false := by kernel_rfl
  have hm : Try.prog.eqGuardType Try.prog.depth 53 = false := by kernel_rfl
  have key : (Op.equalIn 10000 53 (.agg #[.int .i64 x0, .int .i64 x1, .int .i64 x2]) (.agg #[.int .i64 y0, .int .i64 y1, .int .i64 y2])).run Try.prog w = .ok ((x0 == y0) && ((x1 == y1) && (x2 == y2))) w := by
    rw [show (10000 : Nat) = 9999 + 1 from rfl, run_equalIn_agg w 9999 53 _ _ hS hp]
    simp only [Program.fieldsOf, Try.underlying53]
    go_simp
    by_cases h0 : x0 = y0 <;> by_cases h1 : x1 = y1 <;> by_cases h2 : x2 = y2 <;> simp [h0, h1, h2]
  constructor
  · simp only [Sem.run_bind, run_eqGuard_agg w _ 53 _ _ _ _ hm, Result.andThen_ok, run_eql_struct, key]
  · simp only [Sem.run_bind, run_eqGuard_agg w _ 53 _ _ _ _ hm, Result.andThen_ok, run_neq_struct, key]
end Go.Proofs.Ytcidmnpihffphaa
namespace Go.Proofs.Ytcidmnpihffphaa
open Go Go.Eng
set_option maxHeartbeats 0
set_option maxRecDepth 100000
def recovery_isWithin_F (a0 : Int) (a1 : Int) (a2 : Int) : Option Bool := jn (fun p1 : Bool => some p1) fun k2 => cn (decide (a1 ≤ a0)) (k2 (decide (a0 ≤ a2))) (k2 false)
def recovery_isWithin_S : List AV → AV → Prop := fun args r => ∃ a0 a1 a2, args = [eI a0, eI a1, eI a2] ∧ W (recovery_isWithin_F a0 a1 a2) fun y => r = (eB y)
theorem recovery_isWithin_ok {T : Tbl} (hT : TOk Try.prog T) (hpf : PfOk T PF) : FOk Try.prog 46 (pureR recovery_isWithin_S) := by
  refine FOk_pure hT hpf Try.func46 rfl Try.ntmps46 Try.results46 (by decide) ?_
  rintro args r ⟨a0, a1, a2, rfl, h⟩
  refine ⟨nle rfl, ?_, ?_⟩
  · exact (loose_cons (loose_int _ _) (loose_cons (loose_int _ _) (loose_cons (loose_int _ _) loose_nil)))
  rw [recovery_isWithin_F.eq_1] at h
  refine HT_fr DC_ok rfl fun K hK => ?_; (conv => whnf)
  refine hK _ _ _ ?_; clear hK K
  refine HT_fr DC_ok rfl fun K hK => ?_; (conv => whnf)
  replace h := W_jn h
  refine cond_lk h (fun _ h => ?_) (fun _ h => ?_) <;> (conv => whnf)
  · refine hK _ _ _ ?_; clear hK K
    refine HT_ret ?_
    replace h := W_some h
    refine PostP_r DC_ok fun K hK => ?_; (conv => whnf)
    refine hK _ ?_; clear hK K
    cases h
    exact Wk.refl _
  refine hK _ _ _ ?_; clear hK K
  refine HT_ret ?_
  replace h := W_some h
  refine PostP_r DC_ok fun K hK => ?_; (conv => whnf)
  refine hK _ ?_; clear hK K
  cases h
  exact Wk.refl _
theorem recovery_isWithin_call {T : Tbl} (hT : T 46 = pureR recovery_isWithin_S) {args : List AV} {hp : Heap} {id : Nat} {k : AV → Prop} {a0 : Int} {a1 : Int} {a2 : Int} {Φ : Bool → Prop} (h : W (recovery_isWithin_F a0 a1 a2) Φ) (hw : WkL args [eI a0, eI a1, eI a2]) (hk : ∀ y, Φ y → k (eB y)) : callpK T 46 args hp id k := by
  obtain ⟨y, e, hy⟩ := W_inv h
  exact callpK_pure hT ⟨a0, a1, a2, rfl, W_of e rfl⟩ (by exact (loose_bool _)) hw (hk y hy)
def ref34_in_F (a0 : Int) (a1 : Int) (a2 : Int) : Option Bool := jn (fun p1 : Bool => some p1) fun k2 => cn (decide (a0 ≥ a1)) (k2 (decide (a0 ≤ a2))) (k2 false)
def ref34_in_S : List AV → AV → Prop := fun args r => ∃ a0 a1 a2, args = [eI a0, eI a1, eI a2] ∧ W (ref34_in_F a0 a1 a2) fun y => r = (eB y)
theorem ref34_in_ok {T : Tbl} (hT : TOk Try.prog T) (hpf : PfOk T PF) : FOk Try.prog 47 (pureR ref34_in_S) := by
  refine FOk_pure hT hpf Try.func47 rfl Try.ntmps47 Try.results47 (by decide) ?_
  rintro args r ⟨a0, a1, a2, rfl, h⟩
  refine ⟨nle rfl, ?_, ?_⟩
  · exact (loose_cons (loose_int _ _) (loose_cons (loose_int _ _) (loose_cons (loose_int _ _) loose_nil)))
  rw [ref34_in_F.eq_1] at h
  refine HT_fr DC_ok rfl fun K hK => ?_; (conv => whnf)
  refine hK _ _ _ ?_; clear hK K
  refine HT_fr DC_ok rfl fun K hK => ?_; (conv => whnf)
  replace h := W_jn h
  refine cond_lk h (fun _ h => ?_) (fun _ h => ?_) <;> (conv => whnf)
  · refine hK _ _ _ ?_; clear hK K
    refine HT_ret ?_
    replace h := W_some h
    refine PostP_r DC_ok fun K hK => ?_; (conv => whnf)
    refine hK _ ?_; clear hK K
    cases h
    exact Wk.refl _
  refine hK _ _ _ ?_; clear hK K
  refine HT_ret ?_
  replace h := W_some h
  refine PostP_r DC_ok fun K hK => ?_; (conv => whnf)
  refine hK _ ?_; clear hK K
  cases h
  exact Wk.refl _
theorem ref34_in_call {T : Tbl} (hT : T 47 = pureR ref34_in_S) {args : List AV} {hp : Heap} {id : Nat} {k : AV → Prop} {a0 : Int} {a1 : Int} {a2 : Int} {Φ : Bool → Prop} (h : W (ref34_in_F a0 a1 a2) Φ) (hw : WkL args [eI a0, eI a1, eI a2]) (hk : ∀ y, Φ y → k (eB y)) : callpK T 47 args hp id k := by
  obtain ⟨y, e, hy⟩ := W_inv h
  exact callpK_pure hT ⟨a0, a1, a2, rfl, W_of e rfl⟩ (by exact (loose_bool _)) hw (hk y hy)
def law34_pick_F (a0 : Int) (a1 : Int) : Option Int := jn (fun p1 : Int × Int => gd (p1.2 ≠ 0) (some (Int.tmod p1.1 p1.2))) fun k2 =>
    cn (decide (a0 < 0)) (k2 ((wr (0 - (wr (a0 + 1)))), a1)) (k2 (a0, a1))
def law34_pick_S : List AV → AV → Prop := fun args r => ∃ a0 a1, args = [eI a0, eI a1] ∧ W (law34_pick_F a0 a1) fun y => r = (eI y)
theorem law34_pick_ok {T : Tbl} (hT : TOk Try.prog T) (hpf : PfOk T PF) : FOk Try.prog 29 (pureR law34_pick_S) := by
  refine FOk_pure hT hpf Try.func29 rfl Try.ntmps29 Try.results29 (by decide) ?_
  rintro args r ⟨a0, a1, rfl, h⟩
  refine ⟨nle rfl, ?_, ?_⟩
  · exact (loose_cons (loose_int _ _) (loose_cons (loose_int _ _) loose_nil))
  rw [law34_pick_F.eq_1] at h
  refine HT_fr DC_ok rfl fun K hK => ?_; (conv => whnf)
  refine hK _ _ _ ?_; clear hK K
  refine HT_seq ?_
  refine HT_fr DC_ok rfl fun K hK => ?_; (conv => whnf)
  refine hK _ _ _ ?_; clear hK K
  replace h := W_jn h
  refine HT_if fun K1 K2 hK1 hK2 => ?_; (conv => whnf)
  refine cond_lk h (fun _ h => ?_) (fun _ h => ?_)
  · refine hK1 ?_; clear hK1 hK2 K1 K2
    refine HT_f DC_ok rfl fun K hK => ?_; (conv => whnf)
    refine hK _ _ _ ?_; clear hK K
    refine Then_n ?_
    refine HT_fr DC_ok rfl fun K hK => ?_; (conv => whnf)
    refine gd_lk h fun _ h => ?_; (conv => whnf)
    refine hK _ _ _ ?_; clear hK K
    refine HT_ret ?_
    replace h := W_some h
    refine PostP_r DC_ok fun K hK => ?_; (conv => whnf)
    refine hK _ ?_; clear hK K
    cases h
    exact Wk.refl _
  refine hK2 ?_; clear hK1 hK2 K1 K2
  refine HT_skip ?_
  refine Then_n ?_
  refine HT_fr DC_ok rfl fun K hK => ?_; (conv => whnf)
  refine gd_lk h fun _ h => ?_; (conv => whnf)
  refine hK _ _ _ ?_; clear hK K
  refine HT_ret ?_
  replace h := W_some h
  refine PostP_r DC_ok fun K hK => ?_; (conv => whnf)
  refine hK _ ?_; clear hK K
  cases h
  exact Wk.refl _
theorem law34_pick_call {T : Tbl} (hT : T 29 = pureR law34_pick_S) {args : List AV} {hp : Heap} {id : Nat} {k : AV → Prop} {a0 : Int} {a1 : Int} {Φ : Int → Prop} (h : W (law34_pick_F a0 a1) Φ) (hw : WkL args [eI a0, eI a1]) (hk : ∀ y, Φ y → k (eI y)) : callpK T 29 args hp id k := by
  obtain ⟨y, e, hy⟩ := W_inv h
  exact callpK_pure hT ⟨a0, a1, rfl, W_of e rfl⟩ (by exact (loose_int _ _)) hw (hk y hy)
def ref34_pick_F (a0 : Int) (a1 : Int) : Option Int := jn (fun p1 : Int × Int => gd (p1.2 ≠ 0) (some (Int.tmod p1.1 p1.2))) fun k2 =>
    cn (decide (a0 < 0)) (k2 ((wr (0 - (wr (a0 + 1)))), a1)) (k2 (a0, a1))
def ref34_pick_S : List AV → AV → Prop := fun args r => ∃ a0 a1, args = [eI a0, eI a1] ∧ W (ref34_pick_F a0 a1) fun y => r = (eI y)
theorem ref34_pick_ok {T : Tbl} (hT : TOk Try.prog T) (hpf : PfOk T PF) : FOk Try.prog 40 (pureR ref34_pick_S) := by
  refine FOk_pure hT hpf Try.func40 rfl Try.ntmps40 Try.results40 (by decide) ?_
  rintro args r ⟨a0, a1, rfl, h⟩
  refine ⟨nle rfl, ?_, ?_⟩
  · exact (loose_cons (loose_int _ _) (loose_cons (loose_int _ _) loose_nil))
  rw [ref34_pick_F.eq_1] at h
  refine HT_fr DC_ok rfl fun K hK => ?_; (conv => whnf)
  refine hK _ _ _ ?_; clear hK K
  refine HT_seq ?_
  refine HT_fr DC_ok rfl fun K hK => ?_; (conv => whnf)
  refine hK _ _ _ ?_; clear hK K
  replace h := W_jn h
  refine HT_if fun K1 K2 hK1 hK2 => ?_; (conv => whnf)
  refine cond_lk h (fun _ h => ?_) (fun _ h => ?_)
  · refine hK1 ?_; clear hK1 hK2 K1 K2
    refine HT_f DC_ok rfl fun K hK => ?_; (conv => whnf)
    refine hK _ _ _ ?_; clear hK K
    refine Then_n ?_
    refine HT_fr DC_ok rfl fun K hK => ?_; (conv => whnf)
    refine gd_lk h fun _ h => ?_; (conv => whnf)
    refine hK _ _ _ ?_; clear hK K
    refine HT_ret ?_
    replace h := W_some h
    refine PostP_r DC_ok fun K hK => ?_; (conv => whnf)
    refine hK _ ?_; clear hK K
    cases h
    exact Wk.refl _
  refine hK2 ?_; clear hK1 hK2 K1 K2
  refine HT_skip ?_
  refine Then_n ?_
  refine HT_fr DC_ok rfl fun K hK => ?_; (conv => whnf)
  refine gd_lk h fun _ h => ?_; (conv => whnf)
  refine hK _ _ _ ?_; clear hK K
  refine HT_ret ?_
  replace h := W_some h
  refine PostP_r DC_ok fun K hK => ?_; (conv => whnf)
  refine hK _ ?_; clear hK K
  cases h
  exact Wk.refl _
theorem ref34_pick_call {T : Tbl} (hT : T 40 = pureR ref34_pick_S) {args : List AV} {hp : Heap} {id : Nat} {k : AV → Prop} {a0 : Int} {a1 : Int} {Φ : Int → Prop} (h : W (ref34_pick_F a0 a1) Φ) (hw : WkL args [eI a0, eI a1]) (hk : ∀ y, Φ y → k (eI y)) : callpK T 40 args hp id k := by
  obtain ⟨y, e, hy⟩ := W_inv h
  exact callpK_pure hT ⟨a0, a1, rfl, W_of e rfl⟩ (by exact (loose_int _ _)) hw (hk y hy)
def recovery_Valid_b1 (a0 : TRegion) (s6 : Int × TGrowth) : Option (Ct (Int × TGrowth) Bool) := cn (decide (s6.1 < (a0.Steps.length : Int))) (ix a0.Steps default s6.1 fun e7 =>
    jn (fun p8 : Bool => cn p8 (some (.rt false)) (some (.nx ((wr (s6.1 + 1)), e7)))) fun k9 => bd (recovery_isWithin_F e7.From (wr (s6.2.From + 1)) 1000) fun y10 =>
    cn (!y10) (k9 true) (bd (recovery_isWithin_F e7.Capacity s6.2.Capacity 20) fun y11 => k9 (!y11))) (some (.bk (s6.1, s6.2)))
theorem W_brecovery_Valid_b1 {a0 : TRegion} {s6 : Int × TGrowth} {Φ : Ct (Int × TGrowth) Bool → Prop} (h : W (recovery_Valid_b1 a0 s6) Φ) : W (cn (decide (s6.1 < (a0.Steps.length : Int))) (ix a0.Steps default s6.1 fun e7 => jn (fun p8 : Bool => cn p8 (some (.rt false)) (some (.nx ((wr (s6.1 + 1)), e7)))) fun k9 =>
    bd (recovery_isWithin_F e7.From (wr (s6.2.From + 1)) 1000) fun y10 => cn (!y10) (k9 true) (bd (recovery_isWithin_F e7.Capacity s6.2.Capacity 20) fun y11 =>
    k9 (!y11))) (some (.bk (s6.1, s6.2)))) Φ := h
def recovery_Valid_F (a0 : TRegion) : Option Bool := jn (fun p1 : Bool => cn p1 (some false) (bd (lp (recovery_Valid_b1 a0) FU (0, (⟨(-1), 0⟩ : TGrowth))) fun c12 =>
    smK c12 (fun s13 => let v15 := (decide (s13.2.Capacity > 0)); some v15) (fun r14 => some r14))) fun k2 => bd (recovery_isWithin_F (a0.Steps.length : Int) 1 10) fun y3 =>
    cn (!y3) (k2 true) (bd (recovery_isWithin_F a0.Signals 1 100) fun y4 => cn (!y4) (k2 true) (ix a0.Steps default 0 fun e5 => k2 (e5.From != 0)))
def recovery_Valid_S : List AV → AV → Prop := fun args r => ∃ a0, args = [eTRegion a0] ∧ W (recovery_Valid_F a0) fun y => r = (eB y)
theorem recovery_Valid_ok {T : Tbl} (hT : TOk Try.prog T) (hpf : PfOk T PF) (h46 : T 46 = pureR recovery_isWithin_S) : FOk Try.prog 24 (pureR recovery_Valid_S) := by
  refine FOk_pure hT hpf Try.func24 rfl Try.ntmps24 Try.results24 (by decide) ?_
  rintro args r ⟨a0, rfl, h⟩
  refine ⟨nle rfl, ?_, ?_⟩
  · exact (loose_cons (lo_TRegion _) loose_nil)
  rw [recovery_Valid_F.eq_1] at h
  refine HT_fr DC_ok rfl fun K hK => ?_; (conv => whnf)
  refine hK _ _ _ ?_; clear hK K
  refine HT_seq ?_
  refine HT_fr DC_ok rfl fun K hK => ?_; (conv => whnf)
  replace h := W_jn h
  refine nlA rfl ?_; (conv => whnf)
  refine blkK_of rfl ?_; (conv => whnf)
  refine getK_of rfl ?_; (conv => whnf)
  replace h := W_bd h
  refine recovery_isWithin_call h46 h (WkL.refl _) (fun _ h => ?_); (conv => whnf)
  refine cond_lk h (fun _ h => ?_) (fun _ h => ?_) <;> (conv => whnf)
  · refine hK _ _ _ ?_; clear hK K
    refine HT_if fun K1 K2 hK1 hK2 => ?_; (conv => whnf)
    refine hK1 ?_; clear hK1 hK2 K1 K2
    replace h := W_cnT h
    refine HT_fr DC_ok rfl fun K hK => ?_; (conv => whnf)
    refine hK _ _ _ ?_; clear hK K
    refine HT_ret ?_
    refine Then_r ?_
    replace h := W_some h
    refine PostP_r DC_ok fun K hK => ?_; (conv => whnf)
    refine hK _ ?_; clear hK K
    cases h
    exact Wk.refl _
  refine nlA rfl ?_; (conv => whnf)
  refine blkK_of rfl ?_; (conv => whnf)
  refine getK_of rfl ?_; (conv => whnf)
  replace h := W_bd h
  refine recovery_isWithin_call h46 h (WkL.refl _) (fun _ h => ?_); (conv => whnf)
  refine cond_lk h (fun _ h => ?_) (fun _ h => ?_) <;> (conv => whnf)
  · refine hK _ _ _ ?_; clear hK K
    refine HT_if fun K1 K2 hK1 hK2 => ?_; (conv => whnf)
    refine hK1 ?_; clear hK1 hK2 K1 K2
    replace h := W_cnT h
    refine HT_fr DC_ok rfl fun K hK => ?_; (conv => whnf)
    refine hK _ _ _ ?_; clear hK K
    refine HT_ret ?_
    refine Then_r ?_
    replace h := W_some h
    refine PostP_r DC_ok fun K hK => ?_; (conv => whnf)
    refine hK _ ?_; clear hK K
    cases h
    exact Wk.refl _
  refine nlA rfl ?_; (conv => whnf)
  refine blkK_of rfl ?_; (conv => whnf)
  refine getK_of rfl ?_; (conv => whnf)
  refine ix_lk h fun _ h => ?_; (conv => whnf)
  refine getK_of rfl ?_; (conv => whnf)
  refine hK _ _ _ ?_; clear hK K
  refine HT_if fun K1 K2 hK1 hK2 => ?_; (conv => whnf)
  refine cond_lk h (fun _ h => ?_) (fun _ h => ?_)
  · refine hK1 ?_; clear hK1 hK2 K1 K2
    refine HT_fr DC_ok rfl fun K hK => ?_; (conv => whnf)
    refine hK _ _ _ ?_; clear hK K
    refine HT_ret ?_
    refine Then_r ?_
    replace h := W_some h
    refine PostP_r DC_ok fun K hK => ?_; (conv => whnf)
    refine hK _ ?_; clear hK K
    cases h
    exact Wk.refl _
  refine hK2 ?_; clear hK1 hK2 K1 K2
  refine HT_skip ?_
  refine Then_n ?_
  refine HT_fr DC_ok rfl fun K hK => ?_; (conv => whnf)
  refine blkK_of rfl ?_; (conv => whnf)
  refine And.intro rfl (And.intro (nle rfl) (And.intro rfl ?_)); (conv => whnf)
  refine hK _ _ _ ?_; clear hK K
  refine HT_seq ?_
  refine HT_fr DC_ok rfl fun K hK => ?_; (conv => whnf)
  refine nlA rfl ?_; (conv => whnf)
  refine blkK_of rfl ?_; (conv => whnf)
  refine getK_of rfl ?_; (conv => whnf)
  refine hK _ _ _ ?_; clear hK K
  refine HT_block ?_
  replace h := W_bd h
  refine HT_lpK (body := recovery_Valid_b1 _) rfl h [3, 27, 28] [] [3] (fun kl kh ids b s => ⟨ofL ([(29, eI s.1)] ++ kl), ofH ([(nthN ids 0, .cells [eI s.2.From, eI s.2.Capacity])] ++ kh), b + 64⟩) ?_; (conv => whnf); refine And.intro ?_ (fun s m h => HT_st ?_)
  · refine weak_k ?_; (conv => whnf)
    exact And.intro rfl (And.intro (allL_c wkI (allL_c (WkR.ptr (fun _ => rfl)) (allL_c (wkr (loose_lst fun _ => (lo_TGrowth _))) (allL_c wkI allL_n)))) (allL_c ⟨some _, rfl, BkR_c rfl (CkR_cons wkI (CkR_cons wkI CkR_nil))⟩ allL_n))
  replace h := W_brecovery_Valid_b1 (W_bd h)
  refine HT_fr DC_ok rfl fun K hK => ?_; (conv => whnf)
  refine hK _ _ _ ?_; clear hK K
  refine HT_seq ?_
  refine HT_if fun K1 K2 hK1 hK2 => ?_; (conv => whnf)
  refine cond_lk h (fun _ h => ?_) (fun _ h => ?_)
  · refine hK1 ?_; clear hK1 hK2 K1 K2
    refine HT_skip ?_
    refine Then_n ?_
    refine HT_seq ?_
    refine HT_block ?_
    refine HT_fr DC_ok rfl fun K hK => ?_; (conv => whnf)
    refine ix_lk h fun _ h => ?_; (conv => whnf)
    refine nlA rfl ?_; (conv => whnf)
    refine blkK_of rfl ?_; (conv => whnf)
    refine And.intro rfl (And.intro (nle rfl) (And.intro rfl ?_)); (conv => whnf)
    refine hK _ _ _ ?_; clear hK K
    refine HT_seq ?_
    refine HT_fr DC_ok rfl fun K hK => ?_; (conv => whnf)
    replace h := W_jn h
    refine nlA rfl ?_; (conv => whnf)
    refine blkK_of rfl ?_; (conv => whnf)
    refine getK_of rfl ?_; (conv => whnf)
    refine nlA rfl ?_; (conv => whnf)
    refine blkK_of rfl ?_; (conv => whnf)
    refine getK_of rfl ?_; (conv => whnf)
    replace h := W_bd h
    refine recovery_isWithin_call h46 h (WkL.refl _) (fun _ h => ?_); (conv => whnf)
    refine cond_lk h (fun _ h => ?_) (fun _ h => ?_) <;> (conv => whnf)
    · refine hK _ _ _ ?_; clear hK K
      refine HT_if fun K1 K2 hK1 hK2 => ?_; (conv => whnf)
      refine hK1 ?_; clear hK1 hK2 K1 K2
      replace h := W_cnT h
      refine HT_fr DC_ok rfl fun K hK => ?_; (conv => whnf)
      refine hK _ _ _ ?_; clear hK K
      refine HT_ret ?_
      refine Then_r ?_
      refine InBlock_r ?_
      refine Then_r ?_
      refine Then_r ?_
      refine InBlock_r ?_
      refine Then_r ?_
      replace h := W_xrt h
      replace h := W_inr h
      replace h := W_some h
      refine PostP_r DC_ok fun K hK => ?_; (conv => whnf)
      refine hK _ ?_; clear hK K
      cases h
      exact Wk.refl _
    refine nlA rfl ?_; (conv => whnf)
    refine blkK_of rfl ?_; (conv => whnf)
    refine getK_of rfl ?_; (conv => whnf)
    refine nlA rfl ?_; (conv => whnf)
    refine blkK_of rfl ?_; (conv => whnf)
    refine getK_of rfl ?_; (conv => whnf)
    replace h := W_bd h
    refine recovery_isWithin_call h46 h (WkL.refl _) (fun _ h => ?_); (conv => whnf)
    refine hK _ _ _ ?_; clear hK K
    refine HT_if fun K1 K2 hK1 hK2 => ?_; (conv => whnf)
    refine cond_lk h (fun _ h => ?_) (fun _ h => ?_)
    · refine hK1 ?_; clear hK1 hK2 K1 K2
      refine HT_fr DC_ok rfl fun K hK => ?_; (conv => whnf)
      refine hK _ _ _ ?_; clear hK K
      refine HT_ret ?_
      refine Then_r ?_
      refine InBlock_r ?_
      refine Then_r ?_
      refine Then_r ?_
      refine InBlock_r ?_
      refine Then_r ?_
      replace h := W_xrt h
      replace h := W_inr h
      replace h := W_some h
      refine PostP_r DC_ok fun K hK => ?_; (conv => whnf)
      refine hK _ ?_; clear hK K
      cases h
      exact Wk.refl _
    refine hK2 ?_; clear hK1 hK2 K1 K2
    refine HT_skip ?_
    refine Then_n ?_
    refine HT_f DC_ok rfl fun K hK => ?_; (conv => whnf)
    refine nlA rfl ?_; (conv => whnf)
    refine blkK_of rfl ?_; (conv => whnf)
    refine nlA rfl ?_; (conv => whnf)
    refine blkK_of rfl ?_; (conv => whnf)
    refine And.intro rfl (And.intro (nle rfl) (And.intro rfl ?_)); (conv => whnf)
    refine hK _ _ _ ?_; clear hK K
    refine InBlock_n ?_
    refine Then_n ?_
    refine HT_f DC_ok rfl fun K hK => ?_; (conv => whnf)
    refine hK _ _ _ ?_; clear hK K
    refine Then_n ?_
    replace h := W_xnx h
    refine ⟨_, h, ?_⟩
    refine weak_k ?_; (conv => whnf)
    exact And.intro rfl (And.intro (allL_c wkI (allL_c (WkR.ptr (fun _ => rfl)) (allL_c (wkr (loose_lst fun _ => (lo_TGrowth _))) (allL_c wkI allL_n)))) (allL_c ⟨some _, rfl, BkR_c rfl (CkR_cons wkI (CkR_cons wkI CkR_nil))⟩ allL_n))
  refine hK2 ?_; clear hK1 hK2 K1 K2
  refine HT_exit ?_
  refine Then_e ?_
  refine Then_e ?_
  refine InBlock_e ?_
  replace h := W_xbk h
  replace h := W_inl h
  refine Then_n ?_
  refine HT_fr DC_ok rfl fun K hK => ?_; (conv => whnf)
  refine nlA rfl ?_; (conv => whnf)
  refine blkK_of rfl ?_; (conv => whnf)
  refine getK_of rfl ?_; (conv => whnf)
  refine hK _ _ _ ?_; clear hK K
  refine HT_ret ?_
  replace h := W_some h
  refine PostP_r DC_ok fun K hK => ?_; (conv => whnf)
  refine hK _ ?_; clear hK K
  cases h
  exact Wk.refl _
theorem recovery_Valid_call {T : Tbl} (hT : T 24 = pureR recovery_Valid_S) {args : List AV} {hp : Heap} {id : Nat} {k : AV → Prop} {a0 : TRegion} {Φ : Bool → Prop} (h : W (recovery_Valid_F a0) Φ) (hw : WkL args [eTRegion a0]) (hk : ∀ y, Φ y → k (eB y)) : callpK T 24 args hp id k := by
  obtain ⟨y, e, hy⟩ := W_inv h
  exact callpK_pure hT ⟨a0, rfl, W_of e rfl⟩ (by exact (loose_bool _)) hw (hk y hy)
def ref34_Valid_b1 (a0 : TRegion) (s5 : Int) : Option (Ct Int Bool) := cn (decide (s5 < (a0.Steps.length : Int))) (ix a0.Steps default s5 fun e6 => jn (fun p7 : Bool =>
    cn p7 (some (.rt false)) (jn (fun p11 : Bool => cn p11 (some (.rt false)) (some (.nx (wr (s5 + 1))))) fun k12 => cn (decide (s5 >
    0)) (ix a0.Steps default (wr (s5 - 1)) fun e13 => cn (decide (e6.From ≤ e13.From)) (k12 true) (ix a0.Steps default (wr (s5 - 1)) fun e14 =>
    k12 (decide (e6.Capacity < e14.Capacity)))) (k12 false))) fun k8 => bd (ref34_in_F e6.From 0 1000) fun y9 => cn (!y9) (k8 true) (bd (ref34_in_F e6.Capacity 0 20) fun y10 =>
    cn (!y10) (k8 true) (cn (s5 == 0) (k8 (e6.From != 0)) (k8 false)))) (some (.bk s5))
theorem W_bref34_Valid_b1 {a0 : TRegion} {s5 : Int} {Φ : Ct Int Bool → Prop} (h : W (ref34_Valid_b1 a0 s5) Φ) : W (cn (decide (s5 < (a0.Steps.length : Int))) (ix a0.Steps default s5 fun e6 => jn (fun p7 : Bool => cn p7 (some (.rt false)) (jn (fun p11 : Bool =>
    cn p11 (some (.rt false)) (some (.nx (wr (s5 + 1))))) fun k12 => cn (decide (s5 > 0)) (ix a0.Steps default (wr (s5 - 1)) fun e13 =>
    cn (decide (e6.From ≤ e13.From)) (k12 true) (ix a0.Steps default (wr (s5 - 1)) fun e14 => k12 (decide (e6.Capacity < e14.Capacity)))) (k12 false))) fun k8 =>
    bd (ref34_in_F e6.From 0 1000) fun y9 => cn (!y9) (k8 true) (bd (ref34_in_F e6.Capacity 0 20) fun y10 => cn (!y10) (k8 true) (cn (s5 == 0) (k8 (e6.From !=
    0)) (k8 false)))) (some (.bk s5))) Φ := h
def ref34_Valid_F (a0 : TRegion) : Option Bool := jn (fun p1 : Bool => cn p1 (some false) (bd (lp (ref34_Valid_b1 a0) FU 0) fun c15 => smK c15 (fun s16 =>
    ix a0.Steps default (wr ((a0.Steps.length : Int) - 1)) fun e18 => let v19 := (decide (e18.Capacity ≥ 1)); some v19) (fun r17 => some r17))) fun k2 =>
    bd (ref34_in_F (a0.Steps.length : Int) 1 10) fun y3 => cn (!y3) (k2 true) (bd (ref34_in_F a0.Signals 1 100) fun y4 => k2 (!y4))
def ref34_Valid_S : List AV → AV → Prop := fun args r => ∃ a0, args = [eTRegion a0] ∧ W (ref34_Valid_F a0) fun y => r = (eB y)
theorem ref34_Valid_ok {T : Tbl} (hT : TOk Try.prog T) (hpf : PfOk T PF) (h47 : T 47 = pureR ref34_in_S) : FOk Try.prog 25 (pureR ref34_Valid_S) := by
  refine FOk_pure hT hpf Try.func25 rfl Try.ntmps25 Try.results25 (by decide) ?_
  rintro args r ⟨a0, rfl, h⟩
  refine ⟨nle rfl, ?_, ?_⟩
  · exact (loose_cons (lo_TRegion _) loose_nil)
  rw [ref34_Valid_F.eq_1] at h
  refine HT_fr DC_ok rfl fun K hK => ?_; (conv => whnf)
  refine hK _ _ _ ?_; clear hK K
  refine HT_fr DC_ok rfl fun K hK => ?_; (conv => whnf)
  refine nlA rfl ?_; (conv => whnf)
  refine blkK_of rfl ?_; (conv => whnf)
  refine getK_of rfl ?_; (conv => whnf)
  refine hK _ _ _ ?_; clear hK K
  refine HT_seq ?_
  refine HT_fr DC_ok rfl fun K hK => ?_; (conv => whnf)
  replace h := W_jn h
  replace h := W_bd h
  refine ref34_in_call h47 h (WkL.refl _) (fun _ h => ?_); (conv => whnf)
  refine cond_lk h (fun _ h => ?_) (fun _ h => ?_) <;> (conv => whnf)
  · refine hK _ _ _ ?_; clear hK K
    refine HT_if fun K1 K2 hK1 hK2 => ?_; (conv => whnf)
    refine hK1 ?_; clear hK1 hK2 K1 K2
    replace h := W_cnT h
    refine HT_fr DC_ok rfl fun K hK => ?_; (conv => whnf)
    refine hK _ _ _ ?_; clear hK K
    refine HT_ret ?_
    refine Then_r ?_
    replace h := W_some h
    refine PostP_r DC_ok fun K hK => ?_; (conv => whnf)
    refine hK _ ?_; clear hK K
    cases h
    exact Wk.refl _
  refine nlA rfl ?_; (conv => whnf)
  refine blkK_of rfl ?_; (conv => whnf)
  refine getK_of rfl ?_; (conv => whnf)
  replace h := W_bd h
  refine ref34_in_call h47 h (WkL.refl _) (fun _ h => ?_); (conv => whnf)
  refine hK _ _ _ ?_; clear hK K
  refine HT_if fun K1 K2 hK1 hK2 => ?_; (conv => whnf)
  refine cond_lk h (fun _ h => ?_) (fun _ h => ?_)
  · refine hK1 ?_; clear hK1 hK2 K1 K2
    refine HT_fr DC_ok rfl fun K hK => ?_; (conv => whnf)
    refine hK _ _ _ ?_; clear hK K
    refine HT_ret ?_
    refine Then_r ?_
    replace h := W_some h
    refine PostP_r DC_ok fun K hK => ?_; (conv => whnf)
    refine hK _ ?_; clear hK K
    cases h
    exact Wk.refl _
  refine hK2 ?_; clear hK1 hK2 K1 K2
  refine HT_skip ?_
  refine Then_n ?_
  refine HT_seq ?_
  refine HT_fr DC_ok rfl fun K hK => ?_; (conv => whnf)
  refine hK _ _ _ ?_; clear hK K
  refine HT_block ?_
  replace h := W_bd h
  refine HT_lpK (body := ref34_Valid_b1 _) rfl h [1, 3] [1] [] (fun kl kh ids b s => ⟨ofL ([(4, eI s)] ++ kl), ofH ([] ++ kh), b + 64⟩) ?_; (conv => whnf); refine And.intro ?_ (fun s m h => HT_st ?_)
  · refine weak_k ?_; (conv => whnf)
    exact And.intro rfl (And.intro (allL_c wkI (allL_c (WkR.ptr (fun _ => rfl)) (allL_c wkI allL_n))) (allL_c ⟨some _, rfl, BkR_c rfl (CkR_cons (wkr (loose_lst fun _ => (lo_TGrowth _))) (CkR_cons wkI CkR_nil))⟩ allL_n))
  replace h := W_bref34_Valid_b1 (W_bd h)
  refine HT_seq ?_
  refine HT_fr DC_ok rfl fun K hK => ?_; (conv => whnf)
  refine hK _ _ _ ?_; clear hK K
  refine HT_if fun K1 K2 hK1 hK2 => ?_; (conv => whnf)
  refine cond_lk h (fun _ h => ?_) (fun _ h => ?_)
  · refine hK1 ?_; clear hK1 hK2 K1 K2
    refine HT_skip ?_
    refine Then_n ?_
    refine HT_seq ?_
    refine HT_block ?_
    refine HT_fr DC_ok rfl fun K hK => ?_; (conv => whnf)
    refine nlA rfl ?_; (conv => whnf)
    refine blkK_of rfl ?_; (conv => whnf)
    refine getK_of rfl ?_; (conv => whnf)
    refine ix_lk h fun _ h => ?_; (conv => whnf)
    refine nlA rfl ?_; (conv => whnf)
    refine blkK_of rfl ?_; (conv => whnf)
    refine And.intro rfl (And.intro (nle rfl) (And.intro rfl ?_)); (conv => whnf)
    refine hK _ _ _ ?_; clear hK K
    refine HT_seq ?_
    refine HT_fr DC_ok rfl fun K hK => ?_; (conv => whnf)
    replace h := W_jn h
    refine nlA rfl ?_; (conv => whnf)
    refine blkK_of rfl ?_; (conv => whnf)
    refine getK_of rfl ?_; (conv => whnf)
    replace h := W_bd h
    refine ref34_in_call h47 h (WkL.refl _) (fun _ h => ?_); (conv => whnf)
    refine cond_lk h (fun _ h => ?_) (fun _ h => ?_) <;> (conv => whnf)
    · refine hK _ _ _ ?_; clear hK K
      refine HT_if fun K1 K2 hK1 hK2 => ?_; (conv => whnf)
      refine hK1 ?_; clear hK1 hK2 K1 K2
      replace h := W_cnT h
      refine HT_fr DC_ok rfl fun K hK => ?_; (conv => whnf)
      refine hK _ _ _ ?_; clear hK K
      refine HT_ret ?_
      refine Then_r ?_
      refine InBlock_r ?_
      refine Then_r ?_
      refine Then_r ?_
      refine InBlock_r ?_
      refine Then_r ?_
      replace h := W_xrt h
      replace h := W_inr h
      replace h := W_some h
      refine PostP_r DC_ok fun K hK => ?_; (conv => whnf)
      refine hK _ ?_; clear hK K
      cases h
      exact Wk.refl _
    refine nlA rfl ?_; (conv => whnf)
    refine blkK_of rfl ?_; (conv => whnf)
    refine getK_of rfl ?_; (conv => whnf)
    replace h := W_bd h
    refine ref34_in_call h47 h (WkL.refl _) (fun _ h => ?_); (conv => whnf)
    refine cond_lk h (fun _ h => ?_) (fun _ h => ?_) <;> (conv => whnf)
    · refine hK _ _ _ ?_; clear hK K
      refine HT_if fun K1 K2 hK1 hK2 => ?_; (conv => whnf)
      refine hK1 ?_; clear hK1 hK2 K1 K2
      replace h := W_cnT h
      refine HT_fr DC_ok rfl fun K hK => ?_; (conv => whnf)
      refine hK _ _ _ ?_; clear hK K
      refine HT_ret ?_
      refine Then_r ?_
      refine InBlock_r ?_
      refine Then_r ?_
      refine Then_r ?_
      refine InBlock_r ?_
      refine Then_r ?_
      replace h := W_xrt h
      replace h := W_inr h
      replace h := W_some h
      refine PostP_r DC_ok fun K hK => ?_; (conv => whnf)
      refine hK _ ?_; clear hK K
      cases h
      exact Wk.refl _
    refine cond_lk h (fun _ h => ?_) (fun _ h => ?_) <;> (conv => whnf)
    · refine nlA rfl ?_; (conv => whnf)
      refine blkK_of rfl ?_; (conv => whnf)
      refine getK_of rfl ?_; (conv => whnf)
      refine hK _ _ _ ?_; clear hK K
      refine HT_if fun K1 K2 hK1 hK2 => ?_; (conv => whnf)
      refine cond_lk h (fun _ h => ?_) (fun _ h => ?_)
      · refine hK1 ?_; clear hK1 hK2 K1 K2
        refine HT_fr DC_ok rfl fun K hK => ?_; (conv => whnf)
        refine hK _ _ _ ?_; clear hK K
        refine HT_ret ?_
        refine Then_r ?_
        refine InBlock_r ?_
        refine Then_r ?_
        refine Then_r ?_
        refine InBlock_r ?_
        refine Then_r ?_
        replace h := W_xrt h
        replace h := W_inr h
        replace h := W_some h
        refine PostP_r DC_ok fun K hK => ?_; (conv => whnf)
        refine hK _ ?_; clear hK K
        cases h
        exact Wk.refl _
      refine hK2 ?_; clear hK1 hK2 K1 K2
      refine HT_skip ?_
      refine Then_n ?_
      refine HT_fd DC_ok mix_ok rfl (by kernel_rfl) fun K hK => ?_; (conv => whnf)
      replace h := W_jn h
      refine cond_lk h (fun _ h => ?_) (fun _ h => ?_) <;> (conv => whnf)
      · refine nlA rfl ?_; (conv => whnf)
        refine blkK_of rfl ?_; (conv => whnf)
        refine getK_of rfl ?_; (conv => whnf)
        refine nlA rfl ?_; (conv => whnf)
        refine blkK_of rfl ?_; (conv => whnf)
        refine getK_of rfl ?_; (conv => whnf)
        refine ix_lk h fun _ h => ?_; (conv => whnf)
        refine getK_of rfl ?_; (conv => whnf)
        refine cond_lk h (fun _ h => ?_) (fun _ h => ?_) <;> (conv => whnf)
        · refine hK _ _ _ ?_; clear hK K
          refine HT_if fun K1 K2 hK1 hK2 => ?_; (conv => whnf)
          refine hK1 ?_; clear hK1 hK2 K1 K2
          replace h := W_cnT h
          refine HT_fr DC_ok rfl fun K hK => ?_; (conv => whnf)
          refine hK _ _ _ ?_; clear hK K
          refine HT_ret ?_
          refine InBlock_r ?_
          refine Then_r ?_
          refine Then_r ?_
          refine InBlock_r ?_
          refine Then_r ?_
          replace h := W_xrt h
          replace h := W_inr h
          replace h := W_some h
          refine PostP_r DC_ok fun K hK => ?_; (conv => whnf)
          refine hK _ ?_; clear hK K
          cases h
          exact Wk.refl _
        refine nlA rfl ?_; (conv => whnf)
        refine blkK_of rfl ?_; (conv => whnf)
        refine getK_of rfl ?_; (conv => whnf)
        refine nlA rfl ?_; (conv => whnf)
        refine blkK_of rfl ?_; (conv => whnf)
        refine getK_of rfl ?_; (conv => whnf)
        refine ix_lk h fun _ h => ?_; (conv => whnf)
        refine getK_of rfl ?_; (conv => whnf)
        refine hK _ _ _ ?_; clear hK K
        refine HT_if fun K1 K2 hK1 hK2 => ?_; (conv => whnf)
        refine cond_lk h (fun _ h => ?_) (fun _ h => ?_)
        · refine hK1 ?_; clear hK1 hK2 K1 K2
          refine HT_fr DC_ok rfl fun K hK => ?_; (conv => whnf)
          refine hK _ _ _ ?_; clear hK K
          refine HT_ret ?_
          refine InBlock_r ?_
          refine Then_r ?_
          refine Then_r ?_
          refine InBlock_r ?_
          refine Then_r ?_
          replace h := W_xrt h
          replace h := W_inr h
          replace h := W_some h
          refine PostP_r DC_ok fun K hK => ?_; (conv => whnf)
          refine hK _ ?_; clear hK K
          cases h
          exact Wk.refl _
        refine hK2 ?_; clear hK1 hK2 K1 K2
        refine HT_skip ?_
        refine InBlock_n ?_
        refine Then_n ?_
        refine HT_f DC_ok rfl fun K hK => ?_; (conv => whnf)
        refine hK _ _ _ ?_; clear hK K
        refine Then_n ?_
        replace h := W_xnx h
        refine ⟨_, h, ?_⟩
        refine weak_k ?_; (conv => whnf)
        exact And.intro rfl (And.intro (allL_c wkI (allL_c (WkR.ptr (fun _ => rfl)) (allL_c wkI allL_n))) (allL_c ⟨some _, rfl, BkR_c rfl (CkR_cons (wkr (loose_lst fun _ => (lo_TGrowth _))) (CkR_cons wkI CkR_nil))⟩ allL_n))
      refine hK _ _ _ ?_; clear hK K
      refine HT_if fun K1 K2 hK1 hK2 => ?_; (conv => whnf)
      refine hK2 ?_; clear hK1 hK2 K1 K2
      replace h := W_cnF h
      refine HT_skip ?_
      refine InBlock_n ?_
      refine Then_n ?_
      refine HT_f DC_ok rfl fun K hK => ?_; (conv => whnf)
      refine hK _ _ _ ?_; clear hK K
      refine Then_n ?_
      replace h := W_xnx h
      refine ⟨_, h, ?_⟩
      refine weak_k ?_; (conv => whnf)
      exact And.intro rfl (And.intro (allL_c wkI (allL_c (WkR.ptr (fun _ => rfl)) (allL_c wkI allL_n))) (allL_c ⟨some _, rfl, BkR_c rfl (CkR_cons (wkr (loose_lst fun _ => (lo_TGrowth _))) (CkR_cons wkI CkR_nil))⟩ allL_n))
    refine hK _ _ _ ?_; clear hK K
    refine HT_if fun K1 K2 hK1 hK2 => ?_; (conv => whnf)
    refine hK2 ?_; clear hK1 hK2 K1 K2
    replace h := W_cnF h
    refine HT_skip ?_
    refine Then_n ?_
    refine HT_fd DC_ok mix_ok rfl (by kernel_rfl) fun K hK => ?_; (conv => whnf)
    replace h := W_jn h
    refine cond_lk h (fun _ h => ?_) (fun _ h => ?_) <;> (conv => whnf)
    · refine nlA rfl ?_; (conv => whnf)
      refine blkK_of rfl ?_; (conv => whnf)
      refine getK_of rfl ?_; (conv => whnf)
      refine nlA rfl ?_; (conv => whnf)
      refine blkK_of rfl ?_; (conv => whnf)
      refine getK_of rfl ?_; (conv => whnf)
      refine ix_lk h fun _ h => ?_; (conv => whnf)
      refine getK_of rfl ?_; (conv => whnf)
      refine cond_lk h (fun _ h => ?_) (fun _ h => ?_) <;> (conv => whnf)
      · refine hK _ _ _ ?_; clear hK K
        refine HT_if fun K1 K2 hK1 hK2 => ?_; (conv => whnf)
        refine hK1 ?_; clear hK1 hK2 K1 K2
        replace h := W_cnT h
        refine HT_fr DC_ok rfl fun K hK => ?_; (conv => whnf)
        refine hK _ _ _ ?_; clear hK K
        refine HT_ret ?_
        refine InBlock_r ?_
        refine Then_r ?_
        refine Then_r ?_
        refine InBlock_r ?_
        refine Then_r ?_
        replace h := W_xrt h
        replace h := W_inr h
        replace h := W_some h
        refine PostP_r DC_ok fun K hK => ?_; (conv => whnf)
        refine hK _ ?_; clear hK K
        cases h
        exact Wk.refl _
      refine nlA rfl ?_; (conv => whnf)
      refine blkK_of rfl ?_; (conv => whnf)
      refine getK_of rfl ?_; (conv => whnf)
      refine nlA rfl ?_; (conv => whnf)
      refine blkK_of rfl ?_; (conv => whnf)
      refine getK_of rfl ?_; (conv => whnf)
      refine ix_lk h fun _ h => ?_; (conv => whnf)
      refine getK_of rfl ?_; (conv => whnf)
      refine hK _ _ _ ?_; clear hK K
      refine HT_if fun K1 K2 hK1 hK2 => ?_; (conv => whnf)
      refine cond_lk h (fun _ h => ?_) (fun _ h => ?_)
      · refine hK1 ?_; clear hK1 hK2 K1 K2
        refine HT_fr DC_ok rfl fun K hK => ?_; (conv => whnf)
        refine hK _ _ _ ?_; clear hK K
        refine HT_ret ?_
        refine InBlock_r ?_
        refine Then_r ?_
        refine Then_r ?_
        refine InBlock_r ?_
        refine Then_r ?_
        replace h := W_xrt h
        replace h := W_inr h
        replace h := W_some h
        refine PostP_r DC_ok fun K hK => ?_; (conv => whnf)
        refine hK _ ?_; clear hK K
        cases h
        exact Wk.refl _
      refine hK2 ?_; clear hK1 hK2 K1 K2
      refine HT_skip ?_
      refine InBlock_n ?_
      refine Then_n ?_
      refine HT_f DC_ok rfl fun K hK => ?_; (conv => whnf)
      refine hK _ _ _ ?_; clear hK K
      refine Then_n ?_
      replace h := W_xnx h
      refine ⟨_, h, ?_⟩
      refine weak_k ?_; (conv => whnf)
      exact And.intro rfl (And.intro (allL_c wkI (allL_c (WkR.ptr (fun _ => rfl)) (allL_c wkI allL_n))) (allL_c ⟨some _, rfl, BkR_c rfl (CkR_cons (wkr (loose_lst fun _ => (lo_TGrowth _))) (CkR_cons wkI CkR_nil))⟩ allL_n))
    refine hK _ _ _ ?_; clear hK K
    refine HT_if fun K1 K2 hK1 hK2 => ?_; (conv => whnf)
    refine hK2 ?_; clear hK1 hK2 K1 K2
    replace h := W_cnF h
    refine HT_skip ?_
    refine InBlock_n ?_
    refine Then_n ?_
    refine HT_f DC_ok rfl fun K hK => ?_; (conv => whnf)
    refine hK _ _ _ ?_; clear hK K
    refine Then_n ?_
    replace h := W_xnx h
    refine ⟨_, h, ?_⟩
    refine weak_k ?_; (conv => whnf)
    exact And.intro rfl (And.intro (allL_c wkI (allL_c (WkR.ptr (fun _ => rfl)) (allL_c wkI allL_n))) (allL_c ⟨some _, rfl, BkR_c rfl (CkR_cons (wkr (loose_lst fun _ => (lo_TGrowth _))) (CkR_cons wkI CkR_nil))⟩ allL_n))
  refine hK2 ?_; clear hK1 hK2 K1 K2
  refine HT_exit ?_
  refine Then_e ?_
  refine Then_e ?_
  refine InBlock_e ?_
  replace h := W_xbk h
  replace h := W_inl h
  refine Then_n ?_
  refine HT_fr DC_ok rfl fun K hK => ?_; (conv => whnf)
  refine nlA rfl ?_; (conv => whnf)
  refine blkK_of rfl ?_; (conv => whnf)
  refine getK_of rfl ?_; (conv => whnf)
  refine ix_lk h fun _ h => ?_; (conv => whnf)
  refine getK_of rfl ?_; (conv => whnf)
  refine hK _ _ _ ?_; clear hK K
  refine HT_ret ?_
  replace h := W_some h
  refine PostP_r DC_ok fun K hK => ?_; (conv => whnf)
  refine hK _ ?_; clear hK K
  cases h
  exact Wk.refl _
theorem ref34_Valid_call {T : Tbl} (hT : T 25 = pureR ref34_Valid_S) {args : List AV} {hp : Heap} {id : Nat} {k : AV → Prop} {a0 : TRegion} {Φ : Bool → Prop} (h : W (ref34_Valid_F a0) Φ) (hw : WkL args [eTRegion a0]) (hk : ∀ y, Φ y → k (eB y)) : callpK T 25 args hp id k := by
  obtain ⟨y, e, hy⟩ := W_inv h
  exact callpK_pure hT ⟨a0, rfl, W_of e rfl⟩ (by exact (loose_bool _)) hw (hk y hy)
def recovery_Ready_b1 (a0 : List TAttempt) (s1 : Int × (GM Bool)) : Option (Ct (Int × (GM Bool)) Bool) := cn (decide (s1.1 < (a0.length : Int))) (ix a0 default s1.1 fun e2 =>
    jn (fun p3 : Bool => cn p3 (some (.rt false)) (let m7 := s1.2.put e2.Caller true; some (.nx ((wr (s1.1 + 1)), m7)))) fun k4 => bd (recovery_isWithin_F e2.Caller 0 99) fun y5 =>
    cn (!y5) (k4 true) (bd (recovery_isWithin_F e2.At 0 1000) fun y6 => k4 (!y6))) (some (.bk (s1.1, s1.2)))
theorem W_brecovery_Ready_b1 {a0 : List TAttempt} {s1 : Int × (GM Bool)} {Φ : Ct (Int × (GM Bool)) Bool → Prop} (h : W (recovery_Ready_b1 a0 s1) Φ) : W (cn (decide (s1.1 < (a0.length : Int))) (ix a0 default s1.1 fun e2 => jn (fun p3 : Bool => cn p3 (some (.rt false)) (let m7 := s1.2.put e2.Caller true;
    some (.nx ((wr (s1.1 + 1)), m7)))) fun k4 => bd (recovery_isWithin_F e2.Caller 0 99) fun y5 => cn (!y5) (k4 true) (bd (recovery_isWithin_F e2.At 0 1000) fun y6 =>
    k4 (!y6))) (some (.bk (s1.1, s1.2)))) Φ := h
def recovery_Ready_F (a0 : List TAttempt) : Option Bool := bd (lp (recovery_Ready_b1 a0) FU (0, (GM.mt Bool))) fun c8 => smK c8 (fun s9 => jn (fun p11 : Bool => some p11) fun k12 =>
    cn (decide ((a0.length : Int) ≤ 40)) (let v13 := (s9.2.len == (a0.length : Int)); k12 v13) (k12 false)) (fun r10 => some r10)
def recovery_Ready_S : List AV → AV → Prop := fun args r => ∃ a0, args = [(eL 3 eTAttempt default) a0] ∧ W (recovery_Ready_F a0) fun y => r = (eB y)
theorem recovery_Ready_ok {T : Tbl} (hT : TOk Try.prog T) (hpf : PfOk T PF) (h46 : T 46 = pureR recovery_isWithin_S) : FOk Try.prog 26 (pureR recovery_Ready_S) := by
  refine FOk_pure hT hpf Try.func26 rfl Try.ntmps26 Try.results26 (by decide) ?_
  rintro args r ⟨a0, rfl, h⟩
  refine ⟨nle rfl, ?_, ?_⟩
  · exact (loose_cons (loose_lst fun _ => (lo_TAttempt _)) loose_nil)
  rw [recovery_Ready_F.eq_1] at h
  refine HT_fr DC_ok rfl fun K hK => ?_; (conv => whnf)
  refine hK _ _ _ ?_; clear hK K
  refine HT_fr DC_ok rfl fun K hK => ?_; (conv => whnf)
  refine hK _ _ _ ?_; clear hK K
  refine HT_seq ?_
  refine HT_fr DC_ok rfl fun K hK => ?_; (conv => whnf)
  refine hK _ _ _ ?_; clear hK K
  refine HT_block ?_
  replace h := W_bd h
  refine HT_lpK (body := recovery_Ready_b1 _) rfl h [0, 3, 7, 8] [] [3] (fun kl kh ids b s => ⟨ofL ([(9, eI s.1)] ++ kl), ofH ([(nthN ids 0, abM eB s.2)] ++ kh), b + 64⟩) ?_; (conv => whnf); refine And.intro ?_ (fun s m h => HT_st ?_)
  · refine weak_k ?_; (conv => whnf)
    exact And.intro rfl (And.intro (allL_c wkI (allL_c (wkr (loose_lst fun _ => (lo_TAttempt _))) (allL_c (WkR.mp (fun _ => rfl)) (allL_c (wkr (loose_lst fun _ => (lo_TAttempt _))) (allL_c wkI allL_n))))) (allL_c ⟨some _, rfl, BkR_m (enc := eB) rfl (fun _ => (loose_bool _))⟩ allL_n))
  replace h := W_brecovery_Ready_b1 (W_bd h)
  refine HT_fr DC_ok rfl fun K hK => ?_; (conv => whnf)
  refine hK _ _ _ ?_; clear hK K
  refine HT_seq ?_
  refine HT_if fun K1 K2 hK1 hK2 => ?_; (conv => whnf)
  refine cond_lk h (fun _ h => ?_) (fun _ h => ?_)
  · refine hK1 ?_; clear hK1 hK2 K1 K2
    refine HT_skip ?_
    refine Then_n ?_
    refine HT_seq ?_
    refine HT_block ?_
    refine HT_fr DC_ok rfl fun K hK => ?_; (conv => whnf)
    refine ix_lk h fun _ h => ?_; (conv => whnf)
    refine nlA rfl ?_; (conv => whnf)
    refine blkK_of rfl ?_; (conv => whnf)
    refine And.intro rfl (And.intro (nle rfl) (And.intro rfl ?_)); (conv => whnf)
    refine hK _ _ _ ?_; clear hK K
    refine HT_seq ?_
    refine HT_fr DC_ok rfl fun K hK => ?_; (conv => whnf)
    replace h := W_jn h
    refine nlA rfl ?_; (conv => whnf)
    refine blkK_of rfl ?_; (conv => whnf)
    refine getK_of rfl ?_; (conv => whnf)
    replace h := W_bd h
    refine recovery_isWithin_call h46 h (WkL.refl _) (fun _ h => ?_); (conv => whnf)
    refine cond_lk h (fun _ h => ?_) (fun _ h => ?_) <;> (conv => whnf)
    · refine hK _ _ _ ?_; clear hK K
      refine HT_if fun K1 K2 hK1 hK2 => ?_; (conv => whnf)
      refine hK1 ?_; clear hK1 hK2 K1 K2
      replace h := W_cnT h
      refine HT_fr DC_ok rfl fun K hK => ?_; (conv => whnf)
      refine hK _ _ _ ?_; clear hK K
      refine HT_ret ?_
      refine Then_r ?_
      refine InBlock_r ?_
      refine Then_r ?_
      refine Then_r ?_
      refine InBlock_r ?_
      refine Then_r ?_
      replace h := W_xrt h
      replace h := W_inr h
      replace h := W_some h
      refine PostP_r DC_ok fun K hK => ?_; (conv => whnf)
      refine hK _ ?_; clear hK K
      cases h
      exact Wk.refl _
    refine nlA rfl ?_; (conv => whnf)
    refine blkK_of rfl ?_; (conv => whnf)
    refine getK_of rfl ?_; (conv => whnf)
    replace h := W_bd h
    refine recovery_isWithin_call h46 h (WkL.refl _) (fun _ h => ?_); (conv => whnf)
    refine hK _ _ _ ?_; clear hK K
    refine HT_if fun K1 K2 hK1 hK2 => ?_; (conv => whnf)
    refine cond_lk h (fun _ h => ?_) (fun _ h => ?_)
    · refine hK1 ?_; clear hK1 hK2 K1 K2
      refine HT_fr DC_ok rfl fun K hK => ?_; (conv => whnf)
      refine hK _ _ _ ?_; clear hK K
      refine HT_ret ?_
      refine Then_r ?_
      refine InBlock_r ?_
      refine Then_r ?_
      refine Then_r ?_
      refine InBlock_r ?_
      refine Then_r ?_
      replace h := W_xrt h
      replace h := W_inr h
      replace h := W_some h
      refine PostP_r DC_ok fun K hK => ?_; (conv => whnf)
      refine hK _ ?_; clear hK K
      cases h
      exact Wk.refl _
    refine hK2 ?_; clear hK1 hK2 K1 K2
    refine HT_skip ?_
    refine Then_n ?_
    refine HT_f DC_ok rfl fun K hK => ?_; (conv => whnf)
    refine nlA rfl ?_; (conv => whnf)
    refine blkK_of rfl ?_; (conv => whnf)
    refine getK_of rfl ?_; (conv => whnf)
    refine mput_lk (enc := eB) DC_ok rfl rfl ?_; (conv => whnf)
    refine hK _ _ _ ?_; clear hK K
    refine InBlock_n ?_
    refine Then_n ?_
    refine HT_f DC_ok rfl fun K hK => ?_; (conv => whnf)
    refine hK _ _ _ ?_; clear hK K
    refine Then_n ?_
    replace h := W_xnx h
    refine ⟨_, h, ?_⟩
    refine weak_k ?_; (conv => whnf)
    exact And.intro rfl (And.intro (allL_c wkI (allL_c (wkr (loose_lst fun _ => (lo_TAttempt _))) (allL_c (WkR.mp (fun _ => rfl)) (allL_c (wkr (loose_lst fun _ => (lo_TAttempt _))) (allL_c wkI allL_n))))) (allL_c ⟨some _, rfl, BkR_m (enc := eB) rfl (fun _ => (loose_bool _))⟩ allL_n))
  refine hK2 ?_; clear hK1 hK2 K1 K2
  refine HT_exit ?_
  refine Then_e ?_
  refine Then_e ?_
  refine InBlock_e ?_
  replace h := W_xbk h
  replace h := W_inl h
  refine Then_n ?_
  refine HT_fr DC_ok rfl fun K hK => ?_; (conv => whnf)
  replace h := W_jn h
  refine cond_lk h (fun _ h => ?_) (fun _ h => ?_) <;> (conv => whnf)
  · refine mlen_lk (enc := eB) DC_ok rfl rfl (nle rfl) ?_; (conv => whnf)
    refine hK _ _ _ ?_; clear hK K
    refine HT_ret ?_
    replace h := W_some h
    refine PostP_r DC_ok fun K hK => ?_; (conv => whnf)
    refine hK _ ?_; clear hK K
    cases h
    exact Wk.refl _
  refine hK _ _ _ ?_; clear hK K
  refine HT_ret ?_
  replace h := W_some h
  refine PostP_r DC_ok fun K hK => ?_; (conv => whnf)
  refine hK _ ?_; clear hK K
  cases h
  exact Wk.refl _
theorem recovery_Ready_call {T : Tbl} (hT : T 26 = pureR recovery_Ready_S) {args : List AV} {hp : Heap} {id : Nat} {k : AV → Prop} {a0 : List TAttempt} {Φ : Bool → Prop} (h : W (recovery_Ready_F a0) Φ) (hw : WkL args [(eL 3 eTAttempt default) a0]) (hk : ∀ y, Φ y → k (eB y)) : callpK T 26 args hp id k := by
  obtain ⟨y, e, hy⟩ := W_inv h
  exact callpK_pure hT ⟨a0, rfl, W_of e rfl⟩ (by exact (loose_bool _)) hw (hk y hy)
def ref34_Ready_b2 (a0 : List TAttempt) (s1 : Int) (s8 : Int) : Option (Ct Int Bool) := cn (decide (s8 < s1)) (ix a0 default s8 fun e9 => ix a0 default s1 fun e10 =>
    cn (e9.Caller == e10.Caller) (some (.rt false)) (some (.nx (wr (s8 + 1))))) (some (.bk s8))
theorem W_bref34_Ready_b2 {a0 : List TAttempt} {s1 : Int} {s8 : Int} {Φ : Ct Int Bool → Prop} (h : W (ref34_Ready_b2 a0 s1 s8) Φ) : W (cn (decide (s8 < s1)) (ix a0 default s8 fun e9 => ix a0 default s1 fun e10 => cn (e9.Caller == e10.Caller) (some (.rt false)) (some (.nx (wr (s8 + 1))))) (some (.bk s8))) Φ := h
def ref34_Ready_b1 (a0 : List TAttempt) (s1 : Int) : Option (Ct Int Bool) := cn (decide (s1 < (a0.length : Int))) (jn (fun p2 : Bool =>
    cn p2 (some (.rt false)) (bd (lp (ref34_Ready_b2 a0 s1) FU 0) fun c11 => smK c11 (fun s12 => some (.nx (wr (s1 + 1)))) (fun r13 => some (.rt r13)))) fun k3 =>
    ix a0 default s1 fun e4 => bd (ref34_in_F e4.Caller 0 99) fun y5 => cn (!y5) (k3 true) (ix a0 default s1 fun e6 => bd (ref34_in_F e6.At 0 1000) fun y7 =>
    k3 (!y7))) (some (.bk s1))
theorem W_bref34_Ready_b1 {a0 : List TAttempt} {s1 : Int} {Φ : Ct Int Bool → Prop} (h : W (ref34_Ready_b1 a0 s1) Φ) : W (cn (decide (s1 < (a0.length : Int))) (jn (fun p2 : Bool => cn p2 (some (.rt false)) (bd (lp (ref34_Ready_b2 a0 s1) FU 0) fun c11 => smK c11 (fun s12 =>
    some (.nx (wr (s1 + 1)))) (fun r13 => some (.rt r13)))) fun k3 => ix a0 default s1 fun e4 => bd (ref34_in_F e4.Caller 0 99) fun y5 =>
    cn (!y5) (k3 true) (ix a0 default s1 fun e6 => bd (ref34_in_F e6.At 0 1000) fun y7 => k3 (!y7))) (some (.bk s1))) Φ := h
def ref34_Ready_F (a0 : List TAttempt) : Option Bool := cn (decide ((a0.length : Int) > 40)) (some false) (bd (lp (ref34_Ready_b1 a0) FU 0) fun c14 => smK c14 (fun s15 =>
    some true) (fun r16 => some r16))
def ref34_Ready_S : List AV → AV → Prop := fun args r => ∃ a0, args = [(eL 3 eTAttempt default) a0] ∧ W (ref34_Ready_F a0) fun y => r = (eB y)
theorem ref34_Ready_ok {T : Tbl} (hT : TOk Try.prog T) (hpf : PfOk T PF) (h47 : T 47 = pureR ref34_in_S) : FOk Try.prog 27 (pureR ref34_Ready_S) := by
  refine FOk_pure hT hpf Try.func27 rfl Try.ntmps27 Try.results27 (by decide) ?_
  rintro args r ⟨a0, rfl, h⟩
  refine ⟨nle rfl, ?_, ?_⟩
  · exact (loose_cons (loose_lst fun _ => (lo_TAttempt _)) loose_nil)
  rw [ref34_Ready_F.eq_1] at h
  refine HT_fr DC_ok rfl fun K hK => ?_; (conv => whnf)
  refine hK _ _ _ ?_; clear hK K
  refine HT_seq ?_
  refine HT_fr DC_ok rfl fun K hK => ?_; (conv => whnf)
  refine hK _ _ _ ?_; clear hK K
  refine HT_if fun K1 K2 hK1 hK2 => ?_; (conv => whnf)
  refine cond_lk h (fun _ h => ?_) (fun _ h => ?_)
  · refine hK1 ?_; clear hK1 hK2 K1 K2
    refine HT_fr DC_ok rfl fun K hK => ?_; (conv => whnf)
    refine hK _ _ _ ?_; clear hK K
    refine HT_ret ?_
    refine Then_r ?_
    replace h := W_some h
    refine PostP_r DC_ok fun K hK => ?_; (conv => whnf)
    refine hK _ ?_; clear hK K
    cases h
    exact Wk.refl _
  refine hK2 ?_; clear hK1 hK2 K1 K2
  refine HT_skip ?_
  refine Then_n ?_
  refine HT_seq ?_
  refine HT_fr DC_ok rfl fun K hK => ?_; (conv => whnf)
  refine hK _ _ _ ?_; clear hK K
  refine HT_block ?_
  replace h := W_bd h
  refine HT_lpK (body := ref34_Ready_b1 _) rfl h [0] [] [] (fun kl kh ids b s => ⟨ofL ([(3, eI s)] ++ kl), ofH ([] ++ kh), b + 64⟩) ?_; (conv => whnf); refine And.intro ?_ (fun s m h => HT_st ?_)
  · refine weak_k ?_; (conv => whnf)
    exact And.intro rfl (And.intro (allL_c wkI (allL_c (wkr (loose_lst fun _ => (lo_TAttempt _))) allL_n)) allL_n)
  replace h := W_bref34_Ready_b1 (W_bd h)
  refine HT_seq ?_
  refine HT_fr DC_ok rfl fun K hK => ?_; (conv => whnf)
  refine hK _ _ _ ?_; clear hK K
  refine HT_if fun K1 K2 hK1 hK2 => ?_; (conv => whnf)
  refine cond_lk h (fun _ h => ?_) (fun _ h => ?_)
  · refine hK1 ?_; clear hK1 hK2 K1 K2
    refine HT_skip ?_
    refine Then_n ?_
    refine HT_seq ?_
    refine HT_block ?_
    refine HT_seq ?_
    refine HT_fr DC_ok rfl fun K hK => ?_; (conv => whnf)
    replace h := W_jn h
    refine ix_lk h fun _ h => ?_; (conv => whnf)
    refine getK_of rfl ?_; (conv => whnf)
    replace h := W_bd h
    refine ref34_in_call h47 h (WkL.refl _) (fun _ h => ?_); (conv => whnf)
    refine cond_lk h (fun _ h => ?_) (fun _ h => ?_) <;> (conv => whnf)
    · refine hK _ _ _ ?_; clear hK K
      refine HT_if fun K1 K2 hK1 hK2 => ?_; (conv => whnf)
      refine hK1 ?_; clear hK1 hK2 K1 K2
      replace h := W_cnT h
      refine HT_fr DC_ok rfl fun K hK => ?_; (conv => whnf)
      refine hK _ _ _ ?_; clear hK K
      refine HT_ret ?_
      refine Then_r ?_
      refine InBlock_r ?_
      refine Then_r ?_
      refine Then_r ?_
      refine InBlock_r ?_
      refine Then_r ?_
      replace h := W_xrt h
      replace h := W_inr h
      replace h := W_some h
      refine PostP_r DC_ok fun K hK => ?_; (conv => whnf)
      refine hK _ ?_; clear hK K
      cases h
      exact Wk.refl _
    refine ix_lk h fun _ h => ?_; (conv => whnf)
    refine getK_of rfl ?_; (conv => whnf)
    replace h := W_bd h
    refine ref34_in_call h47 h (WkL.refl _) (fun _ h => ?_); (conv => whnf)
    refine hK _ _ _ ?_; clear hK K
    refine HT_if fun K1 K2 hK1 hK2 => ?_; (conv => whnf)
    refine cond_lk h (fun _ h => ?_) (fun _ h => ?_)
    · refine hK1 ?_; clear hK1 hK2 K1 K2
      refine HT_fr DC_ok rfl fun K hK => ?_; (conv => whnf)
      refine hK _ _ _ ?_; clear hK K
      refine HT_ret ?_
      refine Then_r ?_
      refine InBlock_r ?_
      refine Then_r ?_
      refine Then_r ?_
      refine InBlock_r ?_
      refine Then_r ?_
      replace h := W_xrt h
      replace h := W_inr h
      replace h := W_some h
      refine PostP_r DC_ok fun K hK => ?_; (conv => whnf)
      refine hK _ ?_; clear hK K
      cases h
      exact Wk.refl _
    refine hK2 ?_; clear hK1 hK2 K1 K2
    refine HT_skip ?_
    refine Then_n ?_
    refine HT_fr DC_ok rfl fun K hK => ?_; (conv => whnf)
    refine hK _ _ _ ?_; clear hK K
    refine HT_block ?_
    replace h := W_bd h
    refine HT_lpK (body := ref34_Ready_b2 _ _) rfl h [0, 3] [] [] (fun kl kh ids b s => ⟨ofL ([(4, eI s)] ++ kl), ofH ([] ++ kh), b + 64⟩) ?_; (conv => whnf); refine And.intro ?_ (fun s m h => HT_st ?_)
    · refine weak_k ?_; (conv => whnf)
      exact And.intro rfl (And.intro (allL_c wkI (allL_c (wkr (loose_lst fun _ => (lo_TAttempt _))) (allL_c wkI allL_n))) allL_n)
    replace h := W_bref34_Ready_b2 (W_bd h)
    refine HT_seq ?_
    refine HT_fr DC_ok rfl fun K hK => ?_; (conv => whnf)
    refine hK _ _ _ ?_; clear hK K
    refine HT_if fun K1 K2 hK1 hK2 => ?_; (conv => whnf)
    refine cond_lk h (fun _ h => ?_) (fun _ h => ?_)
    · refine hK1 ?_; clear hK1 hK2 K1 K2
      refine HT_skip ?_
      refine Then_n ?_
      refine HT_seq ?_
      refine HT_block ?_
      refine HT_fd DC_ok mix_ok rfl (by kernel_rfl) fun K hK => ?_; (conv => whnf)
      refine ix_lk h fun _ h => ?_; (conv => whnf)
      refine getK_of rfl ?_; (conv => whnf)
      refine ix_lk h fun _ h => ?_; (conv => whnf)
      refine getK_of rfl ?_; (conv => whnf)
      refine hK _ _ _ ?_; clear hK K
      refine HT_if fun K1 K2 hK1 hK2 => ?_; (conv => whnf)
      refine cond_lk h (fun _ h => ?_) (fun _ h => ?_)
      · refine hK1 ?_; clear hK1 hK2 K1 K2
        refine HT_fr DC_ok rfl fun K hK => ?_; (conv => whnf)
        refine hK _ _ _ ?_; clear hK K
        refine HT_ret ?_
        refine InBlock_r ?_
        refine Then_r ?_
        refine Then_r ?_
        refine InBlock_r ?_
        refine InBlock_r ?_
        refine Then_r ?_
        refine Then_r ?_
        refine InBlock_r ?_
        refine Then_r ?_
        replace h := W_xrt h
        replace h := W_inr h
        replace h := W_xrt h
        replace h := W_inr h
        replace h := W_some h
        refine PostP_r DC_ok fun K hK => ?_; (conv => whnf)
        refine hK _ ?_; clear hK K
        cases h
        exact Wk.refl _
      refine hK2 ?_; clear hK1 hK2 K1 K2
      refine HT_skip ?_
      refine InBlock_n ?_
      refine Then_n ?_
      refine HT_f DC_ok rfl fun K hK => ?_; (conv => whnf)
      refine hK _ _ _ ?_; clear hK K
      refine Then_n ?_
      replace h := W_xnx h
      refine ⟨_, h, ?_⟩
      refine weak_k ?_; (conv => whnf)
      exact And.intro rfl (And.intro (allL_c wkI (allL_c (wkr (loose_lst fun _ => (lo_TAttempt _))) (allL_c wkI allL_n))) allL_n)
    refine hK2 ?_; clear hK1 hK2 K1 K2
    refine HT_exit ?_
    refine Then_e ?_
    refine Then_e ?_
    refine InBlock_e ?_
    replace h := W_xbk h
    replace h := W_inl h
    refine InBlock_n ?_
    refine Then_n ?_
    refine HT_f DC_ok rfl fun K hK => ?_; (conv => whnf)
    refine hK _ _ _ ?_; clear hK K
    refine Then_n ?_
    replace h := W_xnx h
    refine ⟨_, h, ?_⟩
    refine weak_k ?_; (conv => whnf)
    exact And.intro rfl (And.intro (allL_c wkI (allL_c (wkr (loose_lst fun _ => (lo_TAttempt _))) allL_n)) allL_n)
  refine hK2 ?_; clear hK1 hK2 K1 K2
  refine HT_exit ?_
  refine Then_e ?_
  refine Then_e ?_
  refine InBlock_e ?_
  replace h := W_xbk h
  replace h := W_inl h
  refine Then_n ?_
  refine HT_fr DC_ok rfl fun K hK => ?_; (conv => whnf)
  refine hK _ _ _ ?_; clear hK K
  refine HT_ret ?_
  replace h := W_some h
  refine PostP_r DC_ok fun K hK => ?_; (conv => whnf)
  refine hK _ ?_; clear hK K
  cases h
  exact Wk.refl _
theorem ref34_Ready_call {T : Tbl} (hT : T 27 = pureR ref34_Ready_S) {args : List AV} {hp : Heap} {id : Nat} {k : AV → Prop} {a0 : List TAttempt} {Φ : Bool → Prop} (h : W (ref34_Ready_F a0) Φ) (hw : WkL args [(eL 3 eTAttempt default) a0]) (hk : ∀ y, Φ y → k (eB y)) : callpK T 27 args hp id k := by
  obtain ⟨y, e, hy⟩ := W_inv h
  exact callpK_pure hT ⟨a0, rfl, W_of e rfl⟩ (by exact (loose_bool _)) hw (hk y hy)
def ref34_Before_F (a0 : TAttempt) (a1 : TAttempt) : Option Bool := jn (fun p1 : Bool × TAttempt => some p1.1) fun k2 => cn (decide (a0.At < a1.At)) (k2 (true, a1)) (cn (a0.At ==
    a1.At) (let v3 := (decide (a0.Caller < a1.Caller)); k2 (v3, a1)) (k2 (false, a1)))
def ref34_Before_S : List AV → AV → Prop := fun args r => ∃ a0 a1, args = [eTAttempt a0, eTAttempt a1] ∧ W (ref34_Before_F a0 a1) fun y => r = (eB y)
theorem ref34_Before_ok {T : Tbl} (hT : TOk Try.prog T) (hpf : PfOk T PF) : FOk Try.prog 52 (pureR ref34_Before_S) := by
  refine FOk_pure hT hpf Try.func52 rfl Try.ntmps52 Try.results52 (by decide) ?_
  rintro args r ⟨a0, a1, rfl, h⟩
  refine ⟨nle rfl, ?_, ?_⟩
  · exact (loose_cons (lo_TAttempt _) (loose_cons (lo_TAttempt _) loose_nil))
  rw [ref34_Before_F.eq_1] at h
  refine HT_fr DC_ok rfl fun K hK => ?_; (conv => whnf)
  refine hK _ _ _ ?_; clear hK K
  refine HT_fr DC_ok rfl fun K hK => ?_; (conv => whnf)
  replace h := W_jn h
  refine nlA rfl ?_; (conv => whnf)
  refine blkK_of rfl ?_; (conv => whnf)
  refine getK_of rfl ?_; (conv => whnf)
  refine nlA rfl ?_; (conv => whnf)
  refine blkK_of rfl ?_; (conv => whnf)
  refine getK_of rfl ?_; (conv => whnf)
  refine cond_lk h (fun _ h => ?_) (fun _ h => ?_) <;> (conv => whnf)
  · refine hK _ _ _ ?_; clear hK K
    refine HT_ret ?_
    replace h := W_some h
    refine PostP_r DC_ok fun K hK => ?_; (conv => whnf)
    refine hK _ ?_; clear hK K
    cases h
    exact Wk.refl _
  refine nlA rfl ?_; (conv => whnf)
  refine blkK_of rfl ?_; (conv => whnf)
  refine getK_of rfl ?_; (conv => whnf)
  refine nlA rfl ?_; (conv => whnf)
  refine blkK_of rfl ?_; (conv => whnf)
  refine getK_of rfl ?_; (conv => whnf)
  refine cond_lk h (fun _ h => ?_) (fun _ h => ?_) <;> (conv => whnf)
  · refine nlA rfl ?_; (conv => whnf)
    refine blkK_of rfl ?_; (conv => whnf)
    refine getK_of rfl ?_; (conv => whnf)
    refine nlA rfl ?_; (conv => whnf)
    refine blkK_of rfl ?_; (conv => whnf)
    refine getK_of rfl ?_; (conv => whnf)
    refine hK _ _ _ ?_; clear hK K
    refine HT_ret ?_
    replace h := W_some h
    refine PostP_r DC_ok fun K hK => ?_; (conv => whnf)
    refine hK _ ?_; clear hK K
    cases h
    exact Wk.refl _
  refine hK _ _ _ ?_; clear hK K
  refine HT_ret ?_
  replace h := W_some h
  refine PostP_r DC_ok fun K hK => ?_; (conv => whnf)
  refine hK _ ?_; clear hK K
  cases h
  exact Wk.refl _
theorem ref34_Before_call {T : Tbl} (hT : T 52 = pureR ref34_Before_S) {args : List AV} {hp : Heap} {id : Nat} {k : AV → Prop} {a0 : TAttempt} {a1 : TAttempt} {Φ : Bool → Prop} (h : W (ref34_Before_F a0 a1) Φ) (hw : WkL args [eTAttempt a0, eTAttempt a1]) (hk : ∀ y, Φ y → k (eB y)) : callpK T 52 args hp id k := by
  obtain ⟨y, e, hy⟩ := W_inv h
  exact callpK_pure hT ⟨a0, a1, rfl, W_of e rfl⟩ (by exact (loose_bool _)) hw (hk y hy)
def ref34_Same_b1 (a0 : List TTicket) (a1 : List TTicket) (s1 : Int) : Option (Ct Int Bool) := cn (decide (s1 < (a0.length : Int))) (ix a0 default s1 fun e2 =>
    ix a1 default s1 fun e3 => cn (!((e2.Caller == e3.Caller) && ((e2.First == e3.First) && (e2.At == e3.At)))) (some (.rt false)) (some (.nx (wr (s1 + 1))))) (some (.bk s1))
theorem W_bref34_Same_b1 {a0 : List TTicket} {a1 : List TTicket} {s1 : Int} {Φ : Ct Int Bool → Prop} (h : W (ref34_Same_b1 a0 a1 s1) Φ) : W (cn (decide (s1 < (a0.length : Int))) (ix a0 default s1 fun e2 => ix a1 default s1 fun e3 => cn (!((e2.Caller == e3.Caller) && ((e2.First == e3.First) && (e2.At ==
    e3.At)))) (some (.rt false)) (some (.nx (wr (s1 + 1))))) (some (.bk s1))) Φ := h
def ref34_Same_F (a0 : List TTicket) (a1 : List TTicket) : Option Bool := cn ((a0.length : Int) != (a1.length : Int)) (some false) (bd (lp (ref34_Same_b1 a0 a1) FU 0) fun c4 =>
    smK c4 (fun s5 => some true) (fun r6 => some r6))
def ref34_Same_S : List AV → AV → Prop := fun args r => ∃ a0 a1, args = [(eL 3 eTTicket default) a0, (eL 3 eTTicket default) a1] ∧ W (ref34_Same_F a0 a1) fun y => r = (eB y)
theorem ref34_Same_ok {T : Tbl} (hT : TOk Try.prog T) (hpf : PfOk T PF) : FOk Try.prog 28 (pureR ref34_Same_S) := by
  refine FOk_pure hT hpf Try.func28 rfl Try.ntmps28 Try.results28 (by decide) ?_
  rintro args r ⟨a0, a1, rfl, h⟩
  refine ⟨nle rfl, ?_, ?_⟩
  · exact (loose_cons (loose_lst fun _ => (lo_TTicket _)) (loose_cons (loose_lst fun _ => (lo_TTicket _)) loose_nil))
  rw [ref34_Same_F.eq_1] at h
  refine HT_fr DC_ok rfl fun K hK => ?_; (conv => whnf)
  refine hK _ _ _ ?_; clear hK K
  refine HT_seq ?_
  refine HT_fr DC_ok rfl fun K hK => ?_; (conv => whnf)
  refine hK _ _ _ ?_; clear hK K
  refine HT_if fun K1 K2 hK1 hK2 => ?_; (conv => whnf)
  refine cond_lk h (fun _ h => ?_) (fun _ h => ?_)
  · refine hK1 ?_; clear hK1 hK2 K1 K2
    refine HT_fr DC_ok rfl fun K hK => ?_; (conv => whnf)
    refine hK _ _ _ ?_; clear hK K
    refine HT_ret ?_
    refine Then_r ?_
    replace h := W_some h
    refine PostP_r DC_ok fun K hK => ?_; (conv => whnf)
    refine hK _ ?_; clear hK K
    cases h
    exact Wk.refl _
  refine hK2 ?_; clear hK1 hK2 K1 K2
  refine HT_skip ?_
  refine Then_n ?_
  refine HT_seq ?_
  refine HT_fr DC_ok rfl fun K hK => ?_; (conv => whnf)
  refine hK _ _ _ ?_; clear hK K
  refine HT_block ?_
  replace h := W_bd h
  refine HT_lpK (body := ref34_Same_b1 _ _) rfl h [0, 1] [] [] (fun kl kh ids b s => ⟨ofL ([(5, eI s)] ++ kl), ofH ([] ++ kh), b + 64⟩) ?_; (conv => whnf); refine And.intro ?_ (fun s m h => HT_st ?_)
  · refine weak_k ?_; (conv => whnf)
    exact And.intro rfl (And.intro (allL_c wkI (allL_c (wkr (loose_lst fun _ => (lo_TTicket _))) (allL_c (wkr (loose_lst fun _ => (lo_TTicket _))) allL_n))) allL_n)
  replace h := W_bref34_Same_b1 (W_bd h)
  refine HT_seq ?_
  refine HT_fr DC_ok rfl fun K hK => ?_; (conv => whnf)
  refine hK _ _ _ ?_; clear hK K
  refine HT_if fun K1 K2 hK1 hK2 => ?_; (conv => whnf)
  refine cond_lk h (fun _ h => ?_) (fun _ h => ?_)
  · refine hK1 ?_; clear hK1 hK2 K1 K2
    refine HT_skip ?_
    refine Then_n ?_
    refine HT_seq ?_
    refine HT_block ?_
    refine HT_fd DC_ok mix_ok rfl (by kernel_rfl) fun K hK => ?_; (conv => whnf)
    refine ix_lk h fun _ h => ?_; (conv => whnf)
    refine nlA rfl ?_; (conv => whnf)
    refine ix_lk h fun _ h => ?_; (conv => whnf)
    refine nlA rfl ?_; (conv => whnf)
    refine eqK_n (eqv53 _ _ _ _ _ _) ?_; (conv => whnf)
    refine hK _ _ _ ?_; clear hK K
    refine HT_if fun K1 K2 hK1 hK2 => ?_; (conv => whnf)
    refine cond_lk h (fun _ h => ?_) (fun _ h => ?_)
    · refine hK1 ?_; clear hK1 hK2 K1 K2
      refine HT_fr DC_ok rfl fun K hK => ?_; (conv => whnf)
      refine hK _ _ _ ?_; clear hK K
      refine HT_ret ?_
      refine InBlock_r ?_
      refine Then_r ?_
      refine Then_r ?_
      refine InBlock_r ?_
      refine Then_r ?_
      replace h := W_xrt h
      replace h := W_inr h
      replace h := W_some h
      refine PostP_r DC_ok fun K hK => ?_; (conv => whnf)
      refine hK _ ?_; clear hK K
      cases h
      exact Wk.refl _
    refine hK2 ?_; clear hK1 hK2 K1 K2
    refine HT_skip ?_
    refine InBlock_n ?_
    refine Then_n ?_
    refine HT_f DC_ok rfl fun K hK => ?_; (conv => whnf)
    refine hK _ _ _ ?_; clear hK K
    refine Then_n ?_
    replace h := W_xnx h
    refine ⟨_, h, ?_⟩
    refine weak_k ?_; (conv => whnf)
    exact And.intro rfl (And.intro (allL_c wkI (allL_c (wkr (loose_lst fun _ => (lo_TTicket _))) (allL_c (wkr (loose_lst fun _ => (lo_TTicket _))) allL_n))) allL_n)
  refine hK2 ?_; clear hK1 hK2 K1 K2
  refine HT_exit ?_
  refine Then_e ?_
  refine Then_e ?_
  refine InBlock_e ?_
  replace h := W_xbk h
  replace h := W_inl h
  refine Then_n ?_
  refine HT_fr DC_ok rfl fun K hK => ?_; (conv => whnf)
  refine hK _ _ _ ?_; clear hK K
  refine HT_ret ?_
  replace h := W_some h
  refine PostP_r DC_ok fun K hK => ?_; (conv => whnf)
  refine hK _ ?_; clear hK K
  cases h
  exact Wk.refl _
theorem ref34_Same_call {T : Tbl} (hT : T 28 = pureR ref34_Same_S) {args : List AV} {hp : Heap} {id : Nat} {k : AV → Prop} {a0 : List TTicket} {a1 : List TTicket} {Φ : Bool → Prop} (h : W (ref34_Same_F a0 a1) Φ) (hw : WkL args [(eL 3 eTTicket default) a0, (eL 3 eTTicket default) a1]) (hk : ∀ y, Φ y → k (eB y)) : callpK T 28 args hp id k := by
  obtain ⟨y, e, hy⟩ := W_inv h
  exact callpK_pure hT ⟨a0, a1, rfl, W_of e rfl⟩ (by exact (loose_bool _)) hw (hk y hy)
def cmp_isNaN_int_F (a0 : Int) : Option Bool := some (a0 != a0)
def cmp_isNaN_int_S : List AV → AV → Prop := fun args r => ∃ a0, args = [eI a0] ∧ W (cmp_isNaN_int_F a0) fun y => r = (eB y)
theorem cmp_isNaN_int_ok {T : Tbl} (hT : TOk Try.prog T) (hpf : PfOk T PF) : FOk Try.prog 61 (pureR cmp_isNaN_int_S) := by
  refine FOk_pure hT hpf Try.func61 rfl Try.ntmps61 Try.results61 (by decide) ?_
  rintro args r ⟨a0, rfl, h⟩
  refine ⟨nle rfl, ?_, ?_⟩
  · exact (loose_cons (loose_int _ _) loose_nil)
  rw [cmp_isNaN_int_F.eq_1] at h
  refine HT_fr DC_ok rfl fun K hK => ?_; (conv => whnf)
  refine hK _ _ _ ?_; clear hK K
  refine HT_fr DC_ok rfl fun K hK => ?_; (conv => whnf)
  refine hK _ _ _ ?_; clear hK K
  refine HT_ret ?_
  replace h := W_some h
  refine PostP_r DC_ok fun K hK => ?_; (conv => whnf)
  refine hK _ ?_; clear hK K
  cases h
  exact Wk.refl _
theorem cmp_isNaN_int_call {T : Tbl} (hT : T 61 = pureR cmp_isNaN_int_S) {args : List AV} {hp : Heap} {id : Nat} {k : AV → Prop} {a0 : Int} {Φ : Bool → Prop} (h : W (cmp_isNaN_int_F a0) Φ) (hw : WkL args [eI a0]) (hk : ∀ y, Φ y → k (eB y)) : callpK T 61 args hp id k := by
  obtain ⟨y, e, hy⟩ := W_inv h
  exact callpK_pure hT ⟨a0, rfl, W_of e rfl⟩ (by exact (loose_bool _)) hw (hk y hy)
def cmp_Compare_int_F (a0 : Int) (a1 : Int) : Option Int := bd (cmp_isNaN_int_F a0) fun y1 => bd (cmp_isNaN_int_F a1) fun y2 =>
    cn y1 (cn y2 (some 0) (some (-1))) (cn y2 (some 1) (cn (decide (a0 < a1)) (some (-1)) (cn (decide (a0 > a1)) (some 1) (some 0))))
def cmp_Compare_int_S : List AV → AV → Prop := fun args r => ∃ a0 a1, args = [eI a0, eI a1] ∧ W (cmp_Compare_int_F a0 a1) fun y => r = (eI y)
theorem cmp_Compare_int_ok {T : Tbl} (hT : TOk Try.prog T) (hpf : PfOk T PF) (h61 : T 61 = pureR cmp_isNaN_int_S) : FOk Try.prog 50 (pureR cmp_Compare_int_S) := by
  refine FOk_pure hT hpf Try.func50 rfl Try.ntmps50 Try.results50 (by decide) ?_
  rintro args r ⟨a0, a1, rfl, h⟩
  refine ⟨nle rfl, ?_, ?_⟩
  · exact (loose_cons (loose_int _ _) (loose_cons (loose_int _ _) loose_nil))
  rw [cmp_Compare_int_F.eq_1] at h
  refine HT_fr DC_ok rfl fun K hK => ?_; (conv => whnf)
  refine hK _ _ _ ?_; clear hK K
  refine HT_fr DC_ok rfl fun K hK => ?_; (conv => whnf)
  replace h := W_bd h
  refine cmp_isNaN_int_call h61 h (WkL.refl _) (fun _ h => ?_); (conv => whnf)
  refine hK _ _ _ ?_; clear hK K
  refine HT_fr DC_ok rfl fun K hK => ?_; (conv => whnf)
  replace h := W_bd h
  refine cmp_isNaN_int_call h61 h (WkL.refl _) (fun _ h => ?_); (conv => whnf)
  refine hK _ _ _ ?_; clear hK K
  refine HT_seq ?_
  refine HT_fr DC_ok rfl fun K hK => ?_; (conv => whnf)
  refine hK _ _ _ ?_; clear hK K
  refine HT_if fun K1 K2 hK1 hK2 => ?_; (conv => whnf)
  refine cond_lk h (fun _ h => ?_) (fun _ h => ?_)
  · refine hK1 ?_; clear hK1 hK2 K1 K2
    refine HT_seq ?_
    refine HT_fr DC_ok rfl fun K hK => ?_; (conv => whnf)
    refine hK _ _ _ ?_; clear hK K
    refine HT_if fun K1 K2 hK1 hK2 => ?_; (conv => whnf)
    refine cond_lk h (fun _ h => ?_) (fun _ h => ?_)
    · refine hK1 ?_; clear hK1 hK2 K1 K2
      refine HT_fr DC_ok rfl fun K hK => ?_; (conv => whnf)
      refine hK _ _ _ ?_; clear hK K
      refine HT_ret ?_
      refine Then_r ?_
      refine Then_r ?_
      replace h := W_some h
      refine PostP_r DC_ok fun K hK => ?_; (conv => whnf)
      refine hK _ ?_; clear hK K
      cases h
      exact Wk.refl _
    refine hK2 ?_; clear hK1 hK2 K1 K2
    refine HT_skip ?_
    refine Then_n ?_
    refine HT_fr DC_ok rfl fun K hK => ?_; (conv => whnf)
    refine hK _ _ _ ?_; clear hK K
    refine HT_ret ?_
    refine Then_r ?_
    replace h := W_some h
    refine PostP_r DC_ok fun K hK => ?_; (conv => whnf)
    refine hK _ ?_; clear hK K
    cases h
    exact Wk.refl _
  refine hK2 ?_; clear hK1 hK2 K1 K2
  refine HT_skip ?_
  refine Then_n ?_
  refine HT_seq ?_
  refine HT_fr DC_ok rfl fun K hK => ?_; (conv => whnf)
  refine hK _ _ _ ?_; clear hK K
  refine HT_if fun K1 K2 hK1 hK2 => ?_; (conv => whnf)
  refine cond_lk h (fun _ h => ?_) (fun _ h => ?_)
  · refine hK1 ?_; clear hK1 hK2 K1 K2
    refine HT_fr DC_ok rfl fun K hK => ?_; (conv => whnf)
    refine hK _ _ _ ?_; clear hK K
    refine HT_ret ?_
    refine Then_r ?_
    replace h := W_some h
    refine PostP_r DC_ok fun K hK => ?_; (conv => whnf)
    refine hK _ ?_; clear hK K
    cases h
    exact Wk.refl _
  refine hK2 ?_; clear hK1 hK2 K1 K2
  refine HT_skip ?_
  refine Then_n ?_
  refine HT_seq ?_
  refine HT_fr DC_ok rfl fun K hK => ?_; (conv => whnf)
  refine hK _ _ _ ?_; clear hK K
  refine HT_if fun K1 K2 hK1 hK2 => ?_; (conv => whnf)
  refine cond_lk h (fun _ h => ?_) (fun _ h => ?_)
  · refine hK1 ?_; clear hK1 hK2 K1 K2
    refine HT_fr DC_ok rfl fun K hK => ?_; (conv => whnf)
    refine hK _ _ _ ?_; clear hK K
    refine HT_ret ?_
    refine Then_r ?_
    replace h := W_some h
    refine PostP_r DC_ok fun K hK => ?_; (conv => whnf)
    refine hK _ ?_; clear hK K
    cases h
    exact Wk.refl _
  refine hK2 ?_; clear hK1 hK2 K1 K2
  refine HT_skip ?_
  refine Then_n ?_
  refine HT_seq ?_
  refine HT_fr DC_ok rfl fun K hK => ?_; (conv => whnf)
  refine hK _ _ _ ?_; clear hK K
  refine HT_if fun K1 K2 hK1 hK2 => ?_; (conv => whnf)
  refine cond_lk h (fun _ h => ?_) (fun _ h => ?_)
  · refine hK1 ?_; clear hK1 hK2 K1 K2
    refine HT_fr DC_ok rfl fun K hK => ?_; (conv => whnf)
    refine hK _ _ _ ?_; clear hK K
    refine HT_ret ?_
    refine Then_r ?_
    replace h := W_some h
    refine PostP_r DC_ok fun K hK => ?_; (conv => whnf)
    refine hK _ ?_; clear hK K
    cases h
    exact Wk.refl _
  refine hK2 ?_; clear hK1 hK2 K1 K2
  refine HT_skip ?_
  refine Then_n ?_
  refine HT_fr DC_ok rfl fun K hK => ?_; (conv => whnf)
  refine hK _ _ _ ?_; clear hK K
  refine HT_ret ?_
  replace h := W_some h
  refine PostP_r DC_ok fun K hK => ?_; (conv => whnf)
  refine hK _ ?_; clear hK K
  cases h
  exact Wk.refl _
theorem cmp_Compare_int_call {T : Tbl} (hT : T 50 = pureR cmp_Compare_int_S) {args : List AV} {hp : Heap} {id : Nat} {k : AV → Prop} {a0 : Int} {a1 : Int} {Φ : Int → Prop} (h : W (cmp_Compare_int_F a0 a1) Φ) (hw : WkL args [eI a0, eI a1]) (hk : ∀ y, Φ y → k (eI y)) : callpK T 50 args hp id k := by
  obtain ⟨y, e, hy⟩ := W_inv h
  exact callpK_pure hT ⟨a0, a1, rfl, W_of e rfl⟩ (by exact (loose_int _ _)) hw (hk y hy)
def cmp_Or_int_b1 (a0 : List Int) (s1 : Int) : Option (Ct Int Int) := cn (decide (s1 < (a0.length : Int))) (ix a0 default s1 fun e2 => cn (e2 !=
    0) (some (.rt e2)) (some (.nx (wr (s1 + 1))))) (some (.bk s1))
theorem W_bcmp_Or_int_b1 {a0 : List Int} {s1 : Int} {Φ : Ct Int Int → Prop} (h : W (cmp_Or_int_b1 a0 s1) Φ) : W (cn (decide (s1 < (a0.length : Int))) (ix a0 default s1 fun e2 => cn (e2 != 0) (some (.rt e2)) (some (.nx (wr (s1 + 1))))) (some (.bk s1))) Φ := h
def cmp_Or_int_F (a0 : List Int) : Option Int := bd (lp (cmp_Or_int_b1 a0) FU 0) fun c3 => smK c3 (fun s4 => some 0) (fun r5 => some r5)
def cmp_Or_int_S : List AV → AV → Prop := fun args r => ∃ a0, args = [(eL 1 eI default) a0] ∧ W (cmp_Or_int_F a0) fun y => r = (eI y)
theorem cmp_Or_int_ok {T : Tbl} (hT : TOk Try.prog T) (hpf : PfOk T PF) : FOk Try.prog 55 (pureR cmp_Or_int_S) := by
  refine FOk_pure hT hpf Try.func55 rfl Try.ntmps55 Try.results55 (by decide) ?_
  rintro args r ⟨a0, rfl, h⟩
  refine ⟨nle rfl, ?_, ?_⟩
  · exact (loose_cons (loose_lst fun _ => (loose_int _ _)) loose_nil)
  rw [cmp_Or_int_F.eq_1] at h
  refine HT_fr DC_ok rfl fun K hK => ?_; (conv => whnf)
  refine hK _ _ _ ?_; clear hK K
  refine HT_fr DC_ok rfl fun K hK => ?_; (conv => whnf)
  refine hK _ _ _ ?_; clear hK K
  refine HT_seq ?_
  refine HT_fr DC_ok rfl fun K hK => ?_; (conv => whnf)
  refine hK _ _ _ ?_; clear hK K
  refine HT_block ?_
  replace h := W_bd h
  refine HT_lpK (body := cmp_Or_int_b1 _) rfl h [3, 6, 7] [] [] (fun kl kh ids b s => ⟨ofL ([(8, eI s)] ++ kl), ofH ([] ++ kh), b + 64⟩) ?_; (conv => whnf); refine And.intro ?_ (fun s m h => HT_st ?_)
  · refine weak_k ?_; (conv => whnf)
    exact And.intro rfl (And.intro (allL_c wkI (allL_c wkI (allL_c (wkr (loose_lst fun _ => (loose_int _ _))) (allL_c wkI allL_n)))) allL_n)
  replace h := W_bcmp_Or_int_b1 (W_bd h)
  refine HT_fr DC_ok rfl fun K hK => ?_; (conv => whnf)
  refine hK _ _ _ ?_; clear hK K
  refine HT_seq ?_
  refine HT_if fun K1 K2 hK1 hK2 => ?_; (conv => whnf)
  refine cond_lk h (fun _ h => ?_) (fun _ h => ?_)
  · refine hK1 ?_; clear hK1 hK2 K1 K2
    refine HT_skip ?_
    refine Then_n ?_
    refine HT_seq ?_
    refine HT_block ?_
    refine HT_fr DC_ok rfl fun K hK => ?_; (conv => whnf)
    refine ix_lk h fun _ h => ?_; (conv => whnf)
    refine getK_of rfl ?_; (conv => whnf)
    refine hK _ _ _ ?_; clear hK K
    refine HT_fr DC_ok rfl fun K hK => ?_; (conv => whnf)
    refine hK _ _ _ ?_; clear hK K
    refine HT_if fun K1 K2 hK1 hK2 => ?_; (conv => whnf)
    refine cond_lk h (fun _ h => ?_) (fun _ h => ?_)
    · refine hK1 ?_; clear hK1 hK2 K1 K2
      refine HT_fr DC_ok rfl fun K hK => ?_; (conv => whnf)
      refine hK _ _ _ ?_; clear hK K
      refine HT_ret ?_
      refine InBlock_r ?_
      refine Then_r ?_
      refine Then_r ?_
      refine InBlock_r ?_
      refine Then_r ?_
      replace h := W_xrt h
      replace h := W_inr h
      replace h := W_some h
      refine PostP_r DC_ok fun K hK => ?_; (conv => whnf)
      refine hK _ ?_; clear hK K
      cases h
      exact Wk.refl _
    refine hK2 ?_; clear hK1 hK2 K1 K2
    refine HT_skip ?_
    refine InBlock_n ?_
    refine Then_n ?_
    refine HT_f DC_ok rfl fun K hK => ?_; (conv => whnf)
    refine hK _ _ _ ?_; clear hK K
    refine Then_n ?_
    replace h := W_xnx h
    refine ⟨_, h, ?_⟩
    refine weak_k ?_; (conv => whnf)
    exact And.intro rfl (And.intro (allL_c wkI (allL_c wkI (allL_c (wkr (loose_lst fun _ => (loose_int _ _))) (allL_c wkI allL_n)))) allL_n)
  refine hK2 ?_; clear hK1 hK2 K1 K2
  refine HT_exit ?_
  refine Then_e ?_
  refine Then_e ?_
  refine InBlock_e ?_
  replace h := W_xbk h
  replace h := W_inl h
  refine Then_n ?_
  refine HT_fr DC_ok rfl fun K hK => ?_; (conv => whnf)
  refine hK _ _ _ ?_; clear hK K
  refine HT_ret ?_
  replace h := W_some h
  refine PostP_r DC_ok fun K hK => ?_; (conv => whnf)
  refine hK _ ?_; clear hK K
  cases h
  exact Wk.refl _
theorem cmp_Or_int_call {T : Tbl} (hT : T 55 = pureR cmp_Or_int_S) {args : List AV} {hp : Heap} {id : Nat} {k : AV → Prop} {a0 : List Int} {Φ : Int → Prop} (h : W (cmp_Or_int_F a0) Φ) (hw : WkL args [(eL 1 eI default) a0]) (hk : ∀ y, Φ y → k (eI y)) : callpK T 55 args hp id k := by
  obtain ⟨y, e, hy⟩ := W_inv h
  exact callpK_pure hT ⟨a0, rfl, W_of e rfl⟩ (by exact (loose_int _ _)) hw (hk y hy)
def ref34_capacity_b1 (a0 : TRegion) (a1 : Int) (s1 : Int × Int) : Option (Ct (Int × Int) Int) := cn (decide (s1.2 < (a0.Steps.length : Int))) (ix a0.Steps default s1.2 fun e2 =>
    jn (fun p3 : Int => some (.nx (p3, (wr (s1.2 + 1))))) fun k4 => cn (decide (e2.From ≤ a1)) (ix a0.Steps default s1.2 fun e5 =>
    k4 e5.Capacity) (k4 s1.1)) (some (.bk (s1.1, s1.2)))
theorem W_bref34_capacity_b1 {a0 : TRegion} {a1 : Int} {s1 : Int × Int} {Φ : Ct (Int × Int) Int → Prop} (h : W (ref34_capacity_b1 a0 a1 s1) Φ) : W (cn (decide (s1.2 < (a0.Steps.length : Int))) (ix a0.Steps default s1.2 fun e2 => jn (fun p3 : Int => some (.nx (p3, (wr (s1.2 + 1))))) fun k4 =>
    cn (decide (e2.From ≤ a1)) (ix a0.Steps default s1.2 fun e5 => k4 e5.Capacity) (k4 s1.1)) (some (.bk (s1.1, s1.2)))) Φ := h
def ref34_capacity_F (a0 : TRegion) (a1 : Int) : Option Int := bd (lp (ref34_capacity_b1 a0 a1) FU (0, 0)) fun c6 => smK c6 (fun s7 => some s7.1) (fun r8 => some r8)
def ref34_capacity_S : List AV → AV → Prop := fun args r => ∃ a0 a1, args = [eTRegion a0, eI a1] ∧ W (ref34_capacity_F a0 a1) fun y => r = (eI y)
theorem ref34_capacity_ok {T : Tbl} (hT : TOk Try.prog T) (hpf : PfOk T PF) : FOk Try.prog 43 (pureR ref34_capacity_S) := by
  refine FOk_pure hT hpf Try.func43 rfl Try.ntmps43 Try.results43 (by decide) ?_
  rintro args r ⟨a0, a1, rfl, h⟩
  refine ⟨nle rfl, ?_, ?_⟩
  · exact (loose_cons (lo_TRegion _) (loose_cons (loose_int _ _) loose_nil))
  rw [ref34_capacity_F.eq_1] at h
  refine HT_fr DC_ok rfl fun K hK => ?_; (conv => whnf)
  refine hK _ _ _ ?_; clear hK K
  refine HT_fr DC_ok rfl fun K hK => ?_; (conv => whnf)
  refine hK _ _ _ ?_; clear hK K
  refine HT_seq ?_
  refine HT_fr DC_ok rfl fun K hK => ?_; (conv => whnf)
  refine hK _ _ _ ?_; clear hK K
  refine HT_block ?_
  replace h := W_bd h
  refine HT_lpK (body := ref34_capacity_b1 _ _) rfl h [1, 2] [2] [] (fun kl kh ids b s => ⟨ofL ([(5, eI s.1), (6, eI s.2)] ++ kl), ofH ([] ++ kh), b + 64⟩) ?_; (conv => whnf); refine And.intro ?_ (fun s m h => HT_st ?_)
  · refine weak_k ?_; (conv => whnf)
    exact And.intro rfl (And.intro (allL_c wkI (allL_c wkI (allL_c wkI (allL_c (WkR.ptr (fun _ => rfl)) allL_n)))) (allL_c ⟨some _, rfl, BkR_c rfl (CkR_cons (wkr (loose_lst fun _ => (lo_TGrowth _))) (CkR_cons wkI CkR_nil))⟩ allL_n))
  replace h := W_bref34_capacity_b1 (W_bd h)
  refine HT_seq ?_
  refine HT_fr DC_ok rfl fun K hK => ?_; (conv => whnf)
  refine nlA rfl ?_; (conv => whnf)
  refine blkK_of rfl ?_; (conv => whnf)
  refine getK_of rfl ?_; (conv => whnf)
  refine hK _ _ _ ?_; clear hK K
  refine HT_if fun K1 K2 hK1 hK2 => ?_; (conv => whnf)
  refine cond_lk h (fun _ h => ?_) (fun _ h => ?_)
  · refine hK1 ?_; clear hK1 hK2 K1 K2
    refine HT_skip ?_
    refine Then_n ?_
    refine HT_seq ?_
    refine HT_block ?_
    refine HT_fr DC_ok rfl fun K hK => ?_; (conv => whnf)
    refine nlA rfl ?_; (conv => whnf)
    refine blkK_of rfl ?_; (conv => whnf)
    refine getK_of rfl ?_; (conv => whnf)
    refine ix_lk h fun _ h => ?_; (conv => whnf)
    refine getK_of rfl ?_; (conv => whnf)
    refine hK _ _ _ ?_; clear hK K
    replace h := W_jn h
    refine HT_if fun K1 K2 hK1 hK2 => ?_; (conv => whnf)
    refine cond_lk h (fun _ h => ?_) (fun _ h => ?_)
    · refine hK1 ?_; clear hK1 hK2 K1 K2
      refine HT_f DC_ok rfl fun K hK => ?_; (conv => whnf)
      refine nlA rfl ?_; (conv => whnf)
      refine blkK_of rfl ?_; (conv => whnf)
      refine getK_of rfl ?_; (conv => whnf)
      refine ix_lk h fun _ h => ?_; (conv => whnf)
      refine getK_of rfl ?_; (conv => whnf)
      refine hK _ _ _ ?_; clear hK K
      refine InBlock_n ?_
      refine Then_n ?_
      refine HT_f DC_ok rfl fun K hK => ?_; (conv => whnf)
      refine hK _ _ _ ?_; clear hK K
      refine Then_n ?_
      replace h := W_xnx h
      refine ⟨_, h, ?_⟩
      refine weak_k ?_; (conv => whnf)
      exact And.intro rfl (And.intro (allL_c wkI (allL_c wkI (allL_c wkI (allL_c (WkR.ptr (fun _ => rfl)) allL_n)))) (allL_c ⟨some _, rfl, BkR_c rfl (CkR_cons (wkr (loose_lst fun _ => (lo_TGrowth _))) (CkR_cons wkI CkR_nil))⟩ allL_n))
    refine hK2 ?_; clear hK1 hK2 K1 K2
    refine HT_skip ?_
    refine InBlock_n ?_
    refine Then_n ?_
    refine HT_f DC_ok rfl fun K hK => ?_; (conv => whnf)
    refine hK _ _ _ ?_; clear hK K
    refine Then_n ?_
    replace h := W_xnx h
    refine ⟨_, h, ?_⟩
    refine weak_k ?_; (conv => whnf)
    exact And.intro rfl (And.intro (allL_c wkI (allL_c wkI (allL_c wkI (allL_c (WkR.ptr (fun _ => rfl)) allL_n)))) (allL_c ⟨some _, rfl, BkR_c rfl (CkR_cons (wkr (loose_lst fun _ => (lo_TGrowth _))) (CkR_cons wkI CkR_nil))⟩ allL_n))
  refine hK2 ?_; clear hK1 hK2 K1 K2
  refine HT_exit ?_
  refine Then_e ?_
  refine Then_e ?_
  refine InBlock_e ?_
  replace h := W_xbk h
  replace h := W_inl h
  refine Then_n ?_
  refine HT_fr DC_ok rfl fun K hK => ?_; (conv => whnf)
  refine hK _ _ _ ?_; clear hK K
  refine HT_ret ?_
  replace h := W_some h
  refine PostP_r DC_ok fun K hK => ?_; (conv => whnf)
  refine hK _ ?_; clear hK K
  cases h
  exact Wk.refl _
theorem ref34_capacity_call {T : Tbl} (hT : T 43 = pureR ref34_capacity_S) {args : List AV} {hp : Heap} {id : Nat} {k : AV → Prop} {a0 : TRegion} {a1 : Int} {Φ : Int → Prop} (h : W (ref34_capacity_F a0 a1) Φ) (hw : WkL args [eTRegion a0, eI a1]) (hk : ∀ y, Φ y → k (eI y)) : callpK T 43 args hp id k := by
  obtain ⟨y, e, hy⟩ := W_inv h
  exact callpK_pure hT ⟨a0, a1, rfl, W_of e rfl⟩ (by exact (loose_int _ _)) hw (hk y hy)
def ref34_load_b1 (a0 : List TAttempt) (a1 : List TTicket) (a2 : Int) (s1 : Int × Int) : Option (Ct (Int × Int) Int) :=
    cn (decide (s1.2 < (a0.length : Int))) (jn (fun p2 : Int × Int => some (.nx (p2.2, (wr (s1.2 + 1))))) fun k3 => ix a0 default s1.2 fun e4 =>
    cn e4.Urgent (k3 (a2, s1.1)) (ix a0 default s1.2 fun e5 => jn (fun p6 : Int => jn (fun p8 : Bool => jn (fun p12 : Int => k3 (a2, p12)) fun k13 =>
    cn p8 (k13 (wr (p6 + 1))) (k13 p6)) fun k9 => ix a1 default s1.2 fun e10 => cn (e10.At == a2) (ix a1 default s1.2 fun e11 => k9 (decide (e11.First < a2))) (k9 false)) fun k7 =>
    cn (e5.At == a2) (k7 (wr (s1.1 + 1))) (k7 s1.1))) (some (.bk (s1.1, s1.2)))
theorem W_bref34_load_b1 {a0 : List TAttempt} {a1 : List TTicket} {a2 : Int} {s1 : Int × Int} {Φ : Ct (Int × Int) Int → Prop} (h : W (ref34_load_b1 a0 a1 a2 s1) Φ) : W (cn (decide (s1.2 < (a0.length : Int))) (jn (fun p2 : Int × Int => some (.nx (p2.2, (wr (s1.2 + 1))))) fun k3 => ix a0 default s1.2 fun e4 =>
    cn e4.Urgent (k3 (a2, s1.1)) (ix a0 default s1.2 fun e5 => jn (fun p6 : Int => jn (fun p8 : Bool => jn (fun p12 : Int => k3 (a2, p12)) fun k13 =>
    cn p8 (k13 (wr (p6 + 1))) (k13 p6)) fun k9 => ix a1 default s1.2 fun e10 => cn (e10.At == a2) (ix a1 default s1.2 fun e11 => k9 (decide (e11.First < a2))) (k9 false)) fun k7 =>
    cn (e5.At == a2) (k7 (wr (s1.1 + 1))) (k7 s1.1))) (some (.bk (s1.1, s1.2)))) Φ := h
def ref34_load_F (a0 : List TAttempt) (a1 : List TTicket) (a2 : Int) : Option Int := bd (lp (ref34_load_b1 a0 a1 a2) FU (0, 0)) fun c14 => smK c14 (fun s15 =>
    some s15.1) (fun r16 => some r16)
def ref34_load_S : List AV → AV → Prop := fun args r => ∃ a0 a1 a2, args = [(eL 3 eTAttempt default) a0, (eL 3 eTTicket default) a1, eI a2] ∧ W (ref34_load_F a0 a1 a2) fun y => r = (eI y)
theorem ref34_load_ok {T : Tbl} (hT : TOk Try.prog T) (hpf : PfOk T PF) : FOk Try.prog 45 (pureR ref34_load_S) := by
  refine FOk_pure hT hpf Try.func45 rfl Try.ntmps45 Try.results45 (by decide) ?_
  rintro args r ⟨a0, a1, a2, rfl, h⟩
  refine ⟨nle rfl, ?_, ?_⟩
  · exact (loose_cons (loose_lst fun _ => (lo_TAttempt _)) (loose_cons (loose_lst fun _ => (lo_TTicket _)) (loose_cons (loose_int _ _) loose_nil)))
  rw [ref34_load_F.eq_1] at h
  refine HT_fr DC_ok rfl fun K hK => ?_; (conv => whnf)
  refine hK _ _ _ ?_; clear hK K
  refine HT_fr DC_ok rfl fun K hK => ?_; (conv => whnf)
  refine hK _ _ _ ?_; clear hK K
  refine HT_seq ?_
  refine HT_fr DC_ok rfl fun K hK => ?_; (conv => whnf)
  refine hK _ _ _ ?_; clear hK K
  refine HT_block ?_
  replace h := W_bd h
  refine HT_lpK (body := ref34_load_b1 _ _ _) rfl h [0, 1, 2] [] [] (fun kl kh ids b s => ⟨ofL ([(7, eI s.1), (8, eI s.2)] ++ kl), ofH ([] ++ kh), b + 64⟩) ?_; (conv => whnf); refine And.intro ?_ (fun s m h => HT_st ?_)
  · refine weak_k ?_; (conv => whnf)
    exact And.intro rfl (And.intro (allL_c wkI (allL_c wkI (allL_c (wkr (loose_lst fun _ => (lo_TAttempt _))) (allL_c (wkr (loose_lst fun _ => (lo_TTicket _))) (allL_c wkI allL_n))))) allL_n)
  replace h := W_bref34_load_b1 (W_bd h)
  refine HT_seq ?_
  refine HT_fr DC_ok rfl fun K hK => ?_; (conv => whnf)
  refine hK _ _ _ ?_; clear hK K
  refine HT_if fun K1 K2 hK1 hK2 => ?_; (conv => whnf)
  refine cond_lk h (fun _ h => ?_) (fun _ h => ?_)
  · refine hK1 ?_; clear hK1 hK2 K1 K2
    refine HT_skip ?_
    refine Then_n ?_
    refine HT_seq ?_
    replace h := W_jn h
    refine HT_block ?_
    refine HT_seq ?_
    refine HT_fr DC_ok rfl fun K hK => ?_; (conv => whnf)
    refine ix_lk h fun _ h => ?_; (conv => whnf)
    refine getK_of rfl ?_; (conv => whnf)
    refine hK _ _ _ ?_; clear hK K
    refine HT_if fun K1 K2 hK1 hK2 => ?_; (conv => whnf)
    refine cond_lk h (fun _ h => ?_) (fun _ h => ?_)
    · refine hK1 ?_; clear hK1 hK2 K1 K2
      refine HT_exit ?_
      refine Then_e ?_
      refine InBlock_e ?_
      refine Then_n ?_
      refine HT_f DC_ok rfl fun K hK => ?_; (conv => whnf)
      refine hK _ _ _ ?_; clear hK K
      refine Then_n ?_
      replace h := W_xnx h
      refine ⟨_, h, ?_⟩
      refine weak_k ?_; (conv => whnf)
      exact And.intro rfl (And.intro (allL_c wkI (allL_c wkI (allL_c (wkr (loose_lst fun _ => (lo_TAttempt _))) (allL_c (wkr (loose_lst fun _ => (lo_TTicket _))) (allL_c wkI allL_n))))) allL_n)
    refine hK2 ?_; clear hK1 hK2 K1 K2
    refine HT_skip ?_
    refine Then_n ?_
    refine HT_seq ?_
    refine HT_fr DC_ok rfl fun K hK => ?_; (conv => whnf)
    refine ix_lk h fun _ h => ?_; (conv => whnf)
    refine getK_of rfl ?_; (conv => whnf)
    refine hK _ _ _ ?_; clear hK K
    replace h := W_jn h
    refine HT_if fun K1 K2 hK1 hK2 => ?_; (conv => whnf)
    refine cond_lk h (fun _ h => ?_) (fun _ h => ?_)
    · refine hK1 ?_; clear hK1 hK2 K1 K2
      refine HT_f DC_ok rfl fun K hK => ?_; (conv => whnf)
      refine hK _ _ _ ?_; clear hK K
      refine Then_n ?_
      refine HT_fr DC_ok rfl fun K hK => ?_; (conv => whnf)
      replace h := W_jn h
      refine ix_lk h fun _ h => ?_; (conv => whnf)
      refine getK_of rfl ?_; (conv => whnf)
      refine cond_lk h (fun _ h => ?_) (fun _ h => ?_) <;> (conv => whnf)
      · refine ix_lk h fun _ h => ?_; (conv => whnf)
        refine getK_of rfl ?_; (conv => whnf)
        refine hK _ _ _ ?_; clear hK K
        replace h := W_jn h
        refine HT_if fun K1 K2 hK1 hK2 => ?_; (conv => whnf)
        refine cond_lk h (fun _ h => ?_) (fun _ h => ?_)
        · refine hK1 ?_; clear hK1 hK2 K1 K2
          refine HT_f DC_ok rfl fun K hK => ?_; (conv => whnf)
          refine hK _ _ _ ?_; clear hK K
          refine InBlock_n ?_
          refine Then_n ?_
          refine HT_f DC_ok rfl fun K hK => ?_; (conv => whnf)
          refine hK _ _ _ ?_; clear hK K
          refine Then_n ?_
          replace h := W_xnx h
          refine ⟨_, h, ?_⟩
          refine weak_k ?_; (conv => whnf)
          exact And.intro rfl (And.intro (allL_c wkI (allL_c wkI (allL_c (wkr (loose_lst fun _ => (lo_TAttempt _))) (allL_c (wkr (loose_lst fun _ => (lo_TTicket _))) (allL_c wkI allL_n))))) allL_n)
        refine hK2 ?_; clear hK1 hK2 K1 K2
        refine HT_skip ?_
        refine InBlock_n ?_
        refine Then_n ?_
        refine HT_f DC_ok rfl fun K hK => ?_; (conv => whnf)
        refine hK _ _ _ ?_; clear hK K
        refine Then_n ?_
        replace h := W_xnx h
        refine ⟨_, h, ?_⟩
        refine weak_k ?_; (conv => whnf)
        exact And.intro rfl (And.intro (allL_c wkI (allL_c wkI (allL_c (wkr (loose_lst fun _ => (lo_TAttempt _))) (allL_c (wkr (loose_lst fun _ => (lo_TTicket _))) (allL_c wkI allL_n))))) allL_n)
      refine hK _ _ _ ?_; clear hK K
      replace h := W_jn h
      refine HT_if fun K1 K2 hK1 hK2 => ?_; (conv => whnf)
      refine hK2 ?_; clear hK1 hK2 K1 K2
      replace h := W_cnF h
      refine HT_skip ?_
      refine InBlock_n ?_
      refine Then_n ?_
      refine HT_f DC_ok rfl fun K hK => ?_; (conv => whnf)
      refine hK _ _ _ ?_; clear hK K
      refine Then_n ?_
      replace h := W_xnx h
      refine ⟨_, h, ?_⟩
      refine weak_k ?_; (conv => whnf)
      exact And.intro rfl (And.intro (allL_c wkI (allL_c wkI (allL_c (wkr (loose_lst fun _ => (lo_TAttempt _))) (allL_c (wkr (loose_lst fun _ => (lo_TTicket _))) (allL_c wkI allL_n))))) allL_n)
    refine hK2 ?_; clear hK1 hK2 K1 K2
    refine HT_skip ?_
    refine Then_n ?_
    refine HT_fr DC_ok rfl fun K hK => ?_; (conv => whnf)
    replace h := W_jn h
    refine ix_lk h fun _ h => ?_; (conv => whnf)
    refine getK_of rfl ?_; (conv => whnf)
    refine cond_lk h (fun _ h => ?_) (fun _ h => ?_) <;> (conv => whnf)
    · refine ix_lk h fun _ h => ?_; (conv => whnf)
      refine getK_of rfl ?_; (conv => whnf)
      refine hK _ _ _ ?_; clear hK K
      replace h := W_jn h
      refine HT_if fun K1 K2 hK1 hK2 => ?_; (conv => whnf)
      refine cond_lk h (fun _ h => ?_) (fun _ h => ?_)
      · refine hK1 ?_; clear hK1 hK2 K1 K2
        refine HT_f DC_ok rfl fun K hK => ?_; (conv => whnf)
        refine hK _ _ _ ?_; clear hK K
        refine InBlock_n ?_
        refine Then_n ?_
        refine HT_f DC_ok rfl fun K hK => ?_; (conv => whnf)
        refine hK _ _ _ ?_; clear hK K
        refine Then_n ?_
        replace h := W_xnx h
        refine ⟨_, h, ?_⟩
        refine weak_k ?_; (conv => whnf)
        exact And.intro rfl (And.intro (allL_c wkI (allL_c wkI (allL_c (wkr (loose_lst fun _ => (lo_TAttempt _))) (allL_c (wkr (loose_lst fun _ => (lo_TTicket _))) (allL_c wkI allL_n))))) allL_n)
      refine hK2 ?_; clear hK1 hK2 K1 K2
      refine HT_skip ?_
      refine InBlock_n ?_
      refine Then_n ?_
      refine HT_f DC_ok rfl fun K hK => ?_; (conv => whnf)
      refine hK _ _ _ ?_; clear hK K
      refine Then_n ?_
      replace h := W_xnx h
      refine ⟨_, h, ?_⟩
      refine weak_k ?_; (conv => whnf)
      exact And.intro rfl (And.intro (allL_c wkI (allL_c wkI (allL_c (wkr (loose_lst fun _ => (lo_TAttempt _))) (allL_c (wkr (loose_lst fun _ => (lo_TTicket _))) (allL_c wkI allL_n))))) allL_n)
    refine hK _ _ _ ?_; clear hK K
    replace h := W_jn h
    refine HT_if fun K1 K2 hK1 hK2 => ?_; (conv => whnf)
    refine hK2 ?_; clear hK1 hK2 K1 K2
    replace h := W_cnF h
    refine HT_skip ?_
    refine InBlock_n ?_
    refine Then_n ?_
    refine HT_f DC_ok rfl fun K hK => ?_; (conv => whnf)
    refine hK _ _ _ ?_; clear hK K
    refine Then_n ?_
    replace h := W_xnx h
    refine ⟨_, h, ?_⟩
    refine weak_k ?_; (conv => whnf)
    exact And.intro rfl (And.intro (allL_c wkI (allL_c wkI (allL_c (wkr (loose_lst fun _ => (lo_TAttempt _))) (allL_c (wkr (loose_lst fun _ => (lo_TTicket _))) (allL_c wkI allL_n))))) allL_n)
  refine hK2 ?_; clear hK1 hK2 K1 K2
  refine HT_exit ?_
  refine Then_e ?_
  refine Then_e ?_
  refine InBlock_e ?_
  replace h := W_xbk h
  replace h := W_inl h
  refine Then_n ?_
  refine HT_fr DC_ok rfl fun K hK => ?_; (conv => whnf)
  refine hK _ _ _ ?_; clear hK K
  refine HT_ret ?_
  replace h := W_some h
  refine PostP_r DC_ok fun K hK => ?_; (conv => whnf)
  refine hK _ ?_; clear hK K
  cases h
  exact Wk.refl _
theorem ref34_load_call {T : Tbl} (hT : T 45 = pureR ref34_load_S) {args : List AV} {hp : Heap} {id : Nat} {k : AV → Prop} {a0 : List TAttempt} {a1 : List TTicket} {a2 : Int} {Φ : Int → Prop} (h : W (ref34_load_F a0 a1 a2) Φ) (hw : WkL args [(eL 3 eTAttempt default) a0, (eL 3 eTTicket default) a1, eI a2]) (hk : ∀ y, Φ y → k (eI y)) : callpK T 45 args hp id k := by
  obtain ⟨y, e, hy⟩ := W_inv h
  exact callpK_pure hT ⟨a0, a1, a2, rfl, W_of e rfl⟩ (by exact (loose_int _ _)) hw (hk y hy)
def ref34_Capacity_F (a0 : TRegion) (a1 : Int) : Option (Int × Int) := jn (fun p1 : Int × Bool => cn p1.2 (some (0, 340)) (bd (ref34_capacity_F a0 p1.1) fun y4 =>
    some (y4, 0))) fun k2 => bd (ref34_Valid_F a0) fun y3 => cn (!y3) (k2 (a1, true)) (k2 (a1, (decide (a1 < 0))))
def ref34_Capacity_S : List AV → AV → Prop := fun args r => ∃ a0 a1, args = [eTRegion a0, eI a1] ∧ W (ref34_Capacity_F a0 a1) fun y => r = (.tup [eI y.1, eI y.2])
theorem ref34_Capacity_ok {T : Tbl} (hT : TOk Try.prog T) (hpf : PfOk T PF) (h25 : T 25 = pureR ref34_Valid_S) (h43 : T 43 = pureR ref34_capacity_S) : FOk Try.prog 33 (pureR ref34_Capacity_S) := by
  refine FOk_pure hT hpf Try.func33 rfl Try.ntmps33 Try.results33 (by decide) ?_
  rintro args r ⟨a0, a1, rfl, h⟩
  refine ⟨nle rfl, ?_, ?_⟩
  · exact (loose_cons (lo_TRegion _) (loose_cons (loose_int _ _) loose_nil))
  rw [ref34_Capacity_F.eq_1] at h
  refine HT_fr DC_ok rfl fun K hK => ?_; (conv => whnf)
  refine hK _ _ _ ?_; clear hK K
  refine HT_seq ?_
  refine HT_fr DC_ok rfl fun K hK => ?_; (conv => whnf)
  replace h := W_jn h
  refine nlA rfl ?_; (conv => whnf)
  refine blkK_of rfl ?_; (conv => whnf)
  refine nlA rfl ?_; (conv => whnf)
  replace h := W_bd h
  refine ref34_Valid_call h25 h (WkL.refl _) (fun _ h => ?_); (conv => whnf)
  refine cond_lk h (fun _ h => ?_) (fun _ h => ?_) <;> (conv => whnf)
  · refine hK _ _ _ ?_; clear hK K
    refine HT_if fun K1 K2 hK1 hK2 => ?_; (conv => whnf)
    refine hK1 ?_; clear hK1 hK2 K1 K2
    replace h := W_cnT h
    refine HT_fr DC_ok rfl fun K hK => ?_; (conv => whnf)
    refine hK _ _ _ ?_; clear hK K
    refine HT_ret ?_
    refine Then_r ?_
    replace h := W_some h
    refine PostP_r DC_ok fun K hK => ?_; (conv => whnf)
    refine hK _ ?_; clear hK K
    cases h
    exact Wk.refl _
  refine hK _ _ _ ?_; clear hK K
  refine HT_if fun K1 K2 hK1 hK2 => ?_; (conv => whnf)
  refine cond_lk h (fun _ h => ?_) (fun _ h => ?_)
  · refine hK1 ?_; clear hK1 hK2 K1 K2
    refine HT_fr DC_ok rfl fun K hK => ?_; (conv => whnf)
    refine hK _ _ _ ?_; clear hK K
    refine HT_ret ?_
    refine Then_r ?_
    replace h := W_some h
    refine PostP_r DC_ok fun K hK => ?_; (conv => whnf)
    refine hK _ ?_; clear hK K
    cases h
    exact Wk.refl _
  refine hK2 ?_; clear hK1 hK2 K1 K2
  refine HT_skip ?_
  refine Then_n ?_
  refine HT_fr DC_ok rfl fun K hK => ?_; (conv => whnf)
  refine nlA rfl ?_; (conv => whnf)
  refine blkK_of rfl ?_; (conv => whnf)
  refine nlA rfl ?_; (conv => whnf)
  replace h := W_bd h
  refine ref34_capacity_call h43 h (WkL.refl _) (fun _ h => ?_); (conv => whnf)
  refine hK _ _ _ ?_; clear hK K
  refine HT_ret ?_
  replace h := W_some h
  refine PostP_r DC_ok fun K hK => ?_; (conv => whnf)
  refine hK _ ?_; clear hK K
  cases h
  exact Wk.refl _
theorem ref34_Capacity_call {T : Tbl} (hT : T 33 = pureR ref34_Capacity_S) {args : List AV} {hp : Heap} {id : Nat} {k : AV → Prop} {a0 : TRegion} {a1 : Int} {Φ : Int × Int → Prop} (h : W (ref34_Capacity_F a0 a1) Φ) (hw : WkL args [eTRegion a0, eI a1]) (hk : ∀ y, Φ y → k (.tup [eI y.1, eI y.2])) : callpK T 33 args hp id k := by
  obtain ⟨y, e, hy⟩ := W_inv h
  exact callpK_pure hT ⟨a0, a1, rfl, W_of e rfl⟩ (by exact loose_tup (loose_cons (loose_int _ _) (loose_cons (loose_int _ _) loose_nil))) hw (hk y hy)
def recovery_capacity_1_F (a0 : TGrowth) (c900 : Int) : Option Bool := let v1 := (decide (a0.From > c900)); some v1
def recovery_capacity_1_S : List AV → AV → Prop := fun args r => ∃ a0 c900, args = [eTGrowth a0, .ep [eI c900] 0] ∧ W (recovery_capacity_1_F a0 c900) fun y => r = (eB y)
theorem recovery_capacity_1_ok {T : Tbl} (hT : TOk Try.prog T) (hpf : PfOk T PF) : FOk Try.prog 58 (pureR recovery_capacity_1_S) := by
  refine FOk_pure hT hpf Try.func58 rfl Try.ntmps58 Try.results58 (by decide) ?_
  rintro args r ⟨a0, c900, rfl, h⟩
  refine ⟨nle rfl, ?_, ?_⟩
  · exact (loose_cons (lo_TGrowth _) (loose_cons (loose_ep (loose_cons (loose_int _ _) loose_nil)) loose_nil))
  rw [recovery_capacity_1_F.eq_1] at h
  refine HT_fr DC_ok rfl fun K hK => ?_; (conv => whnf)
  refine hK _ _ _ ?_; clear hK K
  refine HT_fr DC_ok rfl fun K hK => ?_; (conv => whnf)
  refine nlA rfl ?_; (conv => whnf)
  refine blkK_of rfl ?_; (conv => whnf)
  refine getK_of rfl ?_; (conv => whnf)
  refine getK_of rfl ?_; (conv => whnf)
  refine hK _ _ _ ?_; clear hK K
  refine HT_ret ?_
  replace h := W_some h
  refine PostP_r DC_ok fun K hK => ?_; (conv => whnf)
  refine hK _ ?_; clear hK K
  cases h
  exact Wk.refl _
theorem recovery_capacity_1_calls {T : Tbl} (hT : T 58 = pureR recovery_capacity_1_S) {args : List AV} {hp : Heap} {id : Nat} {k : AV → Heap → Prop} {a0 : TGrowth} {c900 : Int} {Φ : Bool → Prop} (h : W (recovery_capacity_1_F a0 c900) Φ) (hw : WkL args [eTGrowth a0, .ep [eI c900] 0]) (hk : ∀ y, Φ y → k (eB y) hp) : callsK T 58 args hp id k := by
  obtain ⟨y, e, hy⟩ := W_inv h
  exact callsK_pure hT ⟨a0, c900, rfl, W_of e rfl⟩ (by exact (loose_bool _)) hw (hk y hy)
def slices_IndexFunc_Growth_58_b1 (a0 : List TGrowth) (c910 : Int) (s1 : Int) : Option (Ct Int Int) := cn (decide (s1 < (a0.length : Int))) (ix a0 default s1 fun e2 =>
    bd (recovery_capacity_1_F e2 c910) fun y3 => cn y3 (some (.rt s1)) (some (.nx (wr (s1 + 1))))) (some (.bk s1))
theorem W_bslices_IndexFunc_Growth_58_b1 {a0 : List TGrowth} {c910 : Int} {s1 : Int} {Φ : Ct Int Int → Prop} (h : W (slices_IndexFunc_Growth_58_b1 a0 c910 s1) Φ) : W (cn (decide (s1 < (a0.length : Int))) (ix a0 default s1 fun e2 => bd (recovery_capacity_1_F e2 c910) fun y3 => cn y3 (some (.rt s1)) (some (.nx (wr (s1 + 1))))) (some (.bk s1))) Φ := h
def slices_IndexFunc_Growth_58_F (a0 : List TGrowth) (c910 : Int) : Option Int := bd (lp (slices_IndexFunc_Growth_58_b1 a0 c910) FU 0) fun c4 => smK c4 (fun s5 =>
    some (-1)) (fun r6 => some r6)
def slices_IndexFunc_Growth_58_S : List AV → AV → Prop := fun args r => ∃ a0 c910, args = [(eL 2 eTGrowth default) a0, .fn 58 [] [.ep [eI c910] 0]] ∧ W (slices_IndexFunc_Growth_58_F a0 c910) fun y => r = (eI y)
theorem slices_IndexFunc_Growth_58_ok {T : Tbl} (hT : TOk Try.prog T) (hpf : PfOk T PF) (h58 : T 58 = pureR recovery_capacity_1_S) : FOk Try.prog 57 (pureR slices_IndexFunc_Growth_58_S) := by
  refine FOk_pure hT hpf Try.func57 rfl Try.ntmps57 Try.results57 (by decide) ?_
  rintro args r ⟨a0, c910, rfl, h⟩
  refine ⟨nle rfl, ?_, ?_⟩
  · exact (loose_cons (loose_lst fun _ => (lo_TGrowth _)) (loose_cons (loose_fn loose_nil (loose_cons (loose_ep (loose_cons (loose_int _ _) loose_nil)) loose_nil)) loose_nil))
  rw [slices_IndexFunc_Growth_58_F.eq_1] at h
  refine HT_fr DC_ok rfl fun K hK => ?_; (conv => whnf)
  refine hK _ _ _ ?_; clear hK K
  refine HT_seq ?_
  refine HT_fr DC_ok rfl fun K hK => ?_; (conv => whnf)
  refine hK _ _ _ ?_; clear hK K
  refine HT_block ?_
  replace h := W_bd h
  refine HT_lpK (body := slices_IndexFunc_Growth_58_b1 _ _) rfl h [0, 1, 7] [] [] (fun kl kh ids b s => ⟨ofL ([(8, eI s)] ++ kl), ofH ([] ++ kh), b + 64⟩) ?_; (conv => whnf); refine And.intro ?_ (fun s m h => HT_st ?_)
  · refine weak_k ?_; (conv => whnf)
    exact And.intro rfl (And.intro (allL_c wkI (allL_c (wkr (loose_lst fun _ => (lo_TGrowth _))) (allL_c (WkR_fn VsR_nil (VsR_cons (wkr (loose_ep (loose_cons (loose_int _ _) loose_nil))) VsR_nil)) (allL_c wkI allL_n)))) allL_n)
  replace h := W_bslices_IndexFunc_Growth_58_b1 (W_bd h)
  refine HT_fr DC_ok rfl fun K hK => ?_; (conv => whnf)
  refine hK _ _ _ ?_; clear hK K
  refine HT_seq ?_
  refine HT_if fun K1 K2 hK1 hK2 => ?_; (conv => whnf)
  refine cond_lk h (fun _ h => ?_) (fun _ h => ?_)
  · refine hK1 ?_; clear hK1 hK2 K1 K2
    refine HT_skip ?_
    refine Then_n ?_
    refine HT_seq ?_
    refine HT_block ?_
    refine HT_fr DC_ok rfl fun K hK => ?_; (conv => whnf)
    refine hK _ _ _ ?_; clear hK K
    refine HT_fr DC_ok rfl fun K hK => ?_; (conv => whnf)
    refine ix_lk h fun _ h => ?_; (conv => whnf)
    refine nlA rfl ?_; (conv => whnf)
    replace h := W_bd h
    refine recovery_capacity_1_calls h58 h (WkL.refl _) (fun _ h => ?_); (conv => whnf)
    refine hK _ _ _ ?_; clear hK K
    refine HT_if fun K1 K2 hK1 hK2 => ?_; (conv => whnf)
    refine cond_lk h (fun _ h => ?_) (fun _ h => ?_)
    · refine hK1 ?_; clear hK1 hK2 K1 K2
      refine HT_fr DC_ok rfl fun K hK => ?_; (conv => whnf)
      refine hK _ _ _ ?_; clear hK K
      refine HT_ret ?_
      refine InBlock_r ?_
      refine Then_r ?_
      refine Then_r ?_
      refine InBlock_r ?_
      refine Then_r ?_
      replace h := W_xrt h
      replace h := W_inr h
      replace h := W_some h
      refine PostP_r DC_ok fun K hK => ?_; (conv => whnf)
      refine hK _ ?_; clear hK K
      cases h
      exact Wk.refl _
    refine hK2 ?_; clear hK1 hK2 K1 K2
    refine HT_skip ?_
    refine InBlock_n ?_
    refine Then_n ?_
    refine HT_f DC_ok rfl fun K hK => ?_; (conv => whnf)
    refine hK _ _ _ ?_; clear hK K
    refine Then_n ?_
    replace h := W_xnx h
    refine ⟨_, h, ?_⟩
    refine weak_k ?_; (conv => whnf)
    exact And.intro rfl (And.intro (allL_c wkI (allL_c (wkr (loose_lst fun _ => (lo_TGrowth _))) (allL_c (WkR_fn VsR_nil (VsR_cons (wkr (loose_ep (loose_cons (loose_int _ _) loose_nil))) VsR_nil)) (allL_c wkI allL_n)))) allL_n)
  refine hK2 ?_; clear hK1 hK2 K1 K2
  refine HT_exit ?_
  refine Then_e ?_
  refine Then_e ?_
  refine InBlock_e ?_
  replace h := W_xbk h
  replace h := W_inl h
  refine Then_n ?_
  refine HT_fr DC_ok rfl fun K hK => ?_; (conv => whnf)
  refine hK _ _ _ ?_; clear hK K
  refine HT_ret ?_
  replace h := W_some h
  refine PostP_r DC_ok fun K hK => ?_; (conv => whnf)
  refine hK _ ?_; clear hK K
  cases h
  exact Wk.refl _
def slices_IndexFunc_Growth_S : List AV → AV → Prop := fun args r => slices_IndexFunc_Growth_58_S args r
theorem slices_IndexFunc_Growth_58_call {T : Tbl} (hT : T 57 = pureR slices_IndexFunc_Growth_S) {args : List AV} {hp : Heap} {id : Nat} {k : AV → Prop} {a0 : List TGrowth} {c910 : Int} {Φ : Int → Prop} (h : W (slices_IndexFunc_Growth_58_F a0 c910) Φ) (hw : WkL args [(eL 2 eTGrowth default) a0, .fn 58 [] [.ep [eI c910] 0]]) (hk : ∀ y, Φ y → k (eI y)) : callpK T 57 args hp id k := by
  obtain ⟨y, e, hy⟩ := W_inv h
  exact callpK_pure hT ⟨a0, c910, rfl, W_of e rfl⟩ (by exact (loose_int _ _)) hw (hk y hy)
theorem slices_IndexFunc_Growth_ok {T : Tbl} (hT : TOk Try.prog T) (hpf : PfOk T PF) (h58 : T 58 = pureR recovery_capacity_1_S) : FOk Try.prog 57 (pureR slices_IndexFunc_Growth_S) := (slices_IndexFunc_Growth_58_ok hT hpf h58)
def recovery_capacity_F (a0 : TRegion) (a1 : Int) : Option Int := bd (slices_IndexFunc_Growth_58_F a0.Steps a1) fun y1 => jn (fun p2 : Int =>
    ix a0.Steps default (wr (p2 - 1)) fun e4 => some e4.Capacity) fun k3 => cn (decide (y1 < 0)) (k3 (a0.Steps.length : Int)) (k3 y1)
def recovery_capacity_S : List AV → AV → Prop := fun args r => ∃ a0 a1, args = [eTRegion a0, eI a1] ∧ W (recovery_capacity_F a0 a1) fun y => r = (eI y)
theorem recovery_capacity_ok {T : Tbl} (hT : TOk Try.prog T) (hpf : PfOk T PF) (h57 : T 57 = pureR slices_IndexFunc_Growth_S) : FOk Try.prog 48 (pureR recovery_capacity_S) := by
  refine FOk_pure hT hpf Try.func48 rfl Try.ntmps48 Try.results48 (by decide) ?_
  rintro args r ⟨a0, a1, rfl, h⟩
  refine ⟨nle rfl, ?_, ?_⟩
  · exact (loose_cons (lo_TRegion _) (loose_cons (loose_int _ _) loose_nil))
  rw [recovery_capacity_F.eq_1] at h
  refine HT_fr DC_ok rfl fun K hK => ?_; (conv => whnf)
  refine hK _ _ _ ?_; clear hK K
  refine HT_frzK 3 ?_; (conv => whnf); refine ⟨_, rfl, ?_⟩
  refine HT_fr DC_ok rfl fun K hK => ?_; (conv => whnf)
  refine nlA rfl ?_; (conv => whnf)
  refine blkK_of rfl ?_; (conv => whnf)
  refine getK_of rfl ?_; (conv => whnf)
  replace h := W_bd h
  refine slices_IndexFunc_Growth_58_call h57 h (WkL.refl _) (fun _ h => ?_); (conv => whnf)
  refine hK _ _ _ ?_; clear hK K
  refine HT_seq ?_
  refine HT_fr DC_ok rfl fun K hK => ?_; (conv => whnf)
  refine hK _ _ _ ?_; clear hK K
  replace h := W_jn h
  refine HT_if fun K1 K2 hK1 hK2 => ?_; (conv => whnf)
  refine cond_lk h (fun _ h => ?_) (fun _ h => ?_)
  · refine hK1 ?_; clear hK1 hK2 K1 K2
    refine HT_f DC_ok rfl fun K hK => ?_; (conv => whnf)
    refine nlA rfl ?_; (conv => whnf)
    refine blkK_of rfl ?_; (conv => whnf)
    refine getK_of rfl ?_; (conv => whnf)
    refine hK _ _ _ ?_; clear hK K
    refine Then_n ?_
    refine HT_fr DC_ok rfl fun K hK => ?_; (conv => whnf)
    refine nlA rfl ?_; (conv => whnf)
    refine blkK_of rfl ?_; (conv => whnf)
    refine getK_of rfl ?_; (conv => whnf)
    refine ix_lk h fun _ h => ?_; (conv => whnf)
    refine getK_of rfl ?_; (conv => whnf)
    refine hK _ _ _ ?_; clear hK K
    refine HT_ret ?_
    replace h := W_some h
    refine PostP_r DC_ok fun K hK => ?_; (conv => whnf)
    refine hK _ ?_; clear hK K
    cases h
    exact Wk.refl _
  refine hK2 ?_; clear hK1 hK2 K1 K2
  refine HT_skip ?_
  refine Then_n ?_
  refine HT_fr DC_ok rfl fun K hK => ?_; (conv => whnf)
  refine nlA rfl ?_; (conv => whnf)
  refine blkK_of rfl ?_; (conv => whnf)
  refine getK_of rfl ?_; (conv => whnf)
  refine ix_lk h fun _ h => ?_; (conv => whnf)
  refine getK_of rfl ?_; (conv => whnf)
  refine hK _ _ _ ?_; clear hK K
  refine HT_ret ?_
  replace h := W_some h
  refine PostP_r DC_ok fun K hK => ?_; (conv => whnf)
  refine hK _ ?_; clear hK K
  cases h
  exact Wk.refl _
theorem recovery_capacity_call {T : Tbl} (hT : T 48 = pureR recovery_capacity_S) {args : List AV} {hp : Heap} {id : Nat} {k : AV → Prop} {a0 : TRegion} {a1 : Int} {Φ : Int → Prop} (h : W (recovery_capacity_F a0 a1) Φ) (hw : WkL args [eTRegion a0, eI a1]) (hk : ∀ y, Φ y → k (eI y)) : callpK T 48 args hp id k := by
  obtain ⟨y, e, hy⟩ := W_inv h
  exact callpK_pure hT ⟨a0, a1, rfl, W_of e rfl⟩ (by exact (loose_int _ _)) hw (hk y hy)
def recovery_Capacity_F (a0 : TRegion) (a1 : Int) : Option (Int × Int) := jn (fun p1 : Int × Bool => cn p1.2 (some (0, 340)) (bd (recovery_capacity_F a0 p1.1) fun y4 =>
    some (y4, 0))) fun k2 => bd (recovery_Valid_F a0) fun y3 => cn (!y3) (k2 (a1, true)) (k2 (a1, (decide (a1 < 0))))
def recovery_Capacity_S : List AV → AV → Prop := fun args r => ∃ a0 a1, args = [eTRegion a0, eI a1] ∧ W (recovery_Capacity_F a0 a1) fun y => r = (.tup [eI y.1, eI y.2])
theorem recovery_Capacity_ok {T : Tbl} (hT : TOk Try.prog T) (hpf : PfOk T PF) (h24 : T 24 = pureR recovery_Valid_S) (h48 : T 48 = pureR recovery_capacity_S) : FOk Try.prog 32 (pureR recovery_Capacity_S) := by
  refine FOk_pure hT hpf Try.func32 rfl Try.ntmps32 Try.results32 (by decide) ?_
  rintro args r ⟨a0, a1, rfl, h⟩
  refine ⟨nle rfl, ?_, ?_⟩
  · exact (loose_cons (lo_TRegion _) (loose_cons (loose_int _ _) loose_nil))
  rw [recovery_Capacity_F.eq_1] at h
  refine HT_fr DC_ok rfl fun K hK => ?_; (conv => whnf)
  refine hK _ _ _ ?_; clear hK K
  refine HT_seq ?_
  refine HT_fr DC_ok rfl fun K hK => ?_; (conv => whnf)
  replace h := W_jn h
  refine nlA rfl ?_; (conv => whnf)
  refine blkK_of rfl ?_; (conv => whnf)
  refine nlA rfl ?_; (conv => whnf)
  replace h := W_bd h
  refine recovery_Valid_call h24 h (WkL.refl _) (fun _ h => ?_); (conv => whnf)
  refine cond_lk h (fun _ h => ?_) (fun _ h => ?_) <;> (conv => whnf)
  · refine hK _ _ _ ?_; clear hK K
    refine HT_if fun K1 K2 hK1 hK2 => ?_; (conv => whnf)
    refine hK1 ?_; clear hK1 hK2 K1 K2
    replace h := W_cnT h
    refine HT_fr DC_ok rfl fun K hK => ?_; (conv => whnf)
    refine hK _ _ _ ?_; clear hK K
    refine HT_ret ?_
    refine Then_r ?_
    replace h := W_some h
    refine PostP_r DC_ok fun K hK => ?_; (conv => whnf)
    refine hK _ ?_; clear hK K
    cases h
    exact Wk.refl _
  refine hK _ _ _ ?_; clear hK K
  refine HT_if fun K1 K2 hK1 hK2 => ?_; (conv => whnf)
  refine cond_lk h (fun _ h => ?_) (fun _ h => ?_)
  · refine hK1 ?_; clear hK1 hK2 K1 K2
    refine HT_fr DC_ok rfl fun K hK => ?_; (conv => whnf)
    refine hK _ _ _ ?_; clear hK K
    refine HT_ret ?_
    refine Then_r ?_
    replace h := W_some h
    refine PostP_r DC_ok fun K hK => ?_; (conv => whnf)
    refine hK _ ?_; clear hK K
    cases h
    exact Wk.refl _
  refine hK2 ?_; clear hK1 hK2 K1 K2
  refine HT_skip ?_
  refine Then_n ?_
  refine HT_fr DC_ok rfl fun K hK => ?_; (conv => whnf)
  refine nlA rfl ?_; (conv => whnf)
  refine blkK_of rfl ?_; (conv => whnf)
  refine nlA rfl ?_; (conv => whnf)
  replace h := W_bd h
  refine recovery_capacity_call h48 h (WkL.refl _) (fun _ h => ?_); (conv => whnf)
  refine hK _ _ _ ?_; clear hK K
  refine HT_ret ?_
  replace h := W_some h
  refine PostP_r DC_ok fun K hK => ?_; (conv => whnf)
  refine hK _ ?_; clear hK K
  cases h
  exact Wk.refl _
theorem recovery_Capacity_call {T : Tbl} (hT : T 32 = pureR recovery_Capacity_S) {args : List AV} {hp : Heap} {id : Nat} {k : AV → Prop} {a0 : TRegion} {a1 : Int} {Φ : Int × Int → Prop} (h : W (recovery_Capacity_F a0 a1) Φ) (hw : WkL args [eTRegion a0, eI a1]) (hk : ∀ y, Φ y → k (.tup [eI y.1, eI y.2])) : callpK T 32 args hp id k := by
  obtain ⟨y, e, hy⟩ := W_inv h
  exact callpK_pure hT ⟨a0, a1, rfl, W_of e rfl⟩ (by exact loose_tup (loose_cons (loose_int _ _) (loose_cons (loose_int _ _) loose_nil))) hw (hk y hy)
end Go.Proofs.Ytcidmnpihffphaa
namespace Go.Proofs.Ytcidmnpihffphaa
open Go Go.Eng
set_option maxHeartbeats 0
set_option maxRecDepth 100000
def ref34_Made_b1 (a0 : List (Int × Int)) (s2 : Int × Int × Int × TRegion) : Option (Ct (Int × Int × Int × TRegion) TRegion) := jn (fun p3 : Bool => cn p3 (jn (fun p5 : Int =>
    ix a0 default s2.2.2.1 fun e10 => bd (ref34_pick_F e10.2 4) fun y11 => let v12 := (imin (wr (s2.2.1 + y11)) 20); lt ([(⟨p5, v12⟩ : TGrowth)] : List TGrowth) fun l13 =>
    ap s2.2.2.2.Steps l13 fun l14 => some (.nx (p5, v12, (wr (s2.2.2.1 + 1)), (⟨l14, s2.2.2.2.Signals⟩ : TRegion)))) fun k6 => cn (decide (s2.2.2.1 >
    0)) (ix a0 default s2.2.2.1 fun e7 => bd (ref34_pick_F e7.1 8) fun y8 => let v9 := (wr ((wr (s2.1 + 1)) + y8));
    k6 v9) (k6 s2.1)) (some (.bk (s2.1, s2.2.1, s2.2.2.1, s2.2.2.2)))) fun k4 => cn (decide (s2.2.2.1 < (a0.length : Int))) (k4 (decide (s2.2.2.1 < 5))) (k4 false)
theorem W_bref34_Made_b1 {a0 : List (Int × Int)} {s2 : Int × Int × Int × TRegion} {Φ : Ct (Int × Int × Int × TRegion) TRegion → Prop} (h : W (ref34_Made_b1 a0 s2) Φ) : W (jn (fun p3 : Bool => cn p3 (jn (fun p5 : Int => ix a0 default s2.2.2.1 fun e10 => bd (ref34_pick_F e10.2 4) fun y11 => let v12 := (imin (wr (s2.2.1 + y11)) 20);
    lt ([(⟨p5, v12⟩ : TGrowth)] : List TGrowth) fun l13 => ap s2.2.2.2.Steps l13 fun l14 => some (.nx (p5, v12, (wr (s2.2.2.1 + 1)), (⟨l14, s2.2.2.2.Signals⟩ : TRegion)))) fun k6 =>
    cn (decide (s2.2.2.1 > 0)) (ix a0 default s2.2.2.1 fun e7 => bd (ref34_pick_F e7.1 8) fun y8 => let v9 := (wr ((wr (s2.1 + 1)) + y8));
    k6 v9) (k6 s2.1)) (some (.bk (s2.1, s2.2.1, s2.2.2.1, s2.2.2.2)))) fun k4 => cn (decide (s2.2.2.1 < (a0.length : Int))) (k4 (decide (s2.2.2.1 < 5))) (k4 false)) Φ := h
def ref34_Made_F (a0 : List (Int × Int)) (a1 : Int) : Option TRegion := bd (ref34_pick_F a1 12) fun y1 =>
    bd (lp (ref34_Made_b1 a0) FU (0, 0, 0, (⟨[], (wr (1 + y1))⟩ : TRegion))) fun c15 => smK c15 (fun s16 => jn (fun p18 : TRegion => some p18) fun k19 => cn (s16.2.1 ==
    0) (jn (fun p20 : Int => lt ([(⟨p20, 1⟩ : TGrowth)] : List TGrowth) fun l22 => ap s16.2.2.2.Steps l22 fun l23 => k19 (⟨l23, s16.2.2.2.Signals⟩ : TRegion)) fun k21 =>
    cn (decide ((s16.2.2.2.Steps.length : Int) > 0)) (k21 (wr (s16.1 + 1))) (k21 s16.1)) (k19 s16.2.2.2)) (fun r17 => some r17)
def ref34_Made_S : List AV → AV → Prop := fun args r => ∃ a0 a1, args = [(eL 2 eA71 default) a0, eI a1] ∧ W (ref34_Made_F a0 a1) fun y => r = (eTRegion y)
theorem ref34_Made_ok {T : Tbl} (hT : TOk Try.prog T) (hpf : PfOk T PF) (h40 : T 40 = pureR ref34_pick_S) : FOk Try.prog 14 (pureR ref34_Made_S) := by
  refine FOk_pure hT hpf Try.func14 rfl Try.ntmps14 Try.results14 (by decide) ?_
  rintro args r ⟨a0, a1, rfl, h⟩
  refine ⟨nle rfl, ?_, ?_⟩
  · exact (loose_cons (loose_lst fun _ => (lo_A71 _)) (loose_cons (loose_int _ _) loose_nil))
  rw [ref34_Made_F.eq_1] at h
  refine HT_fr DC_ok rfl fun K hK => ?_; (conv => whnf)
  refine hK _ _ _ ?_; clear hK K
  refine HT_fr DC_ok rfl fun K hK => ?_; (conv => whnf)
  replace h := W_bd h
  refine ref34_pick_call h40 h (WkL.refl _) (fun _ h => ?_); (conv => whnf)
  refine blkK_of rfl ?_; (conv => whnf)
  refine And.intro rfl (And.intro (nle rfl) (And.intro rfl ?_)); (conv => whnf)
  refine hK _ _ _ ?_; clear hK K
  refine HT_fr DC_ok rfl fun K hK => ?_; (conv => whnf)
  refine hK _ _ _ ?_; clear hK K
  refine HT_fr DC_ok rfl fun K hK => ?_; (conv => whnf)
  refine hK _ _ _ ?_; clear hK K
  refine HT_seq ?_
  refine HT_fr DC_ok rfl fun K hK => ?_; (conv => whnf)
  refine hK _ _ _ ?_; clear hK K
  refine HT_block ?_
  replace h := W_bd h
  refine HT_lpK (body := ref34_Made_b1 _) rfl h [0, 4, 5] [4] [5] (fun kl kh ids b s => ⟨ofL ([(6, eI s.1), (7, eI s.2.1), (8, eI s.2.2.1)] ++ kl), ofH ([(nthN ids 0, .cells [.lst (.tok (b + 0)) 2 s.2.2.2.Steps.length (fun j => eTGrowth (s.2.2.2.Steps.getD j default)), eI s.2.2.2.Signals]), (b + 0, .cells [])] ++ kh), b + 128⟩) ?_; (conv => whnf); refine And.intro ?_ (fun s m h => HT_st ?_)
  · refine weak_k ?_; (conv => whnf)
    exact And.intro rfl (And.intro (allL_c wkI (allL_c wkI (allL_c wkI (allL_c (wkr (loose_lst fun _ => (lo_A71 _))) (allL_c (WkR.ptr (fun _ => rfl)) (allL_c (WkR.ptr (fun _ => rfl)) allL_n)))))) (allL_c ⟨some _, rfl, BkR_c rfl (CkR_cons (WkR.nil (fun _ => rfl)) (CkR_cons wkI CkR_nil))⟩ (allL_c ⟨none, rfl, BkR_n⟩ (allL_c ⟨some _, rfl, BkR_c rfl (CkR_cons (wkr loose_nils) (CkR_cons wkI CkR_nil))⟩ allL_n))))
  replace h := W_bref34_Made_b1 (W_bd h)
  refine HT_seq ?_
  refine HT_fr DC_ok rfl fun K hK => ?_; (conv => whnf)
  replace h := W_jn h
  refine cond_lk h (fun _ h => ?_) (fun _ h => ?_) <;> (conv => whnf)
  · refine hK _ _ _ ?_; clear hK K
    refine HT_if fun K1 K2 hK1 hK2 => ?_; (conv => whnf)
    refine cond_lk h (fun _ h => ?_) (fun _ h => ?_)
    · refine hK1 ?_; clear hK1 hK2 K1 K2
      refine HT_skip ?_
      refine Then_n ?_
      refine HT_seq ?_
      refine HT_block ?_
      refine HT_seq ?_
      refine HT_fr DC_ok rfl fun K hK => ?_; (conv => whnf)
      refine hK _ _ _ ?_; clear hK K
      replace h := W_jn h
      refine HT_if fun K1 K2 hK1 hK2 => ?_; (conv => whnf)
      refine cond_lk h (fun _ h => ?_) (fun _ h => ?_)
      · refine hK1 ?_; clear hK1 hK2 K1 K2
        refine HT_f DC_ok rfl fun K hK => ?_; (conv => whnf)
        refine ix_lk h fun _ h => ?_; (conv => whnf)
        refine And.intro (by decide) ?_; (conv => whnf)
        refine getK_of rfl ?_; (conv => whnf)
        replace h := W_bd h
        refine ref34_pick_call h40 h (WkL.refl _) (fun _ h => ?_); (conv => whnf)
        refine hK _ _ _ ?_; clear hK K
        refine Then_n ?_
        refine HT_fr DC_ok rfl fun K hK => ?_; (conv => whnf)
        refine ix_lk h fun _ h => ?_; (conv => whnf)
        refine And.intro (by decide) ?_; (conv => whnf)
        refine getK_of rfl ?_; (conv => whnf)
        replace h := W_bd h
        refine ref34_pick_call h40 h (WkL.refl _) (fun _ h => ?_); (conv => whnf)
        refine hK _ _ _ ?_; clear hK K
        refine HT_f DC_ok rfl fun K hK => ?_; (conv => whnf)
        refine nlA rfl ?_; (conv => whnf)
        refine blkK_of rfl ?_; (conv => whnf)
        refine getK_of rfl ?_; (conv => whnf)
        refine lt_lk (enc := eTGrowth) (d := default) DC_ok h rfl rfl rfl ⟨nle rfl, nle rfl, rfl⟩ rfl ⟨⟨rfl, nle rfl⟩, trivial⟩ (fun h => ?_); (conv => whnf)
        refine ap_lk (enc := eTGrowth) (d := default) DC_ok h (.inl rfl) rfl rfl rfl ⟨rfl, nle rfl, nle rfl, nle rfl, rfl⟩ (fun _ => rfl) (.inr (.inr ⟨_, _, rfl, rfl, rfl⟩)) (fun h => ?_); (conv => whnf)
        refine blkK_of rfl ?_; (conv => whnf)
        refine And.intro rfl (And.intro (nle rfl) (And.intro rfl ?_)); (conv => whnf)
        refine hK _ _ _ ?_; clear hK K
        refine InBlock_n ?_
        refine Then_n ?_
        refine HT_f DC_ok rfl fun K hK => ?_; (conv => whnf)
        refine hK _ _ _ ?_; clear hK K
        refine Then_n ?_
        replace h := W_xnx h
        refine ⟨_, h, ?_⟩
        refine weak_k ?_; (conv => whnf)
        exact And.intro rfl (And.intro (allL_c wkI (allL_c wkI (allL_c wkI (allL_c (wkr (loose_lst fun _ => (lo_A71 _))) (allL_c (WkR.ptr (fun _ => rfl)) (allL_c (WkR.ptr (fun _ => rfl)) allL_n)))))) (allL_c ⟨some _, rfl, BkR_c rfl (CkR_cons (WkR.tok (fun _ => rfl) rfl (fun _ _ => Wk.refl _) (fun _ => (lo_TGrowth _))) (CkR_cons wkI CkR_nil))⟩ (allL_c ⟨some _, rfl, BkR_c rfl CkR_nil⟩ (allL_c ⟨some _, rfl, BkR_c rfl (CkR_cons (wkr loose_nils) (CkR_cons wkI CkR_nil))⟩ allL_n))))
      refine hK2 ?_; clear hK1 hK2 K1 K2
      refine HT_skip ?_
      refine Then_n ?_
      refine HT_fr DC_ok rfl fun K hK => ?_; (conv => whnf)
      refine ix_lk h fun _ h => ?_; (conv => whnf)
      refine And.intro (by decide) ?_; (conv => whnf)
      refine getK_of rfl ?_; (conv => whnf)
      replace h := W_bd h
      refine ref34_pick_call h40 h (WkL.refl _) (fun _ h => ?_); (conv => whnf)
      refine hK _ _ _ ?_; clear hK K
      refine HT_f DC_ok rfl fun K hK => ?_; (conv => whnf)
      refine nlA rfl ?_; (conv => whnf)
      refine blkK_of rfl ?_; (conv => whnf)
      refine getK_of rfl ?_; (conv => whnf)
      refine lt_lk (enc := eTGrowth) (d := default) DC_ok h rfl rfl rfl ⟨nle rfl, nle rfl, rfl⟩ rfl ⟨⟨rfl, nle rfl⟩, trivial⟩ (fun h => ?_); (conv => whnf)
      refine ap_lk (enc := eTGrowth) (d := default) DC_ok h (.inl rfl) rfl rfl rfl ⟨rfl, nle rfl, nle rfl, nle rfl, rfl⟩ (fun _ => rfl) (.inr (.inr ⟨_, _, rfl, rfl, rfl⟩)) (fun h => ?_); (conv => whnf)
      refine blkK_of rfl ?_; (conv => whnf)
      refine And.intro rfl (And.intro (nle rfl) (And.intro rfl ?_)); (conv => whnf)
      refine hK _ _ _ ?_; clear hK K
      refine InBlock_n ?_
      refine Then_n ?_
      refine HT_f DC_ok rfl fun K hK => ?_; (conv => whnf)
      refine hK _ _ _ ?_; clear hK K
      refine Then_n ?_
      replace h := W_xnx h
      refine ⟨_, h, ?_⟩
      refine weak_k ?_; (conv => whnf)
      exact And.intro rfl (And.intro (allL_c wkI (allL_c wkI (allL_c wkI (allL_c (wkr (loose_lst fun _ => (lo_A71 _))) (allL_c (WkR.ptr (fun _ => rfl)) (allL_c (WkR.ptr (fun _ => rfl)) allL_n)))))) (allL_c ⟨some _, rfl, BkR_c rfl (CkR_cons (WkR.tok (fun _ => rfl) rfl (fun _ _ => Wk.refl _) (fun _ => (lo_TGrowth _))) (CkR_cons wkI CkR_nil))⟩ (allL_c ⟨some _, rfl, BkR_c rfl CkR_nil⟩ (allL_c ⟨some _, rfl, BkR_c rfl (CkR_cons (wkr loose_nils) (CkR_cons wkI CkR_nil))⟩ allL_n))))
    refine hK2 ?_; clear hK1 hK2 K1 K2
    refine HT_exit ?_
    refine Then_e ?_
    refine Then_e ?_
    refine InBlock_e ?_
    replace h := W_xbk h
    replace h := W_inl h
    refine Then_n ?_
    refine HT_seq ?_
    refine HT_fr DC_ok rfl fun K hK => ?_; (conv => whnf)
    refine hK _ _ _ ?_; clear hK K
    replace h := W_jn h
    refine HT_if fun K1 K2 hK1 hK2 => ?_; (conv => whnf)
    refine cond_lk h (fun _ h => ?_) (fun _ h => ?_)
    · refine hK1 ?_; clear hK1 hK2 K1 K2
      refine HT_seq ?_
      refine HT_fr DC_ok rfl fun K hK => ?_; (conv => whnf)
      refine nlA rfl ?_; (conv => whnf)
      refine blkK_of rfl ?_; (conv => whnf)
      refine getK_of rfl ?_; (conv => whnf)
      refine hK _ _ _ ?_; clear hK K
      replace h := W_jn h
      refine HT_if fun K1 K2 hK1 hK2 => ?_; (conv => whnf)
      refine cond_lk h (fun _ h => ?_) (fun _ h => ?_)
      · refine hK1 ?_; clear hK1 hK2 K1 K2
        refine HT_f DC_ok rfl fun K hK => ?_; (conv => whnf)
        refine hK _ _ _ ?_; clear hK K
        refine Then_n ?_
        refine HT_f DC_ok rfl fun K hK => ?_; (conv => whnf)
        refine nlA rfl ?_; (conv => whnf)
        refine blkK_of rfl ?_; (conv => whnf)
        refine getK_of rfl ?_; (conv => whnf)
        refine lt_lk (enc := eTGrowth) (d := default) DC_ok h rfl rfl rfl ⟨nle rfl, nle rfl, rfl⟩ rfl ⟨⟨rfl, nle rfl⟩, trivial⟩ (fun h => ?_); (conv => whnf)
        refine ap_lk (enc := eTGrowth) (d := default) DC_ok h (.inl rfl) rfl rfl rfl ⟨rfl, nle rfl, nle rfl, nle rfl, rfl⟩ (fun _ => rfl) (.inr (.inr ⟨_, _, rfl, rfl, rfl⟩)) (fun h => ?_); (conv => whnf)
        refine blkK_of rfl ?_; (conv => whnf)
        refine And.intro rfl (And.intro (nle rfl) (And.intro rfl ?_)); (conv => whnf)
        refine hK _ _ _ ?_; clear hK K
        refine Then_n ?_
        refine HT_fr DC_ok rfl fun K hK => ?_; (conv => whnf)
        refine nlA rfl ?_; (conv => whnf)
        refine blkK_of rfl ?_; (conv => whnf)
        refine nlA rfl ?_; (conv => whnf)
        refine blkK_of rfl ?_; (conv => whnf)
        refine And.intro rfl (And.intro (nle rfl) (And.intro rfl ?_)); (conv => whnf)
        refine hK _ _ _ ?_; clear hK K
        refine HT_ret ?_
        replace h := W_some h
        refine PostP_r DC_ok fun K hK => ?_; (conv => whnf)
        refine nlA rfl ?_; (conv => whnf)
        refine blkK_of rfl ?_; (conv => whnf)
        refine nlA rfl ?_; (conv => whnf)
        refine hK _ ?_; clear hK K
        cases h
        exact (Wk_agg (WkL_cons Wk_free (WkL_cons (Wk.refl _) WkL_nil)))
      refine hK2 ?_; clear hK1 hK2 K1 K2
      refine HT_skip ?_
      refine Then_n ?_
      refine HT_f DC_ok rfl fun K hK => ?_; (conv => whnf)
      refine nlA rfl ?_; (conv => whnf)
      refine blkK_of rfl ?_; (conv => whnf)
      refine getK_of rfl ?_; (conv => whnf)
      refine lt_lk (enc := eTGrowth) (d := default) DC_ok h rfl rfl rfl ⟨nle rfl, nle rfl, rfl⟩ rfl ⟨⟨rfl, nle rfl⟩, trivial⟩ (fun h => ?_); (conv => whnf)
      refine ap_lk (enc := eTGrowth) (d := default) DC_ok h (.inl rfl) rfl rfl rfl ⟨rfl, nle rfl, nle rfl, nle rfl, rfl⟩ (fun _ => rfl) (.inr (.inr ⟨_, _, rfl, rfl, rfl⟩)) (fun h => ?_); (conv => whnf)
      refine blkK_of rfl ?_; (conv => whnf)
      refine And.intro rfl (And.intro (nle rfl) (And.intro rfl ?_)); (conv => whnf)
      refine hK _ _ _ ?_; clear hK K
      refine Then_n ?_
      refine HT_fr DC_ok rfl fun K hK => ?_; (conv => whnf)
      refine nlA rfl ?_; (conv => whnf)
      refine blkK_of rfl ?_; (conv => whnf)
      refine nlA rfl ?_; (conv => whnf)
      refine blkK_of rfl ?_; (conv => whnf)
      refine And.intro rfl (And.intro (nle rfl) (And.intro rfl ?_)); (conv => whnf)
      refine hK _ _ _ ?_; clear hK K
      refine HT_ret ?_
      replace h := W_some h
      refine PostP_r DC_ok fun K hK => ?_; (conv => whnf)
      refine nlA rfl ?_; (conv => whnf)
      refine blkK_of rfl ?_; (conv => whnf)
      refine nlA rfl ?_; (conv => whnf)
      refine hK _ ?_; clear hK K
      cases h
      exact (Wk_agg (WkL_cons Wk_free (WkL_cons (Wk.refl _) WkL_nil)))
    refine hK2 ?_; clear hK1 hK2 K1 K2
    refine HT_skip ?_
    refine Then_n ?_
    refine HT_fr DC_ok rfl fun K hK => ?_; (conv => whnf)
    refine nlA rfl ?_; (conv => whnf)
    refine blkK_of rfl ?_; (conv => whnf)
    refine nlA rfl ?_; (conv => whnf)
    refine blkK_of rfl ?_; (conv => whnf)
    refine And.intro rfl (And.intro (nle rfl) (And.intro rfl ?_)); (conv => whnf)
    refine hK _ _ _ ?_; clear hK K
    refine HT_ret ?_
    replace h := W_some h
    refine PostP_r DC_ok fun K hK => ?_; (conv => whnf)
    refine nlA rfl ?_; (conv => whnf)
    refine blkK_of rfl ?_; (conv => whnf)
    refine nlA rfl ?_; (conv => whnf)
    refine hK _ ?_; clear hK K
    cases h
    exact (Wk_agg (WkL_cons Wk_free (WkL_cons (Wk.refl _) WkL_nil)))
  refine hK _ _ _ ?_; clear hK K
  refine HT_if fun K1 K2 hK1 hK2 => ?_; (conv => whnf)
  refine hK2 ?_; clear hK1 hK2 K1 K2
  replace h := W_cnF h
  refine HT_exit ?_
  refine Then_e ?_
  refine Then_e ?_
  refine InBlock_e ?_
  replace h := W_xbk h
  replace h := W_inl h
  refine Then_n ?_
  refine HT_seq ?_
  refine HT_fr DC_ok rfl fun K hK => ?_; (conv => whnf)
  refine hK _ _ _ ?_; clear hK K
  replace h := W_jn h
  refine HT_if fun K1 K2 hK1 hK2 => ?_; (conv => whnf)
  refine cond_lk h (fun _ h => ?_) (fun _ h => ?_)
  · refine hK1 ?_; clear hK1 hK2 K1 K2
    refine HT_seq ?_
    refine HT_fr DC_ok rfl fun K hK => ?_; (conv => whnf)
    refine nlA rfl ?_; (conv => whnf)
    refine blkK_of rfl ?_; (conv => whnf)
    refine getK_of rfl ?_; (conv => whnf)
    refine hK _ _ _ ?_; clear hK K
    replace h := W_jn h
    refine HT_if fun K1 K2 hK1 hK2 => ?_; (conv => whnf)
    refine cond_lk h (fun _ h => ?_) (fun _ h => ?_)
    · refine hK1 ?_; clear hK1 hK2 K1 K2
      refine HT_f DC_ok rfl fun K hK => ?_; (conv => whnf)
      refine hK _ _ _ ?_; clear hK K
      refine Then_n ?_
      refine HT_f DC_ok rfl fun K hK => ?_; (conv => whnf)
      refine nlA rfl ?_; (conv => whnf)
      refine blkK_of rfl ?_; (conv => whnf)
      refine getK_of rfl ?_; (conv => whnf)
      refine lt_lk (enc := eTGrowth) (d := default) DC_ok h rfl rfl rfl ⟨nle rfl, nle rfl, rfl⟩ rfl ⟨⟨rfl, nle rfl⟩, trivial⟩ (fun h => ?_); (conv => whnf)
      refine ap_lk (enc := eTGrowth) (d := default) DC_ok h (.inl rfl) rfl rfl rfl ⟨rfl, nle rfl, nle rfl, nle rfl, rfl⟩ (fun _ => rfl) (.inr (.inr ⟨_, _, rfl, rfl, rfl⟩)) (fun h => ?_); (conv => whnf)
      refine blkK_of rfl ?_; (conv => whnf)
      refine And.intro rfl (And.intro (nle rfl) (And.intro rfl ?_)); (conv => whnf)
      refine hK _ _ _ ?_; clear hK K
      refine Then_n ?_
      refine HT_fr DC_ok rfl fun K hK => ?_; (conv => whnf)
      refine nlA rfl ?_; (conv => whnf)
      refine blkK_of rfl ?_; (conv => whnf)
      refine nlA rfl ?_; (conv => whnf)
      refine blkK_of rfl ?_; (conv => whnf)
      refine And.intro rfl (And.intro (nle rfl) (And.intro rfl ?_)); (conv => whnf)
      refine hK _ _ _ ?_; clear hK K
      refine HT_ret ?_
      replace h := W_some h
      refine PostP_r DC_ok fun K hK => ?_; (conv => whnf)
      refine nlA rfl ?_; (conv => whnf)
      refine blkK_of rfl ?_; (conv => whnf)
      refine nlA rfl ?_; (conv => whnf)
      refine hK _ ?_; clear hK K
      cases h
      exact (Wk_agg (WkL_cons Wk_free (WkL_cons (Wk.refl _) WkL_nil)))
    refine hK2 ?_; clear hK1 hK2 K1 K2
    refine HT_skip ?_
    refine Then_n ?_
    refine HT_f DC_ok rfl fun K hK => ?_; (conv => whnf)
    refine nlA rfl ?_; (conv => whnf)
    refine blkK_of rfl ?_; (conv => whnf)
    refine getK_of rfl ?_; (conv => whnf)
    refine lt_lk (enc := eTGrowth) (d := default) DC_ok h rfl rfl rfl ⟨nle rfl, nle rfl, rfl⟩ rfl ⟨⟨rfl, nle rfl⟩, trivial⟩ (fun h => ?_); (conv => whnf)
    refine ap_lk (enc := eTGrowth) (d := default) DC_ok h (.inl rfl) rfl rfl rfl ⟨rfl, nle rfl, nle rfl, nle rfl, rfl⟩ (fun _ => rfl) (.inr (.inr ⟨_, _, rfl, rfl, rfl⟩)) (fun h => ?_); (conv => whnf)
    refine blkK_of rfl ?_; (conv => whnf)
    refine And.intro rfl (And.intro (nle rfl) (And.intro rfl ?_)); (conv => whnf)
    refine hK _ _ _ ?_; clear hK K
    refine Then_n ?_
    refine HT_fr DC_ok rfl fun K hK => ?_; (conv => whnf)
    refine nlA rfl ?_; (conv => whnf)
    refine blkK_of rfl ?_; (conv => whnf)
    refine nlA rfl ?_; (conv => whnf)
    refine blkK_of rfl ?_; (conv => whnf)
    refine And.intro rfl (And.intro (nle rfl) (And.intro rfl ?_)); (conv => whnf)
    refine hK _ _ _ ?_; clear hK K
    refine HT_ret ?_
    replace h := W_some h
    refine PostP_r DC_ok fun K hK => ?_; (conv => whnf)
    refine nlA rfl ?_; (conv => whnf)
    refine blkK_of rfl ?_; (conv => whnf)
    refine nlA rfl ?_; (conv => whnf)
    refine hK _ ?_; clear hK K
    cases h
    exact (Wk_agg (WkL_cons Wk_free (WkL_cons (Wk.refl _) WkL_nil)))
  refine hK2 ?_; clear hK1 hK2 K1 K2
  refine HT_skip ?_
  refine Then_n ?_
  refine HT_fr DC_ok rfl fun K hK => ?_; (conv => whnf)
  refine nlA rfl ?_; (conv => whnf)
  refine blkK_of rfl ?_; (conv => whnf)
  refine nlA rfl ?_; (conv => whnf)
  refine blkK_of rfl ?_; (conv => whnf)
  refine And.intro rfl (And.intro (nle rfl) (And.intro rfl ?_)); (conv => whnf)
  refine hK _ _ _ ?_; clear hK K
  refine HT_ret ?_
  replace h := W_some h
  refine PostP_r DC_ok fun K hK => ?_; (conv => whnf)
  refine nlA rfl ?_; (conv => whnf)
  refine blkK_of rfl ?_; (conv => whnf)
  refine nlA rfl ?_; (conv => whnf)
  refine hK _ ?_; clear hK K
  cases h
  exact (Wk_agg (WkL_cons Wk_free (WkL_cons (Wk.refl _) WkL_nil)))
theorem ref34_Made_call {T : Tbl} (hT : T 14 = pureR ref34_Made_S) {args : List AV} {hp : Heap} {id : Nat} {k : AV → Prop} {a0 : List (Int × Int)} {a1 : Int} {Φ : TRegion → Prop} (h : W (ref34_Made_F a0 a1) Φ) (hw : WkL args [(eL 2 eA71 default) a0, eI a1]) (hk : ∀ y, Φ y → k (eTRegion y)) : callpK T 14 args hp id k := by
  obtain ⟨y, e, hy⟩ := W_inv h
  exact callpK_pure hT ⟨a0, a1, rfl, W_of e rfl⟩ (by exact (lo_TRegion _)) hw (hk y hy)
def ref34_Attempts_b1 (a0 : List (Int × Int)) (s1 : (List TAttempt) × Int) : Option (Ct ((List TAttempt) × Int) (List TAttempt)) := jn (fun p2 : Bool =>
    cn p2 (ix a0 default s1.2 fun e4 => bd (ref34_pick_F e4.1 25) fun y5 => ix a0 default s1.2 fun e6 => bd (ref34_pick_F e6.2 6) fun y7 =>
    lt ([(⟨(Int.tmod (wr (7 * (wr (s1.2 + 1)))) 100), y5, (y7 == 5)⟩ : TAttempt)] : List TAttempt) fun l8 => ap s1.1 l8 fun l9 =>
    some (.nx (l9, (wr (s1.2 + 1))))) (some (.bk (s1.1, s1.2)))) fun k3 => cn (decide (s1.2 < (a0.length : Int))) (k3 (decide (s1.2 < 20))) (k3 false)
theorem W_bref34_Attempts_b1 {a0 : List (Int × Int)} {s1 : (List TAttempt) × Int} {Φ : Ct ((List TAttempt) × Int) (List TAttempt) → Prop} (h : W (ref34_Attempts_b1 a0 s1) Φ) : W (jn (fun p2 : Bool => cn p2 (ix a0 default s1.2 fun e4 => bd (ref34_pick_F e4.1 25) fun y5 => ix a0 default s1.2 fun e6 => bd (ref34_pick_F e6.2 6) fun y7 =>
    lt ([(⟨(Int.tmod (wr (7 * (wr (s1.2 + 1)))) 100), y5, (y7 == 5)⟩ : TAttempt)] : List TAttempt) fun l8 => ap s1.1 l8 fun l9 =>
    some (.nx (l9, (wr (s1.2 + 1))))) (some (.bk (s1.1, s1.2)))) fun k3 => cn (decide (s1.2 < (a0.length : Int))) (k3 (decide (s1.2 < 20))) (k3 false)) Φ := h
def ref34_Attempts_F (a0 : List (Int × Int)) : Option (List TAttempt) := bd (lp (ref34_Attempts_b1 a0) FU ([], 0)) fun c10 => smK c10 (fun s11 => some s11.1) (fun r12 => some r12)
def ref34_Attempts_S : List AV → AV → Prop := fun args r => ∃ a0, args = [(eL 2 eA71 default) a0] ∧ W (ref34_Attempts_F a0) fun y => r = ((eL 3 eTAttempt default) y)
theorem ref34_Attempts_ok {T : Tbl} (hT : TOk Try.prog T) (hpf : PfOk T PF) (h40 : T 40 = pureR ref34_pick_S) : FOk Try.prog 15 (pureR ref34_Attempts_S) := by
  refine FOk_pure hT hpf Try.func15 rfl Try.ntmps15 Try.results15 (by decide) ?_
  rintro args r ⟨a0, rfl, h⟩
  refine ⟨nle rfl, ?_, ?_⟩
  · exact (loose_cons (loose_lst fun _ => (lo_A71 _)) loose_nil)
  rw [ref34_Attempts_F.eq_1] at h
  refine HT_fr DC_ok rfl fun K hK => ?_; (conv => whnf)
  refine hK _ _ _ ?_; clear hK K
  refine HT_fr DC_ok rfl fun K hK => ?_; (conv => whnf)
  refine hK _ _ _ ?_; clear hK K
  refine HT_seq ?_
  refine HT_fr DC_ok rfl fun K hK => ?_; (conv => whnf)
  refine hK _ _ _ ?_; clear hK K
  refine HT_block ?_
  replace h := W_bd h
  refine HT_lpK (body := ref34_Attempts_b1 _) rfl h [0] [] [] (fun kl kh ids b s => ⟨ofL ([(3, .lst (.tok (b + 0)) 3 s.1.length (fun j => eTAttempt (s.1.getD j default))), (4, eI s.2)] ++ kl), ofH ([(b + 0, .cells [])] ++ kh), b + 128⟩) ?_; (conv => whnf); refine And.intro ?_ (fun s m h => HT_st ?_)
  · refine weak_k ?_; (conv => whnf)
    exact And.intro rfl (And.intro (allL_c (WkR.nil (fun _ => rfl)) (allL_c wkI (allL_c (wkr (loose_lst fun _ => (lo_A71 _))) allL_n))) (allL_c ⟨none, rfl, BkR_n⟩ allL_n))
  replace h := W_bref34_Attempts_b1 (W_bd h)
  refine HT_seq ?_
  refine HT_fr DC_ok rfl fun K hK => ?_; (conv => whnf)
  replace h := W_jn h
  refine cond_lk h (fun _ h => ?_) (fun _ h => ?_) <;> (conv => whnf)
  · refine hK _ _ _ ?_; clear hK K
    refine HT_if fun K1 K2 hK1 hK2 => ?_; (conv => whnf)
    refine cond_lk h (fun _ h => ?_) (fun _ h => ?_)
    · refine hK1 ?_; clear hK1 hK2 K1 K2
      refine HT_skip ?_
      refine Then_n ?_
      refine HT_seq ?_
      refine HT_block ?_
      refine HT_fD DC_ok mix_ok rfl (by kernel_rfl) fun K hK => ?_; (conv => whnf)
      refine And.intro (by decide) ?_; (conv => whnf)
      refine ix_lk h fun _ h => ?_; (conv => whnf)
      refine And.intro (by decide) ?_; (conv => whnf)
      refine getK_of rfl ?_; (conv => whnf)
      replace h := W_bd h
      refine ref34_pick_call h40 h (WkL.refl _) (fun _ h => ?_); (conv => whnf)
      refine ix_lk h fun _ h => ?_; (conv => whnf)
      refine And.intro (by decide) ?_; (conv => whnf)
      refine getK_of rfl ?_; (conv => whnf)
      replace h := W_bd h
      refine ref34_pick_call h40 h (WkL.refl _) (fun _ h => ?_); (conv => whnf)
      refine lt_lk (enc := eTAttempt) (d := default) DC_ok h rfl rfl rfl ⟨nle rfl, nle rfl, rfl⟩ rfl ⟨⟨rfl, nle rfl⟩, trivial⟩ (fun h => ?_); (conv => whnf)
      refine ap_lk (enc := eTAttempt) (d := default) DC_ok h (.inl rfl) rfl rfl rfl ⟨rfl, nle rfl, nle rfl, nle rfl, rfl⟩ (fun _ => rfl) (.inr (.inr ⟨_, _, rfl, rfl, rfl⟩)) (fun h => ?_); (conv => whnf)
      refine hK _ _ _ ?_; clear hK K
      refine InBlock_n ?_
      refine Then_n ?_
      refine HT_f DC_ok rfl fun K hK => ?_; (conv => whnf)
      refine hK _ _ _ ?_; clear hK K
      refine Then_n ?_
      replace h := W_xnx h
      refine ⟨_, h, ?_⟩
      refine weak_k ?_; (conv => whnf)
      exact And.intro rfl (And.intro (allL_c (WkR.tok (fun _ => rfl) rfl (fun _ _ => Wk.refl _) (fun _ => (lo_TAttempt _))) (allL_c wkI (allL_c (wkr (loose_lst fun _ => (lo_A71 _))) allL_n))) (allL_c ⟨some _, rfl, BkR_c rfl CkR_nil⟩ allL_n))
    refine hK2 ?_; clear hK1 hK2 K1 K2
    refine HT_exit ?_
    refine Then_e ?_
    refine Then_e ?_
    refine InBlock_e ?_
    replace h := W_xbk h
    replace h := W_inl h
    refine Then_n ?_
    refine HT_fr DC_ok rfl fun K hK => ?_; (conv => whnf)
    refine hK _ _ _ ?_; clear hK K
    refine HT_ret ?_
    replace h := W_some h
    refine PostP_r DC_ok fun K hK => ?_; (conv => whnf)
    refine hK _ ?_; clear hK K
    cases h
    exact Wk_free
  refine hK _ _ _ ?_; clear hK K
  refine HT_if fun K1 K2 hK1 hK2 => ?_; (conv => whnf)
  refine hK2 ?_; clear hK1 hK2 K1 K2
  replace h := W_cnF h
  refine HT_exit ?_
  refine Then_e ?_
  refine Then_e ?_
  refine InBlock_e ?_
  replace h := W_xbk h
  replace h := W_inl h
  refine Then_n ?_
  refine HT_fr DC_ok rfl fun K hK => ?_; (conv => whnf)
  refine hK _ _ _ ?_; clear hK K
  refine HT_ret ?_
  replace h := W_some h
  refine PostP_r DC_ok fun K hK => ?_; (conv => whnf)
  refine hK _ ?_; clear hK K
  cases h
  exact Wk_free
theorem ref34_Attempts_call {T : Tbl} (hT : T 15 = pureR ref34_Attempts_S) {args : List AV} {hp : Heap} {id : Nat} {k : AV → Prop} {a0 : List (Int × Int)} {Φ : List TAttempt → Prop} (h : W (ref34_Attempts_F a0) Φ) (hw : WkL args [(eL 2 eA71 default) a0]) (hk : ∀ y, Φ y → k ((eL 3 eTAttempt default) y)) : callpK T 15 args hp id k := by
  obtain ⟨y, e, hy⟩ := W_inv h
  exact callpK_pure hT ⟨a0, rfl, W_of e rfl⟩ (by exact (loose_lst fun _ => (lo_TAttempt _))) hw (hk y hy)
def slices_Equal_Ticket_b1 (a0 : List TTicket) (a1 : List TTicket) (s1 : Int) : Option (Ct Int Bool) := cn (decide (s1 < (a0.length : Int))) (ix a0 default s1 fun e2 =>
    ix a1 default s1 fun e3 => cn (!((e2.Caller == e3.Caller) && ((e2.First == e3.First) && (e2.At == e3.At)))) (some (.rt false)) (some (.nx (wr (s1 + 1))))) (some (.bk s1))
theorem W_bslices_Equal_Ticket_b1 {a0 : List TTicket} {a1 : List TTicket} {s1 : Int} {Φ : Ct Int Bool → Prop} (h : W (slices_Equal_Ticket_b1 a0 a1 s1) Φ) : W (cn (decide (s1 < (a0.length : Int))) (ix a0 default s1 fun e2 => ix a1 default s1 fun e3 => cn (!((e2.Caller == e3.Caller) && ((e2.First == e3.First) && (e2.At ==
    e3.At)))) (some (.rt false)) (some (.nx (wr (s1 + 1))))) (some (.bk s1))) Φ := h
def slices_Equal_Ticket_F (a0 : List TTicket) (a1 : List TTicket) : Option Bool := cn ((a0.length : Int) !=
    (a1.length : Int)) (some false) (bd (lp (slices_Equal_Ticket_b1 a0 a1) FU 0) fun c4 => smK c4 (fun s5 => some true) (fun r6 => some r6))
def slices_Equal_Ticket_S : List AV → AV → Prop := fun args r => ∃ a0 a1, args = [(eL 3 eTTicket default) a0, (eL 3 eTTicket default) a1] ∧ W (slices_Equal_Ticket_F a0 a1) fun y => r = (eB y)
theorem slices_Equal_Ticket_ok {T : Tbl} (hT : TOk Try.prog T) (hpf : PfOk T PF) : FOk Try.prog 51 (pureR slices_Equal_Ticket_S) := by
  refine FOk_pure hT hpf Try.func51 rfl Try.ntmps51 Try.results51 (by decide) ?_
  rintro args r ⟨a0, a1, rfl, h⟩
  refine ⟨nle rfl, ?_, ?_⟩
  · exact (loose_cons (loose_lst fun _ => (lo_TTicket _)) (loose_cons (loose_lst fun _ => (lo_TTicket _)) loose_nil))
  rw [slices_Equal_Ticket_F.eq_1] at h
  refine HT_fr DC_ok rfl fun K hK => ?_; (conv => whnf)
  refine hK _ _ _ ?_; clear hK K
  refine HT_seq ?_
  refine HT_fr DC_ok rfl fun K hK => ?_; (conv => whnf)
  refine hK _ _ _ ?_; clear hK K
  refine HT_if fun K1 K2 hK1 hK2 => ?_; (conv => whnf)
  refine cond_lk h (fun _ h => ?_) (fun _ h => ?_)
  · refine hK1 ?_; clear hK1 hK2 K1 K2
    refine HT_fr DC_ok rfl fun K hK => ?_; (conv => whnf)
    refine hK _ _ _ ?_; clear hK K
    refine HT_ret ?_
    refine Then_r ?_
    replace h := W_some h
    refine PostP_r DC_ok fun K hK => ?_; (conv => whnf)
    refine hK _ ?_; clear hK K
    cases h
    exact Wk.refl _
  refine hK2 ?_; clear hK1 hK2 K1 K2
  refine HT_skip ?_
  refine Then_n ?_
  refine HT_seq ?_
  refine HT_fr DC_ok rfl fun K hK => ?_; (conv => whnf)
  refine hK _ _ _ ?_; clear hK K
  refine HT_block ?_
  replace h := W_bd h
  refine HT_lpK (body := slices_Equal_Ticket_b1 _ _) rfl h [0, 1, 12] [] [] (fun kl kh ids b s => ⟨ofL ([(13, eI s)] ++ kl), ofH ([] ++ kh), b + 64⟩) ?_; (conv => whnf); refine And.intro ?_ (fun s m h => HT_st ?_)
  · refine weak_k ?_; (conv => whnf)
    exact And.intro rfl (And.intro (allL_c wkI (allL_c (wkr (loose_lst fun _ => (lo_TTicket _))) (allL_c (wkr (loose_lst fun _ => (lo_TTicket _))) (allL_c wkI allL_n)))) allL_n)
  replace h := W_bslices_Equal_Ticket_b1 (W_bd h)
  refine HT_fr DC_ok rfl fun K hK => ?_; (conv => whnf)
  refine hK _ _ _ ?_; clear hK K
  refine HT_seq ?_
  refine HT_if fun K1 K2 hK1 hK2 => ?_; (conv => whnf)
  refine cond_lk h (fun _ h => ?_) (fun _ h => ?_)
  · refine hK1 ?_; clear hK1 hK2 K1 K2
    refine HT_skip ?_
    refine Then_n ?_
    refine HT_seq ?_
    refine HT_block ?_
    refine HT_fr DC_ok rfl fun K hK => ?_; (conv => whnf)
    refine hK _ _ _ ?_; clear hK K
    refine HT_fd DC_ok mix_ok rfl (by kernel_rfl) fun K hK => ?_; (conv => whnf)
    refine ix_lk h fun _ h => ?_; (conv => whnf)
    refine nlA rfl ?_; (conv => whnf)
    refine ix_lk h fun _ h => ?_; (conv => whnf)
    refine nlA rfl ?_; (conv => whnf)
    refine eqK_n (eqv53 _ _ _ _ _ _) ?_; (conv => whnf)
    refine hK _ _ _ ?_; clear hK K
    refine HT_if fun K1 K2 hK1 hK2 => ?_; (conv => whnf)
    refine cond_lk h (fun _ h => ?_) (fun _ h => ?_)
    · refine hK1 ?_; clear hK1 hK2 K1 K2
      refine HT_fr DC_ok rfl fun K hK => ?_; (conv => whnf)
      refine hK _ _ _ ?_; clear hK K
      refine HT_ret ?_
      refine InBlock_r ?_
      refine Then_r ?_
      refine Then_r ?_
      refine InBlock_r ?_
      refine Then_r ?_
      replace h := W_xrt h
      replace h := W_inr h
      replace h := W_some h
      refine PostP_r DC_ok fun K hK => ?_; (conv => whnf)
      refine hK _ ?_; clear hK K
      cases h
      exact Wk.refl _
    refine hK2 ?_; clear hK1 hK2 K1 K2
    refine HT_skip ?_
    refine InBlock_n ?_
    refine Then_n ?_
    refine HT_f DC_ok rfl fun K hK => ?_; (conv => whnf)
    refine hK _ _ _ ?_; clear hK K
    refine Then_n ?_
    replace h := W_xnx h
    refine ⟨_, h, ?_⟩
    refine weak_k ?_; (conv => whnf)
    exact And.intro rfl (And.intro (allL_c wkI (allL_c (wkr (loose_lst fun _ => (lo_TTicket _))) (allL_c (wkr (loose_lst fun _ => (lo_TTicket _))) (allL_c wkI allL_n)))) allL_n)
  refine hK2 ?_; clear hK1 hK2 K1 K2
  refine HT_exit ?_
  refine Then_e ?_
  refine Then_e ?_
  refine InBlock_e ?_
  replace h := W_xbk h
  replace h := W_inl h
  refine Then_n ?_
  refine HT_fr DC_ok rfl fun K hK => ?_; (conv => whnf)
  refine hK _ _ _ ?_; clear hK K
  refine HT_ret ?_
  replace h := W_some h
  refine PostP_r DC_ok fun K hK => ?_; (conv => whnf)
  refine hK _ ?_; clear hK K
  cases h
  exact Wk.refl _
theorem slices_Equal_Ticket_call {T : Tbl} (hT : T 51 = pureR slices_Equal_Ticket_S) {args : List AV} {hp : Heap} {id : Nat} {k : AV → Prop} {a0 : List TTicket} {a1 : List TTicket} {Φ : Bool → Prop} (h : W (slices_Equal_Ticket_F a0 a1) Φ) (hw : WkL args [(eL 3 eTTicket default) a0, (eL 3 eTTicket default) a1]) (hk : ∀ y, Φ y → k (eB y)) : callpK T 51 args hp id k := by
  obtain ⟨y, e, hy⟩ := W_inv h
  exact callpK_pure hT ⟨a0, a1, rfl, W_of e rfl⟩ (by exact (loose_bool _)) hw (hk y hy)
def ref34_Ordered_b2 (a0 : List TAttempt) (s1 : (List TAttempt) × Int) (s2 : Int) : Option (Ct Int (List TAttempt)) := jn (fun p3 : Bool =>
    cn p3 (some (.nx (wr (s2 - 1)))) (some (.bk s2))) fun k4 => cn (decide (s2 > 0)) (ix a0 default s1.2 fun e5 => ix s1.1 default (wr (s2 - 1)) fun e6 =>
    bd (ref34_Before_F e5 e6) fun y7 => k4 y7) (k4 false)
theorem W_bref34_Ordered_b2 {a0 : List TAttempt} {s1 : (List TAttempt) × Int} {s2 : Int} {Φ : Ct Int (List TAttempt) → Prop} (h : W (ref34_Ordered_b2 a0 s1 s2) Φ) : W (jn (fun p3 : Bool => cn p3 (some (.nx (wr (s2 - 1)))) (some (.bk s2))) fun k4 => cn (decide (s2 > 0)) (ix a0 default s1.2 fun e5 => ix s1.1 default (wr (s2 - 1)) fun e6 =>
    bd (ref34_Before_F e5 e6) fun y7 => k4 y7) (k4 false)) Φ := h
def ref34_Ordered_b1 (a0 : List TAttempt) (s1 : (List TAttempt) × Int) : Option (Ct ((List TAttempt) × Int) (List TAttempt)) :=
    cn (decide (s1.2 < (a0.length : Int))) (bd (lp (ref34_Ordered_b2 a0 s1) FU (s1.1.length : Int)) fun c8 => smK c8 (fun s9 => slc s1.1 0 s9 fun l11 =>
    ix a0 default s1.2 fun e12 => lt ([e12] : List TAttempt) fun l13 => slc s1.1 s9 (s1.1.length : Int) fun l14 => ap l13 l14 fun l15 => ap l11 l15 fun l16 =>
    some (.nx (l16, (wr (s1.2 + 1))))) (fun r10 => some (.rt r10))) (some (.bk (s1.1, s1.2)))
theorem W_bref34_Ordered_b1 {a0 : List TAttempt} {s1 : (List TAttempt) × Int} {Φ : Ct ((List TAttempt) × Int) (List TAttempt) → Prop} (h : W (ref34_Ordered_b1 a0 s1) Φ) : W (cn (decide (s1.2 < (a0.length : Int))) (bd (lp (ref34_Ordered_b2 a0 s1) FU (s1.1.length : Int)) fun c8 => smK c8 (fun s9 => slc s1.1 0 s9 fun l11 => ix a0 default s1.2 fun e12 =>
    lt ([e12] : List TAttempt) fun l13 => slc s1.1 s9 (s1.1.length : Int) fun l14 => ap l13 l14 fun l15 => ap l11 l15 fun l16 => some (.nx (l16, (wr (s1.2 + 1))))) (fun r10 =>
    some (.rt r10))) (some (.bk (s1.1, s1.2)))) Φ := h
def ref34_Ordered_F (a0 : List TAttempt) : Option (List TAttempt) := bd (lp (ref34_Ordered_b1 a0) FU ([], 0)) fun c17 => smK c17 (fun s18 => some s18.1) (fun r19 => some r19)
def ref34_Ordered_S : List AV → AV → Prop := fun args r => ∃ a0, args = [(eL 3 eTAttempt default) a0] ∧ W (ref34_Ordered_F a0) fun y => r = ((eL 3 eTAttempt default) y)
theorem ref34_Ordered_ok {T : Tbl} (hT : TOk Try.prog T) (hpf : PfOk T PF) (h52 : T 52 = pureR ref34_Before_S) : FOk Try.prog 38 (pureR ref34_Ordered_S) := by
  refine FOk_pure hT hpf Try.func38 rfl Try.ntmps38 Try.results38 (by decide) ?_
  rintro args r ⟨a0, rfl, h⟩
  refine ⟨nle rfl, ?_, ?_⟩
  · exact (loose_cons (loose_lst fun _ => (lo_TAttempt _)) loose_nil)
  rw [ref34_Ordered_F.eq_1] at h
  refine HT_fr DC_ok rfl fun K hK => ?_; (conv => whnf)
  refine hK _ _ _ ?_; clear hK K
  refine HT_fr DC_ok rfl fun K hK => ?_; (conv => whnf)
  refine hK _ _ _ ?_; clear hK K
  refine HT_seq ?_
  refine HT_fr DC_ok rfl fun K hK => ?_; (conv => whnf)
  refine hK _ _ _ ?_; clear hK K
  refine HT_block ?_
  replace h := W_bd h
  refine HT_lpK (body := ref34_Ordered_b1 _) rfl h [0] [] [] (fun kl kh ids b s => ⟨ofL ([(3, .lst (.tok (b + 0)) 3 s.1.length (fun j => eTAttempt (s.1.getD j default))), (4, eI s.2)] ++ kl), ofH ([(b + 0, .cells [])] ++ kh), b + 128⟩) ?_; (conv => whnf); refine And.intro ?_ (fun s m h => HT_st ?_)
  · refine weak_k ?_; (conv => whnf)
    exact And.intro rfl (And.intro (allL_c (WkR.nil (fun _ => rfl)) (allL_c wkI (allL_c (wkr (loose_lst fun _ => (lo_TAttempt _))) allL_n))) (allL_c ⟨none, rfl, BkR_n⟩ allL_n))
  replace h := W_bref34_Ordered_b1 (W_bd h)
  refine HT_seq ?_
  refine HT_fr DC_ok rfl fun K hK => ?_; (conv => whnf)
  refine hK _ _ _ ?_; clear hK K
  refine HT_if fun K1 K2 hK1 hK2 => ?_; (conv => whnf)
  refine cond_lk h (fun _ h => ?_) (fun _ h => ?_)
  · refine hK1 ?_; clear hK1 hK2 K1 K2
    refine HT_skip ?_
    refine Then_n ?_
    refine HT_seq ?_
    refine HT_block ?_
    refine HT_fr DC_ok rfl fun K hK => ?_; (conv => whnf)
    refine hK _ _ _ ?_; clear hK K
    refine HT_seq ?_
    refine HT_block ?_
    replace h := W_bd h
    refine HT_lpK (body := ref34_Ordered_b2 _ _) rfl h [0, 3, 4] [3] [] (fun kl kh ids b s => ⟨ofL ([(5, eI s)] ++ kl), ofH ([] ++ kh), b + 64⟩) ?_; (conv => whnf); refine And.intro ?_ (fun s m h => HT_st ?_)
    · refine weak_k ?_; (conv => whnf)
      exact And.intro rfl (And.intro (allL_c wkI (allL_c (wkr (loose_lst fun _ => (lo_TAttempt _))) (allL_c (WkR.tok (fun _ => rfl) rfl (fun _ _ => Wk.refl _) (fun _ => (lo_TAttempt _))) (allL_c wkI allL_n)))) (allL_c ⟨some _, rfl, BkR_c rfl CkR_nil⟩ allL_n))
    replace h := W_bref34_Ordered_b2 (W_bd h)
    refine HT_seq ?_
    refine HT_fd DC_ok mix_ok rfl (by kernel_rfl) fun K hK => ?_; (conv => whnf)
    replace h := W_jn h
    refine cond_lk h (fun _ h => ?_) (fun _ h => ?_) <;> (conv => whnf)
    · refine ix_lk h fun _ h => ?_; (conv => whnf)
      refine nlA rfl ?_; (conv => whnf)
      refine ix_lk h fun _ h => ?_; (conv => whnf)
      refine nlA rfl ?_; (conv => whnf)
      replace h := W_bd h
      refine ref34_Before_call h52 h (WkL.refl _) (fun _ h => ?_); (conv => whnf)
      refine hK _ _ _ ?_; clear hK K
      refine HT_if fun K1 K2 hK1 hK2 => ?_; (conv => whnf)
      refine cond_lk h (fun _ h => ?_) (fun _ h => ?_)
      · refine hK1 ?_; clear hK1 hK2 K1 K2
        refine HT_skip ?_
        refine Then_n ?_
        refine HT_block ?_
        refine HT_f DC_ok rfl fun K hK => ?_; (conv => whnf)
        refine hK _ _ _ ?_; clear hK K
        refine InBlock_n ?_
        refine Then_n ?_
        replace h := W_xnx h
        refine ⟨_, h, ?_⟩
        refine weak_k ?_; (conv => whnf)
        exact And.intro rfl (And.intro (allL_c wkI (allL_c (wkr (loose_lst fun _ => (lo_TAttempt _))) (allL_c (WkR.tok (fun _ => rfl) rfl (fun _ _ => Wk.refl _) (fun _ => (lo_TAttempt _))) (allL_c wkI allL_n)))) (allL_c ⟨some _, rfl, BkR_c rfl CkR_nil⟩ allL_n))
      refine hK2 ?_; clear hK1 hK2 K1 K2
      refine HT_exit ?_
      refine Then_e ?_
      refine Then_e ?_
      refine InBlock_e ?_
      replace h := W_xbk h
      replace h := W_inl h
      refine Then_n ?_
      refine HT_fD DC_ok mix_ok rfl (by kernel_rfl) fun K hK => ?_; (conv => whnf)
      refine sl_lk3 h (.inl ⟨rfl, rfl⟩) (fun h => ?_); (conv => whnf)
      refine ix_lk h fun _ h => ?_; (conv => whnf)
      refine nlA rfl ?_; (conv => whnf)
      refine lt_lk (enc := eTAttempt) (d := default) DC_ok h rfl rfl rfl ⟨nle rfl, nle rfl, rfl⟩ rfl ⟨⟨rfl, nle rfl⟩, trivial⟩ (fun h => ?_); (conv => whnf)
      refine sl_lk h (.inr ⟨_, rfl⟩) (.inl ⟨rfl, rfl⟩) (fun h => ?_); (conv => whnf)
      refine apf_lk (enc := eTAttempt) (d := default) DC_ok h rfl rfl rfl ⟨rfl, nle rfl, nle rfl, nle rfl, rfl⟩ (fun _ => rfl) (fun h => ?_); (conv => whnf)
      refine ap_lk (enc := eTAttempt) (d := default) DC_ok h (.inl rfl) rfl rfl rfl ⟨rfl, nle rfl, nle rfl, nle rfl, rfl⟩ (fun _ => rfl) (.inr (.inl ⟨rfl, rfl⟩)) (fun h => ?_); (conv => whnf)
      refine hK _ _ _ ?_; clear hK K
      refine InBlock_n ?_
      refine Then_n ?_
      refine HT_f DC_ok rfl fun K hK => ?_; (conv => whnf)
      refine hK _ _ _ ?_; clear hK K
      refine Then_n ?_
      replace h := W_xnx h
      refine ⟨_, h, ?_⟩
      refine weak_k ?_; (conv => whnf)
      exact And.intro rfl (And.intro (allL_c (WkR.tok (fun _ => rfl) rfl (fun _ _ => Wk.refl _) (fun _ => (lo_TAttempt _))) (allL_c wkI (allL_c (wkr (loose_lst fun _ => (lo_TAttempt _))) allL_n))) (allL_c ⟨some _, rfl, BkR_c rfl CkR_nil⟩ allL_n))
    refine hK _ _ _ ?_; clear hK K
    refine HT_if fun K1 K2 hK1 hK2 => ?_; (conv => whnf)
    refine hK2 ?_; clear hK1 hK2 K1 K2
    replace h := W_cnF h
    refine HT_exit ?_
    refine Then_e ?_
    refine Then_e ?_
    refine InBlock_e ?_
    replace h := W_xbk h
    replace h := W_inl h
    refine Then_n ?_
    refine HT_fD DC_ok mix_ok rfl (by kernel_rfl) fun K hK => ?_; (conv => whnf)
    refine sl_lk3 h (.inl ⟨rfl, rfl⟩) (fun h => ?_); (conv => whnf)
    refine ix_lk h fun _ h => ?_; (conv => whnf)
    refine nlA rfl ?_; (conv => whnf)
    refine lt_lk (enc := eTAttempt) (d := default) DC_ok h rfl rfl rfl ⟨nle rfl, nle rfl, rfl⟩ rfl ⟨⟨rfl, nle rfl⟩, trivial⟩ (fun h => ?_); (conv => whnf)
    refine sl_lk h (.inr ⟨_, rfl⟩) (.inl ⟨rfl, rfl⟩) (fun h => ?_); (conv => whnf)
    refine apf_lk (enc := eTAttempt) (d := default) DC_ok h rfl rfl rfl ⟨rfl, nle rfl, nle rfl, nle rfl, rfl⟩ (fun _ => rfl) (fun h => ?_); (conv => whnf)
    refine ap_lk (enc := eTAttempt) (d := default) DC_ok h (.inl rfl) rfl rfl rfl ⟨rfl, nle rfl, nle rfl, nle rfl, rfl⟩ (fun _ => rfl) (.inr (.inl ⟨rfl, rfl⟩)) (fun h => ?_); (conv => whnf)
    refine hK _ _ _ ?_; clear hK K
    refine InBlock_n ?_
    refine Then_n ?_
    refine HT_f DC_ok rfl fun K hK => ?_; (conv => whnf)
    refine hK _ _ _ ?_; clear hK K
    refine Then_n ?_
    replace h := W_xnx h
    refine ⟨_, h, ?_⟩
    refine weak_k ?_; (conv => whnf)
    exact And.intro rfl (And.intro (allL_c (WkR.tok (fun _ => rfl) rfl (fun _ _ => Wk.refl _) (fun _ => (lo_TAttempt _))) (allL_c wkI (allL_c (wkr (loose_lst fun _ => (lo_TAttempt _))) allL_n))) (allL_c ⟨some _, rfl, BkR_c rfl CkR_nil⟩ allL_n))
  refine hK2 ?_; clear hK1 hK2 K1 K2
  refine HT_exit ?_
  refine Then_e ?_
  refine Then_e ?_
  refine InBlock_e ?_
  replace h := W_xbk h
  replace h := W_inl h
  refine Then_n ?_
  refine HT_fr DC_ok rfl fun K hK => ?_; (conv => whnf)
  refine hK _ _ _ ?_; clear hK K
  refine HT_ret ?_
  replace h := W_some h
  refine PostP_r DC_ok fun K hK => ?_; (conv => whnf)
  refine hK _ ?_; clear hK K
  cases h
  exact Wk_free
theorem ref34_Ordered_call {T : Tbl} (hT : T 38 = pureR ref34_Ordered_S) {args : List AV} {hp : Heap} {id : Nat} {k : AV → Prop} {a0 : List TAttempt} {Φ : List TAttempt → Prop} (h : W (ref34_Ordered_F a0) Φ) (hw : WkL args [(eL 3 eTAttempt default) a0]) (hk : ∀ y, Φ y → k ((eL 3 eTAttempt default) y)) : callpK T 38 args hp id k := by
  obtain ⟨y, e, hy⟩ := W_inv h
  exact callpK_pure hT ⟨a0, rfl, W_of e rfl⟩ (by exact (loose_lst fun _ => (lo_TAttempt _))) hw (hk y hy)
def law34_example_F (a0 : Int) : Option (TRegion × (List TAttempt)) := lt ([(⟨0, 1⟩ : TGrowth), (⟨3, 2⟩ : TGrowth)] : List TGrowth) fun l1 =>
    lt ([(⟨5, 0, false⟩ : TAttempt), (⟨6, 0, false⟩ : TAttempt), (⟨7, 0, false⟩ : TAttempt), (⟨8, 1, false⟩ : TAttempt), (⟨9, 3, false⟩ : TAttempt), (⟨4, 0, true⟩ : TAttempt)] : List TAttempt) fun l2 =>
    some ((⟨l1, a0⟩ : TRegion), l2)
def law34_example_S : List AV → AV → Prop := fun args r => ∃ a0, args = [eI a0] ∧ W (law34_example_F a0) fun y => r = (.tup [eTRegion y.1, (eL 3 eTAttempt default) y.2])
theorem law34_example_ok {T : Tbl} (hT : TOk Try.prog T) (hpf : PfOk T PF) : FOk Try.prog 39 (pureR law34_example_S) := by
  refine FOk_pure hT hpf Try.func39 rfl Try.ntmps39 Try.results39 (by decide) ?_
  rintro args r ⟨a0, rfl, h⟩
  refine ⟨nle rfl, ?_, ?_⟩
  · exact (loose_cons (loose_int _ _) loose_nil)
  rw [law34_example_F.eq_1] at h
  refine HT_fr DC_ok rfl fun K hK => ?_; (conv => whnf)
  refine hK _ _ _ ?_; clear hK K
  refine HT_fr DC_ok rfl fun K hK => ?_; (conv => whnf)
  refine lt_lk (enc := eTGrowth) (d := default) DC_ok h rfl rfl rfl ⟨nle rfl, nle rfl, rfl⟩ rfl ⟨⟨rfl, nle rfl⟩, ⟨⟨rfl, nle rfl⟩, trivial⟩⟩ (fun h => ?_); (conv => whnf)
  refine blkK_of rfl ?_; (conv => whnf)
  refine And.intro rfl (And.intro (nle rfl) (And.intro rfl ?_)); (conv => whnf)
  refine hK _ _ _ ?_; clear hK K
  refine HT_fr DC_ok rfl fun K hK => ?_; (conv => whnf)
  refine nlA rfl ?_; (conv => whnf)
  refine blkK_of rfl ?_; (conv => whnf)
  refine nlA rfl ?_; (conv => whnf)
  refine lt_lk (enc := eTAttempt) (d := default) DC_ok h rfl rfl rfl ⟨nle rfl, nle rfl, rfl⟩ rfl ⟨⟨rfl, nle rfl⟩, ⟨⟨rfl, nle rfl⟩, ⟨⟨rfl, nle rfl⟩, ⟨⟨rfl, nle rfl⟩, ⟨⟨rfl, nle rfl⟩, ⟨⟨rfl, nle rfl⟩, trivial⟩⟩⟩⟩⟩⟩ (fun h => ?_); (conv => whnf)
  refine blkK_of rfl ?_; (conv => whnf)
  refine And.intro rfl (And.intro (nle rfl) (And.intro rfl ?_)); (conv => whnf)
  refine hK _ _ _ ?_; clear hK K
  refine HT_ret ?_
  replace h := W_some h
  refine PostP_r DC_ok fun K hK => ?_; (conv => whnf)
  refine nlA rfl ?_; (conv => whnf)
  refine blkK_of rfl ?_; (conv => whnf)
  refine nlA rfl ?_; (conv => whnf)
  refine hK _ ?_; clear hK K
  cases h
  exact Wk_tup (WkL_cons (Wk_agg (WkL_cons Wk_free (WkL_cons (Wk.refl _) WkL_nil))) (WkL_cons Wk_free WkL_nil))
theorem law34_example_call {T : Tbl} (hT : T 39 = pureR law34_example_S) {args : List AV} {hp : Heap} {id : Nat} {k : AV → Prop} {a0 : Int} {Φ : TRegion × (List TAttempt) → Prop} (h : W (law34_example_F a0) Φ) (hw : WkL args [eI a0]) (hk : ∀ y, Φ y → k (.tup [eTRegion y.1, (eL 3 eTAttempt default) y.2])) : callpK T 39 args hp id k := by
  obtain ⟨y, e, hy⟩ := W_inv h
  exact callpK_pure hT ⟨a0, rfl, W_of e rfl⟩ (by exact loose_tup (loose_cons (lo_TRegion _) (loose_cons (loose_lst fun _ => (lo_TAttempt _)) loose_nil))) hw (hk y hy)
end Go.Proofs.Ytcidmnpihffphaa
namespace Go.Proofs.Ytcidmnpihffphaa
open Go Go.Eng
set_option maxHeartbeats 0
set_option maxRecDepth 100000
theorem clone_end {M : List (Nat × Nat)} {q k n : Nat} {b : AB} {α : Type} {ce : α → List AV} {l : List α} {hp : Heap} (h1 : [q][k]? = some n) (h2 : [AB.cells (flE ce l)][k]? = some b) (h : hp q = some (.cells (flE ce l))) (hl : ∀ x, ∀ a ∈ ce x, a.loose) : ∃ b0, hp n = some b0 ∧ BkX (WkB M) b0 b := by
  cases k with
  | zero => simp only [List.getElem?_cons_zero, Option.some.injEq] at h1 h2; subst h1 h2; exact ⟨_, h, BkX_fl hl l⟩
  | succ k => simp at h1
theorem slices_Clone_int_ok {T : Tbl} (hT : TOk Try.prog T) (hpf : PfOk T PF) : FOk Try.prog 59 (cloneR 1 eI default) := by
  refine FOk_anc hT hpf Try.func59 rfl Try.ntmps59 Try.results59 (by decide) ?_
  rintro args H base r H' ⟨l, rfl, hl, rfl, rfl⟩
  refine ⟨[], [eL 1 eI default l], [], [], [.cells (flE (ceE eI) l)], nle rfl, Nat.zero_le _, nle rfl, .nil, rfl, rfl, .cons (WkA_loose (loose_lst fun _ => (loose_int _ _))) .nil, (fun j i b h => by cases h), (fun k b h => ?_), (fun j => rfl), (fun i b h => ?_), ?_⟩
  · cases k with
    | zero => cases h; rfl
    | succ k => cases h
  · by_cases e : i = base
    · subst e; rw [upd_same] at h; exact .inr (.inr ⟨0, rfl, h⟩)
    · rw [upd_other _ _ e] at h; exact .inl ⟨by simp, h⟩
  refine HT_fr DC_ok rfl fun K hK => ?_; (conv => whnf)
  refine hK _ _ _ ?_; clear hK K
  refine HT_seq ?_
  refine HT_isnil rfl rfl rfl rfl rfl rfl Try.underlying47 rfl rfl fun b hb => ?_
  cases b
  · refine HT_if fun K1 K2 hK1 hK2 => ?_; (conv => whnf)
    refine hK2 ?_; clear hK1 hK2 K1 K2
    refine HT_skip ?_
    refine Then_n ?_
    refine HT_fr DC_ok rfl fun K hK => ?_; (conv => whnf)
    refine lt_lk (enc := eI) (d := default) (l := []) (f := some) (Φ := fun _ => True) DC_ok (W_of (a := []) (by unfold lt; rfl) trivial) rfl rfl rfl ⟨nle rfl, nle rfl, rfl⟩ rfl trivial (fun _ => ?_); (conv => whnf)
    refine apcf_lk (enc := eI) (d := default) DC_ok rfl rfl rfl ⟨rfl, nle rfl, nle rfl, nle rfl, rfl⟩ (fun _ => rfl) (fun _ => nofun) hl ?_; (conv => whnf)
    refine hK _ _ _ ?_; clear hK K
    refine HT_ret ?_
    refine ⟨_, [256], rfl, by simp, by simp, rfl, WkB_so (by simp [mm]), fun j b h => by simp at h, fun k n b h1 h2 => ?_⟩; exact clone_end h1 h2 rfl (fun _ => (loose_cons (loose_int _ _) loose_nil))
  refine HT_if fun K1 K2 hK1 hK2 => ?_; (conv => whnf)
  refine hK1 ?_; clear hK1 hK2 K1 K2
  refine HT_fr DC_ok rfl fun K hK => ?_; (conv => whnf)
  refine hK _ _ _ ?_; clear hK K
  have hn := List.length_eq_zero_iff.1 (hb rfl)
  subst hn
  refine HT_weak rfl (σ' := ⟨ofL [(2, .so 64 0 0 1)], ofH [(64, .cells [])], 1024⟩) (weak_of [(64, none)] ⟨WkR.nilso (fun _ => rfl), trivial⟩ ⟨⟨_, rfl, BkR_n⟩, trivial⟩ rfl) ?_
  refine HT_ret ?_
  refine Then_r ?_
  refine ⟨_, [64], rfl, by simp, by simp, rfl, WkB_so (by simp [mm]), fun j b h => by simp at h, fun k n b h1 h2 => ?_⟩; exact clone_end h1 h2 rfl (fun _ => (loose_cons (loose_int _ _) loose_nil))

theorem slices_Clone_Attempt_ok {T : Tbl} (hT : TOk Try.prog T) (hpf : PfOk T PF) : FOk Try.prog 62 (cloneR 3 eTAttempt default) := by
  refine FOk_anc hT hpf Try.func62 rfl Try.ntmps62 Try.results62 (by decide) ?_
  rintro args H base r H' ⟨l, rfl, hl, rfl, rfl⟩
  refine ⟨[], [eL 3 eTAttempt default l], [], [], [.cells (flE (ceE eTAttempt) l)], nle rfl, Nat.zero_le _, nle rfl, .nil, rfl, rfl, .cons (WkA_loose (loose_lst fun _ => (lo_TAttempt _))) .nil, (fun j i b h => by cases h), (fun k b h => ?_), (fun j => rfl), (fun i b h => ?_), ?_⟩
  · cases k with
    | zero => cases h; rfl
    | succ k => cases h
  · by_cases e : i = base
    · subst e; rw [upd_same] at h; exact .inr (.inr ⟨0, rfl, h⟩)
    · rw [upd_other _ _ e] at h; exact .inl ⟨by simp, h⟩
  refine HT_fr DC_ok rfl fun K hK => ?_; (conv => whnf)
  refine hK _ _ _ ?_; clear hK K
  refine HT_seq ?_
  refine HT_isnil rfl rfl rfl rfl rfl rfl Try.underlying29 rfl rfl fun b hb => ?_
  cases b
  · refine HT_if fun K1 K2 hK1 hK2 => ?_; (conv => whnf)
    refine hK2 ?_; clear hK1 hK2 K1 K2
    refine HT_skip ?_
    refine Then_n ?_
    refine HT_fr DC_ok rfl fun K hK => ?_; (conv => whnf)
    refine lt_lk (enc := eTAttempt) (d := default) (l := []) (f := some) (Φ := fun _ => True) DC_ok (W_of (a := []) (by unfold lt; rfl) trivial) rfl rfl rfl ⟨nle rfl, nle rfl, rfl⟩ rfl trivial (fun _ => ?_); (conv => whnf)
    refine apcf_lk (enc := eTAttempt) (d := default) DC_ok rfl rfl rfl ⟨rfl, nle rfl, nle rfl, nle rfl, rfl⟩ (fun _ => rfl) (fun _ => nofun) hl ?_; (conv => whnf)
    refine hK _ _ _ ?_; clear hK K
    refine HT_ret ?_
    refine ⟨_, [256], rfl, by simp, by simp, rfl, WkB_so (by simp [mm]), fun j b h => by simp at h, fun k n b h1 h2 => ?_⟩; exact clone_end h1 h2 rfl (fun _ => (loose_cons (loose_int _ _) (loose_cons (loose_int _ _) (loose_cons (loose_bool _) loose_nil))))
  refine HT_if fun K1 K2 hK1 hK2 => ?_; (conv => whnf)
  refine hK1 ?_; clear hK1 hK2 K1 K2
  refine HT_fr DC_ok rfl fun K hK => ?_; (conv => whnf)
  refine hK _ _ _ ?_; clear hK K
  have hn := List.length_eq_zero_iff.1 (hb rfl)
  subst hn
  refine HT_weak rfl (σ' := ⟨ofL [(2, .so 64 0 0 3)], ofH [(64, .cells [])], 1024⟩) (weak_of [(64, none)] ⟨WkR.nilso (fun _ => rfl), trivial⟩ ⟨⟨_, rfl, BkR_n⟩, trivial⟩ rfl) ?_
  refine HT_ret ?_
  refine Then_r ?_
  refine ⟨_, [64], rfl, by simp, by simp, rfl, WkB_so (by simp [mm]), fun j b h => by simp at h, fun k n b h1 h2 => ?_⟩; exact clone_end h1 h2 rfl (fun _ => (loose_cons (loose_int _ _) (loose_cons (loose_int _ _) (loose_cons (loose_bool _) loose_nil))))

end Go.Proofs.Ytcidmnpihffphaa
namespace Go.Proofs.Ytcidmnpihffphaa
open Go Go.Eng
set_option maxHeartbeats 0
set_option maxRecDepth 100000
def recovery_ordered_1_F (a0 : TAttempt) (a1 : TAttempt) : Option Int := bd (cmp_Compare_int_F a0.At a1.At) fun y1 => bd (cmp_Compare_int_F a0.Caller a1.Caller) fun y2 =>
    lt ([y1, y2] : List Int) fun l3 => bd (cmp_Or_int_F l3) fun y4 => some y4
def recovery_ordered_1_S : List AV → AV → Prop := fun args r => ∃ a0 a1, args = [eTAttempt a0, eTAttempt a1] ∧ W (recovery_ordered_1_F a0 a1) fun y => r = (eI y)
theorem recovery_ordered_1_ok {T : Tbl} (hT : TOk Try.prog T) (hpf : PfOk T PF) (h50 : T 50 = pureR cmp_Compare_int_S) (h55 : T 55 = pureR cmp_Or_int_S) : FOk Try.prog 54 (pureR recovery_ordered_1_S) := by
  refine FOk_pure hT hpf Try.func54 rfl Try.ntmps54 Try.results54 (by decide) ?_
  rintro args r ⟨a0, a1, rfl, h⟩
  refine ⟨nle rfl, ?_, ?_⟩
  · exact (loose_cons (lo_TAttempt _) (loose_cons (lo_TAttempt _) loose_nil))
  rw [recovery_ordered_1_F.eq_1] at h
  refine HT_fr DC_ok rfl fun K hK => ?_; (conv => whnf)
  refine hK _ _ _ ?_; clear hK K
  refine HT_fd DC_ok mix_ok rfl (by kernel_rfl) fun K hK => ?_; (conv => whnf)
  refine nlA rfl ?_; (conv => whnf)
  refine blkK_of rfl ?_; (conv => whnf)
  refine getK_of rfl ?_; (conv => whnf)
  refine nlA rfl ?_; (conv => whnf)
  refine blkK_of rfl ?_; (conv => whnf)
  refine getK_of rfl ?_; (conv => whnf)
  replace h := W_bd h
  refine cmp_Compare_int_call h50 h (WkL.refl _) (fun _ h => ?_); (conv => whnf)
  refine nlA rfl ?_; (conv => whnf)
  refine blkK_of rfl ?_; (conv => whnf)
  refine getK_of rfl ?_; (conv => whnf)
  refine nlA rfl ?_; (conv => whnf)
  refine blkK_of rfl ?_; (conv => whnf)
  refine getK_of rfl ?_; (conv => whnf)
  replace h := W_bd h
  refine cmp_Compare_int_call h50 h (WkL.refl _) (fun _ h => ?_); (conv => whnf)
  refine lt_lk (enc := eI) (d := default) DC_ok h rfl rfl rfl ⟨nle rfl, nle rfl, rfl⟩ rfl ⟨⟨rfl, rfl, rfl⟩, ⟨⟨rfl, rfl, rfl⟩, trivial⟩⟩ (fun h => ?_); (conv => whnf)
  replace h := W_bd h
  refine cmp_Or_int_call h55 h (WkL_cons Wk_free WkL_nil) (fun _ h => ?_); (conv => whnf)
  refine hK _ _ _ ?_; clear hK K
  refine HT_ret ?_
  replace h := W_some h
  refine PostP_r DC_ok fun K hK => ?_; (conv => whnf)
  refine hK _ ?_; clear hK K
  cases h
  exact Wk.refl _
end Go.Proofs.Ytcidmnpihffphaa
namespace Go.Proofs
open Go.Shelf
def Try.sortA_ren : Go.Shelf.Ren := ⟨fun | 6 => 63 | 15 => 65 | 14 => 66 | 28 => 75 | 29 => 76 | 20 => 77 | 21 => 78 | 22 => 79 | 23 => 80 | 24 => 81 | 25 => 82 | 26 => 83 | 27 => 84 | 46 => 90 | 47 => 86 | 48 => 87 | 49 => 91 | 50 => 92 | 57 => 94 | n => n, fun | 22 => 29 | 24 => 58 | 25 => 87 | 3 => 3 | 39 => 96 | 0 => 0 | 53 => 106 | 55 => 108 | 4 => 4 | 46 => 100 | 45 => 99 | 50 => 39 | 5 => 5 | 9 => 9 | 66 => 114 | 70 => 118 | 76 => 122 | 77 => 123 | n => n, fun | n => n⟩
theorem Try.sortA : Go.Proofs.SlLaysF0.n6 Try.prog Try.sortA_ren := {
  mixed := by kernel_rfl
  f6 := ⟨Try.f63.name, by decide, Try.func63.trans (congrArg some (by kernel_rfl))⟩
  f14 := ⟨Try.f66.name, by decide, Try.func66.trans (congrArg some (by kernel_rfl))⟩
  f15 := Try.func65.trans (congrArg some (by kernel_rfl))
  f20 := ⟨Try.f77.name, by decide, Try.func77.trans (congrArg some (by kernel_rfl))⟩
  f21 := ⟨Try.f78.name, by decide, Try.func78.trans (congrArg some (by kernel_rfl))⟩
  f22 := ⟨Try.f79.name, by decide, Try.func79.trans (congrArg some (by kernel_rfl))⟩
  f23 := ⟨Try.f80.name, by decide, Try.func80.trans (congrArg some (by kernel_rfl))⟩
  f24 := ⟨Try.f81.name, by decide, Try.func81.trans (congrArg some (by kernel_rfl))⟩
  f25 := ⟨Try.f82.name, by decide, Try.func82.trans (congrArg some (by kernel_rfl))⟩
  f26 := ⟨Try.f83.name, by decide, Try.func83.trans (congrArg some (by kernel_rfl))⟩
  f27 := ⟨Try.f84.name, by decide, Try.func84.trans (congrArg some (by kernel_rfl))⟩
  f28 := Try.func75.trans (congrArg some (by kernel_rfl))
  f29 := Try.func76.trans (congrArg some (by kernel_rfl))
  f46 := ⟨Try.f90.name, by decide, Try.func90.trans (congrArg some (by kernel_rfl))⟩
  f47 := Try.func86.trans (congrArg some (by kernel_rfl))
  f48 := Try.func87.trans (congrArg some (by kernel_rfl))
  f49 := ⟨Try.f91.name, by decide, Try.func91.trans (congrArg some (by kernel_rfl))⟩
  f50 := ⟨Try.f92.name, by decide, Try.func92.trans (congrArg some (by kernel_rfl))⟩
  f57 := ⟨Try.f94.name, by decide, Try.func94.trans (congrArg some (by kernel_rfl))⟩
  t0 := Try.underlying0
  a0 := Try.isAgg0
  z0 := Try.sizeOf0
  v0 := Try.zeroValue0
  t3 := Try.underlying3
  a3 := Try.isAgg3
  z3 := Try.sizeOf3
  v3 := Try.zeroValue3
  t4 := Try.underlying4
  a4 := Try.isAgg4
  z4 := Try.sizeOf4
  v4 := Try.zeroValue4
  t5 := Try.underlying5
  a5 := Try.isAgg5
  z5 := Try.sizeOf5
  v5 := Try.zeroValue5
  t9 := Try.underlying9
  a9 := Try.isAgg9
  z9 := Try.sizeOf9
  v9 := Try.zeroValue9
  t22 := Try.underlying29
  a22 := Try.isAgg29
  z22 := Try.sizeOf29
  v22 := Try.zeroValue29
  t25 := Try.underlying87
  a25 := Try.isAgg87
  z25 := Try.sizeOf87
  v25 := Try.zeroValue87
  t39 := Try.underlying96
  a39 := Try.isAgg96
  z39 := Try.sizeOf96
  v39 := Try.zeroValue96
  t45 := Try.underlying99
  a45 := Try.isAgg99
  z45 := Try.sizeOf99
  v45 := Try.zeroValue99
  t46 := Try.underlying100
  a46 := Try.isAgg100
  z46 := Try.sizeOf100
  v46 := Try.zeroValue100
  t50 := Try.underlying39
  a50 := Try.isAgg39
  z50 := Try.sizeOf39
  v50 := Try.zeroValue39
  t53 := Try.underlying106
  a53 := Try.isAgg106
  z53 := Try.sizeOf106
  v53 := Try.zeroValue106
  t55 := Try.underlying108
  a55 := Try.isAgg108
  z55 := Try.sizeOf108
  v55 := Try.zeroValue108
  t66 := Try.underlying114
  a66 := Try.isAgg114
  z66 := Try.sizeOf114
  v66 := Try.zeroValue114
  t70 := Try.underlying118
  a70 := Try.isAgg118
  z70 := Try.sizeOf118
  v70 := Try.zeroValue118
  t76 := Try.underlying122
  a76 := Try.isAgg122
  z76 := Try.sizeOf122
  v76 := Try.zeroValue122
  t77 := Try.underlying123
  a77 := Try.isAgg123
  z77 := Try.sizeOf123
  v77 := Try.zeroValue123 }
def Try.sortI_ren : Go.Shelf.Ren := ⟨fun | 6 => 60 | 15 => 65 | 14 => 64 | 28 => 75 | 29 => 76 | 20 => 67 | 21 => 68 | 22 => 69 | 23 => 70 | 24 => 71 | 25 => 72 | 26 => 73 | 27 => 74 | 46 => 85 | 47 => 86 | 48 => 87 | 49 => 88 | 50 => 89 | 57 => 93 | n => n, fun | 22 => 47 | 24 => 3 | 25 => 46 | 3 => 3 | 39 => 96 | 0 => 0 | 53 => 106 | 55 => 108 | 4 => 4 | 46 => 100 | 45 => 99 | 50 => 39 | 5 => 5 | 9 => 9 | 66 => 114 | 70 => 118 | 76 => 122 | 77 => 123 | n => n, fun | n => n⟩
theorem Try.sortI : Go.Proofs.SlLaysF.n6 Try.prog Try.sortI_ren := {
  mixed := by kernel_rfl
  f6 := ⟨Try.f60.name, by decide, Try.func60.trans (congrArg some (by kernel_rfl))⟩
  f14 := ⟨Try.f64.name, by decide, Try.func64.trans (congrArg some (by kernel_rfl))⟩
  f15 := Try.func65.trans (congrArg some (by kernel_rfl))
  f20 := ⟨Try.f67.name, by decide, Try.func67.trans (congrArg some (by kernel_rfl))⟩
  f21 := ⟨Try.f68.name, by decide, Try.func68.trans (congrArg some (by kernel_rfl))⟩
  f22 := ⟨Try.f69.name, by decide, Try.func69.trans (congrArg some (by kernel_rfl))⟩
  f23 := ⟨Try.f70.name, by decide, Try.func70.trans (congrArg some (by kernel_rfl))⟩
  f24 := ⟨Try.f71.name, by decide, Try.func71.trans (congrArg some (by kernel_rfl))⟩
  f25 := ⟨Try.f72.name, by decide, Try.func72.trans (congrArg some (by kernel_rfl))⟩
  f26 := ⟨Try.f73.name, by decide, Try.func73.trans (congrArg some (by kernel_rfl))⟩
  f27 := ⟨Try.f74.name, by decide, Try.func74.trans (congrArg some (by kernel_rfl))⟩
  f28 := Try.func75.trans (congrArg some (by kernel_rfl))
  f29 := Try.func76.trans (congrArg some (by kernel_rfl))
  f46 := ⟨Try.f85.name, by decide, Try.func85.trans (congrArg some (by kernel_rfl))⟩
  f47 := Try.func86.trans (congrArg some (by kernel_rfl))
  f48 := Try.func87.trans (congrArg some (by kernel_rfl))
  f49 := ⟨Try.f88.name, by decide, Try.func88.trans (congrArg some (by kernel_rfl))⟩
  f50 := ⟨Try.f89.name, by decide, Try.func89.trans (congrArg some (by kernel_rfl))⟩
  f57 := ⟨Try.f93.name, by decide, Try.func93.trans (congrArg some (by kernel_rfl))⟩
  t0 := Try.underlying0
  a0 := Try.isAgg0
  z0 := Try.sizeOf0
  v0 := Try.zeroValue0
  t3 := Try.underlying3
  a3 := Try.isAgg3
  z3 := Try.sizeOf3
  v3 := Try.zeroValue3
  t4 := Try.underlying4
  a4 := Try.isAgg4
  z4 := Try.sizeOf4
  v4 := Try.zeroValue4
  t5 := Try.underlying5
  a5 := Try.isAgg5
  z5 := Try.sizeOf5
  v5 := Try.zeroValue5
  t9 := Try.underlying9
  a9 := Try.isAgg9
  z9 := Try.sizeOf9
  v9 := Try.zeroValue9
  t22 := Try.underlying47
  a22 := Try.isAgg47
  z22 := Try.sizeOf47
  v22 := Try.zeroValue47
  a24 := Try.isAgg3
  z24 := Try.sizeOf3
  t25 := Try.underlying46
  a25 := Try.isAgg46
  z25 := Try.sizeOf46
  v25 := Try.zeroValue46
  t39 := Try.underlying96
  a39 := Try.isAgg96
  z39 := Try.sizeOf96
  v39 := Try.zeroValue96
  t45 := Try.underlying99
  a45 := Try.isAgg99
  z45 := Try.sizeOf99
  v45 := Try.zeroValue99
  t46 := Try.underlying100
  a46 := Try.isAgg100
  z46 := Try.sizeOf100
  v46 := Try.zeroValue100
  t50 := Try.underlying39
  a50 := Try.isAgg39
  z50 := Try.sizeOf39
  v50 := Try.zeroValue39
  t53 := Try.underlying106
  a53 := Try.isAgg106
  z53 := Try.sizeOf106
  v53 := Try.zeroValue106
  t55 := Try.underlying108
  a55 := Try.isAgg108
  z55 := Try.sizeOf108
  v55 := Try.zeroValue108
  t66 := Try.underlying114
  a66 := Try.isAgg114
  z66 := Try.sizeOf114
  v66 := Try.zeroValue114
  t70 := Try.underlying118
  a70 := Try.isAgg118
  z70 := Try.sizeOf118
  v70 := Try.zeroValue118
  t76 := Try.underlying122
  a76 := Try.isAgg122
  z76 := Try.sizeOf122
  v76 := Try.zeroValue122
  t77 := Try.underlying123
  a77 := Try.isAgg123
  z77 := Try.sizeOf123
  v77 := Try.zeroValue123 }
def Try.sortI0_ren : Go.Shelf.Ren := ⟨fun | 6 => 60 | 15 => 65 | 14 => 64 | 28 => 75 | 29 => 76 | 20 => 67 | 21 => 68 | 22 => 69 | 23 => 70 | 24 => 71 | 25 => 72 | 26 => 73 | 27 => 74 | 46 => 85 | 47 => 86 | 48 => 87 | 49 => 88 | 50 => 89 | 57 => 93 | n => n, fun | 22 => 47 | 24 => 3 | 25 => 46 | 3 => 3 | 39 => 96 | 0 => 0 | 53 => 106 | 55 => 108 | 4 => 4 | 46 => 100 | 45 => 99 | 50 => 39 | 5 => 5 | 9 => 9 | 66 => 114 | 70 => 118 | 76 => 122 | 77 => 123 | n => n, fun | n => n⟩
theorem Try.sortI0 : Go.Proofs.SlLaysF0.n6 Try.prog Try.sortI0_ren := {
  mixed := by kernel_rfl
  f6 := ⟨Try.f60.name, by decide, Try.func60.trans (congrArg some (by kernel_rfl))⟩
  f14 := ⟨Try.f64.name, by decide, Try.func64.trans (congrArg some (by kernel_rfl))⟩
  f15 := Try.func65.trans (congrArg some (by kernel_rfl))
  f20 := ⟨Try.f67.name, by decide, Try.func67.trans (congrArg some (by kernel_rfl))⟩
  f21 := ⟨Try.f68.name, by decide, Try.func68.trans (congrArg some (by kernel_rfl))⟩
  f22 := ⟨Try.f69.name, by decide, Try.func69.trans (congrArg some (by kernel_rfl))⟩
  f23 := ⟨Try.f70.name, by decide, Try.func70.trans (congrArg some (by kernel_rfl))⟩
  f24 := ⟨Try.f71.name, by decide, Try.func71.trans (congrArg some (by kernel_rfl))⟩
  f25 := ⟨Try.f72.name, by decide, Try.func72.trans (congrArg some (by kernel_rfl))⟩
  f26 := ⟨Try.f73.name, by decide, Try.func73.trans (congrArg some (by kernel_rfl))⟩
  f27 := ⟨Try.f74.name, by decide, Try.func74.trans (congrArg some (by kernel_rfl))⟩
  f28 := Try.func75.trans (congrArg some (by kernel_rfl))
  f29 := Try.func76.trans (congrArg some (by kernel_rfl))
  f46 := ⟨Try.f85.name, by decide, Try.func85.trans (congrArg some (by kernel_rfl))⟩
  f47 := Try.func86.trans (congrArg some (by kernel_rfl))
  f48 := Try.func87.trans (congrArg some (by kernel_rfl))
  f49 := ⟨Try.f88.name, by decide, Try.func88.trans (congrArg some (by kernel_rfl))⟩
  f50 := ⟨Try.f89.name, by decide, Try.func89.trans (congrArg some (by kernel_rfl))⟩
  f57 := ⟨Try.f93.name, by decide, Try.func93.trans (congrArg some (by kernel_rfl))⟩
  t0 := Try.underlying0
  a0 := Try.isAgg0
  z0 := Try.sizeOf0
  v0 := Try.zeroValue0
  t3 := Try.underlying3
  a3 := Try.isAgg3
  z3 := Try.sizeOf3
  v3 := Try.zeroValue3
  t4 := Try.underlying4
  a4 := Try.isAgg4
  z4 := Try.sizeOf4
  v4 := Try.zeroValue4
  t5 := Try.underlying5
  a5 := Try.isAgg5
  z5 := Try.sizeOf5
  v5 := Try.zeroValue5
  t9 := Try.underlying9
  a9 := Try.isAgg9
  z9 := Try.sizeOf9
  v9 := Try.zeroValue9
  t22 := Try.underlying47
  a22 := Try.isAgg47
  z22 := Try.sizeOf47
  v22 := Try.zeroValue47
  t25 := Try.underlying46
  a25 := Try.isAgg46
  z25 := Try.sizeOf46
  v25 := Try.zeroValue46
  t39 := Try.underlying96
  a39 := Try.isAgg96
  z39 := Try.sizeOf96
  v39 := Try.zeroValue96
  t45 := Try.underlying99
  a45 := Try.isAgg99
  z45 := Try.sizeOf99
  v45 := Try.zeroValue99
  t46 := Try.underlying100
  a46 := Try.isAgg100
  z46 := Try.sizeOf100
  v46 := Try.zeroValue100
  t50 := Try.underlying39
  a50 := Try.isAgg39
  z50 := Try.sizeOf39
  v50 := Try.zeroValue39
  t53 := Try.underlying106
  a53 := Try.isAgg106
  z53 := Try.sizeOf106
  v53 := Try.zeroValue106
  t55 := Try.underlying108
  a55 := Try.isAgg108
  z55 := Try.sizeOf108
  v55 := Try.zeroValue108
  t66 := Try.underlying114
  a66 := Try.isAgg114
  z66 := Try.sizeOf114
  v66 := Try.zeroValue114
  t70 := Try.underlying118
  a70 := Try.isAgg118
  z70 := Try.sizeOf118
  v70 := Try.zeroValue118
  t76 := Try.underlying122
  a76 := Try.isAgg122
  z76 := Try.sizeOf122
  v76 := Try.zeroValue122
  t77 := Try.underlying123
  a77 := Try.isAgg123
  z77 := Try.sizeOf123
  v77 := Try.zeroValue123 }
end Go.Proofs
namespace Go.Proofs.Ytcidmnpihffphaa
open Go Go.Eng Go.Shelf Go.RowKit Go.Lib Go.Sort
def cmpI (a b : Int) : Int := if a < b then -1 else if a > b then 1 else 0
def attCmp (x y : TAttempt) : Int := if cmpI x.At y.At = 0 then cmpI x.Caller y.Caller else cmpI x.At y.At
theorem cmpI_lt (x y : Int) : ltOf cmpI x y = decide (x < y) := by
  unfold ltOf cmpI
  by_cases h1 : x < y
  · simp [h1]
  · by_cases h2 : y < x <;> simp [h1, h2]
theorem attCmp_lt (x y : TAttempt) : ltOf attCmp x y = decide (x.At < y.At ∨ (x.At = y.At ∧ x.Caller < y.Caller)) := by
  unfold ltOf attCmp cmpI
  by_cases h1 : x.At < y.At
  · simp [h1]
  · by_cases h2 : y.At < x.At
    · have : x.At ≠ y.At := by omega
      simp [h1, h2, this]
    · have : x.At = y.At := by omega
      by_cases h3 : x.Caller < y.Caller
      · simp [this, h3]
      · by_cases h4 : y.Caller < x.Caller <;> simp [this, h3, h4]
theorem cmpI_swo : SWO (ltOf cmpI) where
  irrefl x := by rw [cmpI_lt]; simp
  trans x y z h1 h2 := by rw [cmpI_lt] at *; simp at *; omega
  ntrans x y z h1 h2 := by rw [cmpI_lt] at *; simp at *; omega
theorem attCmp_swo : SWO (ltOf attCmp) where
  irrefl x := by rw [attCmp_lt]; simp
  trans x y z h1 h2 := by rw [attCmp_lt] at *; simp at *; omega
  ntrans x y z h1 h2 := by rw [attCmp_lt] at *; simp at *; omega
def evAtt (x : TAttempt) : List Value := [.int .i64 x.Caller, .int .i64 x.At, .bool x.Urgent]
theorem cmpI_ok (a b : Int) : cmp_Compare_int_F a b = some (cmpI a b) := by
  unfold cmp_Compare_int_F cmp_isNaN_int_F cmpI
  simp only [cn_dec, bd_s, bne_self_eq_false, cn_f]
  by_cases h1 : a < b
  · simp [h1]
  · by_cases h2 : a > b <;> simp [h1, h2]
theorem or2_ok (x y : Int) : cmp_Or_int_F [x, y] = some (if x = 0 then y else x) := by
  unfold cmp_Or_int_F
  have h : ∃ o, lp (cmp_Or_int_b1 [x, y]) FU 0 = some o ∧ (o = .inr (if x = 0 then y else x) ∨ (x = 0 ∧ y = 0 ∧ ∃ s, o = .inl s)) := by
    refine lp_runF (fun s => s = 0 ∨ (s = 1 ∧ x = 0) ∨ (s = 2 ∧ x = 0 ∧ y = 0)) (fun s => (2 - s).toNat) (fun o => o = .inr (if x = 0 then y else x) ∨ (x = 0 ∧ y = 0 ∧ ∃ s, o = .inl s)) (fun s hs => ?_) 0 (.inl rfl) (by decide)
    unfold cmp_Or_int_b1
    rcases hs with rfl | ⟨rfl, hx⟩ | ⟨rfl, hx, hy⟩
    · rw [cn_dec, if_pos (by simp), ix_p (by decide) (by simp), cn_bne]
      by_cases hx : x = 0
      · left; exact ⟨1, by simp [hx]; decide, .inr (.inl ⟨rfl, hx⟩), by decide⟩
      · right; right; exact ⟨x, by simp [hx], .inl (by simp [hx])⟩
    · rw [cn_dec, if_pos (by simp), ix_p (by decide) (by simp), cn_bne]
      by_cases hy : y = 0
      · left; exact ⟨2, by simp [hy]; decide, .inr (.inr ⟨rfl, hx, hy⟩), by decide⟩
      · right; right; exact ⟨y, by simp [hy], .inl (by simp [hx])⟩
    · rw [cn_dec, if_neg (by simp)]
      right; left; exact ⟨2, rfl, .inr ⟨hx, hy, _, rfl⟩⟩
  obtain ⟨o, h1, rfl | ⟨hx, hy, s, rfl⟩⟩ := h
  · rw [h1, bd_s, smK_r]
  · rw [h1, bd_s, smK_l]; simp [hx, hy]
theorem attCmp_ok (x y : TAttempt) : recovery_ordered_1_F x y = some (attCmp x y) := by
  unfold recovery_ordered_1_F attCmp
  rw [cmpI_ok, bd_s, cmpI_ok, bd_s, lt_d, or2_ok, bd_s]
theorem sortA_ok {T : Tbl} (hT : TOk Try.prog T) (hpf : PfOk T PF) (h50 : T 50 = pureR cmp_Compare_int_S) (h55 : T 55 = pureR cmp_Or_int_S) : FOk Try.prog 63 (blkR 3 (sortS eTAttempt (· = []) (fun _ => attCmp) 54)) :=
  FOk_sortK Try.sortA rfl Try.isAgg58 Try.sizeOf58 eTAttempt evAtt (fun β x => by simp [ceE, cellsL, eTAttempt, AV.cells, evAtt, Vs, V, eI, eB]) (fun β x vs h => by
    simp only [ceE, cellsL, eTAttempt, AV.cells, Vs, V, eI, eB] at h
    obtain ⟨_, _, rfl, rfl, _, _, rfl, rfl, _, _, rfl, rfl, rfl⟩ := h; rfl) (fun _ => rfl) (by decide) (fun x v hv => by simp [evAtt] at hv; rcases hv with rfl | rfl | rfl <;> rfl) (fun _ => attCmp) (fun _ => attCmp_swo) 54
    (enters Try.func54 rfl rfl) (enters Try.func63 rfl rfl) (· = []) (fun caps hc => by
      subst hc
      exact CmpG_pure (recovery_ordered_1_ok hT hpf h50 h55) (enc := eTAttempt) (fun β x => by simp [eTAttempt, evAtt, Vs, V, eI, eB]) loose_nil fun x y => ⟨x, y, rfl, W_of (attCmp_ok x y) rfl⟩)
def evI (x : Int) : Value := .int .i64 x
theorem sortI_ok {T : Tbl} (hT : TOk Try.prog T) (hpf : PfOk T PF) (h61 : T 61 = pureR cmp_isNaN_int_S) : FOk Try.prog 60 (blkR 1 (sortS eI (· = []) (fun _ => cmpI) 50)) :=
  FOk_sort1 Try.sortI Try.sortI0 rfl rfl eI evI (fun β x => by simp [ceE, cellsL, AV.cells, evI, Vs, V, eI]) (fun β x vs h => by
    simp only [ceE, cellsL, AV.cells, Vs, V, eI] at h
    obtain ⟨_, _, rfl, rfl, rfl⟩ := h; rfl) (fun _ => rfl) (fun _ => cmpI) (fun _ => cmpI_swo) 50
    (enters Try.func50 rfl rfl) (enters Try.func60 rfl rfl) (· = []) (fun caps hc => by
      subst hc
      exact CmpG_pure (cmp_Compare_int_ok hT hpf h61) (enc := eI) (fun β x => by simp [evI, V, eI]) loose_nil fun x y => ⟨x, y, rfl, W_of (cmpI_ok x y) rfl⟩)
end Go.Proofs.Ytcidmnpihffphaa
namespace Go.Proofs.Ytcidmnpihffphaa
open Go Go.Eng
set_option maxHeartbeats 0
set_option maxRecDepth 100000
def recovery_sorted_int_50_F (a0 : List Int) : Option (List Int) := gd (a0.length ≤ 1048576) (lt a0 fun m1 => gd (m1.length < 4611686018427387904) (lt (sortF cmpI m1) fun m2 =>
    some m2))
def recovery_sorted_int_50_S : List AV → AV → Prop := fun args r => ∃ a0, args = [(eL 1 eI default) a0, .fn 50 [] []] ∧ W (recovery_sorted_int_50_F a0) fun y => r = ((eL 1 eI default) y)
theorem recovery_sorted_int_50_ok {T : Tbl} (hT : TOk Try.prog T) (hpf : PfOk T PF) (h59 : T 59 = cloneR 1 eI default) (h60 : T 60 = blkR 1 (sortS eI (· = []) (fun _ => cmpI) 50)) : FOk Try.prog 49 (pureR recovery_sorted_int_50_S) := by
  refine FOk_pure hT hpf Try.func49 rfl Try.ntmps49 Try.results49 (by decide) ?_
  rintro args r ⟨a0, rfl, h⟩
  refine ⟨nle rfl, ?_, ?_⟩
  · exact (loose_cons (loose_lst fun _ => (loose_int _ _)) (loose_cons (loose_fn loose_nil loose_nil) loose_nil))
  rw [recovery_sorted_int_50_F.eq_1] at h
  refine HT_fr DC_ok rfl fun K hK => ?_; (conv => whnf)
  refine hK _ _ _ ?_; clear hK K
  refine HT_fr DC_ok rfl fun K hK => ?_; (conv => whnf)
  refine gd_lk_u h fun hg h => ?_
  replace h := W_lt h
  refine callsK_clone h59 (WkL_cons (Wk.refl _) WkL_nil) hg ?_; (conv => whnf)
  refine hK _ _ _ ?_; clear hK K
  refine HT_fr DC_ok rfl fun K hK => ?_; (conv => whnf)
  refine gd_lk_u h fun hg h => ?_
  replace h := W_lt h
  refine callsK_blk h60 (WkL.refl _) rfl (⟨_, [], rfl, rfl, hg, rfl, rfl, rfl, rfl⟩) ?_; (conv => whnf)
  refine hK _ _ _ ?_; clear hK K
  refine HT_fr DC_ok rfl fun K hK => ?_; (conv => whnf)
  refine hK _ _ _ ?_; clear hK K
  refine HT_frzSK 4 (enc := eI) (e := 3) default (ElOk_one DC_ok rfl rfl rfl (fun _ => ⟨rfl, rfl⟩)) ?_; (conv => whnf); refine ⟨_, _, rfl, (sortF_len _ cmpI_swo _).symm, rfl, ?_⟩
  refine HT_ret ?_
  replace h := W_some h
  refine PostP_r DC_ok fun K hK => ?_; (conv => whnf)
  refine hK _ ?_; clear hK K
  cases h
  exact Wk.refl _
def recovery_sorted_int_S : List AV → AV → Prop := fun args r => recovery_sorted_int_50_S args r
theorem recovery_sorted_int_50_call {T : Tbl} (hT : T 49 = pureR recovery_sorted_int_S) {args : List AV} {hp : Heap} {id : Nat} {k : AV → Prop} {a0 : List Int} {Φ : List Int → Prop} (h : W (recovery_sorted_int_50_F a0) Φ) (hw : WkL args [(eL 1 eI default) a0, .fn 50 [] []]) (hk : ∀ y, Φ y → k ((eL 1 eI default) y)) : callpK T 49 args hp id k := by
  obtain ⟨y, e, hy⟩ := W_inv h
  exact callpK_pure hT ⟨a0, rfl, W_of e rfl⟩ (by exact (loose_lst fun _ => (loose_int _ _))) hw (hk y hy)
theorem recovery_sorted_int_ok {T : Tbl} (hT : TOk Try.prog T) (hpf : PfOk T PF) (h59 : T 59 = cloneR 1 eI default) (h60 : T 60 = blkR 1 (sortS eI (· = []) (fun _ => cmpI) 50)) : FOk Try.prog 49 (pureR recovery_sorted_int_S) := (recovery_sorted_int_50_ok hT hpf h59 h60)
def recovery_sorted_Attempt_54_F (a0 : List TAttempt) : Option (List TAttempt) := gd (a0.length ≤ 1048576) (lt a0 fun m1 =>
    gd (m1.length < 4611686018427387904) (lt (sortF attCmp m1) fun m2 => some m2))
def recovery_sorted_Attempt_54_S : List AV → AV → Prop := fun args r => ∃ a0, args = [(eL 3 eTAttempt default) a0, .fn 54 [] []] ∧ W (recovery_sorted_Attempt_54_F a0) fun y => r = ((eL 3 eTAttempt default) y)
theorem recovery_sorted_Attempt_54_ok {T : Tbl} (hT : TOk Try.prog T) (hpf : PfOk T PF) (h62 : T 62 = cloneR 3 eTAttempt default) (h63 : T 63 = blkR 3 (sortS eTAttempt (· = []) (fun _ => attCmp) 54)) : FOk Try.prog 53 (pureR recovery_sorted_Attempt_54_S) := by
  refine FOk_pure hT hpf Try.func53 rfl Try.ntmps53 Try.results53 (by decide) ?_
  rintro args r ⟨a0, rfl, h⟩
  refine ⟨nle rfl, ?_, ?_⟩
  · exact (loose_cons (loose_lst fun _ => (lo_TAttempt _)) (loose_cons (loose_fn loose_nil loose_nil) loose_nil))
  rw [recovery_sorted_Attempt_54_F.eq_1] at h
  refine HT_fr DC_ok rfl fun K hK => ?_; (conv => whnf)
  refine hK _ _ _ ?_; clear hK K
  refine HT_fr DC_ok rfl fun K hK => ?_; (conv => whnf)
  refine gd_lk_u h fun hg h => ?_
  replace h := W_lt h
  refine callsK_clone h62 (WkL_cons (Wk.refl _) WkL_nil) hg ?_; (conv => whnf)
  refine hK _ _ _ ?_; clear hK K
  refine HT_fr DC_ok rfl fun K hK => ?_; (conv => whnf)
  refine gd_lk_u h fun hg h => ?_
  replace h := W_lt h
  refine callsK_blk h63 (WkL.refl _) rfl (⟨_, [], rfl, rfl, hg, rfl, rfl, rfl, rfl⟩) ?_; (conv => whnf)
  refine hK _ _ _ ?_; clear hK K
  refine HT_fr DC_ok rfl fun K hK => ?_; (conv => whnf)
  refine hK _ _ _ ?_; clear hK K
  refine HT_frzSK 4 (enc := eTAttempt) (e := 58) default (ElOk_agg DC_ok rfl rfl (fun _ => rfl) (fun _ => rfl)) ?_; (conv => whnf); refine ⟨_, _, rfl, (sortF_len _ attCmp_swo _).symm, rfl, ?_⟩
  refine HT_ret ?_
  replace h := W_some h
  refine PostP_r DC_ok fun K hK => ?_; (conv => whnf)
  refine hK _ ?_; clear hK K
  cases h
  exact Wk.refl _
def recovery_sorted_Attempt_S : List AV → AV → Prop := fun args r => recovery_sorted_Attempt_54_S args r
theorem recovery_sorted_Attempt_54_call {T : Tbl} (hT : T 53 = pureR recovery_sorted_Attempt_S) {args : List AV} {hp : Heap} {id : Nat} {k : AV → Prop} {a0 : List TAttempt} {Φ : List TAttempt → Prop} (h : W (recovery_sorted_Attempt_54_F a0) Φ) (hw : WkL args [(eL 3 eTAttempt default) a0, .fn 54 [] []]) (hk : ∀ y, Φ y → k ((eL 3 eTAttempt default) y)) : callpK T 53 args hp id k := by
  obtain ⟨y, e, hy⟩ := W_inv h
  exact callpK_pure hT ⟨a0, rfl, W_of e rfl⟩ (by exact (loose_lst fun _ => (lo_TAttempt _))) hw (hk y hy)
theorem recovery_sorted_Attempt_ok {T : Tbl} (hT : TOk Try.prog T) (hpf : PfOk T PF) (h62 : T 62 = cloneR 3 eTAttempt default) (h63 : T 63 = blkR 3 (sortS eTAttempt (· = []) (fun _ => attCmp) 54)) : FOk Try.prog 53 (pureR recovery_sorted_Attempt_S) := (recovery_sorted_Attempt_54_ok hT hpf h62 h63)
def recovery_ordered_F (a0 : List TAttempt) : Option (List TAttempt) := bd (recovery_sorted_Attempt_54_F a0) fun y1 => some y1
def recovery_ordered_S : List AV → AV → Prop := fun args r => ∃ a0, args = [(eL 3 eTAttempt default) a0] ∧ W (recovery_ordered_F a0) fun y => r = ((eL 3 eTAttempt default) y)
theorem recovery_ordered_ok {T : Tbl} (hT : TOk Try.prog T) (hpf : PfOk T PF) (h53 : T 53 = pureR recovery_sorted_Attempt_S) : FOk Try.prog 41 (pureR recovery_ordered_S) := by
  refine FOk_pure hT hpf Try.func41 rfl Try.ntmps41 Try.results41 (by decide) ?_
  rintro args r ⟨a0, rfl, h⟩
  refine ⟨nle rfl, ?_, ?_⟩
  · exact (loose_cons (loose_lst fun _ => (lo_TAttempt _)) loose_nil)
  rw [recovery_ordered_F.eq_1] at h
  refine HT_fr DC_ok rfl fun K hK => ?_; (conv => whnf)
  refine hK _ _ _ ?_; clear hK K
  refine HT_fr DC_ok rfl fun K hK => ?_; (conv => whnf)
  replace h := W_bd h
  refine recovery_sorted_Attempt_54_call h53 h (WkL.refl _) (fun _ h => ?_); (conv => whnf)
  refine hK _ _ _ ?_; clear hK K
  refine HT_ret ?_
  replace h := W_some h
  refine PostP_r DC_ok fun K hK => ?_; (conv => whnf)
  refine hK _ ?_; clear hK K
  cases h
  exact Wk.refl _
theorem recovery_ordered_call {T : Tbl} (hT : T 41 = pureR recovery_ordered_S) {args : List AV} {hp : Heap} {id : Nat} {k : AV → Prop} {a0 : List TAttempt} {Φ : List TAttempt → Prop} (h : W (recovery_ordered_F a0) Φ) (hw : WkL args [(eL 3 eTAttempt default) a0]) (hk : ∀ y, Φ y → k ((eL 3 eTAttempt default) y)) : callpK T 41 args hp id k := by
  obtain ⟨y, e, hy⟩ := W_inv h
  exact callpK_pure hT ⟨a0, rfl, W_of e rfl⟩ (by exact (loose_lst fun _ => (lo_TAttempt _))) hw (hk y hy)
end Go.Proofs.Ytcidmnpihffphaa
