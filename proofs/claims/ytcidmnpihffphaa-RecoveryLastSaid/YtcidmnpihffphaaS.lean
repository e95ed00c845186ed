import Derived.Test.YtcidmnpihffphaaEngX
import Derived.Test.YtcidmnpihffphaaW4
import Derived.Test.YtcidmnpihffphaaEngP
import Derived.Test.YtcidmnpihffphaaQ
import Derived.Handy
namespace Go.Proofs
open Go.Shelf
def Try.sortA_ren : Go.Shelf.Ren := ⟨fun | 6 => 63 | 15 => 65 | 14 => 66 | 28 => 75 | 29 => 76 | 20 => 77 | 21 => 78 | 22 => 79 | 23 => 80 | 24 => 81 | 25 => 82 | 26 => 83 | 27 => 84 | 46 => 90 | 47 => 86 | 48 => 87 | 49 => 91 | 50 => 92 | 57 => 94 | n => n, fun | 22 => 29 | 24 => 58 | 25 => 87 | 3 => 3 | 39 => 96 | 0 => 0 | 53 => 106 | 55 => 108 | 4 => 4 | 46 => 100 | 45 => 99 | 50 => 39 | 5 => 5 | 9 => 9 | 66 => 114 | 70 => 118 | 76 => 122 | 77 => 123 | n => n, fun | n => n⟩
theorem Try.sortA : Go.Proofs.SlLaysF0.n6 Try.prog Try.sortA_ren := {
  mixed := by kernel_rfl
  f6 := ⟨Try.f63.name, by decide, Try.func63.trans (congrArg some (by kernel_rfl))⟩
  f14 := ⟨Try.f66.name, by decide, Try.func66.trans (congrArg some (by kernel_rfl))⟩
  f15 := Try.func65.trans (congrArg some (by kernel_rfl))
  f20 := ⟨Try.f77.name, by decide, Try.func77.trans (congrArg some (by kernel_rfl))⟩
  f21 := ⟨Try.f78.name, by decide, Try.func78.trans (congrArg some (by kernel_rfl))⟩
  f22 := ⟨Try.f79.name, by decide, Try.func79.trans (congrArg some (by kernel_rfl))⟩
  f23 := ⟨Try.f80.name, by decide, Try.func80.trans (congrArg some (by kernel_rfl))⟩
  f24 := ⟨Try.f81.name, by decide, Try.func81.trans (congrArg some (by kernel_rfl))⟩
  f25 := ⟨Try.f82.name, by decide, Try.func82.trans (congrArg some (by kernel_rfl))⟩
  f26 := ⟨Try.f83.name, by decide, Try.func83.trans (congrArg some (by kernel_rfl))⟩
  f27 := ⟨Try.f84.name, by decide, Try.func84.trans (congrArg some (by kernel_rfl))⟩
  f28 := Try.func75.trans (congrArg some (by kernel_rfl))
  f29 := Try.func76.trans (congrArg some (by kernel_rfl))
  f46 := ⟨Try.f90.name, by decide, Try.func90.trans (congrArg some (by kernel_rfl))⟩
  f47 := Try.func86.trans (congrArg some (by kernel_rfl))
  f48 := Try.func87.trans (congrArg some (by kernel_rfl))
  f49 := ⟨Try.f91.name, by decide, Try.func91.trans (congrArg some (by kernel_rfl))⟩
  f50 := ⟨Try.f92.name, by decide, Try.func92.trans (congrArg some (by kernel_rfl))⟩
  f57 := ⟨Try.f94.name, by decide, Try.func94.trans (congrArg some (by kernel_rfl))⟩
  t0 := Try.underlying0
  a0 := Try.isAgg0
  z0 := Try.sizeOf0
  v0 := Try.zeroValue0
  t3 := Try.underlying3
  a3 := Try.isAgg3
  z3 := Try.sizeOf3
  v3 := Try.zeroValue3
  t4 := Try.underlying4
  a4 := Try.isAgg4
  z4 := Try.sizeOf4
  v4 := Try.zeroValue4
  t5 := Try.underlying5
  a5 := Try.isAgg5
  z5 := Try.sizeOf5
  v5 := Try.zeroValue5
  t9 := Try.underlying9
  a9 := Try.isAgg9
  z9 := Try.sizeOf9
  v9 := Try.zeroValue9
  t22 := Try.underlying29
  a22 := Try.isAgg29
  z22 := Try.sizeOf29
  v22 := Try.zeroValue29
  t25 := Try.underlying87
  a25 := Try.isAgg87
  z25 := Try.sizeOf87
  v25 := Try.zeroValue87
  t39 := Try.underlying96
  a39 := Try.isAgg96
  z39 := Try.sizeOf96
  v39 := Try.zeroValue96
  t45 := Try.underlying99
  a45 := Try.isAgg99
  z45 := Try.sizeOf99
  v45 := Try.zeroValue99
  t46 := Try.underlying100
  a46 := Try.isAgg100
  z46 := Try.sizeOf100
  v46 := Try.zeroValue100
  t50 := Try.underlying39
  a50 := Try.isAgg39
  z50 := Try.sizeOf39
  v50 := Try.zeroValue39
  t53 := Try.underlying106
  a53 := Try.isAgg106
  z53 := Try.sizeOf106
  v53 := Try.zeroValue106
  t55 := Try.underlying108
  a55 := Try.isAgg108
  z55 := Try.sizeOf108
  v55 := Try.zeroValue108
  t66 := Try.underlying114
  a66 := Try.isAgg114
  z66 := Try.sizeOf114
  v66 := Try.zeroValue114
  t70 := Try.underlying118
  a70 := Try.isAgg118
  z70 := Try.sizeOf118
  v70 := Try.zeroValue118
  t76 := Try.underlying122
  a76 := Try.isAgg122
  z76 := Try.sizeOf122
  v76 := Try.zeroValue122
  t77 := Try.underlying123
  a77 := Try.isAgg123
  z77 := Try.sizeOf123
  v77 := Try.zeroValue123 }
def Try.sortI_ren : Go.Shelf.Ren := ⟨fun | 6 => 60 | 15 => 65 | 14 => 64 | 28 => 75 | 29 => 76 | 20 => 67 | 21 => 68 | 22 => 69 | 23 => 70 | 24 => 71 | 25 => 72 | 26 => 73 | 27 => 74 | 46 => 85 | 47 => 86 | 48 => 87 | 49 => 88 | 50 => 89 | 57 => 93 | n => n, fun | 22 => 47 | 24 => 3 | 25 => 46 | 3 => 3 | 39 => 96 | 0 => 0 | 53 => 106 | 55 => 108 | 4 => 4 | 46 => 100 | 45 => 99 | 50 => 39 | 5 => 5 | 9 => 9 | 66 => 114 | 70 => 118 | 76 => 122 | 77 => 123 | n => n, fun | n => n⟩
theorem Try.sortI : Go.Proofs.SlLaysF.n6 Try.prog Try.sortI_ren := {
  mixed := by kernel_rfl
  f6 := ⟨Try.f60.name, by decide, Try.func60.trans (congrArg some (by kernel_rfl))⟩
  f14 := ⟨Try.f64.name, by decide, Try.func64.trans (congrArg some (by kernel_rfl))⟩
  f15 := Try.func65.trans (congrArg some (by kernel_rfl))
  f20 := ⟨Try.f67.name, by decide, Try.func67.trans (congrArg some (by kernel_rfl))⟩
  f21 := ⟨Try.f68.name, by decide, Try.func68.trans (congrArg some (by kernel_rfl))⟩
  f22 := ⟨Try.f69.name, by decide, Try.func69.trans (congrArg some (by kernel_rfl))⟩
  f23 := ⟨Try.f70.name, by decide, Try.func70.trans (congrArg some (by kernel_rfl))⟩
  f24 := ⟨Try.f71.name, by decide, Try.func71.trans (congrArg some (by kernel_rfl))⟩
  f25 := ⟨Try.f72.name, by decide, Try.func72.trans (congrArg some (by kernel_rfl))⟩
  f26 := ⟨Try.f73.name, by decide, Try.func73.trans (congrArg some (by kernel_rfl))⟩
  f27 := ⟨Try.f74.name, by decide, Try.func74.trans (congrArg some (by kernel_rfl))⟩
  f28 := Try.func75.trans (congrArg some (by kernel_rfl))
  f29 := Try.func76.trans (congrArg some (by kernel_rfl))
  f46 := ⟨Try.f85.name, by decide, Try.func85.trans (congrArg some (by kernel_rfl))⟩
  f47 := Try.func86.trans (congrArg some (by kernel_rfl))
  f48 := Try.func87.trans (congrArg some (by kernel_rfl))
  f49 := ⟨Try.f88.name, by decide, Try.func88.trans (congrArg some (by kernel_rfl))⟩
  f50 := ⟨Try.f89.name, by decide, Try.func89.trans (congrArg some (by kernel_rfl))⟩
  f57 := ⟨Try.f93.name, by decide, Try.func93.trans (congrArg some (by kernel_rfl))⟩
  t0 := Try.underlying0
  a0 := Try.isAgg0
  z0 := Try.sizeOf0
  v0 := Try.zeroValue0
  t3 := Try.underlying3
  a3 := Try.isAgg3
  z3 := Try.sizeOf3
  v3 := Try.zeroValue3
  t4 := Try.underlying4
  a4 := Try.isAgg4
  z4 := Try.sizeOf4
  v4 := Try.zeroValue4
  t5 := Try.underlying5
  a5 := Try.isAgg5
  z5 := Try.sizeOf5
  v5 := Try.zeroValue5
  t9 := Try.underlying9
  a9 := Try.isAgg9
  z9 := Try.sizeOf9
  v9 := Try.zeroValue9
  t22 := Try.underlying47
  a22 := Try.isAgg47
  z22 := Try.sizeOf47
  v22 := Try.zeroValue47
  a24 := Try.isAgg3
  z24 := Try.sizeOf3
  t25 := Try.underlying46
  a25 := Try.isAgg46
  z25 := Try.sizeOf46
  v25 := Try.zeroValue46
  t39 := Try.underlying96
  a39 := Try.isAgg96
  z39 := Try.sizeOf96
  v39 := Try.zeroValue96
  t45 := Try.underlying99
  a45 := Try.isAgg99
  z45 := Try.sizeOf99
  v45 := Try.zeroValue99
  t46 := Try.underlying100
  a46 := Try.isAgg100
  z46 := Try.sizeOf100
  v46 := Try.zeroValue100
  t50 := Try.underlying39
  a50 := Try.isAgg39
  z50 := Try.sizeOf39
  v50 := Try.zeroValue39
  t53 := Try.underlying106
  a53 := Try.isAgg106
  z53 := Try.sizeOf106
  v53 := Try.zeroValue106
  t55 := Try.underlying108
  a55 := Try.isAgg108
  z55 := Try.sizeOf108
  v55 := Try.zeroValue108
  t66 := Try.underlying114
  a66 := Try.isAgg114
  z66 := Try.sizeOf114
  v66 := Try.zeroValue114
  t70 := Try.underlying118
  a70 := Try.isAgg118
  z70 := Try.sizeOf118
  v70 := Try.zeroValue118
  t76 := Try.underlying122
  a76 := Try.isAgg122
  z76 := Try.sizeOf122
  v76 := Try.zeroValue122
  t77 := Try.underlying123
  a77 := Try.isAgg123
  z77 := Try.sizeOf123
  v77 := Try.zeroValue123 }
def Try.sortI0_ren : Go.Shelf.Ren := ⟨fun | 6 => 60 | 15 => 65 | 14 => 64 | 28 => 75 | 29 => 76 | 20 => 67 | 21 => 68 | 22 => 69 | 23 => 70 | 24 => 71 | 25 => 72 | 26 => 73 | 27 => 74 | 46 => 85 | 47 => 86 | 48 => 87 | 49 => 88 | 50 => 89 | 57 => 93 | n => n, fun | 22 => 47 | 24 => 3 | 25 => 46 | 3 => 3 | 39 => 96 | 0 => 0 | 53 => 106 | 55 => 108 | 4 => 4 | 46 => 100 | 45 => 99 | 50 => 39 | 5 => 5 | 9 => 9 | 66 => 114 | 70 => 118 | 76 => 122 | 77 => 123 | n => n, fun | n => n⟩
theorem Try.sortI0 : Go.Proofs.SlLaysF0.n6 Try.prog Try.sortI0_ren := {
  mixed := by kernel_rfl
  f6 := ⟨Try.f60.name, by decide, Try.func60.trans (congrArg some (by kernel_rfl))⟩
  f14 := ⟨Try.f64.name, by decide, Try.func64.trans (congrArg some (by kernel_rfl))⟩
  f15 := Try.func65.trans (congrArg some (by kernel_rfl))
  f20 := ⟨Try.f67.name, by decide, Try.func67.trans (congrArg some (by kernel_rfl))⟩
  f21 := ⟨Try.f68.name, by decide, Try.func68.trans (congrArg some (by kernel_rfl))⟩
  f22 := ⟨Try.f69.name, by decide, Try.func69.trans (congrArg some (by kernel_rfl))⟩
  f23 := ⟨Try.f70.name, by decide, Try.func70.trans (congrArg some (by kernel_rfl))⟩
  f24 := ⟨Try.f71.name, by decide, Try.func71.trans (congrArg some (by kernel_rfl))⟩
  f25 := ⟨Try.f72.name, by decide, Try.func72.trans (congrArg some (by kernel_rfl))⟩
  f26 := ⟨Try.f73.name, by decide, Try.func73.trans (congrArg some (by kernel_rfl))⟩
  f27 := ⟨Try.f74.name, by decide, Try.func74.trans (congrArg some (by kernel_rfl))⟩
  f28 := Try.func75.trans (congrArg some (by kernel_rfl))
  f29 := Try.func76.trans (congrArg some (by kernel_rfl))
  f46 := ⟨Try.f85.name, by decide, Try.func85.trans (congrArg some (by kernel_rfl))⟩
  f47 := Try.func86.trans (congrArg some (by kernel_rfl))
  f48 := Try.func87.trans (congrArg some (by kernel_rfl))
  f49 := ⟨Try.f88.name, by decide, Try.func88.trans (congrArg some (by kernel_rfl))⟩
  f50 := ⟨Try.f89.name, by decide, Try.func89.trans (congrArg some (by kernel_rfl))⟩
  f57 := ⟨Try.f93.name, by decide, Try.func93.trans (congrArg some (by kernel_rfl))⟩
  t0 := Try.underlying0
  a0 := Try.isAgg0
  z0 := Try.sizeOf0
  v0 := Try.zeroValue0
  t3 := Try.underlying3
  a3 := Try.isAgg3
  z3 := Try.sizeOf3
  v3 := Try.zeroValue3
  t4 := Try.underlying4
  a4 := Try.isAgg4
  z4 := Try.sizeOf4
  v4 := Try.zeroValue4
  t5 := Try.underlying5
  a5 := Try.isAgg5
  z5 := Try.sizeOf5
  v5 := Try.zeroValue5
  t9 := Try.underlying9
  a9 := Try.isAgg9
  z9 := Try.sizeOf9
  v9 := Try.zeroValue9
  t22 := Try.underlying47
  a22 := Try.isAgg47
  z22 := Try.sizeOf47
  v22 := Try.zeroValue47
  t25 := Try.underlying46
  a25 := Try.isAgg46
  z25 := Try.sizeOf46
  v25 := Try.zeroValue46
  t39 := Try.underlying96
  a39 := Try.isAgg96
  z39 := Try.sizeOf96
  v39 := Try.zeroValue96
  t45 := Try.underlying99
  a45 := Try.isAgg99
  z45 := Try.sizeOf99
  v45 := Try.zeroValue99
  t46 := Try.underlying100
  a46 := Try.isAgg100
  z46 := Try.sizeOf100
  v46 := Try.zeroValue100
  t50 := Try.underlying39
  a50 := Try.isAgg39
  z50 := Try.sizeOf39
  v50 := Try.zeroValue39
  t53 := Try.underlying106
  a53 := Try.isAgg106
  z53 := Try.sizeOf106
  v53 := Try.zeroValue106
  t55 := Try.underlying108
  a55 := Try.isAgg108
  z55 := Try.sizeOf108
  v55 := Try.zeroValue108
  t66 := Try.underlying114
  a66 := Try.isAgg114
  z66 := Try.sizeOf114
  v66 := Try.zeroValue114
  t70 := Try.underlying118
  a70 := Try.isAgg118
  z70 := Try.sizeOf118
  v70 := Try.zeroValue118
  t76 := Try.underlying122
  a76 := Try.isAgg122
  z76 := Try.sizeOf122
  v76 := Try.zeroValue122
  t77 := Try.underlying123
  a77 := Try.isAgg123
  z77 := Try.sizeOf123
  v77 := Try.zeroValue123 }
end Go.Proofs
namespace Go.Proofs.Ytcidmnpihffphaa
open Go Go.Eng Go.Shelf Go.RowKit Go.Lib Go.Sort
def cmpI (a b : Int) : Int := if a < b then -1 else if a > b then 1 else 0
/-- The order of attempts. -/
def attCmp (x y : TAttempt) : Int := if cmpI x.At y.At = 0 then cmpI x.Caller y.Caller else cmpI x.At y.At
theorem cmpI_lt (x y : Int) : ltOf cmpI x y = decide (x < y) := by
  unfold ltOf cmpI
  by_cases h1 : x < y
  · simp [h1]
  · by_cases h2 : y < x <;> simp [h1, h2]
theorem attCmp_lt (x y : TAttempt) : ltOf attCmp x y = decide (x.At < y.At ∨ (x.At = y.At ∧ x.Caller < y.Caller)) := by
  unfold ltOf attCmp cmpI
  by_cases h1 : x.At < y.At
  · simp [h1]
  · by_cases h2 : y.At < x.At
    · have : x.At ≠ y.At := by omega
      simp [h1, h2, this]
    · have : x.At = y.At := by omega
      by_cases h3 : x.Caller < y.Caller
      · simp [this, h3]
      · by_cases h4 : y.Caller < x.Caller <;> simp [this, h3, h4]
theorem cmpI_swo : SWO (ltOf cmpI) where
  irrefl x := by rw [cmpI_lt]; simp
  trans x y z h1 h2 := by rw [cmpI_lt] at *; simp at *; omega
  ntrans x y z h1 h2 := by rw [cmpI_lt] at *; simp at *; omega
theorem attCmp_swo : SWO (ltOf attCmp) where
  irrefl x := by rw [attCmp_lt]; simp
  trans x y z h1 h2 := by rw [attCmp_lt] at *; simp at *; omega
  ntrans x y z h1 h2 := by rw [attCmp_lt] at *; simp at *; omega
def evAtt (x : TAttempt) : List Value := [.int .i64 x.Caller, .int .i64 x.At, .bool x.Urgent]
theorem cmpI_ok (a b : Int) : cmp_Compare_int_F a b = some (cmpI a b) := by
  unfold cmp_Compare_int_F cmp_isNaN_int_F cmpI
  simp only [cn_dec, bd_s, bne_self_eq_false, cn_f]
  by_cases h1 : a < b
  · simp [h1]
  · by_cases h2 : a > b <;> simp [h1, h2]
theorem or2_ok (x y : Int) : cmp_Or_int_F [x, y] = some (if x = 0 then y else x) := by
  unfold cmp_Or_int_F
  have h : ∃ o, lp (cmp_Or_int_b1 [x, y]) FU 0 = some o ∧ (o = .inr (if x = 0 then y else x) ∨ (x = 0 ∧ y = 0 ∧ ∃ s, o = .inl s)) := by
    refine lp_runF (fun s => s = 0 ∨ (s = 1 ∧ x = 0) ∨ (s = 2 ∧ x = 0 ∧ y = 0)) (fun s => (2 - s).toNat) (fun o => o = .inr (if x = 0 then y else x) ∨ (x = 0 ∧ y = 0 ∧ ∃ s, o = .inl s)) (fun s hs => ?_) 0 (.inl rfl) (by decide)
    unfold cmp_Or_int_b1
    rcases hs with rfl | ⟨rfl, hx⟩ | ⟨rfl, hx, hy⟩
    · rw [cn_dec, if_pos (by simp), ix_p (by decide) (by simp), cn_bne]
      by_cases hx : x = 0
      · left; exact ⟨1, by simp [hx]; decide, .inr (.inl ⟨rfl, hx⟩), by decide⟩
      · right; right; exact ⟨x, by simp [hx], .inl (by simp [hx])⟩
    · rw [cn_dec, if_pos (by simp), ix_p (by decide) (by simp), cn_bne]
      by_cases hy : y = 0
      · left; exact ⟨2, by simp [hy]; decide, .inr (.inr ⟨rfl, hx, hy⟩), by decide⟩
      · right; right; exact ⟨y, by simp [hy], .inl (by simp [hx])⟩
    · rw [cn_dec, if_neg (by simp)]
      right; left; exact ⟨2, rfl, .inr ⟨hx, hy, _, rfl⟩⟩
  obtain ⟨o, h1, rfl | ⟨hx, hy, s, rfl⟩⟩ := h
  · rw [h1, bd_s, smK_r]
  · rw [h1, bd_s, smK_l]; simp [hx, hy]
theorem attCmp_ok (x y : TAttempt) : recovery_ordered_1_F x y = some (attCmp x y) := by
  unfold recovery_ordered_1_F attCmp
  rw [cmpI_ok, bd_s, cmpI_ok, bd_s, lt_d, or2_ok, bd_s]
theorem sortA_ok {T : Tbl} (hT : TOk Try.prog T) (hpf : PfOk T PF) (h50 : T 50 = pureR cmp_Compare_int_S) (h55 : T 55 = pureR cmp_Or_int_S) : FOk Try.prog 63 (blkR 3 (sortS eTAttempt (· = []) (fun _ => attCmp) 54)) :=
  FOk_sortK Try.sortA rfl Try.isAgg58 Try.sizeOf58 eTAttempt evAtt (fun β x => by simp [ceE, cellsL, eTAttempt, AV.cells, evAtt, Vs, V, eI, eB]) (fun β x vs h => by
    simp only [ceE, cellsL, eTAttempt, AV.cells, Vs, V, eI, eB] at h
    obtain ⟨_, _, rfl, rfl, _, _, rfl, rfl, _, _, rfl, rfl, rfl⟩ := h; rfl) (fun _ => rfl) (by decide) (fun x v hv => by simp [evAtt] at hv; rcases hv with rfl | rfl | rfl <;> rfl) (fun _ => attCmp) (fun _ => attCmp_swo) 54
    (enters Try.func54 rfl rfl) (enters Try.func63 rfl rfl) (· = []) (fun caps hc => by
      subst hc
      exact CmpG_pure (recovery_ordered_1_ok hT hpf h50 h55) (enc := eTAttempt) (fun β x => by simp [eTAttempt, evAtt, Vs, V, eI, eB]) loose_nil fun x y => ⟨x, y, rfl, W_of (attCmp_ok x y) rfl⟩)
def evI (x : Int) : Value := .int .i64 x
theorem sortI_ok {T : Tbl} (hT : TOk Try.prog T) (hpf : PfOk T PF) (h61 : T 61 = pureR cmp_isNaN_int_S) : FOk Try.prog 60 (blkR 1 (sortS eI (· = []) (fun _ => cmpI) 50)) :=
  FOk_sort1 Try.sortI Try.sortI0 rfl rfl eI evI (fun β x => by simp [ceE, cellsL, AV.cells, evI, Vs, V, eI]) (fun β x vs h => by
    simp only [ceE, cellsL, AV.cells, Vs, V, eI] at h
    obtain ⟨_, _, rfl, rfl, rfl⟩ := h; rfl) (fun _ => rfl) (fun _ => cmpI) (fun _ => cmpI_swo) 50
    (enters Try.func50 rfl rfl) (enters Try.func60 rfl rfl) (· = []) (fun caps hc => by
      subst hc
      exact CmpG_pure (cmp_Compare_int_ok hT hpf h61) (enc := eI) (fun β x => by simp [evI, V, eI]) loose_nil fun x y => ⟨x, y, rfl, W_of (cmpI_ok x y) rfl⟩)
end Go.Proofs.Ytcidmnpihffphaa
