import Derived.Test.YthbonailomfjlaaEngX
import Derived.Test.YthbonailomfjlaaW7
import Derived.Test.YthbonailomfjlaaQ
import Derived.Handy
namespace Go.Proofs
open Go.Shelf
def Try.sortE_ren : Go.Shelf.Ren := ⟨fun | 6 => 31 | 15 => 43 | 14 => 42 | 28 => 54 | 29 => 55 | 20 => 46 | 21 => 47 | 22 => 48 | 23 => 49 | 24 => 50 | 25 => 51 | 26 => 52 | 27 => 53 | 46 => 56 | 47 => 57 | 48 => 58 | 49 => 59 | 50 => 60 | 57 => 61 | n => n, fun | 22 => 54 | 24 => 56 | 25 => 58 | 3 => 3 | 39 => 69 | 0 => 0 | 53 => 81 | 55 => 83 | 4 => 4 | 46 => 74 | 45 => 73 | 50 => 78 | 5 => 5 | 9 => 9 | 66 => 84 | 70 => 88 | 76 => 90 | 77 => 29 | n => n, fun | n => n⟩
theorem Try.sortE : Go.Proofs.SlLaysF0.n6 Try.prog Try.sortE_ren := {
  mixed := by kernel_rfl
  f6 := ⟨Try.f31.name, by decide, Try.func31.trans (congrArg some (by kernel_rfl))⟩
  f14 := ⟨Try.f42.name, by decide, Try.func42.trans (congrArg some (by kernel_rfl))⟩
  f15 := Try.func43.trans (congrArg some (by kernel_rfl))
  f20 := ⟨Try.f46.name, by decide, Try.func46.trans (congrArg some (by kernel_rfl))⟩
  f21 := ⟨Try.f47.name, by decide, Try.func47.trans (congrArg some (by kernel_rfl))⟩
  f22 := ⟨Try.f48.name, by decide, Try.func48.trans (congrArg some (by kernel_rfl))⟩
  f23 := ⟨Try.f49.name, by decide, Try.func49.trans (congrArg some (by kernel_rfl))⟩
  f24 := ⟨Try.f50.name, by decide, Try.func50.trans (congrArg some (by kernel_rfl))⟩
  f25 := ⟨Try.f51.name, by decide, Try.func51.trans (congrArg some (by kernel_rfl))⟩
  f26 := ⟨Try.f52.name, by decide, Try.func52.trans (congrArg some (by kernel_rfl))⟩
  f27 := ⟨Try.f53.name, by decide, Try.func53.trans (congrArg some (by kernel_rfl))⟩
  f28 := Try.func54.trans (congrArg some (by kernel_rfl))
  f29 := Try.func55.trans (congrArg some (by kernel_rfl))
  f46 := ⟨Try.f56.name, by decide, Try.func56.trans (congrArg some (by kernel_rfl))⟩
  f47 := Try.func57.trans (congrArg some (by kernel_rfl))
  f48 := Try.func58.trans (congrArg some (by kernel_rfl))
  f49 := ⟨Try.f59.name, by decide, Try.func59.trans (congrArg some (by kernel_rfl))⟩
  f50 := ⟨Try.f60.name, by decide, Try.func60.trans (congrArg some (by kernel_rfl))⟩
  f57 := ⟨Try.f61.name, by decide, Try.func61.trans (congrArg some (by kernel_rfl))⟩
  t0 := Try.underlying0
  a0 := Try.isAgg0
  z0 := Try.sizeOf0
  v0 := Try.zeroValue0
  t3 := Try.underlying3
  a3 := Try.isAgg3
  z3 := Try.sizeOf3
  v3 := Try.zeroValue3
  t4 := Try.underlying4
  a4 := Try.isAgg4
  z4 := Try.sizeOf4
  v4 := Try.zeroValue4
  t5 := Try.underlying5
  a5 := Try.isAgg5
  z5 := Try.sizeOf5
  v5 := Try.zeroValue5
  t9 := Try.underlying9
  a9 := Try.isAgg9
  z9 := Try.sizeOf9
  v9 := Try.zeroValue9
  t22 := Try.underlying54
  a22 := Try.isAgg54
  z22 := Try.sizeOf54
  v22 := Try.zeroValue54
  t25 := Try.underlying58
  a25 := Try.isAgg58
  z25 := Try.sizeOf58
  v25 := Try.zeroValue58
  t39 := Try.underlying69
  a39 := Try.isAgg69
  z39 := Try.sizeOf69
  v39 := Try.zeroValue69
  t45 := Try.underlying73
  a45 := Try.isAgg73
  z45 := Try.sizeOf73
  v45 := Try.zeroValue73
  t46 := Try.underlying74
  a46 := Try.isAgg74
  z46 := Try.sizeOf74
  v46 := Try.zeroValue74
  t50 := Try.underlying78
  a50 := Try.isAgg78
  z50 := Try.sizeOf78
  v50 := Try.zeroValue78
  t53 := Try.underlying81
  a53 := Try.isAgg81
  z53 := Try.sizeOf81
  v53 := Try.zeroValue81
  t55 := Try.underlying83
  a55 := Try.isAgg83
  z55 := Try.sizeOf83
  v55 := Try.zeroValue83
  t66 := Try.underlying84
  a66 := Try.isAgg84
  z66 := Try.sizeOf84
  v66 := Try.zeroValue84
  t70 := Try.underlying88
  a70 := Try.isAgg88
  z70 := Try.sizeOf88
  v70 := Try.zeroValue88
  t76 := Try.underlying90
  a76 := Try.isAgg90
  z76 := Try.sizeOf90
  v76 := Try.zeroValue90
  t77 := Try.underlying29
  a77 := Try.isAgg29
  z77 := Try.sizeOf29
  v77 := Try.zeroValue29 }
end Go.Proofs
namespace Go.Proofs.Ythbonailomfjlaa
open Go Go.Eng Go.Shelf Go.RowKit Go.Lib Go.Sort
/-- What 'cmp.Compare(a.at, b.at)' gives. -/
def edgeCmp (x y : TEdge) : Int := if x.at_f < y.at_f then -1 else if x.at_f > y.at_f then 1 else 0
theorem edgeCmp_lt (x y : TEdge) : ltOf edgeCmp x y = decide (x.at_f < y.at_f) := by
  unfold ltOf edgeCmp
  by_cases h1 : x.at_f < y.at_f
  · simp [h1]
  · by_cases h2 : y.at_f < x.at_f <;> simp [h1, h2]
theorem edgeCmp_swo : SWO (ltOf edgeCmp) where
  irrefl x := by rw [edgeCmp_lt]; simp
  trans x y z h1 h2 := by rw [edgeCmp_lt] at *; simp at *; omega
  ntrans x y z h1 h2 := by rw [edgeCmp_lt] at *; simp at *; omega
def evEdge (x : TEdge) : List Value := [.int .i64 x.at_f, .int .i64 x.by_f]
theorem cmp_ints (a b : Int) (W : World) : Calls Try.prog 33 #[.int .i64 a, .int .i64 b] W fun e w' => e = .returned (.int .i64 (if a < b then -1 else if a > b then 1 else 0)) ∧ w' = W := by
  by_cases h1 : a < b
  · simp only [h1, if_true]
    go_enter Try.func33, Try.ntmps33
    go_wp2
    go_ret
    exact ⟨rfl, rfl⟩
  · by_cases h2 : a > b
    · simp only [h1, h2, if_true, if_false]
      go_enter Try.func33, Try.ntmps33
      go_wp2
      go_ret
      exact ⟨rfl, rfl⟩
    · simp only [h1, h2, if_false]
      go_enter Try.func33, Try.ntmps33
      go_wp2
      go_ret
      exact ⟨rfl, rfl⟩
theorem edge_walk (x y : TEdge) (W : World) : Calls Try.prog 32 #[.agg #[.int .i64 x.at_f, .int .i64 x.by_f], .agg #[.int .i64 y.at_f, .int .i64 y.by_f]] W fun e w' => e = .returned (.int .i64 (edgeCmp x y)) ∧ ∃ q os', w' = grow (W.drewN q) os' := by
  have hcon := fun W' => cmp_ints x.at_f y.at_f W'
  unfold edgeCmp
  generalize (if x.at_f < y.at_f then (-1 : Int) else if x.at_f > y.at_f then 1 else 0) = r at hcon ⊢
  go_enter Try.func32, Try.ntmps32
  go_wp2_with (go_at_call 33; refine (hcon _).mono ?_; rintro e w' ⟨rfl, rfl⟩)
  go_ret
  exact ⟨rfl, 0, _, by rw [alloc_eq_grow, alloc_eq_grow, grow_grow]; rfl⟩
theorem sortE_ok {T : Tbl} (hT : TOk Try.prog T) (hpf : PfOk T PF) : FOk Try.prog 31 (blkR 2 (sortS eTEdge (· = []) (fun _ => edgeCmp) 32)) :=
  FOk_sortK Try.sortE rfl Try.isAgg56 Try.sizeOf56 eTEdge evEdge (fun β x => by simp [ceE, cellsL, eTEdge, AV.cells, evEdge, Vs, V, eI]) (fun β x vs h => by
    simp only [ceE, cellsL, eTEdge, AV.cells, Vs, V, eI] at h
    obtain ⟨_, _, rfl, rfl, _, _, rfl, rfl, rfl⟩ := h; rfl) (fun _ => rfl) (by decide) (fun x v hv => by simp [evEdge] at hv; rcases hv with rfl | rfl <;> rfl) (fun _ => edgeCmp) (fun _ => edgeCmp_swo) 32
    (enters Try.func32 rfl rfl) (enters Try.func31 rfl rfl) (· = []) (fun caps hc β cv W hcv _ x y => by
      subst hc
      simp only [Vs] at hcv
      subst hcv
      exact edge_walk x y W)
end Go.Proofs.Ythbonailomfjlaa
