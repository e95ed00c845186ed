import Derived.Test.YthbonailomfjlaaW10
import Derived.Test.YthbonailomfjlaaO
namespace Go.Proofs.Ythbonailomfjlaa
open Go Go.Eng
set_option maxRecDepth 100000
theorem T0_ok : TOk Try.prog T0 ∧ PfOk T0 PF := ⟨TOk_T0 _, PfOk_T0 _⟩
def TT17 : Tbl := ext T0 17 (pureR clock_Valid_S)
theorem TT17_f : FOk Try.prog 17 (pureR clock_Valid_S) := clock_Valid_ok T0_ok.1 T0_ok.2
theorem TT17_ok : TOk Try.prog TT17 ∧ PfOk TT17 PF := ⟨TOk_ext T0_ok.1 TT17_f, PfOk_ext T0_ok.2 fun _ => ⟨_, rfl⟩⟩
def TT18 : Tbl := ext TT17 18 (pureR ref05_Valid_S)
theorem TT18_f : FOk Try.prog 18 (pureR ref05_Valid_S) := ref05_Valid_ok TT17_ok.1 TT17_ok.2
theorem TT18_ok : TOk Try.prog TT18 ∧ PfOk TT18 PF := ⟨TOk_ext TT17_ok.1 TT18_f, PfOk_ext TT17_ok.2 fun _ => ⟨_, rfl⟩⟩
def TT19 : Tbl := ext TT18 19 (pureR law05_pick_S)
theorem TT19_f : FOk Try.prog 19 (pureR law05_pick_S) := law05_pick_ok TT18_ok.1 TT18_ok.2
theorem TT19_ok : TOk Try.prog TT19 ∧ PfOk TT19 PF := ⟨TOk_ext TT18_ok.1 TT19_f, PfOk_ext TT18_ok.2 fun _ => ⟨_, rfl⟩⟩
def TT35 : Tbl := ext TT19 35 (pureR ref05_pick_S)
theorem TT35_f : FOk Try.prog 35 (pureR ref05_pick_S) := ref05_pick_ok TT19_ok.1 TT19_ok.2
theorem TT35_ok : TOk Try.prog TT35 ∧ PfOk TT35 PF := ⟨TOk_ext TT19_ok.1 TT35_f, PfOk_ext TT19_ok.2 fun _ => ⟨_, rfl⟩⟩
def TT34 : Tbl := ext TT35 34 (pureR ref05_Inside_S)
theorem TT34_f : FOk Try.prog 34 (pureR ref05_Inside_S) := ref05_Inside_ok TT35_ok.1 TT35_ok.2
theorem TT34_ok : TOk Try.prog TT34 ∧ PfOk TT34 PF := ⟨TOk_ext TT35_ok.1 TT34_f, PfOk_ext TT35_ok.2 fun _ => ⟨_, rfl⟩⟩
def TT30 : Tbl := ext TT34 30 (pureR ref05_Fits_S)
theorem TT30_f : FOk Try.prog 30 (pureR ref05_Fits_S) := ref05_Fits_ok TT34_ok.1 TT34_ok.2
theorem TT30_ok : TOk Try.prog TT30 ∧ PfOk TT30 PF := ⟨TOk_ext TT34_ok.1 TT30_f, PfOk_ext TT34_ok.2 fun _ => ⟨_, rfl⟩⟩
def TT11 : Tbl := ext TT30 11 (pureR clock_Spread_S)
theorem TT11_f : FOk Try.prog 11 (pureR clock_Spread_S) := clock_Spread_ok TT30_ok.1 TT30_ok.2
theorem TT11_ok : TOk Try.prog TT11 ∧ PfOk TT11 PF := ⟨TOk_ext TT30_ok.1 TT11_f, PfOk_ext TT30_ok.2 fun _ => ⟨_, rfl⟩⟩
def TT12 : Tbl := ext TT11 12 (pureR ref05_Spread_S)
theorem TT12_f : FOk Try.prog 12 (pureR ref05_Spread_S) := ref05_Spread_ok TT11_ok.1 TT11_ok.2 rfl
theorem TT12_ok : TOk Try.prog TT12 ∧ PfOk TT12 PF := ⟨TOk_ext TT11_ok.1 TT12_f, PfOk_ext TT11_ok.2 fun _ => ⟨_, rfl⟩⟩
def TT37 : Tbl := ext TT12 37 (pureR ref05_bounds_S)
theorem TT37_f : FOk Try.prog 37 (pureR ref05_bounds_S) := ref05_bounds_ok TT12_ok.1 TT12_ok.2 rfl
theorem TT37_ok : TOk Try.prog TT37 ∧ PfOk TT37 PF := ⟨TOk_ext TT12_ok.1 TT37_f, PfOk_ext TT12_ok.2 fun _ => ⟨_, rfl⟩⟩
def TT21 : Tbl := ext TT37 21 (pureR ref05_At_S)
theorem TT21_f : FOk Try.prog 21 (pureR ref05_At_S) := ref05_At_ok TT37_ok.1 TT37_ok.2 rfl rfl
theorem TT21_ok : TOk Try.prog TT21 ∧ PfOk TT21 PF := ⟨TOk_ext TT37_ok.1 TT21_f, PfOk_ext TT37_ok.2 fun _ => ⟨_, rfl⟩⟩
def TT25 : Tbl := ext TT21 25 (pureR ref05_Before_S)
theorem TT25_f : FOk Try.prog 25 (pureR ref05_Before_S) := ref05_Before_ok TT21_ok.1 TT21_ok.2 rfl
theorem TT25_ok : TOk Try.prog TT25 ∧ PfOk TT25 PF := ⟨TOk_ext TT21_ok.1 TT25_f, PfOk_ext TT21_ok.2 fun _ => ⟨_, rfl⟩⟩
def TT27 : Tbl := ext TT25 27 (pureR ref05_After_S)
theorem TT27_f : FOk Try.prog 27 (pureR ref05_After_S) := ref05_After_ok TT25_ok.1 TT25_ok.2 rfl
theorem TT27_ok : TOk Try.prog TT27 ∧ PfOk TT27 PF := ⟨TOk_ext TT25_ok.1 TT27_f, PfOk_ext TT25_ok.2 fun _ => ⟨_, rfl⟩⟩
def TT28 : Tbl := ext TT27 28 (pureR ref05_Shown_S)
theorem TT28_f : FOk Try.prog 28 (pureR ref05_Shown_S) := ref05_Shown_ok TT27_ok.1 TT27_ok.2 rfl
theorem TT28_ok : TOk Try.prog TT28 ∧ PfOk TT28 PF := ⟨TOk_ext TT27_ok.1 TT28_f, PfOk_ext TT27_ok.2 fun _ => ⟨_, rfl⟩⟩
def TT15 : Tbl := ext TT28 15 (pureR law05_few_S)
theorem TT15_f : FOk Try.prog 15 (pureR law05_few_S) := law05_few_ok TT28_ok.1 TT28_ok.2
theorem TT15_ok : TOk Try.prog TT15 ∧ PfOk TT15 PF := ⟨TOk_ext TT28_ok.1 TT15_f, PfOk_ext TT28_ok.2 fun _ => ⟨_, rfl⟩⟩
def TT23 : Tbl := ext TT15 23 (pureR ref05_Reads_S)
theorem TT23_f : FOk Try.prog 23 (pureR ref05_Reads_S) := ref05_Reads_ok TT15_ok.1 TT15_ok.2 rfl rfl
theorem TT23_ok : TOk Try.prog TT23 ∧ PfOk TT23 PF := ⟨TOk_ext TT15_ok.1 TT23_f, PfOk_ext TT15_ok.2 fun _ => ⟨_, rfl⟩⟩
def TT16 : Tbl := ext TT23 16 (pureR ref05_Made_S)
theorem TT16_f : FOk Try.prog 16 (pureR ref05_Made_S) := ref05_Made_ok TT23_ok.1 TT23_ok.2 rfl rfl
theorem TT16_ok : TOk Try.prog TT16 ∧ PfOk TT16 PF := ⟨TOk_ext TT23_ok.1 TT16_f, PfOk_ext TT23_ok.2 fun _ => ⟨_, rfl⟩⟩
def TT45 : Tbl := ext TT16 45 (clock_narrow_R)
theorem TT45_f : FOk Try.prog 45 (clock_narrow_R) := clock_narrow_ok TT16_ok.1 TT16_ok.2
theorem TT45_ok : TOk Try.prog TT45 ∧ PfOk TT45 PF := ⟨TOk_ext TT16_ok.1 TT45_f, PfOk_ext TT16_ok.2 (fun h => by cases h)⟩
def TT36 : Tbl := ext TT45 36 (pureR clock_around_S)
theorem TT36_f : FOk Try.prog 36 (pureR clock_around_S) := clock_around_ok TT45_ok.1 TT45_ok.2 rfl rfl
theorem TT36_ok : TOk Try.prog TT36 ∧ PfOk TT36 PF := ⟨TOk_ext TT45_ok.1 TT36_f, PfOk_ext TT45_ok.2 fun _ => ⟨_, rfl⟩⟩
def TT20 : Tbl := ext TT36 20 (pureR clock_At_S)
theorem TT20_f : FOk Try.prog 20 (pureR clock_At_S) := clock_At_ok TT36_ok.1 TT36_ok.2 rfl rfl
theorem TT20_ok : TOk Try.prog TT20 ∧ PfOk TT20 PF := ⟨TOk_ext TT36_ok.1 TT20_f, PfOk_ext TT36_ok.2 fun _ => ⟨_, rfl⟩⟩
def TT24 : Tbl := ext TT20 24 (pureR clock_Before_S)
theorem TT24_f : FOk Try.prog 24 (pureR clock_Before_S) := clock_Before_ok TT20_ok.1 TT20_ok.2 rfl
theorem TT24_ok : TOk Try.prog TT24 ∧ PfOk TT24 PF := ⟨TOk_ext TT20_ok.1 TT24_f, PfOk_ext TT20_ok.2 fun _ => ⟨_, rfl⟩⟩
def TT26 : Tbl := ext TT24 26 (pureR clock_After_S)
theorem TT26_f : FOk Try.prog 26 (pureR clock_After_S) := clock_After_ok TT24_ok.1 TT24_ok.2 rfl
theorem TT26_ok : TOk Try.prog TT26 ∧ PfOk TT26 PF := ⟨TOk_ext TT24_ok.1 TT26_f, PfOk_ext TT24_ok.2 fun _ => ⟨_, rfl⟩⟩
def TT39 : Tbl := ext TT26 39 (pureR clock_Reads_1_S)
theorem TT39_f : FOk Try.prog 39 (pureR clock_Reads_1_S) := clock_Reads_1_ok TT26_ok.1 TT26_ok.2 rfl
theorem TT39_ok : TOk Try.prog TT39 ∧ PfOk TT39 PF := ⟨TOk_ext TT26_ok.1 TT39_f, PfOk_ext TT26_ok.2 fun _ => ⟨_, rfl⟩⟩
def TT40 : Tbl := ext TT39 40 (pureR clock_Reads_2_S)
theorem TT40_f : FOk Try.prog 40 (pureR clock_Reads_2_S) := clock_Reads_2_ok TT39_ok.1 TT39_ok.2 rfl
theorem TT40_ok : TOk Try.prog TT40 ∧ PfOk TT40 PF := ⟨TOk_ext TT39_ok.1 TT40_f, PfOk_ext TT39_ok.2 fun _ => ⟨_, rfl⟩⟩
def TT38 : Tbl := ext TT40 38 (pureR sort_Search_S)
theorem TT38_f : FOk Try.prog 38 (pureR sort_Search_S) := sort_Search_ok TT40_ok.1 TT40_ok.2 rfl rfl
theorem TT38_ok : TOk Try.prog TT38 ∧ PfOk TT38 PF := ⟨TOk_ext TT40_ok.1 TT38_f, PfOk_ext TT40_ok.2 fun _ => ⟨_, rfl⟩⟩
def TT22 : Tbl := ext TT38 22 (pureR clock_Reads_S)
theorem TT22_f : FOk Try.prog 22 (pureR clock_Reads_S) := clock_Reads_ok TT38_ok.1 TT38_ok.2 rfl rfl
theorem TT22_ok : TOk Try.prog TT22 ∧ PfOk TT22 PF := ⟨TOk_ext TT38_ok.1 TT22_f, PfOk_ext TT38_ok.2 fun _ => ⟨_, rfl⟩⟩
def TT14 : Tbl := ext TT22 14 (pureR ref05_Agree_S)
theorem TT14_f : FOk Try.prog 14 (pureR ref05_Agree_S) := ref05_Agree_ok TT22_ok.1 TT22_ok.2 rfl
theorem TT14_ok : TOk Try.prog TT14 ∧ PfOk TT14 PF := ⟨TOk_ext TT22_ok.1 TT14_f, PfOk_ext TT22_ok.2 fun _ => ⟨_, rfl⟩⟩
def TT31 : Tbl := ext TT14 31 (blkR 2 (sortS eTEdge (· = []) (fun _ => edgeCmp) 32))
theorem TT31_f : FOk Try.prog 31 (blkR 2 (sortS eTEdge (· = []) (fun _ => edgeCmp) 32)) := sortE_ok TT14_ok.1 TT14_ok.2
theorem TT31_ok : TOk Try.prog TT31 ∧ PfOk TT31 PF := ⟨TOk_ext TT14_ok.1 TT31_f, PfOk_ext TT14_ok.2 (fun h => by cases h)⟩
def TT13 : Tbl := ext TT31 13 (pureR clock_Agree_S)
theorem TT13_f : FOk Try.prog 13 (pureR clock_Agree_S) := clock_Agree_ok TT31_ok.1 TT31_ok.2 rfl
theorem TT13_ok : TOk Try.prog TT13 ∧ PfOk TT13 PF := ⟨TOk_ext TT31_ok.1 TT13_f, PfOk_ext TT31_ok.2 fun _ => ⟨_, rfl⟩⟩
def TT41 : Tbl := ext TT13 41 (pureR law05_in_S)
theorem TT41_f : FOk Try.prog 41 (pureR law05_in_S) := law05_in_ok TT13_ok.1 TT13_ok.2
theorem TT41_ok : TOk Try.prog TT41 ∧ PfOk TT41 PF := ⟨TOk_ext TT13_ok.1 TT41_f, PfOk_ext TT13_ok.2 fun _ => ⟨_, rfl⟩⟩
def TT29 : Tbl := ext TT41 29 (pureR law05_agrees_S)
theorem TT29_f : FOk Try.prog 29 (pureR law05_agrees_S) := law05_agrees_ok TT41_ok.1 TT41_ok.2 rfl rfl
theorem TT29_ok : TOk Try.prog TT29 ∧ PfOk TT29 PF := ⟨TOk_ext TT41_ok.1 TT29_f, PfOk_ext TT41_ok.2 fun _ => ⟨_, rfl⟩⟩
def TT10 : Tbl := ext TT29 10 (pureR law05_sane_S)
theorem TT10_f : FOk Try.prog 10 (pureR law05_sane_S) := law05_sane_ok TT29_ok.1 TT29_ok.2 rfl rfl rfl rfl rfl rfl rfl
theorem TT10_ok : TOk Try.prog TT10 ∧ PfOk TT10 PF := ⟨TOk_ext TT29_ok.1 TT10_f, PfOk_ext TT29_ok.2 fun _ => ⟨_, rfl⟩⟩
end Go.Proofs.Ythbonailomfjlaa
