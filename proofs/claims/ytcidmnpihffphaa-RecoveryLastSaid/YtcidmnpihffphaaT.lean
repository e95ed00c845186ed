import Derived.Test.YtcidmnpihffphaaW13
import Derived.Test.YtcidmnpihffphaaEngO
namespace Go.Proofs.Ytcidmnpihffphaa
open Go Go.Eng
set_option maxRecDepth 100000
theorem T0_ok : TOk Try.prog T0 ∧ PfOk T0 PF := ⟨TOk_T0 _, PfOk_T0 _⟩
def TT46 : Tbl := ext T0 46 (pureR recovery_isWithin_S)
theorem TT46_f : FOk Try.prog 46 (pureR recovery_isWithin_S) := recovery_isWithin_ok T0_ok.1 T0_ok.2
theorem TT46_ok : TOk Try.prog TT46 ∧ PfOk TT46 PF := ⟨TOk_ext T0_ok.1 TT46_f, PfOk_ext T0_ok.2 fun _ => ⟨_, rfl⟩⟩
def TT24 : Tbl := ext TT46 24 (pureR recovery_Valid_S)
theorem TT24_f : FOk Try.prog 24 (pureR recovery_Valid_S) := recovery_Valid_ok TT46_ok.1 TT46_ok.2 rfl
theorem TT24_ok : TOk Try.prog TT24 ∧ PfOk TT24 PF := ⟨TOk_ext TT46_ok.1 TT24_f, PfOk_ext TT46_ok.2 fun _ => ⟨_, rfl⟩⟩
def TT26 : Tbl := ext TT24 26 (pureR recovery_Ready_S)
theorem TT26_f : FOk Try.prog 26 (pureR recovery_Ready_S) := recovery_Ready_ok TT24_ok.1 TT24_ok.2 rfl
theorem TT26_ok : TOk Try.prog TT26 ∧ PfOk TT26 PF := ⟨TOk_ext TT24_ok.1 TT26_f, PfOk_ext TT24_ok.2 fun _ => ⟨_, rfl⟩⟩
def TT62 : Tbl := ext TT26 62 (cloneR 3 eTAttempt default)
theorem TT62_f : FOk Try.prog 62 (cloneR 3 eTAttempt default) := slices_Clone_Attempt_ok TT26_ok.1 TT26_ok.2
theorem TT62_ok : TOk Try.prog TT62 ∧ PfOk TT62 PF := ⟨TOk_ext TT26_ok.1 TT62_f, PfOk_ext TT26_ok.2 (fun h => by cases h)⟩
def TT61 : Tbl := ext TT62 61 (pureR cmp_isNaN_int_S)
theorem TT61_f : FOk Try.prog 61 (pureR cmp_isNaN_int_S) := cmp_isNaN_int_ok TT62_ok.1 TT62_ok.2
theorem TT61_ok : TOk Try.prog TT61 ∧ PfOk TT61 PF := ⟨TOk_ext TT62_ok.1 TT61_f, PfOk_ext TT62_ok.2 fun _ => ⟨_, rfl⟩⟩
def TT50 : Tbl := ext TT61 50 (pureR cmp_Compare_int_S)
theorem TT50_f : FOk Try.prog 50 (pureR cmp_Compare_int_S) := cmp_Compare_int_ok TT61_ok.1 TT61_ok.2 rfl
theorem TT50_ok : TOk Try.prog TT50 ∧ PfOk TT50 PF := ⟨TOk_ext TT61_ok.1 TT50_f, PfOk_ext TT61_ok.2 fun _ => ⟨_, rfl⟩⟩
def TT55 : Tbl := ext TT50 55 (pureR cmp_Or_int_S)
theorem TT55_f : FOk Try.prog 55 (pureR cmp_Or_int_S) := cmp_Or_int_ok TT50_ok.1 TT50_ok.2
theorem TT55_ok : TOk Try.prog TT55 ∧ PfOk TT55 PF := ⟨TOk_ext TT50_ok.1 TT55_f, PfOk_ext TT50_ok.2 fun _ => ⟨_, rfl⟩⟩
def TT63 : Tbl := ext TT55 63 ((blkR 3 (sortS eTAttempt (· = []) (fun _ => attCmp) 54)))
theorem TT63_f : FOk Try.prog 63 ((blkR 3 (sortS eTAttempt (· = []) (fun _ => attCmp) 54))) := sortA_ok TT55_ok.1 TT55_ok.2 rfl rfl
theorem TT63_ok : TOk Try.prog TT63 ∧ PfOk TT63 PF := ⟨TOk_ext TT55_ok.1 TT63_f, PfOk_ext TT55_ok.2 (fun h => by cases h)⟩
def TT53 : Tbl := ext TT63 53 (pureR recovery_sorted_Attempt_S)
theorem TT53_f : FOk Try.prog 53 (pureR recovery_sorted_Attempt_S) := recovery_sorted_Attempt_ok TT63_ok.1 TT63_ok.2 rfl rfl
theorem TT53_ok : TOk Try.prog TT53 ∧ PfOk TT53 PF := ⟨TOk_ext TT63_ok.1 TT53_f, PfOk_ext TT63_ok.2 fun _ => ⟨_, rfl⟩⟩
def TT41 : Tbl := ext TT53 41 (pureR recovery_ordered_S)
theorem TT41_f : FOk Try.prog 41 (pureR recovery_ordered_S) := recovery_ordered_ok TT53_ok.1 TT53_ok.2 rfl
theorem TT41_ok : TOk Try.prog TT41 ∧ PfOk TT41 PF := ⟨TOk_ext TT53_ok.1 TT41_f, PfOk_ext TT53_ok.2 fun _ => ⟨_, rfl⟩⟩
def TT42 : Tbl := ext TT41 42 (open_R)
theorem TT42_f : FOk Try.prog 42 (open_R) := open_ok TT41_ok.1 TT41_ok.2
theorem TT42_ok : TOk Try.prog TT42 ∧ PfOk TT42 PF := ⟨TOk_ext TT41_ok.1 TT42_f, PfOk_ext TT41_ok.2 (fun h => by cases h)⟩
def TT58 : Tbl := ext TT42 58 (pureR recovery_capacity_1_S)
theorem TT58_f : FOk Try.prog 58 (pureR recovery_capacity_1_S) := recovery_capacity_1_ok TT42_ok.1 TT42_ok.2
theorem TT58_ok : TOk Try.prog TT58 ∧ PfOk TT58 PF := ⟨TOk_ext TT42_ok.1 TT58_f, PfOk_ext TT42_ok.2 fun _ => ⟨_, rfl⟩⟩
def TT57 : Tbl := ext TT58 57 (pureR slices_IndexFunc_Growth_S)
theorem TT57_f : FOk Try.prog 57 (pureR slices_IndexFunc_Growth_S) := slices_IndexFunc_Growth_ok TT58_ok.1 TT58_ok.2 rfl
theorem TT57_ok : TOk Try.prog TT57 ∧ PfOk TT57 PF := ⟨TOk_ext TT58_ok.1 TT57_f, PfOk_ext TT58_ok.2 fun _ => ⟨_, rfl⟩⟩
def TT48 : Tbl := ext TT57 48 (pureR recovery_capacity_S)
theorem TT48_f : FOk Try.prog 48 (pureR recovery_capacity_S) := recovery_capacity_ok TT57_ok.1 TT57_ok.2 rfl
theorem TT48_ok : TOk Try.prog TT48 ∧ PfOk TT48 PF := ⟨TOk_ext TT57_ok.1 TT48_f, PfOk_ext TT57_ok.2 fun _ => ⟨_, rfl⟩⟩
def TT56 : Tbl := ext TT48 56 (iter_R)
theorem TT56_f : FOk Try.prog 56 (iter_R) := iter_ok TT48_ok.1 TT48_ok.2 rfl
theorem TT56_ok : TOk Try.prog TT56 ∧ PfOk TT56 PF := ⟨TOk_ext TT48_ok.1 TT56_f, PfOk_ext TT48_ok.2 (fun h => by cases h)⟩
def TT18 : Tbl := ext TT56 18 (pureR recovery_Plan_S)
theorem TT18_f : FOk Try.prog 18 (pureR recovery_Plan_S) := recovery_Plan_ok TT56_ok.1 TT56_ok.2 rfl rfl rfl rfl rfl
theorem TT18_ok : TOk Try.prog TT18 ∧ PfOk TT18 PF := ⟨TOk_ext TT56_ok.1 TT18_f, PfOk_ext TT56_ok.2 fun _ => ⟨_, rfl⟩⟩
def TT44 : Tbl := ext TT18 44 (loads_R)
theorem TT44_f : FOk Try.prog 44 (loads_R) := recovery_loads_ok TT18_ok.1 TT18_ok.2 rfl rfl
theorem TT44_ok : TOk Try.prog TT44 ∧ PfOk TT44 PF := ⟨TOk_ext TT18_ok.1 TT44_f, PfOk_ext TT18_ok.2 (fun h => by cases h)⟩
def TT20 : Tbl := ext TT44 20 (pureR recovery_Safe_S)
theorem TT20_f : FOk Try.prog 20 (pureR recovery_Safe_S) := recovery_Safe_ok TT44_ok.1 TT44_ok.2 rfl
theorem TT20_ok : TOk Try.prog TT20 ∧ PfOk TT20 PF := ⟨TOk_ext TT44_ok.1 TT20_f, PfOk_ext TT44_ok.2 fun _ => ⟨_, rfl⟩⟩
def TT22 : Tbl := ext TT20 22 (pureR recovery_Last_S)
theorem TT22_f : FOk Try.prog 22 (pureR recovery_Last_S) := recovery_Last_ok TT20_ok.1 TT20_ok.2 rfl
theorem TT22_ok : TOk Try.prog TT22 ∧ PfOk TT22 PF := ⟨TOk_ext TT20_ok.1 TT22_f, PfOk_ext TT20_ok.2 fun _ => ⟨_, rfl⟩⟩
def TT28 : Tbl := ext TT22 28 (pureR ref34_Same_S)
theorem TT28_f : FOk Try.prog 28 (pureR ref34_Same_S) := ref34_Same_ok TT22_ok.1 TT22_ok.2
theorem TT28_ok : TOk Try.prog TT28 ∧ PfOk TT28 PF := ⟨TOk_ext TT22_ok.1 TT28_f, PfOk_ext TT22_ok.2 fun _ => ⟨_, rfl⟩⟩
def TT30 : Tbl := ext TT28 30 (pureR recovery_Load_S)
theorem TT30_f : FOk Try.prog 30 (pureR recovery_Load_S) := recovery_Load_ok TT28_ok.1 TT28_ok.2 rfl
theorem TT30_ok : TOk Try.prog TT30 ∧ PfOk TT30 PF := ⟨TOk_ext TT28_ok.1 TT30_f, PfOk_ext TT28_ok.2 fun _ => ⟨_, rfl⟩⟩
def TT32 : Tbl := ext TT30 32 (pureR recovery_Capacity_S)
theorem TT32_f : FOk Try.prog 32 (pureR recovery_Capacity_S) := recovery_Capacity_ok TT30_ok.1 TT30_ok.2 rfl rfl
theorem TT32_ok : TOk Try.prog TT32 ∧ PfOk TT32 PF := ⟨TOk_ext TT30_ok.1 TT32_f, PfOk_ext TT30_ok.2 fun _ => ⟨_, rfl⟩⟩
def TT59 : Tbl := ext TT32 59 (cloneR 1 eI default)
theorem TT59_f : FOk Try.prog 59 (cloneR 1 eI default) := slices_Clone_int_ok TT32_ok.1 TT32_ok.2
theorem TT59_ok : TOk Try.prog TT59 ∧ PfOk TT59 PF := ⟨TOk_ext TT32_ok.1 TT59_f, PfOk_ext TT32_ok.2 (fun h => by cases h)⟩
def TT60 : Tbl := ext TT59 60 ((blkR 1 (sortS eI (· = []) (fun _ => cmpI) 50)))
theorem TT60_f : FOk Try.prog 60 ((blkR 1 (sortS eI (· = []) (fun _ => cmpI) 50))) := sortI_ok TT59_ok.1 TT59_ok.2 rfl
theorem TT60_ok : TOk Try.prog TT60 ∧ PfOk TT60 PF := ⟨TOk_ext TT59_ok.1 TT60_f, PfOk_ext TT59_ok.2 (fun h => by cases h)⟩
def TT49 : Tbl := ext TT60 49 (pureR recovery_sorted_int_S)
theorem TT49_f : FOk Try.prog 49 (pureR recovery_sorted_int_S) := recovery_sorted_int_ok TT60_ok.1 TT60_ok.2 rfl rfl
theorem TT49_ok : TOk Try.prog TT49 ∧ PfOk TT49 PF := ⟨TOk_ext TT60_ok.1 TT49_f, PfOk_ext TT60_ok.2 fun _ => ⟨_, rfl⟩⟩
def TT34 : Tbl := ext TT49 34 (pureR recovery_Storm_S)
theorem TT34_f : FOk Try.prog 34 (pureR recovery_Storm_S) := recovery_Storm_ok TT49_ok.1 TT49_ok.2 rfl rfl rfl rfl rfl rfl
theorem TT34_ok : TOk Try.prog TT34 ∧ PfOk TT34 PF := ⟨TOk_ext TT49_ok.1 TT34_f, PfOk_ext TT49_ok.2 fun _ => ⟨_, rfl⟩⟩
def TT51 : Tbl := ext TT34 51 (pureR slices_Equal_Ticket_S)
theorem TT51_f : FOk Try.prog 51 (pureR slices_Equal_Ticket_S) := slices_Equal_Ticket_ok TT34_ok.1 TT34_ok.2
theorem TT51_ok : TOk Try.prog TT51 ∧ PfOk TT51 PF := ⟨TOk_ext TT34_ok.1 TT51_f, PfOk_ext TT34_ok.2 fun _ => ⟨_, rfl⟩⟩
def TT36 : Tbl := ext TT51 36 (pureR recovery_Check_S)
theorem TT36_f : FOk Try.prog 36 (pureR recovery_Check_S) := recovery_Check_ok TT51_ok.1 TT51_ok.2 rfl rfl
theorem TT36_ok : TOk Try.prog TT36 ∧ PfOk TT36 PF := ⟨TOk_ext TT51_ok.1 TT36_f, PfOk_ext TT51_ok.2 fun _ => ⟨_, rfl⟩⟩
def TT39 : Tbl := ext TT36 39 (pureR law34_example_S)
theorem TT39_f : FOk Try.prog 39 (pureR law34_example_S) := law34_example_ok TT36_ok.1 TT36_ok.2
theorem TT39_ok : TOk Try.prog TT39 ∧ PfOk TT39 PF := ⟨TOk_ext TT36_ok.1 TT39_f, PfOk_ext TT36_ok.2 fun _ => ⟨_, rfl⟩⟩
def TT13 : Tbl := ext TT39 13 (pureR law34_sane_S)
theorem TT13_f : FOk Try.prog 13 (pureR law34_sane_S) := law34_sane_ok TT39_ok.1 TT39_ok.2 rfl rfl rfl rfl rfl rfl rfl rfl rfl rfl rfl
theorem TT13_ok : TOk Try.prog TT13 ∧ PfOk TT13 PF := ⟨TOk_ext TT39_ok.1 TT13_f, PfOk_ext TT39_ok.2 fun _ => ⟨_, rfl⟩⟩
def TT40 : Tbl := ext TT13 40 (pureR ref34_pick_S)
theorem TT40_f : FOk Try.prog 40 (pureR ref34_pick_S) := ref34_pick_ok TT13_ok.1 TT13_ok.2
theorem TT40_ok : TOk Try.prog TT40 ∧ PfOk TT40 PF := ⟨TOk_ext TT13_ok.1 TT40_f, PfOk_ext TT13_ok.2 fun _ => ⟨_, rfl⟩⟩
def TT16 : Tbl := ext TT40 16 (pureR ref34_BentRegion_S)
theorem TT16_f : FOk Try.prog 16 (pureR ref34_BentRegion_S) := ref34_BentRegion_ok TT40_ok.1 TT40_ok.2 rfl
theorem TT16_ok : TOk Try.prog TT16 ∧ PfOk TT16 PF := ⟨TOk_ext TT40_ok.1 TT16_f, PfOk_ext TT40_ok.2 fun _ => ⟨_, rfl⟩⟩
def TT17 : Tbl := ext TT16 17 (pureR ref34_BentAttempts_S)
theorem TT17_f : FOk Try.prog 17 (pureR ref34_BentAttempts_S) := ref34_BentAttempts_ok TT16_ok.1 TT16_ok.2 rfl
theorem TT17_ok : TOk Try.prog TT17 ∧ PfOk TT17 PF := ⟨TOk_ext TT16_ok.1 TT17_f, PfOk_ext TT16_ok.2 fun _ => ⟨_, rfl⟩⟩
def TT47 : Tbl := ext TT17 47 (pureR ref34_in_S)
theorem TT47_f : FOk Try.prog 47 (pureR ref34_in_S) := ref34_in_ok TT17_ok.1 TT17_ok.2
theorem TT47_ok : TOk Try.prog TT47 ∧ PfOk TT47 PF := ⟨TOk_ext TT17_ok.1 TT47_f, PfOk_ext TT17_ok.2 fun _ => ⟨_, rfl⟩⟩
def TT25 : Tbl := ext TT47 25 (pureR ref34_Valid_S)
theorem TT25_f : FOk Try.prog 25 (pureR ref34_Valid_S) := ref34_Valid_ok TT47_ok.1 TT47_ok.2 rfl
theorem TT25_ok : TOk Try.prog TT25 ∧ PfOk TT25 PF := ⟨TOk_ext TT47_ok.1 TT25_f, PfOk_ext TT47_ok.2 fun _ => ⟨_, rfl⟩⟩
def TT27 : Tbl := ext TT25 27 (pureR ref34_Ready_S)
theorem TT27_f : FOk Try.prog 27 (pureR ref34_Ready_S) := ref34_Ready_ok TT25_ok.1 TT25_ok.2 rfl
theorem TT27_ok : TOk Try.prog TT27 ∧ PfOk TT27 PF := ⟨TOk_ext TT25_ok.1 TT27_f, PfOk_ext TT25_ok.2 fun _ => ⟨_, rfl⟩⟩
def TT52 : Tbl := ext TT27 52 (pureR ref34_Before_S)
theorem TT52_f : FOk Try.prog 52 (pureR ref34_Before_S) := ref34_Before_ok TT27_ok.1 TT27_ok.2
theorem TT52_ok : TOk Try.prog TT52 ∧ PfOk TT52 PF := ⟨TOk_ext TT27_ok.1 TT52_f, PfOk_ext TT27_ok.2 fun _ => ⟨_, rfl⟩⟩
def TT38 : Tbl := ext TT52 38 (pureR ref34_Ordered_S)
theorem TT38_f : FOk Try.prog 38 (pureR ref34_Ordered_S) := ref34_Ordered_ok TT52_ok.1 TT52_ok.2 rfl
theorem TT38_ok : TOk Try.prog TT38 ∧ PfOk TT38 PF := ⟨TOk_ext TT52_ok.1 TT38_f, PfOk_ext TT52_ok.2 fun _ => ⟨_, rfl⟩⟩
def TT43 : Tbl := ext TT38 43 (pureR ref34_capacity_S)
theorem TT43_f : FOk Try.prog 43 (pureR ref34_capacity_S) := ref34_capacity_ok TT38_ok.1 TT38_ok.2
theorem TT43_ok : TOk Try.prog TT43 ∧ PfOk TT43 PF := ⟨TOk_ext TT38_ok.1 TT43_f, PfOk_ext TT38_ok.2 fun _ => ⟨_, rfl⟩⟩
def TT19 : Tbl := ext TT43 19 (pureR ref34_Plan_S)
theorem TT19_f : FOk Try.prog 19 (pureR ref34_Plan_S) := ref34_Plan_ok TT43_ok.1 TT43_ok.2 rfl rfl rfl rfl
theorem TT19_ok : TOk Try.prog TT19 ∧ PfOk TT19 PF := ⟨TOk_ext TT43_ok.1 TT19_f, PfOk_ext TT43_ok.2 fun _ => ⟨_, rfl⟩⟩
def TT45 : Tbl := ext TT19 45 (pureR ref34_load_S)
theorem TT45_f : FOk Try.prog 45 (pureR ref34_load_S) := ref34_load_ok TT19_ok.1 TT19_ok.2
theorem TT45_ok : TOk Try.prog TT45 ∧ PfOk TT45 PF := ⟨TOk_ext TT19_ok.1 TT45_f, PfOk_ext TT19_ok.2 fun _ => ⟨_, rfl⟩⟩
def TT31 : Tbl := ext TT45 31 (pureR ref34_Load_S)
theorem TT31_f : FOk Try.prog 31 (pureR ref34_Load_S) := ref34_Load_ok TT45_ok.1 TT45_ok.2 rfl rfl rfl
theorem TT31_ok : TOk Try.prog TT31 ∧ PfOk TT31 PF := ⟨TOk_ext TT45_ok.1 TT31_f, PfOk_ext TT45_ok.2 fun _ => ⟨_, rfl⟩⟩
def TT33 : Tbl := ext TT31 33 (pureR ref34_Capacity_S)
theorem TT33_f : FOk Try.prog 33 (pureR ref34_Capacity_S) := ref34_Capacity_ok TT31_ok.1 TT31_ok.2 rfl rfl
theorem TT33_ok : TOk Try.prog TT33 ∧ PfOk TT33 PF := ⟨TOk_ext TT31_ok.1 TT33_f, PfOk_ext TT31_ok.2 fun _ => ⟨_, rfl⟩⟩
def TT29 : Tbl := ext TT33 29 (pureR law34_pick_S)
theorem TT29_f : FOk Try.prog 29 (pureR law34_pick_S) := law34_pick_ok TT33_ok.1 TT33_ok.2
theorem TT29_ok : TOk Try.prog TT29 ∧ PfOk TT29 PF := ⟨TOk_ext TT33_ok.1 TT29_f, PfOk_ext TT33_ok.2 fun _ => ⟨_, rfl⟩⟩
def TT14 : Tbl := ext TT29 14 (pureR ref34_Made_S)
theorem TT14_f : FOk Try.prog 14 (pureR ref34_Made_S) := ref34_Made_ok TT29_ok.1 TT29_ok.2 rfl
theorem TT14_ok : TOk Try.prog TT14 ∧ PfOk TT14 PF := ⟨TOk_ext TT29_ok.1 TT14_f, PfOk_ext TT29_ok.2 fun _ => ⟨_, rfl⟩⟩
def TT15 : Tbl := ext TT14 15 (pureR ref34_Attempts_S)
theorem TT15_f : FOk Try.prog 15 (pureR ref34_Attempts_S) := ref34_Attempts_ok TT14_ok.1 TT14_ok.2 rfl
theorem TT15_ok : TOk Try.prog TT15 ∧ PfOk TT15 PF := ⟨TOk_ext TT14_ok.1 TT15_f, PfOk_ext TT14_ok.2 fun _ => ⟨_, rfl⟩⟩
def TT35 : Tbl := ext TT15 35 (pureR ref34_Storm_S)
theorem TT35_f : FOk Try.prog 35 (pureR ref34_Storm_S) := ref34_Storm_ok TT15_ok.1 TT15_ok.2 rfl rfl rfl rfl rfl
theorem TT35_ok : TOk Try.prog TT35 ∧ PfOk TT35 PF := ⟨TOk_ext TT15_ok.1 TT35_f, PfOk_ext TT15_ok.2 fun _ => ⟨_, rfl⟩⟩
def TT37 : Tbl := ext TT35 37 (pureR ref34_Check_S)
theorem TT37_f : FOk Try.prog 37 (pureR ref34_Check_S) := ref34_Check_ok TT35_ok.1 TT35_ok.2 rfl rfl
theorem TT37_ok : TOk Try.prog TT37 ∧ PfOk TT37 PF := ⟨TOk_ext TT35_ok.1 TT37_f, PfOk_ext TT35_ok.2 fun _ => ⟨_, rfl⟩⟩
def TT21 : Tbl := ext TT37 21 (pureR ref34_Safe_S)
theorem TT21_f : FOk Try.prog 21 (pureR ref34_Safe_S) := ref34_Safe_ok TT37_ok.1 TT37_ok.2 rfl rfl rfl
theorem TT21_ok : TOk Try.prog TT21 ∧ PfOk TT21 PF := ⟨TOk_ext TT37_ok.1 TT21_f, PfOk_ext TT37_ok.2 fun _ => ⟨_, rfl⟩⟩
def TT23 : Tbl := ext TT21 23 (pureR ref34_Last_S)
theorem TT23_f : FOk Try.prog 23 (pureR ref34_Last_S) := ref34_Last_ok TT21_ok.1 TT21_ok.2 rfl
theorem TT23_ok : TOk Try.prog TT23 ∧ PfOk TT23 PF := ⟨TOk_ext TT21_ok.1 TT23_f, PfOk_ext TT21_ok.2 fun _ => ⟨_, rfl⟩⟩
end Go.Proofs.Ytcidmnpihffphaa
