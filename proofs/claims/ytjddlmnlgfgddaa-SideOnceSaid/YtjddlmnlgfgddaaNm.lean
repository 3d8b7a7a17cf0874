/- Numbers of this seat, by name. Printed by names.py. -/
import Derived.Test.YtjddlmnlgfgddaaChecked
import Derived.Test.YtjddlmnlgfgddaaEvOpen
import Derived.KernelRfl
set_option linter.unusedVariables false
set_option linter.unusedSimpArgs false
namespace Go.Ev.N
open Go.Ev
abbrev law5_TreeAll : Nat := 3
noncomputable abbrev law5_TreeAll_fn : Func := Go.Proofs.Try.f3
abbrev law5_TreeGlance : Nat := 4
noncomputable abbrev law5_TreeGlance_fn : Func := Go.Proofs.Try.f4
abbrev law5_TreeForms : Nat := 5
noncomputable abbrev law5_TreeForms_fn : Func := Go.Proofs.Try.f5
abbrev law5_TreeRow : Nat := 6
noncomputable abbrev law5_TreeRow_fn : Func := Go.Proofs.Try.f6
abbrev law10_SideAll : Nat := 7
noncomputable abbrev law10_SideAll_fn : Func := Go.Proofs.Try.f7
abbrev law10_SideOnce : Nat := 8
noncomputable abbrev law10_SideOnce_fn : Func := Go.Proofs.Try.f8
abbrev law10_SideForms : Nat := 9
noncomputable abbrev law10_SideForms_fn : Func := Go.Proofs.Try.f9
abbrev law9_SlotsAll : Nat := 10
noncomputable abbrev law9_SlotsAll_fn : Func := Go.Proofs.Try.f10
abbrev law9_SlotsMay : Nat := 11
noncomputable abbrev law9_SlotsMay_fn : Func := Go.Proofs.Try.f11
abbrev law9_SlotsFree : Nat := 12
noncomputable abbrev law9_SlotsFree_fn : Func := Go.Proofs.Try.f12
abbrev law9_SlotsForms : Nat := 13
noncomputable abbrev law9_SlotsForms_fn : Func := Go.Proofs.Try.f13
abbrev law9_SlotsLess : Nat := 14
noncomputable abbrev law9_SlotsLess_fn : Func := Go.Proofs.Try.f14
abbrev law5_begun : Nat := 15
noncomputable abbrev law5_begun_fn : Func := Go.Proofs.Try.f15
abbrev mk_Made : Nat := 16
noncomputable abbrev mk_Made_fn : Func := Go.Proofs.Try.f16
abbrev mk_Picks_Tree : Nat := 17
noncomputable abbrev mk_Picks_Tree_fn : Func := Go.Proofs.Try.f17
abbrev law5_size : Nat := 18
noncomputable abbrev law5_size_fn : Func := Go.Proofs.Try.f18
abbrev tree_FirstZero : Nat := 19
noncomputable abbrev tree_FirstZero_fn : Func := Go.Proofs.Try.f19
abbrev ref3_First : Nat := 20
noncomputable abbrev ref3_First_fn : Func := Go.Proofs.Try.f20
abbrev ref3_Has : Nat := 21
noncomputable abbrev ref3_Has_fn : Func := Go.Proofs.Try.f21
abbrev tree_Has : Nat := 22
noncomputable abbrev tree_Has_fn : Func := Go.Proofs.Try.f22
abbrev ref3_SameTree : Nat := 23
noncomputable abbrev ref3_SameTree_fn : Func := Go.Proofs.Try.f23
abbrev tree_Set : Nat := 24
noncomputable abbrev tree_Set_fn : Func := Go.Proofs.Try.f24
abbrev ref3_SetTree : Nat := 25
noncomputable abbrev ref3_SetTree_fn : Func := Go.Proofs.Try.f25
abbrev tree_May : Nat := 26
noncomputable abbrev tree_May_fn : Func := Go.Proofs.Try.f26
abbrev tree_New : Nat := 27
noncomputable abbrev tree_New_fn : Func := Go.Proofs.Try.f27
abbrev ref3_Made : Nat := 28
noncomputable abbrev ref3_Made_fn : Func := Go.Proofs.Try.f28
abbrev law10_begun : Nat := 29
noncomputable abbrev law10_begun_fn : Func := Go.Proofs.Try.f29
abbrev law10_Marks : Nat := 30
noncomputable abbrev law10_Marks_fn : Func := Go.Proofs.Try.f30
abbrev side_Take : Nat := 31
noncomputable abbrev side_Take_fn : Func := Go.Proofs.Try.f31
abbrev ref8_TakeMark : Nat := 32
noncomputable abbrev ref8_TakeMark_fn : Func := Go.Proofs.Try.f32
abbrev side_Class : Nat := 33
noncomputable abbrev side_Class_fn : Func := Go.Proofs.Try.f33
abbrev ref8_ClassOf : Nat := 34
noncomputable abbrev ref8_ClassOf_fn : Func := Go.Proofs.Try.f34
abbrev ref8_SameMarks : Nat := 35
noncomputable abbrev ref8_SameMarks_fn : Func := Go.Proofs.Try.f35
abbrev side_Put : Nat := 36
noncomputable abbrev side_Put_fn : Func := Go.Proofs.Try.f36
abbrev ref8_PutMark : Nat := 37
noncomputable abbrev ref8_PutMark_fn : Func := Go.Proofs.Try.f37
abbrev law9_begun : Nat := 38
noncomputable abbrev law9_begun_fn : Func := Go.Proofs.Try.f38
abbrev law9_Used : Nat := 39
noncomputable abbrev law9_Used_fn : Func := Go.Proofs.Try.f39
abbrev slots_Lowest : Nat := 40
noncomputable abbrev slots_Lowest_fn : Func := Go.Proofs.Try.f40
abbrev ref8_Lowest : Nat := 41
noncomputable abbrev ref8_Lowest_fn : Func := Go.Proofs.Try.f41
abbrev ref8_SameSlots : Nat := 42
noncomputable abbrev ref8_SameSlots_fn : Func := Go.Proofs.Try.f42
abbrev slots_Use : Nat := 43
noncomputable abbrev slots_Use_fn : Func := Go.Proofs.Try.f43
abbrev ref8_Use : Nat := 44
noncomputable abbrev ref8_Use_fn : Func := Go.Proofs.Try.f44
abbrev slots_May : Nat := 45
noncomputable abbrev slots_May_fn : Func := Go.Proofs.Try.f45
abbrev slots_New : Nat := 46
noncomputable abbrev slots_New_fn : Func := Go.Proofs.Try.f46
abbrev ref8_NewSlots : Nat := 47
noncomputable abbrev ref8_NewSlots_fn : Func := Go.Proofs.Try.f47
abbrev ref8_MaySlots : Nat := 48
noncomputable abbrev ref8_MaySlots_fn : Func := Go.Proofs.Try.f48
abbrev mk_Picks_Num : Nat := 49
noncomputable abbrev mk_Picks_Num_fn : Func := Go.Proofs.Try.f49
abbrev word_LowZero : Nat := 50
noncomputable abbrev word_LowZero_fn : Func := Go.Proofs.Try.f50
abbrev tree_at : Nat := 51
noncomputable abbrev tree_at_fn : Func := Go.Proofs.Try.f51
abbrev word_Mask : Nat := 52
noncomputable abbrev word_Mask_fn : Func := Go.Proofs.Try.f52
abbrev ref3_Bits : Nat := 53
noncomputable abbrev ref3_Bits_fn : Func := Go.Proofs.Try.f53
abbrev ref3_Bit : Nat := 54
noncomputable abbrev ref3_Bit_fn : Func := Go.Proofs.Try.f54
abbrev ref3_SameRow : Nat := 55
noncomputable abbrev ref3_SameRow_fn : Func := Go.Proofs.Try.f55
abbrev tree_twin : Nat := 56
noncomputable abbrev tree_twin_fn : Func := Go.Proofs.Try.f56
abbrev tree_put : Nat := 57
noncomputable abbrev tree_put_fn : Func := Go.Proofs.Try.f57
abbrev tree_sums : Nat := 58
noncomputable abbrev tree_sums_fn : Func := Go.Proofs.Try.f58
abbrev slices_EqualFunc_uint64_uint64_uint64_uint64 : Nat := 59
noncomputable abbrev slices_EqualFunc_uint64_uint64_uint64_uint64_fn : Func := Go.Proofs.Try.f59
abbrev slices_Equal_uint64_uint64 : Nat := 60
noncomputable abbrev slices_Equal_uint64_uint64_fn : Func := Go.Proofs.Try.f60
abbrev tree_level : Nat := 61
noncomputable abbrev tree_level_fn : Func := Go.Proofs.Try.f61
abbrev ref3_NewRow : Nat := 62
noncomputable abbrev ref3_NewRow_fn : Func := Go.Proofs.Try.f62
abbrev slices_Clone_api_Mark_api_Mark : Nat := 63
noncomputable abbrev slices_Clone_api_Mark_api_Mark_fn : Func := Go.Proofs.Try.f63
abbrev side_find : Nat := 64
noncomputable abbrev side_find_fn : Func := Go.Proofs.Try.f64
abbrev slices_Delete_api_Mark_api_Mark : Nat := 65
noncomputable abbrev slices_Delete_api_Mark_api_Mark_fn : Func := Go.Proofs.Try.f65
abbrev slices_Insert_api_Mark_api_Mark : Nat := 66
noncomputable abbrev slices_Insert_api_Mark_api_Mark_fn : Func := Go.Proofs.Try.f66
abbrev mk_Picks_Over : Nat := 67
noncomputable abbrev mk_Picks_Over_fn : Func := Go.Proofs.Try.f67
abbrev slots_twin : Nat := 68
noncomputable abbrev slots_twin_fn : Func := Go.Proofs.Try.f68
abbrev slots_taken : Nat := 69
noncomputable abbrev slots_taken_fn : Func := Go.Proofs.Try.f69
abbrev ref8_Of : Nat := 70
noncomputable abbrev ref8_Of_fn : Func := Go.Proofs.Try.f70
abbrev slots_above : Nat := 71
noncomputable abbrev slots_above_fn : Func := Go.Proofs.Try.f71
abbrev ref3_MayTree : Nat := 72
noncomputable abbrev ref3_MayTree_fn : Func := Go.Proofs.Try.f72
abbrev word_LowOne : Nat := 73
noncomputable abbrev word_LowOne_fn : Func := Go.Proofs.Try.f73
abbrev slices_Clone_uint64_uint64 : Nat := 74
noncomputable abbrev slices_Clone_uint64_uint64_fn : Func := Go.Proofs.Try.f74
abbrev slices_Clone_uint64_uint64_75 : Nat := 75
noncomputable abbrev slices_Clone_uint64_uint64_75_fn : Func := Go.Proofs.Try.f75
abbrev slices_BinarySearchFunc_api_Mark_api_Mark_int : Nat := 76
noncomputable abbrev slices_BinarySearchFunc_api_Mark_api_Mark_int_fn : Func := Go.Proofs.Try.f76
abbrev side_find_1 : Nat := 77
noncomputable abbrev side_find_1_fn : Func := Go.Proofs.Try.f77
abbrev cmp_Compare_int : Nat := 78
noncomputable abbrev cmp_Compare_int_fn : Func := Go.Proofs.Try.f78
abbrev slices_overlaps_api_Mark : Nat := 79
noncomputable abbrev slices_overlaps_api_Mark_fn : Func := Go.Proofs.Try.f79
abbrev slices_rotateRight_api_Mark : Nat := 80
noncomputable abbrev slices_rotateRight_api_Mark_fn : Func := Go.Proofs.Try.f80
abbrev cmp_isNaN_int : Nat := 81
noncomputable abbrev cmp_isNaN_int_fn : Func := Go.Proofs.Try.f81
abbrev slices_rotateLeft_api_Mark : Nat := 82
noncomputable abbrev slices_rotateLeft_api_Mark_fn : Func := Go.Proofs.Try.f82
abbrev slices_Reverse_api_Mark_api_Mark : Nat := 83
noncomputable abbrev slices_Reverse_api_Mark_api_Mark_fn : Func := Go.Proofs.Try.f83
abbrev t_int64 : Nat := 2
abbrev t_int : Nat := 3
abbrev t_bool : Nat := 4
abbrev t_uint8 : Nat := 5
abbrev t_internal_abi_BoundsErrorCode : Nat := 6
abbrev t_runtime_boundsError : Nat := 8
abbrev t_string : Nat := 9
abbrev t_runtime_errorString : Nat := 10
abbrev t_runtime_plainError : Nat := 11
abbrev t_runtime_errorAddressString : Nat := 14
abbrev tp_runtime_TypeAssertionError : Nat := 15
abbrev tp_runtime_PanicNilError : Nat := 16
abbrev tp_abi_Type : Nat := 17
abbrev t_internal_runtime_maps_unhashableTypeError : Nat := 19
abbrev ts_uint8 : Nat := 22
abbrev t_uint16 : Nat := 23
abbrev tss_uint64 : Nat := 25
abbrev t_api_Tree : Nat := 27
abbrev tp_mk_Picks : Nat := 28
abbrev ts_int : Nat := 32
abbrev ts_uint64 : Nat := 36
abbrev ts_bool : Nat := 42
abbrev t_uint64 : Nat := 45
abbrev ts_3_uint8 : Nat := 46
abbrev tx_a200_bool : Nat := 47
abbrev tx_a3_uint8 : Nat := 48
abbrev ts_2_uint8 : Nat := 50
abbrev t_api_Mark : Nat := 52
abbrev ts_api_Mark : Nat := 53
abbrev tm_map_int_int : Nat := 61
abbrev ts_api_Tree : Nat := 63
abbrev t_api_Slots : Nat := 65
abbrev tx_a64_bool : Nat := 74
abbrev t_mk_Picks : Nat := 78
abbrev t_uint : Nat := 85
abbrev tx_a2_uint8 : Nat := 92
abbrev t_runtime_TypeAssertionError : Nat := 108
abbrev tx_a0_p_runtime_PanicNilError : Nat := 109
abbrev t_runtime_PanicNilError : Nat := 111
abbrev t_internal_abi_TFlag : Nat := 114
abbrev t_internal_abi_Kind : Nat := 115
abbrev tp_uint8 : Nat := 117
abbrev t_internal_abi_NameOff : Nat := 118
abbrev t_internal_abi_TypeOff : Nat := 119
abbrev t_internal_abi_Type : Nat := 121
def tab : List (Nat × TI) := [
  (1, ⟨.func, 1, 8, .und⟩),
  (2, ⟨.int .i64, 1, 8, .int .i64 0⟩),
  (3, ⟨.int .i64, 1, 8, .int .i64 0⟩),
  (4, ⟨.bool, 1, 1, .bool false⟩),
  (5, ⟨.int .u8, 1, 1, .int .u8 0⟩),
  (6, ⟨.int .u8, 1, 1, .int .u8 0⟩),
  (9, ⟨.str, 1, 16, .str .empty⟩),
  (10, ⟨.str, 1, 16, .str .empty⟩),
  (11, ⟨.str, 1, 16, .str .empty⟩),
  (12, ⟨.int .u64, 1, 8, .int .u64 0⟩),
  (15, ⟨.ptr 108, 1, 8, .npt⟩),
  (16, ⟨.ptr 111, 1, 8, .npt⟩),
  (17, ⟨.ptr 121, 1, 8, .npt⟩),
  (21, ⟨.int .i32, 1, 4, .int .i32 0⟩),
  (22, ⟨.slice 5, 1, 24, .nsl 5⟩),
  (23, ⟨.int .u16, 1, 2, .int .u16 0⟩),
  (24, ⟨.func, 1, 8, .und⟩),
  (25, ⟨.slice 36, 1, 24, .nsl 36⟩),
  (26, ⟨.struct [(0, 3), (1, 25)], 2, 32, .agg [.int .i64 0, .nsl 36]⟩),
  (27, ⟨.struct [(0, 3), (1, 25)], 2, 32, .agg [.int .i64 0, .nsl 36]⟩),
  (28, ⟨.ptr 78, 1, 8, .npt⟩),
  (29, ⟨.func, 1, 8, .und⟩),
  (30, ⟨.func, 1, 8, .und⟩),
  (31, ⟨.func, 1, 8, .und⟩),
  (32, ⟨.slice 3, 1, 24, .nsl 3⟩),
  (34, ⟨.func, 1, 8, .und⟩),
  (35, ⟨.func, 1, 8, .und⟩),
  (36, ⟨.slice 45, 1, 24, .nsl 45⟩),
  (37, ⟨.func, 1, 8, .und⟩),
  (38, ⟨.func, 1, 8, .und⟩),
  (39, ⟨.func, 1, 8, .und⟩),
  (40, ⟨.func, 1, 8, .und⟩),
  (41, ⟨.func, 1, 8, .und⟩),
  (42, ⟨.slice 4, 1, 24, .nsl 4⟩),
  (43, ⟨.func, 1, 8, .und⟩),
  (44, ⟨.func, 1, 8, .und⟩),
  (45, ⟨.int .u64, 1, 8, .int .u64 0⟩),
  (46, ⟨.slice 48, 1, 24, .nsl 48⟩),
  (47, ⟨.arr 200 4, 200, 200, .agg [.bool false, .bool false, .bool false, .bool false, .bool false, .bool false, .bool false, .bool false, .bool false, .bool false, .bool false, .bool false, .bool false, .bool false, .bool false, .bool false, .bool false, .bool false, .bool false, .bool false, .bool false, .bool false, .bool false, .bool false, .bool false, .bool false, .bool false, .bool false, .bool false, .bool false, .bool false, .bool false, .bool false, .bool false, .bool false, .bool false, .bool false, .bool false, .bool false, .bool false, .bool false, .bool false, .bool false, .bool false, .bool false, .bool false, .bool false, .bool false, .bool false, .bool false, .bool false, .bool false, .bool false, .bool false, .bool false, .bool false, .bool false, .bool false, .bool false, .bool false, .bool false, .bool false, .bool false, .bool false, .bool false, .bool false, .bool false, .bool false, .bool false, .bool false, .bool false, .bool false, .bool false, .bool false, .bool false, .bool false, .bool false, .bool false, .bool false, .bool false, .bool false, .bool false, .bool false, .bool false, .bool false, .bool false, .bool false, .bool false, .bool false, .bool false, .bool false, .bool false, .bool false, .bool false, .bool false, .bool false, .bool false, .bool false, .bool false, .bool false, .bool false, .bool false, .bool false, .bool false, .bool false, .bool false, .bool false, .bool false, .bool false, .bool false, .bool false, .bool false, .bool false, .bool false, .bool false, .bool false, .bool false, .bool false, .bool false, .bool false, .bool false, .bool false, .bool false, .bool false, .bool false, .bool false, .bool false, .bool false, .bool false, .bool false, .bool false, .bool false, .bool false, .bool false, .bool false, .bool false, .bool false, .bool false, .bool false, .bool false, .bool false, .bool false, .bool false, .bool false, .bool false, .bool false, .bool false, .bool false, .bool false, .bool false, .bool false, .bool false, .bool false, .bool false, .bool false, .bool false, .bool false, .bool false, .bool false, .bool false, .bool false, .bool false, .bool false, .bool false, .bool false, .bool false, .bool false, .bool false, .bool false, .bool false, .bool false, .bool false, .bool false, .bool false, .bool false, .bool false, .bool false, .bool false, .bool false, .bool false, .bool false, .bool false, .bool false, .bool false, .bool false, .bool false, .bool false, .bool false, .bool false, .bool false, .bool false, .bool false, .bool false, .bool false, .bool false, .bool false, .bool false, .bool false, .bool false, .bool false]⟩),
  (48, ⟨.arr 3 5, 3, 3, .agg [.int .u8 0, .int .u8 0, .int .u8 0]⟩),
  (49, ⟨.func, 1, 8, .und⟩),
  (50, ⟨.slice 92, 1, 24, .nsl 92⟩),
  (51, ⟨.struct [(0, 3), (1, 3)], 2, 16, .agg [.int .i64 0, .int .i64 0]⟩),
  (52, ⟨.struct [(0, 3), (1, 3)], 2, 16, .agg [.int .i64 0, .int .i64 0]⟩),
  (53, ⟨.slice 52, 1, 24, .nsl 52⟩),
  (54, ⟨.func, 1, 8, .und⟩),
  (56, ⟨.func, 1, 8, .und⟩),
  (57, ⟨.func, 1, 8, .und⟩),
  (58, ⟨.func, 1, 8, .und⟩),
  (59, ⟨.func, 1, 8, .und⟩),
  (60, ⟨.func, 1, 8, .und⟩),
  (61, ⟨.map 3 3, 1, 8, .nmp⟩),
  (62, ⟨.func, 1, 8, .und⟩),
  (63, ⟨.slice 27, 1, 24, .nsl 27⟩),
  (64, ⟨.struct [(0, 63)], 1, 24, .agg [.nsl 27]⟩),
  (65, ⟨.struct [(0, 63)], 1, 24, .agg [.nsl 27]⟩),
  (66, ⟨.func, 1, 8, .und⟩),
  (67, ⟨.func, 1, 8, .und⟩),
  (68, ⟨.func, 1, 8, .und⟩),
  (69, ⟨.func, 1, 8, .und⟩),
  (70, ⟨.func, 1, 8, .und⟩),
  (71, ⟨.func, 1, 8, .und⟩),
  (72, ⟨.func, 1, 8, .und⟩),
  (73, ⟨.func, 1, 8, .und⟩),
  (74, ⟨.arr 64 4, 64, 64, .agg [.bool false, .bool false, .bool false, .bool false, .bool false, .bool false, .bool false, .bool false, .bool false, .bool false, .bool false, .bool false, .bool false, .bool false, .bool false, .bool false, .bool false, .bool false, .bool false, .bool false, .bool false, .bool false, .bool false, .bool false, .bool false, .bool false, .bool false, .bool false, .bool false, .bool false, .bool false, .bool false, .bool false, .bool false, .bool false, .bool false, .bool false, .bool false, .bool false, .bool false, .bool false, .bool false, .bool false, .bool false, .bool false, .bool false, .bool false, .bool false, .bool false, .bool false, .bool false, .bool false, .bool false, .bool false, .bool false, .bool false, .bool false, .bool false, .bool false, .bool false, .bool false, .bool false, .bool false, .bool false]⟩),
  (75, ⟨.func, 1, 8, .und⟩),
  (76, ⟨.func, 1, 8, .und⟩),
  (77, ⟨.struct [(0, 22), (1, 3)], 2, 32, .agg [.nsl 5, .int .i64 0]⟩),
  (78, ⟨.struct [(0, 22), (1, 3)], 2, 32, .agg [.nsl 5, .int .i64 0]⟩),
  (79, ⟨.func, 1, 8, .und⟩),
  (80, ⟨.func, 1, 8, .und⟩),
  (81, ⟨.func, 1, 8, .und⟩),
  (82, ⟨.func, 1, 8, .und⟩),
  (83, ⟨.func, 1, 8, .und⟩),
  (84, ⟨.func, 1, 8, .und⟩),
  (85, ⟨.int .u64, 1, 8, .int .u64 0⟩),
  (86, ⟨.func, 1, 8, .und⟩),
  (87, ⟨.func, 1, 8, .und⟩),
  (88, ⟨.func, 1, 8, .und⟩),
  (89, ⟨.func, 1, 8, .und⟩),
  (90, ⟨.func, 1, 8, .und⟩),
  (91, ⟨.func, 1, 8, .und⟩),
  (92, ⟨.arr 2 5, 2, 2, .agg [.int .u8 0, .int .u8 0]⟩),
  (93, ⟨.func, 1, 8, .und⟩),
  (94, ⟨.func, 1, 8, .und⟩),
  (95, ⟨.func, 1, 8, .und⟩),
  (96, ⟨.func, 1, 8, .und⟩),
  (97, ⟨.func, 1, 8, .und⟩),
  (98, ⟨.func, 1, 8, .und⟩),
  (99, ⟨.func, 1, 8, .und⟩),
  (100, ⟨.func, 1, 8, .und⟩),
  (101, ⟨.func, 1, 8, .und⟩),
  (102, ⟨.func, 1, 8, .und⟩),
  (103, ⟨.func, 1, 8, .und⟩),
  (104, ⟨.func, 1, 8, .und⟩),
  (105, ⟨.func, 1, 8, .und⟩),
  (106, ⟨.func, 1, 8, .und⟩),
  (112, ⟨.func, 1, 8, .und⟩),
  (113, ⟨.int .u32, 1, 4, .int .u32 0⟩),
  (114, ⟨.int .u8, 1, 1, .int .u8 0⟩),
  (115, ⟨.int .u8, 1, 1, .int .u8 0⟩),
  (116, ⟨.func, 1, 8, .und⟩),
  (117, ⟨.ptr 5, 1, 8, .npt⟩),
  (118, ⟨.int .i32, 1, 4, .int .i32 0⟩),
  (119, ⟨.int .i32, 1, 4, .int .i32 0⟩)]
noncomputable abbrev P : Program := Go.Proofs.Try.prog
def T : Tab := tabOf tab
theorem tabOk : TabOk P T := TabOk.of tab (by kernel_rfl)
theorem mixed : P.follows .mixedOrders = true := by kernel_rfl
end Go.Ev.N

