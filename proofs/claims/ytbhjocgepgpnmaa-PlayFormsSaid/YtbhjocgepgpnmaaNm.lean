/- Numbers of this seat, by name. Printed by names.py. -/
import Derived.Test.YtbhjocgepgpnmaaChecked
import Derived.Test.YtbhjocgepgpnmaaEvOpen
import Derived.KernelRfl
set_option linter.unusedVariables false
set_option linter.unusedSimpArgs false
namespace Go.Ev.N
open Go.Ev
abbrev law27_PlayForms : Nat := 3
noncomputable abbrev law27_PlayForms_fn : Func := Go.Proofs.Try.f3
abbrev law27_begun : Nat := 4
noncomputable abbrev law27_begun_fn : Func := Go.Proofs.Try.f4
abbrev play_Decode : Nat := 5
noncomputable abbrev play_Decode_fn : Func := Go.Proofs.Try.f5
abbrev play_Run : Nat := 6
noncomputable abbrev play_Run_fn : Func := Go.Proofs.Try.f6
abbrev play_Encode : Nat := 7
noncomputable abbrev play_Encode_fn : Func := Go.Proofs.Try.f7
abbrev wire_Take : Nat := 8
noncomputable abbrev wire_Take_fn : Func := Go.Proofs.Try.f8
abbrev run_Heap : Nat := 9
noncomputable abbrev run_Heap_fn : Func := Go.Proofs.Try.f9
abbrev wire_Put : Nat := 10
noncomputable abbrev wire_Put_fn : Func := Go.Proofs.Try.f10
abbrev wire_one : Nat := 11
noncomputable abbrev wire_one_fn : Func := Go.Proofs.Try.f11
abbrev heap_New : Nat := 12
noncomputable abbrev heap_New_fn : Func := Go.Proofs.Try.f12
abbrev heap_Heap_Do : Nat := 13
noncomputable abbrev heap_Heap_Do_fn : Func := Go.Proofs.Try.f13
abbrev wire_put : Nat := 14
noncomputable abbrev wire_put_fn : Func := Go.Proofs.Try.f14
abbrev wire_fields : Nat := 15
noncomputable abbrev wire_fields_fn : Func := Go.Proofs.Try.f15
abbrev wire_field : Nat := 16
noncomputable abbrev wire_field_fn : Func := Go.Proofs.Try.f16
abbrev conf_Of : Nat := 17
noncomputable abbrev conf_Of_fn : Func := Go.Proofs.Try.f17
abbrev place_New : Nat := 18
noncomputable abbrev place_New_fn : Func := Go.Proofs.Try.f18
abbrev heap_Heap_aligned : Nat := 19
noncomputable abbrev heap_Heap_aligned_fn : Func := Go.Proofs.Try.f19
abbrev heap_Heap_calloc : Nat := 20
noncomputable abbrev heap_Heap_calloc_fn : Func := Go.Proofs.Try.f20
abbrev heap_Heap_block : Nat := 21
noncomputable abbrev heap_Heap_block_fn : Func := Go.Proofs.Try.f21
abbrev commit_Trim : Nat := 22
noncomputable abbrev commit_Trim_fn : Func := Go.Proofs.Try.f22
abbrev heap_Heap_pages : Nat := 23
noncomputable abbrev heap_Heap_pages_fn : Func := Go.Proofs.Try.f23
abbrev pin_Count : Nat := 24
noncomputable abbrev pin_Count_fn : Func := Go.Proofs.Try.f24
abbrev conf_within : Nat := 25
noncomputable abbrev conf_within_fn : Func := Go.Proofs.Try.f25
abbrev calc_Up : Nat := 26
noncomputable abbrev calc_Up_fn : Func := Go.Proofs.Try.f26
abbrev calc_Round : Nat := 27
noncomputable abbrev calc_Round_fn : Func := Go.Proofs.Try.f27
abbrev calc_Log : Nat := 28
noncomputable abbrev calc_Log_fn : Func := Go.Proofs.Try.f28
abbrev slots_New : Nat := 29
noncomputable abbrev slots_New_fn : Func := Go.Proofs.Try.f29
abbrev admit_New : Nat := 30
noncomputable abbrev admit_New_fn : Func := Go.Proofs.Try.f30
abbrev heap_Heap_asks : Nat := 31
noncomputable abbrev heap_Heap_asks_fn : Func := Go.Proofs.Try.f31
abbrev admit_Many : Nat := 32
noncomputable abbrev admit_Many_fn : Func := Go.Proofs.Try.f32
abbrev class_Product : Nat := 33
noncomputable abbrev class_Product_fn : Func := Go.Proofs.Try.f33
abbrev heap_Heap_realloc : Nat := 34
noncomputable abbrev heap_Heap_realloc_fn : Func := Go.Proofs.Try.f34
abbrev heap_Heap_gone : Nat := 35
noncomputable abbrev heap_Heap_gone_fn : Func := Go.Proofs.Try.f35
abbrev slices_Clone_bool_bool : Nat := 36
noncomputable abbrev slices_Clone_bool_bool_fn : Func := Go.Proofs.Try.f36
abbrev calc_Add : Nat := 37
noncomputable abbrev calc_Add_fn : Func := Go.Proofs.Try.f37
abbrev tree_New : Nat := 38
noncomputable abbrev tree_New_fn : Func := Go.Proofs.Try.f38
abbrev class_Charge : Nat := 39
noncomputable abbrev class_Charge_fn : Func := Go.Proofs.Try.f39
abbrev heap_Heap_puts : Nat := 40
noncomputable abbrev heap_Heap_puts_fn : Func := Go.Proofs.Try.f40
abbrev calc_Mul : Nat := 41
noncomputable abbrev calc_Mul_fn : Func := Go.Proofs.Try.f41
abbrev admit_Anew : Nat := 42
noncomputable abbrev admit_Anew_fn : Func := Go.Proofs.Try.f42
abbrev slices_Clone_byte_byte : Nat := 43
noncomputable abbrev slices_Clone_byte_byte_fn : Func := Go.Proofs.Try.f43
abbrev heap_Heap_back : Nat := 44
noncomputable abbrev heap_Heap_back_fn : Func := Go.Proofs.Try.f44
abbrev place_Release : Nat := 45
noncomputable abbrev place_Release_fn : Func := Go.Proofs.Try.f45
abbrev heap_Heap_meets : Nat := 46
noncomputable abbrev heap_Heap_meets_fn : Func := Go.Proofs.Try.f46
abbrev tree_level : Nat := 47
noncomputable abbrev tree_level_fn : Func := Go.Proofs.Try.f47
abbrev class_Class : Nat := 48
noncomputable abbrev class_Class_fn : Func := Go.Proofs.Try.f48
abbrev place_Place : Nat := 49
noncomputable abbrev place_Place_fn : Func := Go.Proofs.Try.f49
abbrev pin_Pages : Nat := 50
noncomputable abbrev pin_Pages_fn : Func := Go.Proofs.Try.f50
abbrev commit_Commit : Nat := 51
noncomputable abbrev commit_Commit_fn : Func := Go.Proofs.Try.f51
abbrev junk_Byte : Nat := 52
noncomputable abbrev junk_Byte_fn : Func := Go.Proofs.Try.f52
abbrev side_Take : Nat := 53
noncomputable abbrev side_Take_fn : Func := Go.Proofs.Try.f53
abbrev place_twin : Nat := 54
noncomputable abbrev place_twin_fn : Func := Go.Proofs.Try.f54
abbrev slots_Use : Nat := 55
noncomputable abbrev slots_Use_fn : Func := Go.Proofs.Try.f55
abbrev word_Mask : Nat := 56
noncomputable abbrev word_Mask_fn : Func := Go.Proofs.Try.f56
abbrev conf_Shift : Nat := 57
noncomputable abbrev conf_Shift_fn : Func := Go.Proofs.Try.f57
abbrev slots_Lowest : Nat := 58
noncomputable abbrev slots_Lowest_fn : Func := Go.Proofs.Try.f58
abbrev side_Put : Nat := 59
noncomputable abbrev side_Put_fn : Func := Go.Proofs.Try.f59
abbrev slices_Clone_api_Mark_api_Mark : Nat := 60
noncomputable abbrev slices_Clone_api_Mark_api_Mark_fn : Func := Go.Proofs.Try.f60
abbrev side_find : Nat := 61
noncomputable abbrev side_find_fn : Func := Go.Proofs.Try.f61
abbrev slices_Delete_api_Mark_api_Mark : Nat := 62
noncomputable abbrev slices_Delete_api_Mark_api_Mark_fn : Func := Go.Proofs.Try.f62
abbrev slots_twin : Nat := 63
noncomputable abbrev slots_twin_fn : Func := Go.Proofs.Try.f63
abbrev tree_Set : Nat := 64
noncomputable abbrev tree_Set_fn : Func := Go.Proofs.Try.f64
abbrev slots_taken : Nat := 65
noncomputable abbrev slots_taken_fn : Func := Go.Proofs.Try.f65
abbrev tree_FirstZero : Nat := 66
noncomputable abbrev tree_FirstZero_fn : Func := Go.Proofs.Try.f66
abbrev slices_Insert_api_Mark_api_Mark : Nat := 67
noncomputable abbrev slices_Insert_api_Mark_api_Mark_fn : Func := Go.Proofs.Try.f67
abbrev slices_BinarySearchFunc_api_Mark_api_Mark_int : Nat := 68
noncomputable abbrev slices_BinarySearchFunc_api_Mark_api_Mark_int_fn : Func := Go.Proofs.Try.f68
abbrev side_find_1 : Nat := 69
noncomputable abbrev side_find_1_fn : Func := Go.Proofs.Try.f69
abbrev cmp_Compare_int : Nat := 70
noncomputable abbrev cmp_Compare_int_fn : Func := Go.Proofs.Try.f70
abbrev tree_twin : Nat := 71
noncomputable abbrev tree_twin_fn : Func := Go.Proofs.Try.f71
abbrev tree_at : Nat := 72
noncomputable abbrev tree_at_fn : Func := Go.Proofs.Try.f72
abbrev tree_put : Nat := 73
noncomputable abbrev tree_put_fn : Func := Go.Proofs.Try.f73
abbrev tree_sums : Nat := 74
noncomputable abbrev tree_sums_fn : Func := Go.Proofs.Try.f74
abbrev tree_Has : Nat := 75
noncomputable abbrev tree_Has_fn : Func := Go.Proofs.Try.f75
abbrev word_LowZero : Nat := 76
noncomputable abbrev word_LowZero_fn : Func := Go.Proofs.Try.f76
abbrev slices_overlaps_api_Mark : Nat := 77
noncomputable abbrev slices_overlaps_api_Mark_fn : Func := Go.Proofs.Try.f77
abbrev slices_rotateRight_api_Mark : Nat := 78
noncomputable abbrev slices_rotateRight_api_Mark_fn : Func := Go.Proofs.Try.f78
abbrev cmp_isNaN_int : Nat := 79
noncomputable abbrev cmp_isNaN_int_fn : Func := Go.Proofs.Try.f79
abbrev slices_Clone_uint64_uint64 : Nat := 80
noncomputable abbrev slices_Clone_uint64_uint64_fn : Func := Go.Proofs.Try.f80
abbrev slices_Clone_uint64_uint64_b : Nat := 81
noncomputable abbrev slices_Clone_uint64_uint64_b_fn : Func := Go.Proofs.Try.f81
abbrev word_LowOne : Nat := 82
noncomputable abbrev word_LowOne_fn : Func := Go.Proofs.Try.f82
abbrev slices_rotateLeft_api_Mark : Nat := 83
noncomputable abbrev slices_rotateLeft_api_Mark_fn : Func := Go.Proofs.Try.f83
abbrev slices_Reverse_api_Mark_api_Mark : Nat := 84
noncomputable abbrev slices_Reverse_api_Mark_api_Mark_fn : Func := Go.Proofs.Try.f84
abbrev heap_Heap_Blocks : Nat := 100
noncomputable abbrev heap_Heap_Blocks_fn : Func := Go.Proofs.Try.f100
abbrev t_int64 : Nat := 2
abbrev t_int : Nat := 3
abbrev t_bool : Nat := 4
abbrev t_uint8 : Nat := 5
abbrev t_internal_abi_BoundsErrorCode : Nat := 6
abbrev t_runtime_boundsError : Nat := 8
abbrev t_string : Nat := 9
abbrev t_runtime_errorString : Nat := 10
abbrev t_runtime_plainError : Nat := 11
abbrev t_runtime_errorAddressString : Nat := 14
abbrev tp_runtime_TypeAssertionError : Nat := 15
abbrev tp_runtime_PanicNilError : Nat := 16
abbrev tp_abi_Type : Nat := 17
abbrev t_internal_runtime_maps_unhashableTypeError : Nat := 19
abbrev ts_uint8 : Nat := 23
abbrev t_api_Raw : Nat := 25
abbrev ts_api_Op : Nat := 26
abbrev ts_api_Ans : Nat := 29
abbrev t_api_Errno : Nat := 30
abbrev t_api_Ans : Nat := 35
abbrev t_api_Op : Nat := 37
abbrev tp_int : Nat := 38
abbrev ts_int : Nat := 39
abbrev t_uint : Nat := 40
abbrev ts_int_43 : Nat := 43
abbrev tp_heap_Heap : Nat := 47
abbrev tp_api_Op : Nat := 54
abbrev t_api_Conf : Nat := 56
abbrev tm_map_heap_start_api_Block : Nat := 59
abbrev ts_bool : Nat := 60
abbrev ts_api_Tree : Nat := 61
abbrev t_api_Slots : Nat := 63
abbrev ts_api_Mark : Nat := 64
abbrev t_api_Engine : Nat := 66
abbrev t_heap_Heap : Nat := 68
abbrev t_api_Block : Nat := 86
abbrev t_heap_start : Nat := 89
abbrev tss_uint64 : Nat := 93
abbrev t_api_Tree : Nat := 95
abbrev t_uint64 : Nat := 103
abbrev ts_uint64 : Nat := 104
abbrev t_api_Mark : Nat := 120
abbrev t_runtime_TypeAssertionError : Nat := 145
abbrev tx_a0_p_runtime_PanicNilError : Nat := 146
abbrev t_runtime_PanicNilError : Nat := 148
abbrev t_internal_abi_TFlag : Nat := 151
abbrev t_internal_abi_Kind : Nat := 152
abbrev tp_uint8 : Nat := 154
abbrev t_internal_abi_NameOff : Nat := 155
abbrev t_internal_abi_TypeOff : Nat := 156
abbrev t_internal_abi_Type : Nat := 158
abbrev ts_api_Block : Nat := 161
def tab : List (Nat × TI) := [
  (1, ⟨.func, 1, 8, .und⟩),
  (2, ⟨.int .i64, 1, 8, .int .i64 0⟩),
  (3, ⟨.int .i64, 1, 8, .int .i64 0⟩),
  (4, ⟨.bool, 1, 1, .bool false⟩),
  (5, ⟨.int .u8, 1, 1, .int .u8 0⟩),
  (6, ⟨.int .u8, 1, 1, .int .u8 0⟩),
  (9, ⟨.str, 1, 16, .str .empty⟩),
  (10, ⟨.str, 1, 16, .str .empty⟩),
  (11, ⟨.str, 1, 16, .str .empty⟩),
  (12, ⟨.int .u64, 1, 8, .int .u64 0⟩),
  (15, ⟨.ptr 145, 1, 8, .npt⟩),
  (16, ⟨.ptr 148, 1, 8, .npt⟩),
  (17, ⟨.ptr 158, 1, 8, .npt⟩),
  (21, ⟨.int .i32, 1, 4, .int .i32 0⟩),
  (22, ⟨.func, 1, 8, .und⟩),
  (23, ⟨.slice 5, 1, 24, .nsl 5⟩),
  (24, ⟨.struct [(0, 3), (1, 3), (2, 3), (3, 3), (4, 3), (5, 3)], 6, 48, .agg [.int .i64 0, .int .i64 0, .int .i64 0, .int .i64 0, .int .i64 0, .int .i64 0]⟩),
  (25, ⟨.struct [(0, 3), (1, 3), (2, 3), (3, 3), (4, 3), (5, 3)], 6, 48, .agg [.int .i64 0, .int .i64 0, .int .i64 0, .int .i64 0, .int .i64 0, .int .i64 0]⟩),
  (26, ⟨.slice 37, 1, 24, .nsl 37⟩),
  (28, ⟨.func, 1, 8, .und⟩),
  (29, ⟨.slice 35, 1, 24, .nsl 35⟩),
  (30, ⟨.int .i64, 1, 8, .int .i64 0⟩),
  (32, ⟨.func, 1, 8, .und⟩),
  (33, ⟨.func, 1, 8, .und⟩),
  (34, ⟨.struct [(0, 30), (1, 3), (2, 3), (3, 5), (4, 3), (5, 3), (6, 3), (7, 3)], 8, 64, .agg [.int .i64 0, .int .i64 0, .int .i64 0, .int .u8 0, .int .i64 0, .int .i64 0, .int .i64 0, .int .i64 0]⟩),
  (35, ⟨.struct [(0, 30), (1, 3), (2, 3), (3, 5), (4, 3), (5, 3), (6, 3), (7, 3)], 8, 64, .agg [.int .i64 0, .int .i64 0, .int .i64 0, .int .u8 0, .int .i64 0, .int .i64 0, .int .i64 0, .int .i64 0]⟩),
  (36, ⟨.struct [(0, 3), (1, 3), (2, 3), (3, 3), (4, 3), (5, 5)], 6, 48, .agg [.int .i64 0, .int .i64 0, .int .i64 0, .int .i64 0, .int .i64 0, .int .u8 0]⟩),
  (37, ⟨.struct [(0, 3), (1, 3), (2, 3), (3, 3), (4, 3), (5, 5)], 6, 48, .agg [.int .i64 0, .int .i64 0, .int .i64 0, .int .i64 0, .int .i64 0, .int .u8 0]⟩),
  (38, ⟨.ptr 3, 1, 8, .npt⟩),
  (39, ⟨.slice 38, 1, 24, .nsl 38⟩),
  (40, ⟨.int .u64, 1, 8, .int .u64 0⟩),
  (41, ⟨.func, 1, 8, .und⟩),
  (42, ⟨.func, 1, 8, .und⟩),
  (43, ⟨.slice 3, 1, 24, .nsl 3⟩),
  (44, ⟨.func, 1, 8, .und⟩),
  (46, ⟨.func, 1, 8, .und⟩),
  (47, ⟨.ptr 68, 1, 8, .npt⟩),
  (49, ⟨.func, 1, 8, .und⟩),
  (50, ⟨.func, 1, 8, .und⟩),
  (51, ⟨.func, 1, 8, .und⟩),
  (52, ⟨.func, 1, 8, .und⟩),
  (53, ⟨.func, 1, 8, .und⟩),
  (54, ⟨.ptr 37, 1, 8, .npt⟩),
  (55, ⟨.struct [(0, 3), (1, 3), (2, 3), (3, 3), (4, 3), (5, 3), (6, 3), (7, 3)], 8, 64, .agg [.int .i64 0, .int .i64 0, .int .i64 0, .int .i64 0, .int .i64 0, .int .i64 0, .int .i64 0, .int .i64 0]⟩),
  (56, ⟨.struct [(0, 3), (1, 3), (2, 3), (3, 3), (4, 3), (5, 3), (6, 3), (7, 3)], 8, 64, .agg [.int .i64 0, .int .i64 0, .int .i64 0, .int .i64 0, .int .i64 0, .int .i64 0, .int .i64 0, .int .i64 0]⟩),
  (58, ⟨.func, 1, 8, .und⟩),
  (59, ⟨.map 89 86, 1, 8, .nmp⟩),
  (60, ⟨.slice 4, 1, 24, .nsl 4⟩),
  (61, ⟨.slice 95, 1, 24, .nsl 95⟩),
  (62, ⟨.struct [(0, 61)], 1, 24, .agg [.nsl 95]⟩),
  (63, ⟨.struct [(0, 61)], 1, 24, .agg [.nsl 95]⟩),
  (64, ⟨.slice 120, 1, 24, .nsl 120⟩),
  (65, ⟨.struct [(0, 3), (1, 63), (2, 64)], 3, 56, .agg [.int .i64 0, .nsl 95, .nsl 120]⟩),
  (66, ⟨.struct [(0, 3), (1, 63), (2, 64)], 3, 56, .agg [.int .i64 0, .nsl 95, .nsl 120]⟩),
  (67, ⟨.struct [(0, 56), (8, 66), (11, 59), (12, 3), (13, 3), (14, 3), (15, 43), (16, 60), (17, 23)], 18, 224, .agg [.int .i64 0, .int .i64 0, .int .i64 0, .int .i64 0, .int .i64 0, .int .i64 0, .int .i64 0, .int .i64 0, .int .i64 0, .nsl 95, .nsl 120, .nmp, .int .i64 0, .int .i64 0, .int .i64 0, .nsl 3, .nsl 4, .nsl 5]⟩),
  (68, ⟨.struct [(0, 56), (8, 66), (11, 59), (12, 3), (13, 3), (14, 3), (15, 43), (16, 60), (17, 23)], 18, 224, .agg [.int .i64 0, .int .i64 0, .int .i64 0, .int .i64 0, .int .i64 0, .int .i64 0, .int .i64 0, .int .i64 0, .int .i64 0, .nsl 95, .nsl 120, .nmp, .int .i64 0, .int .i64 0, .int .i64 0, .nsl 3, .nsl 4, .nsl 5]⟩),
  (70, ⟨.func, 1, 8, .und⟩),
  (71, ⟨.func, 1, 8, .und⟩),
  (73, ⟨.func, 1, 8, .und⟩),
  (74, ⟨.func, 1, 8, .und⟩),
  (75, ⟨.func, 1, 8, .und⟩),
  (76, ⟨.func, 1, 8, .und⟩),
  (78, ⟨.func, 1, 8, .und⟩),
  (79, ⟨.func, 1, 8, .und⟩),
  (80, ⟨.func, 1, 8, .und⟩),
  (82, ⟨.func, 1, 8, .und⟩),
  (83, ⟨.func, 1, 8, .und⟩),
  (84, ⟨.func, 1, 8, .und⟩),
  (85, ⟨.struct [(0, 3), (1, 3), (2, 3)], 3, 24, .agg [.int .i64 0, .int .i64 0, .int .i64 0]⟩),
  (86, ⟨.struct [(0, 3), (1, 3), (2, 3)], 3, 24, .agg [.int .i64 0, .int .i64 0, .int .i64 0]⟩),
  (88, ⟨.struct [(0, 3)], 1, 8, .agg [.int .i64 0]⟩),
  (89, ⟨.struct [(0, 3)], 1, 8, .agg [.int .i64 0]⟩),
  (90, ⟨.func, 1, 8, .und⟩),
  (91, ⟨.func, 1, 8, .und⟩),
  (92, ⟨.func, 1, 8, .und⟩),
  (93, ⟨.slice 104, 1, 24, .nsl 104⟩),
  (94, ⟨.struct [(0, 3), (1, 93)], 2, 32, .agg [.int .i64 0, .nsl 104]⟩),
  (95, ⟨.struct [(0, 3), (1, 93)], 2, 32, .agg [.int .i64 0, .nsl 104]⟩),
  (96, ⟨.func, 1, 8, .und⟩),
  (97, ⟨.func, 1, 8, .und⟩),
  (98, ⟨.func, 1, 8, .und⟩),
  (99, ⟨.func, 1, 8, .und⟩),
  (101, ⟨.func, 1, 8, .und⟩),
  (102, ⟨.func, 1, 8, .und⟩),
  (103, ⟨.int .u64, 1, 8, .int .u64 0⟩),
  (104, ⟨.slice 103, 1, 24, .nsl 103⟩),
  (105, ⟨.func, 1, 8, .und⟩),
  (106, ⟨.func, 1, 8, .und⟩),
  (108, ⟨.func, 1, 8, .und⟩),
  (110, ⟨.func, 1, 8, .und⟩),
  (111, ⟨.func, 1, 8, .und⟩),
  (113, ⟨.func, 1, 8, .und⟩),
  (114, ⟨.func, 1, 8, .und⟩),
  (115, ⟨.func, 1, 8, .und⟩),
  (116, ⟨.func, 1, 8, .und⟩),
  (117, ⟨.func, 1, 8, .und⟩),
  (118, ⟨.func, 1, 8, .und⟩),
  (119, ⟨.struct [(0, 3), (1, 3)], 2, 16, .agg [.int .i64 0, .int .i64 0]⟩),
  (120, ⟨.struct [(0, 3), (1, 3)], 2, 16, .agg [.int .i64 0, .int .i64 0]⟩),
  (121, ⟨.func, 1, 8, .und⟩),
  (122, ⟨.func, 1, 8, .und⟩),
  (123, ⟨.func, 1, 8, .und⟩),
  (124, ⟨.func, 1, 8, .und⟩),
  (125, ⟨.func, 1, 8, .und⟩),
  (126, ⟨.func, 1, 8, .und⟩),
  (127, ⟨.func, 1, 8, .und⟩),
  (128, ⟨.func, 1, 8, .und⟩),
  (129, ⟨.func, 1, 8, .und⟩),
  (130, ⟨.func, 1, 8, .und⟩),
  (131, ⟨.func, 1, 8, .und⟩),
  (132, ⟨.func, 1, 8, .und⟩),
  (133, ⟨.func, 1, 8, .und⟩),
  (134, ⟨.func, 1, 8, .und⟩),
  (135, ⟨.func, 1, 8, .und⟩),
  (136, ⟨.func, 1, 8, .und⟩),
  (137, ⟨.func, 1, 8, .und⟩),
  (138, ⟨.func, 1, 8, .und⟩),
  (139, ⟨.func, 1, 8, .und⟩),
  (140, ⟨.func, 1, 8, .und⟩),
  (141, ⟨.func, 1, 8, .und⟩),
  (142, ⟨.func, 1, 8, .und⟩),
  (143, ⟨.func, 1, 8, .und⟩),
  (149, ⟨.func, 1, 8, .und⟩),
  (150, ⟨.int .u32, 1, 4, .int .u32 0⟩),
  (151, ⟨.int .u8, 1, 1, .int .u8 0⟩),
  (152, ⟨.int .u8, 1, 1, .int .u8 0⟩),
  (153, ⟨.func, 1, 8, .und⟩),
  (154, ⟨.ptr 5, 1, 8, .npt⟩),
  (155, ⟨.int .i32, 1, 4, .int .i32 0⟩),
  (156, ⟨.int .i32, 1, 4, .int .i32 0⟩),
  (159, ⟨.func, 1, 8, .und⟩),
  (161, ⟨.slice 86, 1, 24, .nsl 86⟩)]
noncomputable abbrev P : Program := Go.Proofs.Try.prog
def T : Tab := tabOf tab
theorem tabOk : TabOk P T := TabOk.of tab (by kernel_rfl)
theorem mixed : P.follows .mixedOrders = true := by kernel_rfl
end Go.Ev.N

