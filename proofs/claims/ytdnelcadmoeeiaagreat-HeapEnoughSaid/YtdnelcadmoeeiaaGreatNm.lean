/- Numbers of this seat, by name. Printed by names.py. -/
import Derived.Test.YtdnelcadmoeeiaaGreatChecked
import Derived.Test.YtdnelcadmoeeiaaGreatEvOpen
import Derived.KernelRfl
set_option linter.unusedVariables false
set_option linter.unusedSimpArgs false
namespace Go.Ev.N
open Go.Ev
abbrev law18_HeapAll : Nat := 3
noncomputable abbrev law18_HeapAll_fn : Func := Go.Proofs.Tryz.f3
abbrev law18_HeapOwn : Nat := 4
noncomputable abbrev law18_HeapOwn_fn : Func := Go.Proofs.Tryz.f4
abbrev law18_HeapLongs : Nat := 5
noncomputable abbrev law18_HeapLongs_fn : Func := Go.Proofs.Tryz.f5
abbrev law18_HeapTwo : Nat := 6
noncomputable abbrev law18_HeapTwo_fn : Func := Go.Proofs.Tryz.f6
abbrev law18_HeapEnough : Nat := 7
noncomputable abbrev law18_HeapEnough_fn : Func := Go.Proofs.Tryz.f7
abbrev law18_HeapCopies : Nat := 8
noncomputable abbrev law18_HeapCopies_fn : Func := Go.Proofs.Tryz.f8
abbrev law18_begun : Nat := 9
noncomputable abbrev law18_begun_fn : Func := Go.Proofs.Tryz.f9
abbrev mk_Made : Nat := 10
noncomputable abbrev mk_Made_fn : Func := Go.Proofs.Tryz.f10
abbrev mk_Picks_Raw : Nat := 11
noncomputable abbrev mk_Picks_Raw_fn : Func := Go.Proofs.Tryz.f11
abbrev heap_New : Nat := 12
noncomputable abbrev heap_New_fn : Func := Go.Proofs.Tryz.f12
abbrev ref17_New : Nat := 13
noncomputable abbrev ref17_New_fn : Func := Go.Proofs.Tryz.f13
abbrev mk_Picks_Over : Nat := 14
noncomputable abbrev mk_Picks_Over_fn : Func := Go.Proofs.Tryz.f14
abbrev mk_Picks_Op : Nat := 15
noncomputable abbrev mk_Picks_Op_fn : Func := Go.Proofs.Tryz.f15
abbrev ref17_Do : Nat := 16
noncomputable abbrev ref17_Do_fn : Func := Go.Proofs.Tryz.f16
abbrev heap_Heap_Do : Nat := 17
noncomputable abbrev heap_Heap_Do_fn : Func := Go.Proofs.Tryz.f17
abbrev ref17_SameBlocks : Nat := 18
noncomputable abbrev ref17_SameBlocks_fn : Func := Go.Proofs.Tryz.f18
abbrev heap_Heap_Blocks : Nat := 19
noncomputable abbrev heap_Heap_Blocks_fn : Func := Go.Proofs.Tryz.f19
abbrev ref8_SameBools : Nat := 20
noncomputable abbrev ref8_SameBools_fn : Func := Go.Proofs.Tryz.f20
abbrev heap_Heap_Pages : Nat := 21
noncomputable abbrev heap_Heap_Pages_fn : Func := Go.Proofs.Tryz.f21
abbrev heap_Heap_Conf : Nat := 22
noncomputable abbrev heap_Heap_Conf_fn : Func := Go.Proofs.Tryz.f22
abbrev mk_Picks_Ops : Nat := 23
noncomputable abbrev mk_Picks_Ops_fn : Func := Go.Proofs.Tryz.f23
abbrev ref17_SameAns : Nat := 24
noncomputable abbrev ref17_SameAns_fn : Func := Go.Proofs.Tryz.f24
abbrev heap_Heap_Copy : Nat := 25
noncomputable abbrev heap_Heap_Copy_fn : Func := Go.Proofs.Tryz.f25
abbrev mk_Picks_Num : Nat := 26
noncomputable abbrev mk_Picks_Num_fn : Func := Go.Proofs.Tryz.f26
abbrev conf_Of : Nat := 27
noncomputable abbrev conf_Of_fn : Func := Go.Proofs.Tryz.f27
abbrev place_New : Nat := 28
noncomputable abbrev place_New_fn : Func := Go.Proofs.Tryz.f28
abbrev ref1_Of : Nat := 29
noncomputable abbrev ref1_Of_fn : Func := Go.Proofs.Tryz.f29
abbrev mk_Picks_Size : Nat := 30
noncomputable abbrev mk_Picks_Size_fn : Func := Go.Proofs.Tryz.f30
abbrev mk_Picks_Block : Nat := 31
noncomputable abbrev mk_Picks_Block_fn : Func := Go.Proofs.Tryz.f31
abbrev ref17_give : Nat := 32
noncomputable abbrev ref17_give_fn : Func := Go.Proofs.Tryz.f32
abbrev ref8_Trim : Nat := 33
noncomputable abbrev ref8_Trim_fn : Func := Go.Proofs.Tryz.f33
abbrev ref8_Met : Nat := 34
noncomputable abbrev ref8_Met_fn : Func := Go.Proofs.Tryz.f34
abbrev ref8_Count : Nat := 35
noncomputable abbrev ref8_Count_fn : Func := Go.Proofs.Tryz.f35
abbrev ref17_Find : Nat := 36
noncomputable abbrev ref17_Find_fn : Func := Go.Proofs.Tryz.f36
abbrev ref17_wrong : Nat := 37
noncomputable abbrev ref17_wrong_fn : Func := Go.Proofs.Tryz.f37
abbrev ref17_of : Nat := 38
noncomputable abbrev ref17_of_fn : Func := Go.Proofs.Tryz.f38
abbrev heap_Heap_aligned : Nat := 39
noncomputable abbrev heap_Heap_aligned_fn : Func := Go.Proofs.Tryz.f39
abbrev heap_Heap_calloc : Nat := 40
noncomputable abbrev heap_Heap_calloc_fn : Func := Go.Proofs.Tryz.f40
abbrev heap_Heap_block : Nat := 41
noncomputable abbrev heap_Heap_block_fn : Func := Go.Proofs.Tryz.f41
abbrev commit_Trim : Nat := 42
noncomputable abbrev commit_Trim_fn : Func := Go.Proofs.Tryz.f42
abbrev heap_Heap_pages : Nat := 43
noncomputable abbrev heap_Heap_pages_fn : Func := Go.Proofs.Tryz.f43
abbrev pin_Count : Nat := 44
noncomputable abbrev pin_Count_fn : Func := Go.Proofs.Tryz.f44
abbrev slices_Clone_bool_bool : Nat := 45
noncomputable abbrev slices_Clone_bool_bool_fn : Func := Go.Proofs.Tryz.f45
abbrev slices_Clone_int_int : Nat := 46
noncomputable abbrev slices_Clone_int_int_fn : Func := Go.Proofs.Tryz.f46
abbrev slices_Clone_byte_byte : Nat := 47
noncomputable abbrev slices_Clone_byte_byte_fn : Func := Go.Proofs.Tryz.f47
abbrev conf_within : Nat := 48
noncomputable abbrev conf_within_fn : Func := Go.Proofs.Tryz.f48
abbrev calc_Up : Nat := 49
noncomputable abbrev calc_Up_fn : Func := Go.Proofs.Tryz.f49
abbrev calc_Round : Nat := 50
noncomputable abbrev calc_Round_fn : Func := Go.Proofs.Tryz.f50
abbrev calc_Log : Nat := 51
noncomputable abbrev calc_Log_fn : Func := Go.Proofs.Tryz.f51
abbrev slots_New : Nat := 52
noncomputable abbrev slots_New_fn : Func := Go.Proofs.Tryz.f52
abbrev ref1_Up : Nat := 53
noncomputable abbrev ref1_Up_fn : Func := Go.Proofs.Tryz.f53
abbrev ref1_Round : Nat := 54
noncomputable abbrev ref1_Round_fn : Func := Go.Proofs.Tryz.f54
abbrev ref1_Log : Nat := 55
noncomputable abbrev ref1_Log_fn : Func := Go.Proofs.Tryz.f55
abbrev ref1_Size : Nat := 56
noncomputable abbrev ref1_Size_fn : Func := Go.Proofs.Tryz.f56
abbrev ref1_New : Nat := 57
noncomputable abbrev ref1_New_fn : Func := Go.Proofs.Tryz.f57
abbrev ref1_Many : Nat := 58
noncomputable abbrev ref1_Many_fn : Func := Go.Proofs.Tryz.f58
abbrev ref17_place : Nat := 59
noncomputable abbrev ref17_place_fn : Func := Go.Proofs.Tryz.f59
abbrev ref8_Zero : Nat := 60
noncomputable abbrev ref8_Zero_fn : Func := Go.Proofs.Tryz.f60
abbrev ref8_Over : Nat := 61
noncomputable abbrev ref8_Over_fn : Func := Go.Proofs.Tryz.f61
abbrev ref1_Anew : Nat := 62
noncomputable abbrev ref1_Anew_fn : Func := Go.Proofs.Tryz.f62
abbrev admit_New : Nat := 63
noncomputable abbrev admit_New_fn : Func := Go.Proofs.Tryz.f63
abbrev heap_Heap_asks : Nat := 64
noncomputable abbrev heap_Heap_asks_fn : Func := Go.Proofs.Tryz.f64
abbrev admit_Many : Nat := 65
noncomputable abbrev admit_Many_fn : Func := Go.Proofs.Tryz.f65
abbrev class_Product : Nat := 66
noncomputable abbrev class_Product_fn : Func := Go.Proofs.Tryz.f66
abbrev heap_Heap_realloc : Nat := 67
noncomputable abbrev heap_Heap_realloc_fn : Func := Go.Proofs.Tryz.f67
abbrev heap_Heap_gone : Nat := 68
noncomputable abbrev heap_Heap_gone_fn : Func := Go.Proofs.Tryz.f68
abbrev calc_Add : Nat := 69
noncomputable abbrev calc_Add_fn : Func := Go.Proofs.Tryz.f69
abbrev tree_New : Nat := 70
noncomputable abbrev tree_New_fn : Func := Go.Proofs.Tryz.f70
abbrev ref1_Add : Nat := 71
noncomputable abbrev ref1_Add_fn : Func := Go.Proofs.Tryz.f71
abbrev ref1_Charge : Nat := 72
noncomputable abbrev ref1_Charge_fn : Func := Go.Proofs.Tryz.f72
abbrev ref1_Product : Nat := 73
noncomputable abbrev ref1_Product_fn : Func := Go.Proofs.Tryz.f73
abbrev ref17_Lowest : Nat := 74
noncomputable abbrev ref17_Lowest_fn : Func := Go.Proofs.Tryz.f74
abbrev ref8_Pages : Nat := 75
noncomputable abbrev ref8_Pages_fn : Func := Go.Proofs.Tryz.f75
abbrev ref8_Commit : Nat := 76
noncomputable abbrev ref8_Commit_fn : Func := Go.Proofs.Tryz.f76
abbrev ref8_Fill : Nat := 77
noncomputable abbrev ref8_Fill_fn : Func := Go.Proofs.Tryz.f77
abbrev ref17_put : Nat := 78
noncomputable abbrev ref17_put_fn : Func := Go.Proofs.Tryz.f78
abbrev ref8_there : Nat := 79
noncomputable abbrev ref8_there_fn : Func := Go.Proofs.Tryz.f79
abbrev class_Charge : Nat := 80
noncomputable abbrev class_Charge_fn : Func := Go.Proofs.Tryz.f80
abbrev heap_Heap_puts : Nat := 81
noncomputable abbrev heap_Heap_puts_fn : Func := Go.Proofs.Tryz.f81
abbrev calc_Mul : Nat := 82
noncomputable abbrev calc_Mul_fn : Func := Go.Proofs.Tryz.f82
abbrev admit_Anew : Nat := 83
noncomputable abbrev admit_Anew_fn : Func := Go.Proofs.Tryz.f83
abbrev heap_Heap_back : Nat := 84
noncomputable abbrev heap_Heap_back_fn : Func := Go.Proofs.Tryz.f84
abbrev place_Release : Nat := 85
noncomputable abbrev place_Release_fn : Func := Go.Proofs.Tryz.f85
abbrev heap_Heap_meets : Nat := 86
noncomputable abbrev heap_Heap_meets_fn : Func := Go.Proofs.Tryz.f86
abbrev tree_level : Nat := 87
noncomputable abbrev tree_level_fn : Func := Go.Proofs.Tryz.f87
abbrev ref1_Mul : Nat := 88
noncomputable abbrev ref1_Mul_fn : Func := Go.Proofs.Tryz.f88
abbrev ref8_Byte : Nat := 89
noncomputable abbrev ref8_Byte_fn : Func := Go.Proofs.Tryz.f89
abbrev class_Class : Nat := 90
noncomputable abbrev class_Class_fn : Func := Go.Proofs.Tryz.f90
abbrev place_Place : Nat := 91
noncomputable abbrev place_Place_fn : Func := Go.Proofs.Tryz.f91
abbrev pin_Pages : Nat := 92
noncomputable abbrev pin_Pages_fn : Func := Go.Proofs.Tryz.f92
abbrev commit_Commit : Nat := 93
noncomputable abbrev commit_Commit_fn : Func := Go.Proofs.Tryz.f93
abbrev junk_Byte : Nat := 94
noncomputable abbrev junk_Byte_fn : Func := Go.Proofs.Tryz.f94
abbrev side_Take : Nat := 95
noncomputable abbrev side_Take_fn : Func := Go.Proofs.Tryz.f95
abbrev place_twin : Nat := 96
noncomputable abbrev place_twin_fn : Func := Go.Proofs.Tryz.f96
abbrev slots_Use : Nat := 97
noncomputable abbrev slots_Use_fn : Func := Go.Proofs.Tryz.f97
abbrev word_Mask : Nat := 98
noncomputable abbrev word_Mask_fn : Func := Go.Proofs.Tryz.f98
abbrev conf_Shift : Nat := 99
noncomputable abbrev conf_Shift_fn : Func := Go.Proofs.Tryz.f99
abbrev slots_Lowest : Nat := 100
noncomputable abbrev slots_Lowest_fn : Func := Go.Proofs.Tryz.f100
abbrev side_Put : Nat := 101
noncomputable abbrev side_Put_fn : Func := Go.Proofs.Tryz.f101
abbrev slices_Clone_api_Mark_api_Mark : Nat := 102
noncomputable abbrev slices_Clone_api_Mark_api_Mark_fn : Func := Go.Proofs.Tryz.f102
abbrev side_find : Nat := 103
noncomputable abbrev side_find_fn : Func := Go.Proofs.Tryz.f103
abbrev slices_Delete_api_Mark_api_Mark : Nat := 104
noncomputable abbrev slices_Delete_api_Mark_api_Mark_fn : Func := Go.Proofs.Tryz.f104
abbrev slots_twin : Nat := 105
noncomputable abbrev slots_twin_fn : Func := Go.Proofs.Tryz.f105
abbrev tree_Set : Nat := 106
noncomputable abbrev tree_Set_fn : Func := Go.Proofs.Tryz.f106
abbrev slots_taken : Nat := 107
noncomputable abbrev slots_taken_fn : Func := Go.Proofs.Tryz.f107
abbrev tree_FirstZero : Nat := 108
noncomputable abbrev tree_FirstZero_fn : Func := Go.Proofs.Tryz.f108
abbrev slices_Insert_api_Mark_api_Mark : Nat := 109
noncomputable abbrev slices_Insert_api_Mark_api_Mark_fn : Func := Go.Proofs.Tryz.f109
abbrev slices_BinarySearchFunc_api_Mark_api_Mark_int : Nat := 110
noncomputable abbrev slices_BinarySearchFunc_api_Mark_api_Mark_int_fn : Func := Go.Proofs.Tryz.f110
abbrev side_find_1 : Nat := 111
noncomputable abbrev side_find_1_fn : Func := Go.Proofs.Tryz.f111
abbrev cmp_Compare_int : Nat := 112
noncomputable abbrev cmp_Compare_int_fn : Func := Go.Proofs.Tryz.f112
abbrev tree_twin : Nat := 113
noncomputable abbrev tree_twin_fn : Func := Go.Proofs.Tryz.f113
abbrev tree_at : Nat := 114
noncomputable abbrev tree_at_fn : Func := Go.Proofs.Tryz.f114
abbrev tree_put : Nat := 115
noncomputable abbrev tree_put_fn : Func := Go.Proofs.Tryz.f115
abbrev tree_sums : Nat := 116
noncomputable abbrev tree_sums_fn : Func := Go.Proofs.Tryz.f116
abbrev tree_Has : Nat := 117
noncomputable abbrev tree_Has_fn : Func := Go.Proofs.Tryz.f117
abbrev word_LowZero : Nat := 118
noncomputable abbrev word_LowZero_fn : Func := Go.Proofs.Tryz.f118
abbrev slices_overlaps_api_Mark : Nat := 119
noncomputable abbrev slices_overlaps_api_Mark_fn : Func := Go.Proofs.Tryz.f119
abbrev slices_rotateRight_api_Mark : Nat := 120
noncomputable abbrev slices_rotateRight_api_Mark_fn : Func := Go.Proofs.Tryz.f120
abbrev cmp_isNaN_int : Nat := 121
noncomputable abbrev cmp_isNaN_int_fn : Func := Go.Proofs.Tryz.f121
abbrev slices_Clone_uint64_uint64 : Nat := 122
noncomputable abbrev slices_Clone_uint64_uint64_fn : Func := Go.Proofs.Tryz.f122
abbrev slices_Clone_uint64_uint64_b : Nat := 123
noncomputable abbrev slices_Clone_uint64_uint64_b_fn : Func := Go.Proofs.Tryz.f123
abbrev word_LowOne : Nat := 124
noncomputable abbrev word_LowOne_fn : Func := Go.Proofs.Tryz.f124
abbrev slices_rotateLeft_api_Mark : Nat := 125
noncomputable abbrev slices_rotateLeft_api_Mark_fn : Func := Go.Proofs.Tryz.f125
abbrev slices_Reverse_api_Mark_api_Mark : Nat := 126
noncomputable abbrev slices_Reverse_api_Mark_api_Mark_fn : Func := Go.Proofs.Tryz.f126
abbrev t_int64 : Nat := 2
abbrev t_int : Nat := 3
abbrev t_bool : Nat := 4
abbrev t_uint8 : Nat := 5
abbrev t_internal_abi_BoundsErrorCode : Nat := 6
abbrev t_runtime_boundsError : Nat := 8
abbrev t_string : Nat := 9
abbrev t_runtime_errorString : Nat := 10
abbrev t_runtime_plainError : Nat := 11
abbrev t_runtime_errorAddressString : Nat := 14
abbrev tp_runtime_TypeAssertionError : Nat := 15
abbrev tp_runtime_PanicNilError : Nat := 16
abbrev tp_abi_Type : Nat := 17
abbrev t_internal_runtime_maps_unhashableTypeError : Nat := 19
abbrev ts_uint8 : Nat := 22
abbrev t_api_Op : Nat := 24
abbrev t_api_Raw : Nat := 27
abbrev tp_mk_Picks : Nat := 28
abbrev tp_heap_Heap : Nat := 31
abbrev t_api_Errno : Nat := 32
abbrev t_api_Conf : Nat := 36
abbrev ts_api_Block : Nat := 37
abbrev ts_bool : Nat := 38
abbrev t_api_Model : Nat := 40
abbrev t_api_Ans : Nat := 45
abbrev ts_api_Op : Nat := 55
abbrev t_api_Block : Nat := 58
abbrev ts_api_Ans : Nat := 60
abbrev t_mk_Picks : Nat := 67
abbrev tm_map_heap_start_api_Block : Nat := 71
abbrev ts_int : Nat := 72
abbrev ts_api_Tree : Nat := 73
abbrev t_api_Slots : Nat := 75
abbrev ts_api_Mark : Nat := 76
abbrev t_api_Engine : Nat := 78
abbrev t_heap_Heap : Nat := 80
abbrev t_api_Mark : Nat := 94
abbrev t_heap_start : Nat := 96
abbrev t_uint : Nat := 104
abbrev t_api_Span : Nat := 115
abbrev tss_uint64 : Nat := 121
abbrev t_api_Tree : Nat := 123
abbrev t_uint64 : Nat := 138
abbrev ts_uint64 : Nat := 139
abbrev t_runtime_TypeAssertionError : Nat := 174
abbrev tx_a0_p_runtime_PanicNilError : Nat := 175
abbrev t_runtime_PanicNilError : Nat := 177
abbrev t_internal_abi_TFlag : Nat := 180
abbrev t_internal_abi_Kind : Nat := 181
abbrev tp_uint8 : Nat := 183
abbrev t_internal_abi_NameOff : Nat := 184
abbrev t_internal_abi_TypeOff : Nat := 185
abbrev t_internal_abi_Type : Nat := 187
def tab : List (Nat × TI) := [
  (1, ⟨.func, 1, 8, .und⟩),
  (2, ⟨.int .i64, 1, 8, .int .i64 0⟩),
  (3, ⟨.int .i64, 1, 8, .int .i64 0⟩),
  (4, ⟨.bool, 1, 1, .bool false⟩),
  (5, ⟨.int .u8, 1, 1, .int .u8 0⟩),
  (6, ⟨.int .u8, 1, 1, .int .u8 0⟩),
  (9, ⟨.str, 1, 16, .str .empty⟩),
  (10, ⟨.str, 1, 16, .str .empty⟩),
  (11, ⟨.str, 1, 16, .str .empty⟩),
  (12, ⟨.int .u64, 1, 8, .int .u64 0⟩),
  (15, ⟨.ptr 174, 1, 8, .npt⟩),
  (16, ⟨.ptr 177, 1, 8, .npt⟩),
  (17, ⟨.ptr 187, 1, 8, .npt⟩),
  (21, ⟨.int .i32, 1, 4, .int .i32 0⟩),
  (22, ⟨.slice 5, 1, 24, .nsl 5⟩),
  (23, ⟨.struct [(0, 3), (1, 3), (2, 3), (3, 3), (4, 3), (5, 5)], 6, 48, .agg [.int .i64 0, .int .i64 0, .int .i64 0, .int .i64 0, .int .i64 0, .int .u8 0]⟩),
  (24, ⟨.struct [(0, 3), (1, 3), (2, 3), (3, 3), (4, 3), (5, 5)], 6, 48, .agg [.int .i64 0, .int .i64 0, .int .i64 0, .int .i64 0, .int .i64 0, .int .u8 0]⟩),
  (25, ⟨.func, 1, 8, .und⟩),
  (26, ⟨.struct [(0, 3), (1, 3), (2, 3), (3, 3), (4, 3), (5, 3)], 6, 48, .agg [.int .i64 0, .int .i64 0, .int .i64 0, .int .i64 0, .int .i64 0, .int .i64 0]⟩),
  (27, ⟨.struct [(0, 3), (1, 3), (2, 3), (3, 3), (4, 3), (5, 3)], 6, 48, .agg [.int .i64 0, .int .i64 0, .int .i64 0, .int .i64 0, .int .i64 0, .int .i64 0]⟩),
  (28, ⟨.ptr 67, 1, 8, .npt⟩),
  (29, ⟨.func, 1, 8, .und⟩),
  (30, ⟨.func, 1, 8, .und⟩),
  (31, ⟨.ptr 80, 1, 8, .npt⟩),
  (32, ⟨.int .i64, 1, 8, .int .i64 0⟩),
  (34, ⟨.func, 1, 8, .und⟩),
  (35, ⟨.struct [(0, 3), (1, 3), (2, 3), (3, 3), (4, 3), (5, 3), (6, 3), (7, 3)], 8, 64, .agg [.int .i64 0, .int .i64 0, .int .i64 0, .int .i64 0, .int .i64 0, .int .i64 0, .int .i64 0, .int .i64 0]⟩),
  (36, ⟨.struct [(0, 3), (1, 3), (2, 3), (3, 3), (4, 3), (5, 3), (6, 3), (7, 3)], 8, 64, .agg [.int .i64 0, .int .i64 0, .int .i64 0, .int .i64 0, .int .i64 0, .int .i64 0, .int .i64 0, .int .i64 0]⟩),
  (37, ⟨.slice 58, 1, 24, .nsl 58⟩),
  (38, ⟨.slice 4, 1, 24, .nsl 4⟩),
  (39, ⟨.struct [(0, 36), (8, 37), (9, 3), (10, 3), (11, 3), (12, 38), (13, 22)], 14, 160, .agg [.int .i64 0, .int .i64 0, .int .i64 0, .int .i64 0, .int .i64 0, .int .i64 0, .int .i64 0, .int .i64 0, .nsl 58, .int .i64 0, .int .i64 0, .int .i64 0, .nsl 4, .nsl 5]⟩),
  (40, ⟨.struct [(0, 36), (8, 37), (9, 3), (10, 3), (11, 3), (12, 38), (13, 22)], 14, 160, .agg [.int .i64 0, .int .i64 0, .int .i64 0, .int .i64 0, .int .i64 0, .int .i64 0, .int .i64 0, .int .i64 0, .nsl 58, .int .i64 0, .int .i64 0, .int .i64 0, .nsl 4, .nsl 5]⟩),
  (42, ⟨.func, 1, 8, .und⟩),
  (43, ⟨.func, 1, 8, .und⟩),
  (44, ⟨.struct [(0, 32), (1, 3), (2, 3), (3, 5), (4, 3), (5, 3), (6, 3), (7, 3)], 8, 64, .agg [.int .i64 0, .int .i64 0, .int .i64 0, .int .u8 0, .int .i64 0, .int .i64 0, .int .i64 0, .int .i64 0]⟩),
  (45, ⟨.struct [(0, 32), (1, 3), (2, 3), (3, 5), (4, 3), (5, 3), (6, 3), (7, 3)], 8, 64, .agg [.int .i64 0, .int .i64 0, .int .i64 0, .int .u8 0, .int .i64 0, .int .i64 0, .int .i64 0, .int .i64 0]⟩),
  (47, ⟨.func, 1, 8, .und⟩),
  (48, ⟨.func, 1, 8, .und⟩),
  (49, ⟨.func, 1, 8, .und⟩),
  (50, ⟨.func, 1, 8, .und⟩),
  (51, ⟨.func, 1, 8, .und⟩),
  (52, ⟨.func, 1, 8, .und⟩),
  (53, ⟨.func, 1, 8, .und⟩),
  (54, ⟨.func, 1, 8, .und⟩),
  (55, ⟨.slice 24, 1, 24, .nsl 24⟩),
  (56, ⟨.func, 1, 8, .und⟩),
  (57, ⟨.struct [(0, 3), (1, 3), (2, 3)], 3, 24, .agg [.int .i64 0, .int .i64 0, .int .i64 0]⟩),
  (58, ⟨.struct [(0, 3), (1, 3), (2, 3)], 3, 24, .agg [.int .i64 0, .int .i64 0, .int .i64 0]⟩),
  (59, ⟨.func, 1, 8, .und⟩),
  (60, ⟨.slice 45, 1, 24, .nsl 45⟩),
  (61, ⟨.func, 1, 8, .und⟩),
  (62, ⟨.func, 1, 8, .und⟩),
  (63, ⟨.func, 1, 8, .und⟩),
  (64, ⟨.func, 1, 8, .und⟩),
  (65, ⟨.func, 1, 8, .und⟩),
  (66, ⟨.struct [(0, 22), (1, 3)], 2, 32, .agg [.nsl 5, .int .i64 0]⟩),
  (67, ⟨.struct [(0, 22), (1, 3)], 2, 32, .agg [.nsl 5, .int .i64 0]⟩),
  (68, ⟨.func, 1, 8, .und⟩),
  (70, ⟨.func, 1, 8, .und⟩),
  (71, ⟨.map 96 58, 1, 8, .nmp⟩),
  (72, ⟨.slice 3, 1, 24, .nsl 3⟩),
  (73, ⟨.slice 123, 1, 24, .nsl 123⟩),
  (74, ⟨.struct [(0, 73)], 1, 24, .agg [.nsl 123]⟩),
  (75, ⟨.struct [(0, 73)], 1, 24, .agg [.nsl 123]⟩),
  (76, ⟨.slice 94, 1, 24, .nsl 94⟩),
  (77, ⟨.struct [(0, 3), (1, 75), (2, 76)], 3, 56, .agg [.int .i64 0, .nsl 123, .nsl 94]⟩),
  (78, ⟨.struct [(0, 3), (1, 75), (2, 76)], 3, 56, .agg [.int .i64 0, .nsl 123, .nsl 94]⟩),
  (79, ⟨.struct [(0, 36), (8, 78), (11, 71), (12, 3), (13, 3), (14, 3), (15, 72), (16, 38), (17, 22)], 18, 224, .agg [.int .i64 0, .int .i64 0, .int .i64 0, .int .i64 0, .int .i64 0, .int .i64 0, .int .i64 0, .int .i64 0, .int .i64 0, .nsl 123, .nsl 94, .nmp, .int .i64 0, .int .i64 0, .int .i64 0, .nsl 3, .nsl 4, .nsl 5]⟩),
  (80, ⟨.struct [(0, 36), (8, 78), (11, 71), (12, 3), (13, 3), (14, 3), (15, 72), (16, 38), (17, 22)], 18, 224, .agg [.int .i64 0, .int .i64 0, .int .i64 0, .int .i64 0, .int .i64 0, .int .i64 0, .int .i64 0, .int .i64 0, .int .i64 0, .nsl 123, .nsl 94, .nmp, .int .i64 0, .int .i64 0, .int .i64 0, .nsl 3, .nsl 4, .nsl 5]⟩),
  (82, ⟨.func, 1, 8, .und⟩),
  (83, ⟨.func, 1, 8, .und⟩),
  (84, ⟨.func, 1, 8, .und⟩),
  (86, ⟨.func, 1, 8, .und⟩),
  (87, ⟨.func, 1, 8, .und⟩),
  (88, ⟨.func, 1, 8, .und⟩),
  (89, ⟨.func, 1, 8, .und⟩),
  (90, ⟨.func, 1, 8, .und⟩),
  (91, ⟨.func, 1, 8, .und⟩),
  (92, ⟨.func, 1, 8, .und⟩),
  (93, ⟨.struct [(0, 3), (1, 3)], 2, 16, .agg [.int .i64 0, .int .i64 0]⟩),
  (94, ⟨.struct [(0, 3), (1, 3)], 2, 16, .agg [.int .i64 0, .int .i64 0]⟩),
  (95, ⟨.struct [(0, 3)], 1, 8, .agg [.int .i64 0]⟩),
  (96, ⟨.struct [(0, 3)], 1, 8, .agg [.int .i64 0]⟩),
  (97, ⟨.func, 1, 8, .und⟩),
  (98, ⟨.func, 1, 8, .und⟩),
  (99, ⟨.func, 1, 8, .und⟩),
  (100, ⟨.func, 1, 8, .und⟩),
  (102, ⟨.func, 1, 8, .und⟩),
  (103, ⟨.func, 1, 8, .und⟩),
  (104, ⟨.int .u64, 1, 8, .int .u64 0⟩),
  (105, ⟨.func, 1, 8, .und⟩),
  (106, ⟨.func, 1, 8, .und⟩),
  (108, ⟨.func, 1, 8, .und⟩),
  (110, ⟨.func, 1, 8, .und⟩),
  (112, ⟨.func, 1, 8, .und⟩),
  (113, ⟨.func, 1, 8, .und⟩),
  (114, ⟨.struct [(0, 3), (1, 3)], 2, 16, .agg [.int .i64 0, .int .i64 0]⟩),
  (115, ⟨.struct [(0, 3), (1, 3)], 2, 16, .agg [.int .i64 0, .int .i64 0]⟩),
  (116, ⟨.func, 1, 8, .und⟩),
  (117, ⟨.func, 1, 8, .und⟩),
  (119, ⟨.func, 1, 8, .und⟩),
  (120, ⟨.func, 1, 8, .und⟩),
  (121, ⟨.slice 139, 1, 24, .nsl 139⟩),
  (122, ⟨.struct [(0, 3), (1, 121)], 2, 32, .agg [.int .i64 0, .nsl 139]⟩),
  (123, ⟨.struct [(0, 3), (1, 121)], 2, 32, .agg [.int .i64 0, .nsl 139]⟩),
  (124, ⟨.func, 1, 8, .und⟩),
  (125, ⟨.func, 1, 8, .und⟩),
  (127, ⟨.func, 1, 8, .und⟩),
  (129, ⟨.func, 1, 8, .und⟩),
  (130, ⟨.func, 1, 8, .und⟩),
  (131, ⟨.func, 1, 8, .und⟩),
  (132, ⟨.func, 1, 8, .und⟩),
  (133, ⟨.func, 1, 8, .und⟩),
  (134, ⟨.func, 1, 8, .und⟩),
  (136, ⟨.func, 1, 8, .und⟩),
  (137, ⟨.func, 1, 8, .und⟩),
  (138, ⟨.int .u64, 1, 8, .int .u64 0⟩),
  (139, ⟨.slice 138, 1, 24, .nsl 138⟩),
  (140, ⟨.func, 1, 8, .und⟩),
  (141, ⟨.func, 1, 8, .und⟩),
  (142, ⟨.func, 1, 8, .und⟩),
  (144, ⟨.func, 1, 8, .und⟩),
  (145, ⟨.func, 1, 8, .und⟩),
  (146, ⟨.func, 1, 8, .und⟩),
  (147, ⟨.func, 1, 8, .und⟩),
  (148, ⟨.func, 1, 8, .und⟩),
  (149, ⟨.func, 1, 8, .und⟩),
  (150, ⟨.func, 1, 8, .und⟩),
  (151, ⟨.func, 1, 8, .und⟩),
  (152, ⟨.func, 1, 8, .und⟩),
  (153, ⟨.func, 1, 8, .und⟩),
  (154, ⟨.func, 1, 8, .und⟩),
  (155, ⟨.func, 1, 8, .und⟩),
  (156, ⟨.func, 1, 8, .und⟩),
  (157, ⟨.func, 1, 8, .und⟩),
  (158, ⟨.func, 1, 8, .und⟩),
  (159, ⟨.func, 1, 8, .und⟩),
  (160, ⟨.func, 1, 8, .und⟩),
  (161, ⟨.func, 1, 8, .und⟩),
  (162, ⟨.func, 1, 8, .und⟩),
  (163, ⟨.func, 1, 8, .und⟩),
  (164, ⟨.func, 1, 8, .und⟩),
  (165, ⟨.func, 1, 8, .und⟩),
  (166, ⟨.func, 1, 8, .und⟩),
  (167, ⟨.func, 1, 8, .und⟩),
  (168, ⟨.func, 1, 8, .und⟩),
  (169, ⟨.func, 1, 8, .und⟩),
  (170, ⟨.func, 1, 8, .und⟩),
  (171, ⟨.func, 1, 8, .und⟩),
  (172, ⟨.func, 1, 8, .und⟩),
  (178, ⟨.func, 1, 8, .und⟩),
  (179, ⟨.int .u32, 1, 4, .int .u32 0⟩),
  (180, ⟨.int .u8, 1, 1, .int .u8 0⟩),
  (181, ⟨.int .u8, 1, 1, .int .u8 0⟩),
  (182, ⟨.func, 1, 8, .und⟩),
  (183, ⟨.ptr 5, 1, 8, .npt⟩),
  (184, ⟨.int .i32, 1, 4, .int .i32 0⟩),
  (185, ⟨.int .i32, 1, 4, .int .i32 0⟩)]
noncomputable abbrev P : Program := Go.Proofs.Tryz.prog
def T : Tab := tabOf tab
theorem tabOk : TabOk P T := TabOk.of tab (by kernel_rfl)
theorem mixed : P.follows .mixedOrders = true := by kernel_rfl
end Go.Ev.N

