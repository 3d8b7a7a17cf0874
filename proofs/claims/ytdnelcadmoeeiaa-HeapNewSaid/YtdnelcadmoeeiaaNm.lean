/- Numbers of this seat, by name. Printed by names.py. -/
import Derived.Test.YtdnelcadmoeeiaaChecked
import Derived.Test.YtdnelcadmoeeiaaEvOpen
import Derived.KernelRfl
set_option linter.unusedVariables false
set_option linter.unusedSimpArgs false
namespace Go.Ev.N
open Go.Ev
abbrev law11_PlaceAll : Nat := 3
noncomputable abbrev law11_PlaceAll_fn : Func := Go.Proofs.Try.f3
abbrev law11_PlaceLowest : Nat := 4
noncomputable abbrev law11_PlaceLowest_fn : Func := Go.Proofs.Try.f4
abbrev law11_PlaceBack : Nat := 5
noncomputable abbrev law11_PlaceBack_fn : Func := Go.Proofs.Try.f5
abbrev law11_PlaceForms : Nat := 6
noncomputable abbrev law11_PlaceForms_fn : Func := Go.Proofs.Try.f6
abbrev law18_HeapNew : Nat := 7
noncomputable abbrev law18_HeapNew_fn : Func := Go.Proofs.Try.f7
abbrev law11_begun : Nat := 8
noncomputable abbrev law11_begun_fn : Func := Go.Proofs.Try.f8
abbrev place_New : Nat := 9
noncomputable abbrev place_New_fn : Func := Go.Proofs.Try.f9
abbrev ref8_NewEngine : Nat := 10
noncomputable abbrev ref8_NewEngine_fn : Func := Go.Proofs.Try.f10
abbrev ref8_SameEngine : Nat := 11
noncomputable abbrev ref8_SameEngine_fn : Func := Go.Proofs.Try.f11
abbrev place_Place : Nat := 12
noncomputable abbrev place_Place_fn : Func := Go.Proofs.Try.f12
abbrev ref8_Place : Nat := 13
noncomputable abbrev ref8_Place_fn : Func := Go.Proofs.Try.f13
abbrev place_Release : Nat := 14
noncomputable abbrev place_Release_fn : Func := Go.Proofs.Try.f14
abbrev ref8_Release : Nat := 15
noncomputable abbrev ref8_Release_fn : Func := Go.Proofs.Try.f15
abbrev law18_begun : Nat := 16
noncomputable abbrev law18_begun_fn : Func := Go.Proofs.Try.f16
abbrev heap_New : Nat := 17
noncomputable abbrev heap_New_fn : Func := Go.Proofs.Try.f17
abbrev ref17_New : Nat := 18
noncomputable abbrev ref17_New_fn : Func := Go.Proofs.Try.f18
abbrev heap_Heap_Do : Nat := 19
noncomputable abbrev heap_Heap_Do_fn : Func := Go.Proofs.Try.f19
abbrev heap_Heap_Blocks : Nat := 20
noncomputable abbrev heap_Heap_Blocks_fn : Func := Go.Proofs.Try.f20
abbrev heap_Heap_Pages : Nat := 21
noncomputable abbrev heap_Heap_Pages_fn : Func := Go.Proofs.Try.f21
abbrev heap_Heap_Conf : Nat := 22
noncomputable abbrev heap_Heap_Conf_fn : Func := Go.Proofs.Try.f22
abbrev heap_Heap_Copy : Nat := 23
noncomputable abbrev heap_Heap_Copy_fn : Func := Go.Proofs.Try.f23
abbrev slots_New : Nat := 24
noncomputable abbrev slots_New_fn : Func := Go.Proofs.Try.f24
abbrev ref1_Log : Nat := 25
noncomputable abbrev ref1_Log_fn : Func := Go.Proofs.Try.f25
abbrev ref8_NewSlots : Nat := 26
noncomputable abbrev ref8_NewSlots_fn : Func := Go.Proofs.Try.f26
abbrev ref8_SameSlots : Nat := 27
noncomputable abbrev ref8_SameSlots_fn : Func := Go.Proofs.Try.f27
abbrev ref8_SameMarks : Nat := 28
noncomputable abbrev ref8_SameMarks_fn : Func := Go.Proofs.Try.f28
abbrev slots_Lowest : Nat := 29
noncomputable abbrev slots_Lowest_fn : Func := Go.Proofs.Try.f29
abbrev place_twin : Nat := 30
noncomputable abbrev place_twin_fn : Func := Go.Proofs.Try.f30
abbrev slots_Use : Nat := 31
noncomputable abbrev slots_Use_fn : Func := Go.Proofs.Try.f31
abbrev side_Put : Nat := 32
noncomputable abbrev side_Put_fn : Func := Go.Proofs.Try.f32
abbrev ref8_Lowest : Nat := 33
noncomputable abbrev ref8_Lowest_fn : Func := Go.Proofs.Try.f33
abbrev ref8_size : Nat := 34
noncomputable abbrev ref8_size_fn : Func := Go.Proofs.Try.f34
abbrev ref8_Use : Nat := 35
noncomputable abbrev ref8_Use_fn : Func := Go.Proofs.Try.f35
abbrev ref8_PutMark : Nat := 36
noncomputable abbrev ref8_PutMark_fn : Func := Go.Proofs.Try.f36
abbrev side_Take : Nat := 37
noncomputable abbrev side_Take_fn : Func := Go.Proofs.Try.f37
abbrev ref8_TakeMark : Nat := 38
noncomputable abbrev ref8_TakeMark_fn : Func := Go.Proofs.Try.f38
abbrev conf_Of : Nat := 39
noncomputable abbrev conf_Of_fn : Func := Go.Proofs.Try.f39
abbrev ref1_Of : Nat := 40
noncomputable abbrev ref1_Of_fn : Func := Go.Proofs.Try.f40
abbrev heap_Heap_aligned : Nat := 41
noncomputable abbrev heap_Heap_aligned_fn : Func := Go.Proofs.Try.f41
abbrev heap_Heap_calloc : Nat := 42
noncomputable abbrev heap_Heap_calloc_fn : Func := Go.Proofs.Try.f42
abbrev heap_Heap_block : Nat := 43
noncomputable abbrev heap_Heap_block_fn : Func := Go.Proofs.Try.f43
abbrev commit_Trim : Nat := 44
noncomputable abbrev commit_Trim_fn : Func := Go.Proofs.Try.f44
abbrev heap_Heap_pages : Nat := 45
noncomputable abbrev heap_Heap_pages_fn : Func := Go.Proofs.Try.f45
abbrev pin_Count : Nat := 46
noncomputable abbrev pin_Count_fn : Func := Go.Proofs.Try.f46
abbrev slices_Clone_bool_bool : Nat := 47
noncomputable abbrev slices_Clone_bool_bool_fn : Func := Go.Proofs.Try.f47
abbrev slices_Clone_int_int : Nat := 48
noncomputable abbrev slices_Clone_int_int_fn : Func := Go.Proofs.Try.f48
abbrev slices_Clone_byte_byte : Nat := 49
noncomputable abbrev slices_Clone_byte_byte_fn : Func := Go.Proofs.Try.f49
abbrev tree_New : Nat := 50
noncomputable abbrev tree_New_fn : Func := Go.Proofs.Try.f50
abbrev ref8_Of : Nat := 51
noncomputable abbrev ref8_Of_fn : Func := Go.Proofs.Try.f51
abbrev ref3_SameTree : Nat := 52
noncomputable abbrev ref3_SameTree_fn : Func := Go.Proofs.Try.f52
abbrev tree_FirstZero : Nat := 53
noncomputable abbrev tree_FirstZero_fn : Func := Go.Proofs.Try.f53
abbrev slices_Clone_api_Mark_api_Mark : Nat := 54
noncomputable abbrev slices_Clone_api_Mark_api_Mark_fn : Func := Go.Proofs.Try.f54
abbrev slots_twin : Nat := 55
noncomputable abbrev slots_twin_fn : Func := Go.Proofs.Try.f55
abbrev tree_Set : Nat := 56
noncomputable abbrev tree_Set_fn : Func := Go.Proofs.Try.f56
abbrev slots_taken : Nat := 57
noncomputable abbrev slots_taken_fn : Func := Go.Proofs.Try.f57
abbrev side_find : Nat := 58
noncomputable abbrev side_find_fn : Func := Go.Proofs.Try.f58
abbrev slices_Insert_api_Mark_api_Mark : Nat := 59
noncomputable abbrev slices_Insert_api_Mark_api_Mark_fn : Func := Go.Proofs.Try.f59
abbrev ref3_First : Nat := 60
noncomputable abbrev ref3_First_fn : Func := Go.Proofs.Try.f60
abbrev ref3_Bits : Nat := 61
noncomputable abbrev ref3_Bits_fn : Func := Go.Proofs.Try.f61
abbrev ref3_SetTree : Nat := 62
noncomputable abbrev ref3_SetTree_fn : Func := Go.Proofs.Try.f62
abbrev slices_Delete_api_Mark_api_Mark : Nat := 63
noncomputable abbrev slices_Delete_api_Mark_api_Mark_fn : Func := Go.Proofs.Try.f63
abbrev conf_within : Nat := 64
noncomputable abbrev conf_within_fn : Func := Go.Proofs.Try.f64
abbrev calc_Up : Nat := 65
noncomputable abbrev calc_Up_fn : Func := Go.Proofs.Try.f65
abbrev calc_Round : Nat := 66
noncomputable abbrev calc_Round_fn : Func := Go.Proofs.Try.f66
abbrev calc_Log : Nat := 67
noncomputable abbrev calc_Log_fn : Func := Go.Proofs.Try.f67
abbrev ref1_Up : Nat := 68
noncomputable abbrev ref1_Up_fn : Func := Go.Proofs.Try.f68
abbrev ref1_Round : Nat := 69
noncomputable abbrev ref1_Round_fn : Func := Go.Proofs.Try.f69
abbrev admit_New : Nat := 70
noncomputable abbrev admit_New_fn : Func := Go.Proofs.Try.f70
abbrev heap_Heap_asks : Nat := 71
noncomputable abbrev heap_Heap_asks_fn : Func := Go.Proofs.Try.f71
abbrev admit_Many : Nat := 72
noncomputable abbrev admit_Many_fn : Func := Go.Proofs.Try.f72
abbrev class_Product : Nat := 73
noncomputable abbrev class_Product_fn : Func := Go.Proofs.Try.f73
abbrev heap_Heap_realloc : Nat := 74
noncomputable abbrev heap_Heap_realloc_fn : Func := Go.Proofs.Try.f74
abbrev heap_Heap_gone : Nat := 75
noncomputable abbrev heap_Heap_gone_fn : Func := Go.Proofs.Try.f75
abbrev tree_level : Nat := 76
noncomputable abbrev tree_level_fn : Func := Go.Proofs.Try.f76
abbrev ref3_Made : Nat := 77
noncomputable abbrev ref3_Made_fn : Func := Go.Proofs.Try.f77
abbrev ref3_SameRow : Nat := 78
noncomputable abbrev ref3_SameRow_fn : Func := Go.Proofs.Try.f78
abbrev word_LowZero : Nat := 79
noncomputable abbrev word_LowZero_fn : Func := Go.Proofs.Try.f79
abbrev tree_at : Nat := 80
noncomputable abbrev tree_at_fn : Func := Go.Proofs.Try.f80
abbrev word_Mask : Nat := 81
noncomputable abbrev word_Mask_fn : Func := Go.Proofs.Try.f81
abbrev tree_twin : Nat := 82
noncomputable abbrev tree_twin_fn : Func := Go.Proofs.Try.f82
abbrev tree_put : Nat := 83
noncomputable abbrev tree_put_fn : Func := Go.Proofs.Try.f83
abbrev tree_sums : Nat := 84
noncomputable abbrev tree_sums_fn : Func := Go.Proofs.Try.f84
abbrev tree_Has : Nat := 85
noncomputable abbrev tree_Has_fn : Func := Go.Proofs.Try.f85
abbrev slices_BinarySearchFunc_api_Mark_api_Mark_int : Nat := 86
noncomputable abbrev slices_BinarySearchFunc_api_Mark_api_Mark_int_fn : Func := Go.Proofs.Try.f86
abbrev side_find_1 : Nat := 87
noncomputable abbrev side_find_1_fn : Func := Go.Proofs.Try.f87
abbrev cmp_Compare_int : Nat := 88
noncomputable abbrev cmp_Compare_int_fn : Func := Go.Proofs.Try.f88
abbrev slices_overlaps_api_Mark : Nat := 89
noncomputable abbrev slices_overlaps_api_Mark_fn : Func := Go.Proofs.Try.f89
abbrev slices_rotateRight_api_Mark : Nat := 90
noncomputable abbrev slices_rotateRight_api_Mark_fn : Func := Go.Proofs.Try.f90
abbrev ref3_Has : Nat := 91
noncomputable abbrev ref3_Has_fn : Func := Go.Proofs.Try.f91
abbrev calc_Add : Nat := 92
noncomputable abbrev calc_Add_fn : Func := Go.Proofs.Try.f92
abbrev ref1_Add : Nat := 93
noncomputable abbrev ref1_Add_fn : Func := Go.Proofs.Try.f93
abbrev class_Charge : Nat := 94
noncomputable abbrev class_Charge_fn : Func := Go.Proofs.Try.f94
abbrev heap_Heap_puts : Nat := 95
noncomputable abbrev heap_Heap_puts_fn : Func := Go.Proofs.Try.f95
abbrev calc_Mul : Nat := 96
noncomputable abbrev calc_Mul_fn : Func := Go.Proofs.Try.f96
abbrev admit_Anew : Nat := 97
noncomputable abbrev admit_Anew_fn : Func := Go.Proofs.Try.f97
abbrev heap_Heap_back : Nat := 98
noncomputable abbrev heap_Heap_back_fn : Func := Go.Proofs.Try.f98
abbrev heap_Heap_meets : Nat := 99
noncomputable abbrev heap_Heap_meets_fn : Func := Go.Proofs.Try.f99
abbrev ref3_NewRow : Nat := 100
noncomputable abbrev ref3_NewRow_fn : Func := Go.Proofs.Try.f100
abbrev word_LowOne : Nat := 101
noncomputable abbrev word_LowOne_fn : Func := Go.Proofs.Try.f101
abbrev slices_Clone_uint64_uint64 : Nat := 102
noncomputable abbrev slices_Clone_uint64_uint64_fn : Func := Go.Proofs.Try.f102
abbrev slices_Clone_uint64_uint64_b : Nat := 103
noncomputable abbrev slices_Clone_uint64_uint64_b_fn : Func := Go.Proofs.Try.f103
abbrev cmp_isNaN_int : Nat := 104
noncomputable abbrev cmp_isNaN_int_fn : Func := Go.Proofs.Try.f104
abbrev slices_rotateLeft_api_Mark : Nat := 105
noncomputable abbrev slices_rotateLeft_api_Mark_fn : Func := Go.Proofs.Try.f105
abbrev ref3_Bit : Nat := 106
noncomputable abbrev ref3_Bit_fn : Func := Go.Proofs.Try.f106
abbrev class_Class : Nat := 107
noncomputable abbrev class_Class_fn : Func := Go.Proofs.Try.f107
abbrev pin_Pages : Nat := 108
noncomputable abbrev pin_Pages_fn : Func := Go.Proofs.Try.f108
abbrev commit_Commit : Nat := 109
noncomputable abbrev commit_Commit_fn : Func := Go.Proofs.Try.f109
abbrev junk_Byte : Nat := 110
noncomputable abbrev junk_Byte_fn : Func := Go.Proofs.Try.f110
abbrev slices_Reverse_api_Mark_api_Mark : Nat := 111
noncomputable abbrev slices_Reverse_api_Mark_api_Mark_fn : Func := Go.Proofs.Try.f111
abbrev conf_Shift : Nat := 112
noncomputable abbrev conf_Shift_fn : Func := Go.Proofs.Try.f112
abbrev t_int64 : Nat := 2
abbrev t_int : Nat := 3
abbrev t_bool : Nat := 4
abbrev t_uint8 : Nat := 5
abbrev t_internal_abi_BoundsErrorCode : Nat := 6
abbrev t_runtime_boundsError : Nat := 8
abbrev t_string : Nat := 9
abbrev t_runtime_errorString : Nat := 10
abbrev t_runtime_plainError : Nat := 11
abbrev t_runtime_errorAddressString : Nat := 14
abbrev tp_runtime_TypeAssertionError : Nat := 15
abbrev tp_runtime_PanicNilError : Nat := 16
abbrev tp_abi_Type : Nat := 17
abbrev t_internal_runtime_maps_unhashableTypeError : Nat := 19
abbrev ts_2_uint8 : Nat := 22
abbrev ts_api_Tree : Nat := 24
abbrev t_api_Slots : Nat := 26
abbrev ts_api_Mark : Nat := 27
abbrev t_api_Engine : Nat := 29
abbrev tx_a2_uint8 : Nat := 33
abbrev t_api_Mark : Nat := 37
abbrev tx_a64_int : Nat := 39
abbrev tm_map_int_int : Nat := 40
abbrev ts_int : Nat := 44
abbrev t_api_Raw : Nat := 46
abbrev t_api_Op : Nat := 48
abbrev tp_heap_Heap : Nat := 49
abbrev t_api_Errno : Nat := 50
abbrev t_api_Conf : Nat := 54
abbrev ts_api_Block : Nat := 55
abbrev ts_bool : Nat := 56
abbrev ts_uint8 : Nat := 57
abbrev t_api_Model : Nat := 59
abbrev t_api_Ans : Nat := 63
abbrev t_uint : Nat := 76
abbrev t_api_Block : Nat := 83
abbrev tm_map_heap_start_api_Block : Nat := 86
abbrev t_heap_Heap : Nat := 88
abbrev t_heap_start : Nat := 94
abbrev tss_uint64 : Nat := 98
abbrev t_api_Tree : Nat := 100
abbrev ts_uint64 : Nat := 122
abbrev t_uint64 : Nat := 127
abbrev t_runtime_TypeAssertionError : Nat := 154
abbrev tx_a0_p_runtime_PanicNilError : Nat := 155
abbrev t_runtime_PanicNilError : Nat := 157
abbrev t_internal_abi_TFlag : Nat := 160
abbrev t_internal_abi_Kind : Nat := 161
abbrev tp_uint8 : Nat := 163
abbrev t_internal_abi_NameOff : Nat := 164
abbrev t_internal_abi_TypeOff : Nat := 165
abbrev t_internal_abi_Type : Nat := 167
def tab : List (Nat × TI) := [
  (1, ⟨.func, 1, 8, .und⟩),
  (2, ⟨.int .i64, 1, 8, .int .i64 0⟩),
  (3, ⟨.int .i64, 1, 8, .int .i64 0⟩),
  (4, ⟨.bool, 1, 1, .bool false⟩),
  (5, ⟨.int .u8, 1, 1, .int .u8 0⟩),
  (6, ⟨.int .u8, 1, 1, .int .u8 0⟩),
  (9, ⟨.str, 1, 16, .str .empty⟩),
  (10, ⟨.str, 1, 16, .str .empty⟩),
  (11, ⟨.str, 1, 16, .str .empty⟩),
  (12, ⟨.int .u64, 1, 8, .int .u64 0⟩),
  (15, ⟨.ptr 154, 1, 8, .npt⟩),
  (16, ⟨.ptr 157, 1, 8, .npt⟩),
  (17, ⟨.ptr 167, 1, 8, .npt⟩),
  (21, ⟨.int .i32, 1, 4, .int .i32 0⟩),
  (22, ⟨.slice 33, 1, 24, .nsl 33⟩),
  (23, ⟨.func, 1, 8, .und⟩),
  (24, ⟨.slice 100, 1, 24, .nsl 100⟩),
  (25, ⟨.struct [(0, 24)], 1, 24, .agg [.nsl 100]⟩),
  (26, ⟨.struct [(0, 24)], 1, 24, .agg [.nsl 100]⟩),
  (27, ⟨.slice 37, 1, 24, .nsl 37⟩),
  (28, ⟨.struct [(0, 3), (1, 26), (2, 27)], 3, 56, .agg [.int .i64 0, .nsl 100, .nsl 37]⟩),
  (29, ⟨.struct [(0, 3), (1, 26), (2, 27)], 3, 56, .agg [.int .i64 0, .nsl 100, .nsl 37]⟩),
  (31, ⟨.func, 1, 8, .und⟩),
  (32, ⟨.func, 1, 8, .und⟩),
  (33, ⟨.arr 2 5, 2, 2, .agg [.int .u8 0, .int .u8 0]⟩),
  (35, ⟨.func, 1, 8, .und⟩),
  (36, ⟨.struct [(0, 3), (1, 3)], 2, 16, .agg [.int .i64 0, .int .i64 0]⟩),
  (37, ⟨.struct [(0, 3), (1, 3)], 2, 16, .agg [.int .i64 0, .int .i64 0]⟩),
  (38, ⟨.func, 1, 8, .und⟩),
  (39, ⟨.arr 64 3, 64, 512, .agg [.int .i64 0, .int .i64 0, .int .i64 0, .int .i64 0, .int .i64 0, .int .i64 0, .int .i64 0, .int .i64 0, .int .i64 0, .int .i64 0, .int .i64 0, .int .i64 0, .int .i64 0, .int .i64 0, .int .i64 0, .int .i64 0, .int .i64 0, .int .i64 0, .int .i64 0, .int .i64 0, .int .i64 0, .int .i64 0, .int .i64 0, .int .i64 0, .int .i64 0, .int .i64 0, .int .i64 0, .int .i64 0, .int .i64 0, .int .i64 0, .int .i64 0, .int .i64 0, .int .i64 0, .int .i64 0, .int .i64 0, .int .i64 0, .int .i64 0, .int .i64 0, .int .i64 0, .int .i64 0, .int .i64 0, .int .i64 0, .int .i64 0, .int .i64 0, .int .i64 0, .int .i64 0, .int .i64 0, .int .i64 0, .int .i64 0, .int .i64 0, .int .i64 0, .int .i64 0, .int .i64 0, .int .i64 0, .int .i64 0, .int .i64 0, .int .i64 0, .int .i64 0, .int .i64 0, .int .i64 0, .int .i64 0, .int .i64 0, .int .i64 0, .int .i64 0]⟩),
  (40, ⟨.map 3 3, 1, 8, .nmp⟩),
  (42, ⟨.func, 1, 8, .und⟩),
  (43, ⟨.func, 1, 8, .und⟩),
  (44, ⟨.slice 3, 1, 24, .nsl 3⟩),
  (45, ⟨.struct [(0, 3), (1, 3), (2, 3), (3, 3), (4, 3), (5, 3)], 6, 48, .agg [.int .i64 0, .int .i64 0, .int .i64 0, .int .i64 0, .int .i64 0, .int .i64 0]⟩),
  (46, ⟨.struct [(0, 3), (1, 3), (2, 3), (3, 3), (4, 3), (5, 3)], 6, 48, .agg [.int .i64 0, .int .i64 0, .int .i64 0, .int .i64 0, .int .i64 0, .int .i64 0]⟩),
  (47, ⟨.struct [(0, 3), (1, 3), (2, 3), (3, 3), (4, 3), (5, 5)], 6, 48, .agg [.int .i64 0, .int .i64 0, .int .i64 0, .int .i64 0, .int .i64 0, .int .u8 0]⟩),
  (48, ⟨.struct [(0, 3), (1, 3), (2, 3), (3, 3), (4, 3), (5, 5)], 6, 48, .agg [.int .i64 0, .int .i64 0, .int .i64 0, .int .i64 0, .int .i64 0, .int .u8 0]⟩),
  (49, ⟨.ptr 88, 1, 8, .npt⟩),
  (50, ⟨.int .i64, 1, 8, .int .i64 0⟩),
  (52, ⟨.func, 1, 8, .und⟩),
  (53, ⟨.struct [(0, 3), (1, 3), (2, 3), (3, 3), (4, 3), (5, 3), (6, 3), (7, 3)], 8, 64, .agg [.int .i64 0, .int .i64 0, .int .i64 0, .int .i64 0, .int .i64 0, .int .i64 0, .int .i64 0, .int .i64 0]⟩),
  (54, ⟨.struct [(0, 3), (1, 3), (2, 3), (3, 3), (4, 3), (5, 3), (6, 3), (7, 3)], 8, 64, .agg [.int .i64 0, .int .i64 0, .int .i64 0, .int .i64 0, .int .i64 0, .int .i64 0, .int .i64 0, .int .i64 0]⟩),
  (55, ⟨.slice 83, 1, 24, .nsl 83⟩),
  (56, ⟨.slice 4, 1, 24, .nsl 4⟩),
  (57, ⟨.slice 5, 1, 24, .nsl 5⟩),
  (58, ⟨.struct [(0, 54), (8, 55), (9, 3), (10, 3), (11, 3), (12, 56), (13, 57)], 14, 160, .agg [.int .i64 0, .int .i64 0, .int .i64 0, .int .i64 0, .int .i64 0, .int .i64 0, .int .i64 0, .int .i64 0, .nsl 83, .int .i64 0, .int .i64 0, .int .i64 0, .nsl 4, .nsl 5]⟩),
  (59, ⟨.struct [(0, 54), (8, 55), (9, 3), (10, 3), (11, 3), (12, 56), (13, 57)], 14, 160, .agg [.int .i64 0, .int .i64 0, .int .i64 0, .int .i64 0, .int .i64 0, .int .i64 0, .int .i64 0, .int .i64 0, .nsl 83, .int .i64 0, .int .i64 0, .int .i64 0, .nsl 4, .nsl 5]⟩),
  (61, ⟨.func, 1, 8, .und⟩),
  (62, ⟨.struct [(0, 50), (1, 3), (2, 3), (3, 5), (4, 3), (5, 3), (6, 3), (7, 3)], 8, 64, .agg [.int .i64 0, .int .i64 0, .int .i64 0, .int .u8 0, .int .i64 0, .int .i64 0, .int .i64 0, .int .i64 0]⟩),
  (63, ⟨.struct [(0, 50), (1, 3), (2, 3), (3, 5), (4, 3), (5, 3), (6, 3), (7, 3)], 8, 64, .agg [.int .i64 0, .int .i64 0, .int .i64 0, .int .u8 0, .int .i64 0, .int .i64 0, .int .i64 0, .int .i64 0]⟩),
  (64, ⟨.func, 1, 8, .und⟩),
  (65, ⟨.func, 1, 8, .und⟩),
  (66, ⟨.func, 1, 8, .und⟩),
  (67, ⟨.func, 1, 8, .und⟩),
  (68, ⟨.func, 1, 8, .und⟩),
  (69, ⟨.func, 1, 8, .und⟩),
  (70, ⟨.func, 1, 8, .und⟩),
  (71, ⟨.func, 1, 8, .und⟩),
  (72, ⟨.func, 1, 8, .und⟩),
  (73, ⟨.func, 1, 8, .und⟩),
  (74, ⟨.func, 1, 8, .und⟩),
  (75, ⟨.func, 1, 8, .und⟩),
  (76, ⟨.int .u64, 1, 8, .int .u64 0⟩),
  (77, ⟨.func, 1, 8, .und⟩),
  (78, ⟨.func, 1, 8, .und⟩),
  (79, ⟨.func, 1, 8, .und⟩),
  (81, ⟨.func, 1, 8, .und⟩),
  (82, ⟨.struct [(0, 3), (1, 3), (2, 3)], 3, 24, .agg [.int .i64 0, .int .i64 0, .int .i64 0]⟩),
  (83, ⟨.struct [(0, 3), (1, 3), (2, 3)], 3, 24, .agg [.int .i64 0, .int .i64 0, .int .i64 0]⟩),
  (85, ⟨.func, 1, 8, .und⟩),
  (86, ⟨.map 94 83, 1, 8, .nmp⟩),
  (87, ⟨.struct [(0, 54), (8, 29), (11, 86), (12, 3), (13, 3), (14, 3), (15, 44), (16, 56), (17, 57)], 18, 224, .agg [.int .i64 0, .int .i64 0, .int .i64 0, .int .i64 0, .int .i64 0, .int .i64 0, .int .i64 0, .int .i64 0, .int .i64 0, .nsl 100, .nsl 37, .nmp, .int .i64 0, .int .i64 0, .int .i64 0, .nsl 3, .nsl 4, .nsl 5]⟩),
  (88, ⟨.struct [(0, 54), (8, 29), (11, 86), (12, 3), (13, 3), (14, 3), (15, 44), (16, 56), (17, 57)], 18, 224, .agg [.int .i64 0, .int .i64 0, .int .i64 0, .int .i64 0, .int .i64 0, .int .i64 0, .int .i64 0, .int .i64 0, .int .i64 0, .nsl 100, .nsl 37, .nmp, .int .i64 0, .int .i64 0, .int .i64 0, .nsl 3, .nsl 4, .nsl 5]⟩),
  (89, ⟨.func, 1, 8, .und⟩),
  (91, ⟨.func, 1, 8, .und⟩),
  (92, ⟨.func, 1, 8, .und⟩),
  (93, ⟨.struct [(0, 3)], 1, 8, .agg [.int .i64 0]⟩),
  (94, ⟨.struct [(0, 3)], 1, 8, .agg [.int .i64 0]⟩),
  (95, ⟨.func, 1, 8, .und⟩),
  (96, ⟨.func, 1, 8, .und⟩),
  (97, ⟨.func, 1, 8, .und⟩),
  (98, ⟨.slice 122, 1, 24, .nsl 122⟩),
  (99, ⟨.struct [(0, 3), (1, 98)], 2, 32, .agg [.int .i64 0, .nsl 122]⟩),
  (100, ⟨.struct [(0, 3), (1, 98)], 2, 32, .agg [.int .i64 0, .nsl 122]⟩),
  (101, ⟨.func, 1, 8, .und⟩),
  (102, ⟨.func, 1, 8, .und⟩),
  (103, ⟨.func, 1, 8, .und⟩),
  (104, ⟨.func, 1, 8, .und⟩),
  (105, ⟨.func, 1, 8, .und⟩),
  (106, ⟨.func, 1, 8, .und⟩),
  (107, ⟨.func, 1, 8, .und⟩),
  (108, ⟨.func, 1, 8, .und⟩),
  (109, ⟨.func, 1, 8, .und⟩),
  (110, ⟨.func, 1, 8, .und⟩),
  (111, ⟨.func, 1, 8, .und⟩),
  (112, ⟨.func, 1, 8, .und⟩),
  (113, ⟨.func, 1, 8, .und⟩),
  (114, ⟨.func, 1, 8, .und⟩),
  (116, ⟨.func, 1, 8, .und⟩),
  (117, ⟨.func, 1, 8, .und⟩),
  (118, ⟨.func, 1, 8, .und⟩),
  (120, ⟨.func, 1, 8, .und⟩),
  (121, ⟨.func, 1, 8, .und⟩),
  (122, ⟨.slice 127, 1, 24, .nsl 127⟩),
  (123, ⟨.func, 1, 8, .und⟩),
  (124, ⟨.func, 1, 8, .und⟩),
  (125, ⟨.func, 1, 8, .und⟩),
  (126, ⟨.func, 1, 8, .und⟩),
  (127, ⟨.int .u64, 1, 8, .int .u64 0⟩),
  (128, ⟨.func, 1, 8, .und⟩),
  (129, ⟨.func, 1, 8, .und⟩),
  (130, ⟨.func, 1, 8, .und⟩),
  (131, ⟨.func, 1, 8, .und⟩),
  (132, ⟨.func, 1, 8, .und⟩),
  (133, ⟨.func, 1, 8, .und⟩),
  (134, ⟨.func, 1, 8, .und⟩),
  (135, ⟨.func, 1, 8, .und⟩),
  (136, ⟨.func, 1, 8, .und⟩),
  (137, ⟨.func, 1, 8, .und⟩),
  (138, ⟨.func, 1, 8, .und⟩),
  (139, ⟨.func, 1, 8, .und⟩),
  (140, ⟨.func, 1, 8, .und⟩),
  (141, ⟨.func, 1, 8, .und⟩),
  (142, ⟨.func, 1, 8, .und⟩),
  (143, ⟨.func, 1, 8, .und⟩),
  (144, ⟨.func, 1, 8, .und⟩),
  (145, ⟨.func, 1, 8, .und⟩),
  (147, ⟨.func, 1, 8, .und⟩),
  (149, ⟨.func, 1, 8, .und⟩),
  (150, ⟨.func, 1, 8, .und⟩),
  (151, ⟨.func, 1, 8, .und⟩),
  (152, ⟨.func, 1, 8, .und⟩),
  (158, ⟨.func, 1, 8, .und⟩),
  (159, ⟨.int .u32, 1, 4, .int .u32 0⟩),
  (160, ⟨.int .u8, 1, 1, .int .u8 0⟩),
  (161, ⟨.int .u8, 1, 1, .int .u8 0⟩),
  (162, ⟨.func, 1, 8, .und⟩),
  (163, ⟨.ptr 5, 1, 8, .npt⟩),
  (164, ⟨.int .i32, 1, 4, .int .i32 0⟩),
  (165, ⟨.int .i32, 1, 4, .int .i32 0⟩)]
noncomputable abbrev P : Program := Go.Proofs.Try.prog
def T : Tab := tabOf tab
theorem tabOk : TabOk P T := TabOk.of tab (by kernel_rfl)
theorem mixed : P.follows .mixedOrders = true := by kernel_rfl
end Go.Ev.N

