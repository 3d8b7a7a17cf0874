/- Numbers of this seat, by name. Printed by names.py. -/
import Derived.Test.YtdhckgmkgaaahaaChecked
import Derived.Test.YtdhckgmkgaaahaaEvOpen
import Derived.KernelRfl
set_option linter.unusedVariables false
set_option linter.unusedSimpArgs false
namespace Go.Ev.N
open Go.Ev
abbrev law25_WireAll : Nat := 3
noncomputable abbrev law25_WireAll_fn : Func := Go.Proofs.Try.f3
abbrev law25_WireLong : Nat := 4
noncomputable abbrev law25_WireLong_fn : Func := Go.Proofs.Try.f4
abbrev law17_PlainAll : Nat := 5
noncomputable abbrev law17_PlainAll_fn : Func := Go.Proofs.Try.f5
abbrev law17_PlainNew : Nat := 6
noncomputable abbrev law17_PlainNew_fn : Func := Go.Proofs.Try.f6
abbrev law17_PlainApart : Nat := 7
noncomputable abbrev law17_PlainApart_fn : Func := Go.Proofs.Try.f7
abbrev law17_PlainBytes : Nat := 8
noncomputable abbrev law17_PlainBytes_fn : Func := Go.Proofs.Try.f8
abbrev law17_PlainRefused : Nat := 9
noncomputable abbrev law17_PlainRefused_fn : Func := Go.Proofs.Try.f9
abbrev law17_PlainForms : Nat := 10
noncomputable abbrev law17_PlainForms_fn : Func := Go.Proofs.Try.f10
abbrev law17_PlainPages : Nat := 11
noncomputable abbrev law17_PlainPages_fn : Func := Go.Proofs.Try.f11
abbrev law17_PlainLowest : Nat := 12
noncomputable abbrev law17_PlainLowest_fn : Func := Go.Proofs.Try.f12
abbrev law17_PlainKinds : Nat := 13
noncomputable abbrev law17_PlainKinds_fn : Func := Go.Proofs.Try.f13
abbrev law25_begun : Nat := 14
noncomputable abbrev law25_begun_fn : Func := Go.Proofs.Try.f14
abbrev mk_Made : Nat := 15
noncomputable abbrev mk_Made_fn : Func := Go.Proofs.Try.f15
abbrev mk_Picks_Ops : Nat := 16
noncomputable abbrev mk_Picks_Ops_fn : Func := Go.Proofs.Try.f16
abbrev ref17_SameOps : Nat := 17
noncomputable abbrev ref17_SameOps_fn : Func := Go.Proofs.Try.f17
abbrev wire_Take : Nat := 18
noncomputable abbrev wire_Take_fn : Func := Go.Proofs.Try.f18
abbrev ref17_TakeOps : Nat := 19
noncomputable abbrev ref17_TakeOps_fn : Func := Go.Proofs.Try.f19
abbrev wire_Put : Nat := 20
noncomputable abbrev wire_Put_fn : Func := Go.Proofs.Try.f20
abbrev ref17_PutOps : Nat := 21
noncomputable abbrev ref17_PutOps_fn : Func := Go.Proofs.Try.f21
abbrev mk_Picks_Raw : Nat := 22
noncomputable abbrev mk_Picks_Raw_fn : Func := Go.Proofs.Try.f22
abbrev law17_begun : Nat := 23
noncomputable abbrev law17_begun_fn : Func := Go.Proofs.Try.f23
abbrev plain_New : Nat := 24
noncomputable abbrev plain_New_fn : Func := Go.Proofs.Try.f24
abbrev ref17_New : Nat := 25
noncomputable abbrev ref17_New_fn : Func := Go.Proofs.Try.f25
abbrev ref17_Same : Nat := 26
noncomputable abbrev ref17_Same_fn : Func := Go.Proofs.Try.f26
abbrev mk_Picks_Over : Nat := 27
noncomputable abbrev mk_Picks_Over_fn : Func := Go.Proofs.Try.f27
abbrev mk_Picks_Op : Nat := 28
noncomputable abbrev mk_Picks_Op_fn : Func := Go.Proofs.Try.f28
abbrev plain_Do : Nat := 29
noncomputable abbrev plain_Do_fn : Func := Go.Proofs.Try.f29
abbrev ref17_Do : Nat := 30
noncomputable abbrev ref17_Do_fn : Func := Go.Proofs.Try.f30
abbrev plain_Same : Nat := 31
noncomputable abbrev plain_Same_fn : Func := Go.Proofs.Try.f31
abbrev ref17_All : Nat := 32
noncomputable abbrev ref17_All_fn : Func := Go.Proofs.Try.f32
abbrev ref17_SameBlocks : Nat := 33
noncomputable abbrev ref17_SameBlocks_fn : Func := Go.Proofs.Try.f33
abbrev wire_one : Nat := 34
noncomputable abbrev wire_one_fn : Func := Go.Proofs.Try.f34
abbrev ref17_reader_num : Nat := 35
noncomputable abbrev ref17_reader_num_fn : Func := Go.Proofs.Try.f35
abbrev wire_put : Nat := 36
noncomputable abbrev wire_put_fn : Func := Go.Proofs.Try.f36
abbrev ref17_putOp : Nat := 37
noncomputable abbrev ref17_putOp_fn : Func := Go.Proofs.Try.f37
abbrev mk_Picks_Num : Nat := 38
noncomputable abbrev mk_Picks_Num_fn : Func := Go.Proofs.Try.f38
abbrev conf_Of : Nat := 39
noncomputable abbrev conf_Of_fn : Func := Go.Proofs.Try.f39
abbrev ref1_Of : Nat := 40
noncomputable abbrev ref1_Of_fn : Func := Go.Proofs.Try.f40
abbrev ref8_SameBools : Nat := 41
noncomputable abbrev ref8_SameBools_fn : Func := Go.Proofs.Try.f41
abbrev mk_Picks_Size : Nat := 42
noncomputable abbrev mk_Picks_Size_fn : Func := Go.Proofs.Try.f42
abbrev mk_Picks_Block : Nat := 43
noncomputable abbrev mk_Picks_Block_fn : Func := Go.Proofs.Try.f43
abbrev plain_twin : Nat := 44
noncomputable abbrev plain_twin_fn : Func := Go.Proofs.Try.f44
abbrev plain_aligned : Nat := 45
noncomputable abbrev plain_aligned_fn : Func := Go.Proofs.Try.f45
abbrev plain_calloc : Nat := 46
noncomputable abbrev plain_calloc_fn : Func := Go.Proofs.Try.f46
abbrev plain_block : Nat := 47
noncomputable abbrev plain_block_fn : Func := Go.Proofs.Try.f47
abbrev plain_trim : Nat := 48
noncomputable abbrev plain_trim_fn : Func := Go.Proofs.Try.f48
abbrev pin_Count : Nat := 49
noncomputable abbrev pin_Count_fn : Func := Go.Proofs.Try.f49
abbrev ref17_give : Nat := 50
noncomputable abbrev ref17_give_fn : Func := Go.Proofs.Try.f50
abbrev ref8_Trim : Nat := 51
noncomputable abbrev ref8_Trim_fn : Func := Go.Proofs.Try.f51
abbrev ref8_Met : Nat := 52
noncomputable abbrev ref8_Met_fn : Func := Go.Proofs.Try.f52
abbrev ref8_Count : Nat := 53
noncomputable abbrev ref8_Count_fn : Func := Go.Proofs.Try.f53
abbrev ref17_Find : Nat := 54
noncomputable abbrev ref17_Find_fn : Func := Go.Proofs.Try.f54
abbrev ref17_wrong : Nat := 55
noncomputable abbrev ref17_wrong_fn : Func := Go.Proofs.Try.f55
abbrev ref17_of : Nat := 56
noncomputable abbrev ref17_of_fn : Func := Go.Proofs.Try.f56
abbrev slices_Equal_api_Block_api_Block : Nat := 57
noncomputable abbrev slices_Equal_api_Block_api_Block_fn : Func := Go.Proofs.Try.f57
abbrev slices_Equal_bool_bool : Nat := 58
noncomputable abbrev slices_Equal_bool_bool_fn : Func := Go.Proofs.Try.f58
abbrev slices_Equal_byte_byte : Nat := 59
noncomputable abbrev slices_Equal_byte_byte_fn : Func := Go.Proofs.Try.f59
abbrev wire_fields : Nat := 60
noncomputable abbrev wire_fields_fn : Func := Go.Proofs.Try.f60
abbrev wire_field : Nat := 61
noncomputable abbrev wire_field_fn : Func := Go.Proofs.Try.f61
abbrev ref17_three : Nat := 62
noncomputable abbrev ref17_three_fn : Func := Go.Proofs.Try.f62
abbrev conf_within : Nat := 63
noncomputable abbrev conf_within_fn : Func := Go.Proofs.Try.f63
abbrev calc_Up : Nat := 64
noncomputable abbrev calc_Up_fn : Func := Go.Proofs.Try.f64
abbrev calc_Round : Nat := 65
noncomputable abbrev calc_Round_fn : Func := Go.Proofs.Try.f65
abbrev calc_Log : Nat := 66
noncomputable abbrev calc_Log_fn : Func := Go.Proofs.Try.f66
abbrev ref1_Up : Nat := 67
noncomputable abbrev ref1_Up_fn : Func := Go.Proofs.Try.f67
abbrev ref1_Round : Nat := 68
noncomputable abbrev ref1_Round_fn : Func := Go.Proofs.Try.f68
abbrev ref1_Log : Nat := 69
noncomputable abbrev ref1_Log_fn : Func := Go.Proofs.Try.f69
abbrev ref1_Size : Nat := 70
noncomputable abbrev ref1_Size_fn : Func := Go.Proofs.Try.f70
abbrev slices_Clone_api_Block_api_Block : Nat := 71
noncomputable abbrev slices_Clone_api_Block_api_Block_fn : Func := Go.Proofs.Try.f71
abbrev slices_Clone_bool_bool : Nat := 72
noncomputable abbrev slices_Clone_bool_bool_fn : Func := Go.Proofs.Try.f72
abbrev slices_Clone_byte_byte : Nat := 73
noncomputable abbrev slices_Clone_byte_byte_fn : Func := Go.Proofs.Try.f73
abbrev admit_New : Nat := 74
noncomputable abbrev admit_New_fn : Func := Go.Proofs.Try.f74
abbrev plain_puts : Nat := 75
noncomputable abbrev plain_puts_fn : Func := Go.Proofs.Try.f75
abbrev admit_Many : Nat := 76
noncomputable abbrev admit_Many_fn : Func := Go.Proofs.Try.f76
abbrev class_Product : Nat := 77
noncomputable abbrev class_Product_fn : Func := Go.Proofs.Try.f77
abbrev mem_Zero : Nat := 78
noncomputable abbrev mem_Zero_fn : Func := Go.Proofs.Try.f78
abbrev plain_find : Nat := 79
noncomputable abbrev plain_find_fn : Func := Go.Proofs.Try.f79
abbrev plain_realloc : Nat := 80
noncomputable abbrev plain_realloc_fn : Func := Go.Proofs.Try.f80
abbrev plain_goes : Nat := 81
noncomputable abbrev plain_goes_fn : Func := Go.Proofs.Try.f81
abbrev plain_bytes : Nat := 82
noncomputable abbrev plain_bytes_fn : Func := Go.Proofs.Try.f82
abbrev commit_Trim : Nat := 83
noncomputable abbrev commit_Trim_fn : Func := Go.Proofs.Try.f83
abbrev pin_Met : Nat := 84
noncomputable abbrev pin_Met_fn : Func := Go.Proofs.Try.f84
abbrev ref1_New : Nat := 85
noncomputable abbrev ref1_New_fn : Func := Go.Proofs.Try.f85
abbrev ref1_Many : Nat := 86
noncomputable abbrev ref1_Many_fn : Func := Go.Proofs.Try.f86
abbrev ref17_place : Nat := 87
noncomputable abbrev ref17_place_fn : Func := Go.Proofs.Try.f87
abbrev ref8_Zero : Nat := 88
noncomputable abbrev ref8_Zero_fn : Func := Go.Proofs.Try.f88
abbrev ref8_Over : Nat := 89
noncomputable abbrev ref8_Over_fn : Func := Go.Proofs.Try.f89
abbrev ref1_Anew : Nat := 90
noncomputable abbrev ref1_Anew_fn : Func := Go.Proofs.Try.f90
abbrev calc_Add : Nat := 91
noncomputable abbrev calc_Add_fn : Func := Go.Proofs.Try.f91
abbrev ref1_Add : Nat := 92
noncomputable abbrev ref1_Add_fn : Func := Go.Proofs.Try.f92
abbrev class_Charge : Nat := 93
noncomputable abbrev class_Charge_fn : Func := Go.Proofs.Try.f93
abbrev plain_lowest : Nat := 94
noncomputable abbrev plain_lowest_fn : Func := Go.Proofs.Try.f94
abbrev pin_Pages : Nat := 95
noncomputable abbrev pin_Pages_fn : Func := Go.Proofs.Try.f95
abbrev commit_Commit : Nat := 96
noncomputable abbrev commit_Commit_fn : Func := Go.Proofs.Try.f96
abbrev junk_Fill : Nat := 97
noncomputable abbrev junk_Fill_fn : Func := Go.Proofs.Try.f97
abbrev slices_Insert_api_Block_api_Block : Nat := 98
noncomputable abbrev slices_Insert_api_Block_api_Block_fn : Func := Go.Proofs.Try.f98
abbrev calc_Mul : Nat := 99
noncomputable abbrev calc_Mul_fn : Func := Go.Proofs.Try.f99
abbrev mem_within : Nat := 100
noncomputable abbrev mem_within_fn : Func := Go.Proofs.Try.f100
abbrev slices_IndexFunc_api_Block_api_Block : Nat := 101
noncomputable abbrev slices_IndexFunc_api_Block_api_Block_fn : Func := Go.Proofs.Try.f101
abbrev plain_find_1 : Nat := 102
noncomputable abbrev plain_find_1_fn : Func := Go.Proofs.Try.f102
abbrev admit_Anew : Nat := 103
noncomputable abbrev admit_Anew_fn : Func := Go.Proofs.Try.f103
abbrev slices_Delete_api_Block_api_Block : Nat := 104
noncomputable abbrev slices_Delete_api_Block_api_Block_fn : Func := Go.Proofs.Try.f104
abbrev mem_Get : Nat := 105
noncomputable abbrev mem_Get_fn : Func := Go.Proofs.Try.f105
abbrev mem_Put : Nat := 106
noncomputable abbrev mem_Put_fn : Func := Go.Proofs.Try.f106
abbrev ref1_Charge : Nat := 107
noncomputable abbrev ref1_Charge_fn : Func := Go.Proofs.Try.f107
abbrev ref1_Product : Nat := 108
noncomputable abbrev ref1_Product_fn : Func := Go.Proofs.Try.f108
abbrev ref17_Lowest : Nat := 109
noncomputable abbrev ref17_Lowest_fn : Func := Go.Proofs.Try.f109
abbrev ref8_Pages : Nat := 110
noncomputable abbrev ref8_Pages_fn : Func := Go.Proofs.Try.f110
abbrev ref8_Commit : Nat := 111
noncomputable abbrev ref8_Commit_fn : Func := Go.Proofs.Try.f111
abbrev ref8_Fill : Nat := 112
noncomputable abbrev ref8_Fill_fn : Func := Go.Proofs.Try.f112
abbrev ref17_put : Nat := 113
noncomputable abbrev ref17_put_fn : Func := Go.Proofs.Try.f113
abbrev ref8_there : Nat := 114
noncomputable abbrev ref8_there_fn : Func := Go.Proofs.Try.f114
abbrev junk_Byte : Nat := 115
noncomputable abbrev junk_Byte_fn : Func := Go.Proofs.Try.f115
abbrev slices_overlaps_api_Block : Nat := 116
noncomputable abbrev slices_overlaps_api_Block_fn : Func := Go.Proofs.Try.f116
abbrev slices_rotateRight_api_Block : Nat := 117
noncomputable abbrev slices_rotateRight_api_Block_fn : Func := Go.Proofs.Try.f117
abbrev ref1_Mul : Nat := 118
noncomputable abbrev ref1_Mul_fn : Func := Go.Proofs.Try.f118
abbrev ref8_Byte : Nat := 119
noncomputable abbrev ref8_Byte_fn : Func := Go.Proofs.Try.f119
abbrev slices_rotateLeft_api_Block : Nat := 120
noncomputable abbrev slices_rotateLeft_api_Block_fn : Func := Go.Proofs.Try.f120
abbrev slices_Reverse_api_Block_api_Block : Nat := 121
noncomputable abbrev slices_Reverse_api_Block_api_Block_fn : Func := Go.Proofs.Try.f121
abbrev t_int64 : Nat := 2
abbrev t_int : Nat := 3
abbrev t_bool : Nat := 4
abbrev t_uint8 : Nat := 5
abbrev t_internal_abi_BoundsErrorCode : Nat := 6
abbrev t_runtime_boundsError : Nat := 8
abbrev t_string : Nat := 9
abbrev t_runtime_errorString : Nat := 10
abbrev t_runtime_plainError : Nat := 11
abbrev t_runtime_errorAddressString : Nat := 14
abbrev tp_runtime_TypeAssertionError : Nat := 15
abbrev tp_runtime_PanicNilError : Nat := 16
abbrev tp_abi_Type : Nat := 17
abbrev t_internal_runtime_maps_unhashableTypeError : Nat := 19
abbrev ts_uint8 : Nat := 22
abbrev ts_api_Op : Nat := 23
abbrev tp_mk_Picks : Nat := 25
abbrev t_api_Raw : Nat := 29
abbrev ts_int : Nat := 35
abbrev t_api_Op : Nat := 37
abbrev t_api_Conf : Nat := 40
abbrev ts_api_Block : Nat := 41
abbrev ts_bool : Nat := 42
abbrev t_api_Model : Nat := 44
abbrev t_api_Errno : Nat := 45
abbrev t_api_Ans : Nat := 51
abbrev ts_api_Raw : Nat := 55
abbrev t_api_Block : Nat := 58
abbrev tm_map_int_map_int_uint8 : Nat := 59
abbrev tm_map_int_uint8 : Nat := 60
abbrev ts_api_Errno : Nat := 62
abbrev ts_api_Ans : Nat := 63
abbrev t_mk_Picks : Nat := 69
abbrev tp_ref17_reader : Nat := 72
abbrev t_ref17_reader : Nat := 74
abbrev t_uint : Nat := 93
abbrev tp_int : Nat := 94
abbrev tp_api_Op : Nat := 96
abbrev t_api_Span : Nat := 119
abbrev t_uint64 : Nat := 135
abbrev t_runtime_TypeAssertionError : Nat := 141
abbrev tx_a0_p_runtime_PanicNilError : Nat := 142
abbrev t_runtime_PanicNilError : Nat := 144
abbrev t_internal_abi_TFlag : Nat := 147
abbrev t_internal_abi_Kind : Nat := 148
abbrev tp_uint8 : Nat := 150
abbrev t_internal_abi_NameOff : Nat := 151
abbrev t_internal_abi_TypeOff : Nat := 152
abbrev t_internal_abi_Type : Nat := 154
def tab : List (Nat × TI) := [
  (1, ⟨.func, 1, 8, .und⟩),
  (2, ⟨.int .i64, 1, 8, .int .i64 0⟩),
  (3, ⟨.int .i64, 1, 8, .int .i64 0⟩),
  (4, ⟨.bool, 1, 1, .bool false⟩),
  (5, ⟨.int .u8, 1, 1, .int .u8 0⟩),
  (6, ⟨.int .u8, 1, 1, .int .u8 0⟩),
  (9, ⟨.str, 1, 16, .str .empty⟩),
  (10, ⟨.str, 1, 16, .str .empty⟩),
  (11, ⟨.str, 1, 16, .str .empty⟩),
  (12, ⟨.int .u64, 1, 8, .int .u64 0⟩),
  (15, ⟨.ptr 141, 1, 8, .npt⟩),
  (16, ⟨.ptr 144, 1, 8, .npt⟩),
  (17, ⟨.ptr 154, 1, 8, .npt⟩),
  (21, ⟨.int .i32, 1, 4, .int .i32 0⟩),
  (22, ⟨.slice 5, 1, 24, .nsl 5⟩),
  (23, ⟨.slice 37, 1, 24, .nsl 37⟩),
  (24, ⟨.func, 1, 8, .und⟩),
  (25, ⟨.ptr 69, 1, 8, .npt⟩),
  (26, ⟨.func, 1, 8, .und⟩),
  (27, ⟨.func, 1, 8, .und⟩),
  (28, ⟨.struct [(0, 3), (1, 3), (2, 3), (3, 3), (4, 3), (5, 3)], 6, 48, .agg [.int .i64 0, .int .i64 0, .int .i64 0, .int .i64 0, .int .i64 0, .int .i64 0]⟩),
  (29, ⟨.struct [(0, 3), (1, 3), (2, 3), (3, 3), (4, 3), (5, 3)], 6, 48, .agg [.int .i64 0, .int .i64 0, .int .i64 0, .int .i64 0, .int .i64 0, .int .i64 0]⟩),
  (30, ⟨.func, 1, 8, .und⟩),
  (31, ⟨.func, 1, 8, .und⟩),
  (32, ⟨.func, 1, 8, .und⟩),
  (33, ⟨.func, 1, 8, .und⟩),
  (34, ⟨.func, 1, 8, .und⟩),
  (35, ⟨.slice 3, 1, 24, .nsl 3⟩),
  (36, ⟨.struct [(0, 3), (1, 3), (2, 3), (3, 3), (4, 3), (5, 5)], 6, 48, .agg [.int .i64 0, .int .i64 0, .int .i64 0, .int .i64 0, .int .i64 0, .int .u8 0]⟩),
  (37, ⟨.struct [(0, 3), (1, 3), (2, 3), (3, 3), (4, 3), (5, 5)], 6, 48, .agg [.int .i64 0, .int .i64 0, .int .i64 0, .int .i64 0, .int .i64 0, .int .u8 0]⟩),
  (38, ⟨.func, 1, 8, .und⟩),
  (39, ⟨.struct [(0, 3), (1, 3), (2, 3), (3, 3), (4, 3), (5, 3), (6, 3), (7, 3)], 8, 64, .agg [.int .i64 0, .int .i64 0, .int .i64 0, .int .i64 0, .int .i64 0, .int .i64 0, .int .i64 0, .int .i64 0]⟩),
  (40, ⟨.struct [(0, 3), (1, 3), (2, 3), (3, 3), (4, 3), (5, 3), (6, 3), (7, 3)], 8, 64, .agg [.int .i64 0, .int .i64 0, .int .i64 0, .int .i64 0, .int .i64 0, .int .i64 0, .int .i64 0, .int .i64 0]⟩),
  (41, ⟨.slice 58, 1, 24, .nsl 58⟩),
  (42, ⟨.slice 4, 1, 24, .nsl 4⟩),
  (43, ⟨.struct [(0, 40), (8, 41), (9, 3), (10, 3), (11, 3), (12, 42), (13, 22)], 14, 160, .agg [.int .i64 0, .int .i64 0, .int .i64 0, .int .i64 0, .int .i64 0, .int .i64 0, .int .i64 0, .int .i64 0, .nsl 58, .int .i64 0, .int .i64 0, .int .i64 0, .nsl 4, .nsl 5]⟩),
  (44, ⟨.struct [(0, 40), (8, 41), (9, 3), (10, 3), (11, 3), (12, 42), (13, 22)], 14, 160, .agg [.int .i64 0, .int .i64 0, .int .i64 0, .int .i64 0, .int .i64 0, .int .i64 0, .int .i64 0, .int .i64 0, .nsl 58, .int .i64 0, .int .i64 0, .int .i64 0, .nsl 4, .nsl 5]⟩),
  (45, ⟨.int .i64, 1, 8, .int .i64 0⟩),
  (47, ⟨.func, 1, 8, .und⟩),
  (48, ⟨.func, 1, 8, .und⟩),
  (49, ⟨.func, 1, 8, .und⟩),
  (50, ⟨.struct [(0, 45), (1, 3), (2, 3), (3, 5), (4, 3), (5, 3), (6, 3), (7, 3)], 8, 64, .agg [.int .i64 0, .int .i64 0, .int .i64 0, .int .u8 0, .int .i64 0, .int .i64 0, .int .i64 0, .int .i64 0]⟩),
  (51, ⟨.struct [(0, 45), (1, 3), (2, 3), (3, 5), (4, 3), (5, 3), (6, 3), (7, 3)], 8, 64, .agg [.int .i64 0, .int .i64 0, .int .i64 0, .int .u8 0, .int .i64 0, .int .i64 0, .int .i64 0, .int .i64 0]⟩),
  (53, ⟨.func, 1, 8, .und⟩),
  (54, ⟨.func, 1, 8, .und⟩),
  (55, ⟨.slice 29, 1, 24, .nsl 29⟩),
  (56, ⟨.func, 1, 8, .und⟩),
  (57, ⟨.struct [(0, 3), (1, 3), (2, 3)], 3, 24, .agg [.int .i64 0, .int .i64 0, .int .i64 0]⟩),
  (58, ⟨.struct [(0, 3), (1, 3), (2, 3)], 3, 24, .agg [.int .i64 0, .int .i64 0, .int .i64 0]⟩),
  (59, ⟨.map 3 60, 1, 8, .nmp⟩),
  (60, ⟨.map 3 5, 1, 8, .nmp⟩),
  (62, ⟨.slice 45, 1, 24, .nsl 45⟩),
  (63, ⟨.slice 51, 1, 24, .nsl 51⟩),
  (65, ⟨.func, 1, 8, .und⟩),
  (66, ⟨.func, 1, 8, .und⟩),
  (67, ⟨.func, 1, 8, .und⟩),
  (68, ⟨.struct [(0, 22), (1, 3)], 2, 32, .agg [.nsl 5, .int .i64 0]⟩),
  (69, ⟨.struct [(0, 22), (1, 3)], 2, 32, .agg [.nsl 5, .int .i64 0]⟩),
  (71, ⟨.func, 1, 8, .und⟩),
  (72, ⟨.ptr 74, 1, 8, .npt⟩),
  (73, ⟨.struct [(0, 22), (1, 4)], 2, 32, .agg [.nsl 5, .bool false]⟩),
  (74, ⟨.struct [(0, 22), (1, 4)], 2, 32, .agg [.nsl 5, .bool false]⟩),
  (75, ⟨.func, 1, 8, .und⟩),
  (76, ⟨.func, 1, 8, .und⟩),
  (78, ⟨.func, 1, 8, .und⟩),
  (79, ⟨.func, 1, 8, .und⟩),
  (80, ⟨.func, 1, 8, .und⟩),
  (81, ⟨.func, 1, 8, .und⟩),
  (82, ⟨.func, 1, 8, .und⟩),
  (83, ⟨.func, 1, 8, .und⟩),
  (84, ⟨.func, 1, 8, .und⟩),
  (85, ⟨.func, 1, 8, .und⟩),
  (87, ⟨.func, 1, 8, .und⟩),
  (88, ⟨.func, 1, 8, .und⟩),
  (89, ⟨.func, 1, 8, .und⟩),
  (90, ⟨.func, 1, 8, .und⟩),
  (91, ⟨.func, 1, 8, .und⟩),
  (92, ⟨.func, 1, 8, .und⟩),
  (93, ⟨.int .u64, 1, 8, .int .u64 0⟩),
  (94, ⟨.ptr 3, 1, 8, .npt⟩),
  (95, ⟨.func, 1, 8, .und⟩),
  (96, ⟨.ptr 37, 1, 8, .npt⟩),
  (97, ⟨.func, 1, 8, .und⟩),
  (98, ⟨.func, 1, 8, .und⟩),
  (100, ⟨.func, 1, 8, .und⟩),
  (101, ⟨.func, 1, 8, .und⟩),
  (102, ⟨.func, 1, 8, .und⟩),
  (103, ⟨.func, 1, 8, .und⟩),
  (104, ⟨.func, 1, 8, .und⟩),
  (105, ⟨.func, 1, 8, .und⟩),
  (107, ⟨.func, 1, 8, .und⟩),
  (109, ⟨.func, 1, 8, .und⟩),
  (110, ⟨.func, 1, 8, .und⟩),
  (112, ⟨.func, 1, 8, .und⟩),
  (113, ⟨.func, 1, 8, .und⟩),
  (114, ⟨.func, 1, 8, .und⟩),
  (115, ⟨.func, 1, 8, .und⟩),
  (116, ⟨.func, 1, 8, .und⟩),
  (117, ⟨.func, 1, 8, .und⟩),
  (118, ⟨.struct [(0, 3), (1, 3)], 2, 16, .agg [.int .i64 0, .int .i64 0]⟩),
  (119, ⟨.struct [(0, 3), (1, 3)], 2, 16, .agg [.int .i64 0, .int .i64 0]⟩),
  (120, ⟨.func, 1, 8, .und⟩),
  (122, ⟨.func, 1, 8, .und⟩),
  (124, ⟨.func, 1, 8, .und⟩),
  (125, ⟨.func, 1, 8, .und⟩),
  (126, ⟨.func, 1, 8, .und⟩),
  (127, ⟨.func, 1, 8, .und⟩),
  (128, ⟨.func, 1, 8, .und⟩),
  (129, ⟨.func, 1, 8, .und⟩),
  (130, ⟨.func, 1, 8, .und⟩),
  (131, ⟨.func, 1, 8, .und⟩),
  (132, ⟨.func, 1, 8, .und⟩),
  (133, ⟨.func, 1, 8, .und⟩),
  (134, ⟨.func, 1, 8, .und⟩),
  (135, ⟨.int .u64, 1, 8, .int .u64 0⟩),
  (136, ⟨.func, 1, 8, .und⟩),
  (137, ⟨.func, 1, 8, .und⟩),
  (138, ⟨.func, 1, 8, .und⟩),
  (139, ⟨.func, 1, 8, .und⟩),
  (145, ⟨.func, 1, 8, .und⟩),
  (146, ⟨.int .u32, 1, 4, .int .u32 0⟩),
  (147, ⟨.int .u8, 1, 1, .int .u8 0⟩),
  (148, ⟨.int .u8, 1, 1, .int .u8 0⟩),
  (149, ⟨.func, 1, 8, .und⟩),
  (150, ⟨.ptr 5, 1, 8, .npt⟩),
  (151, ⟨.int .i32, 1, 4, .int .i32 0⟩),
  (152, ⟨.int .i32, 1, 4, .int .i32 0⟩)]
noncomputable abbrev P : Program := Go.Proofs.Try.prog
def T : Tab := tabOf tab
theorem tabOk : TabOk P T := TabOk.of tab (by kernel_rfl)
theorem mixed : P.follows .mixedOrders = true := by kernel_rfl
end Go.Ev.N

