/- Numbers of this seat, by name. Printed by names.py. -/
import Derived.Test.YtbhjocgepgpnmaaGreatChecked
import Derived.Test.YtbhjocgepgpnmaaGreatEvOpen
import Derived.KernelRfl
set_option linter.unusedVariables false
set_option linter.unusedSimpArgs false
namespace Go.Ev.N
open Go.Ev
abbrev law27_PlayAll : Nat := 3
noncomputable abbrev law27_PlayAll_fn : Func := Go.Proofs.Tryz.f3
abbrev law27_PlayBack : Nat := 4
noncomputable abbrev law27_PlayBack_fn : Func := Go.Proofs.Tryz.f4
abbrev law27_PlayRuns : Nat := 5
noncomputable abbrev law27_PlayRuns_fn : Func := Go.Proofs.Tryz.f5
abbrev law26_RunAll : Nat := 6
noncomputable abbrev law26_RunAll_fn : Func := Go.Proofs.Tryz.f6
abbrev law26_RunParts : Nat := 7
noncomputable abbrev law26_RunParts_fn : Func := Go.Proofs.Tryz.f7
abbrev law26_RunMany : Nat := 8
noncomputable abbrev law26_RunMany_fn : Func := Go.Proofs.Tryz.f8
abbrev law26_RunBoth : Nat := 9
noncomputable abbrev law26_RunBoth_fn : Func := Go.Proofs.Tryz.f9
abbrev law26_RunSeeds : Nat := 10
noncomputable abbrev law26_RunSeeds_fn : Func := Go.Proofs.Tryz.f10
abbrev law27_begun : Nat := 11
noncomputable abbrev law27_begun_fn : Func := Go.Proofs.Tryz.f11
abbrev play_Decode : Nat := 12
noncomputable abbrev play_Decode_fn : Func := Go.Proofs.Tryz.f12
abbrev ref17_Decode : Nat := 13
noncomputable abbrev ref17_Decode_fn : Func := Go.Proofs.Tryz.f13
abbrev ref17_SameOps : Nat := 14
noncomputable abbrev ref17_SameOps_fn : Func := Go.Proofs.Tryz.f14
abbrev play_Encode : Nat := 15
noncomputable abbrev play_Encode_fn : Func := Go.Proofs.Tryz.f15
abbrev ref17_Encode : Nat := 16
noncomputable abbrev ref17_Encode_fn : Func := Go.Proofs.Tryz.f16
abbrev play_Run : Nat := 17
noncomputable abbrev play_Run_fn : Func := Go.Proofs.Tryz.f17
abbrev ref17_Run : Nat := 18
noncomputable abbrev ref17_Run_fn : Func := Go.Proofs.Tryz.f18
abbrev ref17_SameAns : Nat := 19
noncomputable abbrev ref17_SameAns_fn : Func := Go.Proofs.Tryz.f19
abbrev mk_Made : Nat := 20
noncomputable abbrev mk_Made_fn : Func := Go.Proofs.Tryz.f20
abbrev mk_Picks_Raw : Nat := 21
noncomputable abbrev mk_Picks_Raw_fn : Func := Go.Proofs.Tryz.f21
abbrev mk_Picks_Ops : Nat := 22
noncomputable abbrev mk_Picks_Ops_fn : Func := Go.Proofs.Tryz.f22
abbrev law26_begun : Nat := 23
noncomputable abbrev law26_begun_fn : Func := Go.Proofs.Tryz.f23
abbrev run_Heap : Nat := 24
noncomputable abbrev run_Heap_fn : Func := Go.Proofs.Tryz.f24
abbrev run_Plain : Nat := 25
noncomputable abbrev run_Plain_fn : Func := Go.Proofs.Tryz.f25
abbrev wire_Take : Nat := 26
noncomputable abbrev wire_Take_fn : Func := Go.Proofs.Tryz.f26
abbrev ref17_reader_num : Nat := 27
noncomputable abbrev ref17_reader_num_fn : Func := Go.Proofs.Tryz.f27
abbrev ref17_TakeOps : Nat := 28
noncomputable abbrev ref17_TakeOps_fn : Func := Go.Proofs.Tryz.f28
abbrev wire_Put : Nat := 29
noncomputable abbrev wire_Put_fn : Func := Go.Proofs.Tryz.f29
abbrev ref17_three : Nat := 30
noncomputable abbrev ref17_three_fn : Func := Go.Proofs.Tryz.f30
abbrev ref17_PutOps : Nat := 31
noncomputable abbrev ref17_PutOps_fn : Func := Go.Proofs.Tryz.f31
abbrev ref17_New : Nat := 32
noncomputable abbrev ref17_New_fn : Func := Go.Proofs.Tryz.f32
abbrev ref17_All : Nat := 33
noncomputable abbrev ref17_All_fn : Func := Go.Proofs.Tryz.f33
abbrev mk_Picks_Num : Nat := 34
noncomputable abbrev mk_Picks_Num_fn : Func := Go.Proofs.Tryz.f34
abbrev mk_Picks_Over : Nat := 35
noncomputable abbrev mk_Picks_Over_fn : Func := Go.Proofs.Tryz.f35
abbrev mk_Picks_Op : Nat := 36
noncomputable abbrev mk_Picks_Op_fn : Func := Go.Proofs.Tryz.f36
abbrev ref17_Do : Nat := 37
noncomputable abbrev ref17_Do_fn : Func := Go.Proofs.Tryz.f37
abbrev heap_New : Nat := 38
noncomputable abbrev heap_New_fn : Func := Go.Proofs.Tryz.f38
abbrev heap_Heap_Do : Nat := 39
noncomputable abbrev heap_Heap_Do_fn : Func := Go.Proofs.Tryz.f39
abbrev plain_New : Nat := 40
noncomputable abbrev plain_New_fn : Func := Go.Proofs.Tryz.f40
abbrev plain_Do : Nat := 41
noncomputable abbrev plain_Do_fn : Func := Go.Proofs.Tryz.f41
abbrev wire_one : Nat := 42
noncomputable abbrev wire_one_fn : Func := Go.Proofs.Tryz.f42
abbrev wire_put : Nat := 43
noncomputable abbrev wire_put_fn : Func := Go.Proofs.Tryz.f43
abbrev ref17_putOp : Nat := 44
noncomputable abbrev ref17_putOp_fn : Func := Go.Proofs.Tryz.f44
abbrev ref1_Of : Nat := 45
noncomputable abbrev ref1_Of_fn : Func := Go.Proofs.Tryz.f45
abbrev mk_Picks_Size : Nat := 46
noncomputable abbrev mk_Picks_Size_fn : Func := Go.Proofs.Tryz.f46
abbrev mk_Picks_Block : Nat := 47
noncomputable abbrev mk_Picks_Block_fn : Func := Go.Proofs.Tryz.f47
abbrev ref17_give : Nat := 48
noncomputable abbrev ref17_give_fn : Func := Go.Proofs.Tryz.f48
abbrev ref8_Trim : Nat := 49
noncomputable abbrev ref8_Trim_fn : Func := Go.Proofs.Tryz.f49
abbrev ref8_Met : Nat := 50
noncomputable abbrev ref8_Met_fn : Func := Go.Proofs.Tryz.f50
abbrev ref8_Count : Nat := 51
noncomputable abbrev ref8_Count_fn : Func := Go.Proofs.Tryz.f51
abbrev ref17_Find : Nat := 52
noncomputable abbrev ref17_Find_fn : Func := Go.Proofs.Tryz.f52
abbrev ref17_wrong : Nat := 53
noncomputable abbrev ref17_wrong_fn : Func := Go.Proofs.Tryz.f53
abbrev ref17_of : Nat := 54
noncomputable abbrev ref17_of_fn : Func := Go.Proofs.Tryz.f54
abbrev conf_Of : Nat := 55
noncomputable abbrev conf_Of_fn : Func := Go.Proofs.Tryz.f55
abbrev place_New : Nat := 56
noncomputable abbrev place_New_fn : Func := Go.Proofs.Tryz.f56
abbrev heap_Heap_aligned : Nat := 57
noncomputable abbrev heap_Heap_aligned_fn : Func := Go.Proofs.Tryz.f57
abbrev heap_Heap_calloc : Nat := 58
noncomputable abbrev heap_Heap_calloc_fn : Func := Go.Proofs.Tryz.f58
abbrev heap_Heap_block : Nat := 59
noncomputable abbrev heap_Heap_block_fn : Func := Go.Proofs.Tryz.f59
abbrev commit_Trim : Nat := 60
noncomputable abbrev commit_Trim_fn : Func := Go.Proofs.Tryz.f60
abbrev heap_Heap_pages : Nat := 61
noncomputable abbrev heap_Heap_pages_fn : Func := Go.Proofs.Tryz.f61
abbrev pin_Count : Nat := 62
noncomputable abbrev pin_Count_fn : Func := Go.Proofs.Tryz.f62
abbrev plain_twin : Nat := 63
noncomputable abbrev plain_twin_fn : Func := Go.Proofs.Tryz.f63
abbrev plain_aligned : Nat := 64
noncomputable abbrev plain_aligned_fn : Func := Go.Proofs.Tryz.f64
abbrev plain_calloc : Nat := 65
noncomputable abbrev plain_calloc_fn : Func := Go.Proofs.Tryz.f65
abbrev plain_block : Nat := 66
noncomputable abbrev plain_block_fn : Func := Go.Proofs.Tryz.f66
abbrev plain_trim : Nat := 67
noncomputable abbrev plain_trim_fn : Func := Go.Proofs.Tryz.f67
abbrev wire_fields : Nat := 68
noncomputable abbrev wire_fields_fn : Func := Go.Proofs.Tryz.f68
abbrev wire_field : Nat := 69
noncomputable abbrev wire_field_fn : Func := Go.Proofs.Tryz.f69
abbrev ref1_Up : Nat := 70
noncomputable abbrev ref1_Up_fn : Func := Go.Proofs.Tryz.f70
abbrev ref1_Round : Nat := 71
noncomputable abbrev ref1_Round_fn : Func := Go.Proofs.Tryz.f71
abbrev ref1_Log : Nat := 72
noncomputable abbrev ref1_Log_fn : Func := Go.Proofs.Tryz.f72
abbrev ref1_Size : Nat := 73
noncomputable abbrev ref1_Size_fn : Func := Go.Proofs.Tryz.f73
abbrev ref1_New : Nat := 74
noncomputable abbrev ref1_New_fn : Func := Go.Proofs.Tryz.f74
abbrev ref1_Many : Nat := 75
noncomputable abbrev ref1_Many_fn : Func := Go.Proofs.Tryz.f75
abbrev ref17_place : Nat := 76
noncomputable abbrev ref17_place_fn : Func := Go.Proofs.Tryz.f76
abbrev ref8_Zero : Nat := 77
noncomputable abbrev ref8_Zero_fn : Func := Go.Proofs.Tryz.f77
abbrev ref8_Over : Nat := 78
noncomputable abbrev ref8_Over_fn : Func := Go.Proofs.Tryz.f78
abbrev ref1_Anew : Nat := 79
noncomputable abbrev ref1_Anew_fn : Func := Go.Proofs.Tryz.f79
abbrev conf_within : Nat := 80
noncomputable abbrev conf_within_fn : Func := Go.Proofs.Tryz.f80
abbrev calc_Up : Nat := 81
noncomputable abbrev calc_Up_fn : Func := Go.Proofs.Tryz.f81
abbrev calc_Round : Nat := 82
noncomputable abbrev calc_Round_fn : Func := Go.Proofs.Tryz.f82
abbrev calc_Log : Nat := 83
noncomputable abbrev calc_Log_fn : Func := Go.Proofs.Tryz.f83
abbrev slots_New : Nat := 84
noncomputable abbrev slots_New_fn : Func := Go.Proofs.Tryz.f84
abbrev admit_New : Nat := 85
noncomputable abbrev admit_New_fn : Func := Go.Proofs.Tryz.f85
abbrev heap_Heap_asks : Nat := 86
noncomputable abbrev heap_Heap_asks_fn : Func := Go.Proofs.Tryz.f86
abbrev admit_Many : Nat := 87
noncomputable abbrev admit_Many_fn : Func := Go.Proofs.Tryz.f87
abbrev class_Product : Nat := 88
noncomputable abbrev class_Product_fn : Func := Go.Proofs.Tryz.f88
abbrev heap_Heap_realloc : Nat := 89
noncomputable abbrev heap_Heap_realloc_fn : Func := Go.Proofs.Tryz.f89
abbrev heap_Heap_gone : Nat := 90
noncomputable abbrev heap_Heap_gone_fn : Func := Go.Proofs.Tryz.f90
abbrev slices_Clone_bool_bool : Nat := 91
noncomputable abbrev slices_Clone_bool_bool_fn : Func := Go.Proofs.Tryz.f91
abbrev slices_Clone_api_Block_api_Block : Nat := 92
noncomputable abbrev slices_Clone_api_Block_api_Block_fn : Func := Go.Proofs.Tryz.f92
abbrev slices_Clone_byte_byte : Nat := 93
noncomputable abbrev slices_Clone_byte_byte_fn : Func := Go.Proofs.Tryz.f93
abbrev plain_puts : Nat := 94
noncomputable abbrev plain_puts_fn : Func := Go.Proofs.Tryz.f94
abbrev mem_Zero : Nat := 95
noncomputable abbrev mem_Zero_fn : Func := Go.Proofs.Tryz.f95
abbrev plain_find : Nat := 96
noncomputable abbrev plain_find_fn : Func := Go.Proofs.Tryz.f96
abbrev plain_realloc : Nat := 97
noncomputable abbrev plain_realloc_fn : Func := Go.Proofs.Tryz.f97
abbrev plain_goes : Nat := 98
noncomputable abbrev plain_goes_fn : Func := Go.Proofs.Tryz.f98
abbrev plain_bytes : Nat := 99
noncomputable abbrev plain_bytes_fn : Func := Go.Proofs.Tryz.f99
abbrev pin_Met : Nat := 100
noncomputable abbrev pin_Met_fn : Func := Go.Proofs.Tryz.f100
abbrev ref1_Add : Nat := 101
noncomputable abbrev ref1_Add_fn : Func := Go.Proofs.Tryz.f101
abbrev ref1_Charge : Nat := 102
noncomputable abbrev ref1_Charge_fn : Func := Go.Proofs.Tryz.f102
abbrev ref1_Product : Nat := 103
noncomputable abbrev ref1_Product_fn : Func := Go.Proofs.Tryz.f103
abbrev ref17_Lowest : Nat := 104
noncomputable abbrev ref17_Lowest_fn : Func := Go.Proofs.Tryz.f104
abbrev ref8_Pages : Nat := 105
noncomputable abbrev ref8_Pages_fn : Func := Go.Proofs.Tryz.f105
abbrev ref8_Commit : Nat := 106
noncomputable abbrev ref8_Commit_fn : Func := Go.Proofs.Tryz.f106
abbrev ref8_Fill : Nat := 107
noncomputable abbrev ref8_Fill_fn : Func := Go.Proofs.Tryz.f107
abbrev ref17_put : Nat := 108
noncomputable abbrev ref17_put_fn : Func := Go.Proofs.Tryz.f108
abbrev ref8_there : Nat := 109
noncomputable abbrev ref8_there_fn : Func := Go.Proofs.Tryz.f109
abbrev calc_Add : Nat := 110
noncomputable abbrev calc_Add_fn : Func := Go.Proofs.Tryz.f110
abbrev tree_New : Nat := 111
noncomputable abbrev tree_New_fn : Func := Go.Proofs.Tryz.f111
abbrev class_Charge : Nat := 112
noncomputable abbrev class_Charge_fn : Func := Go.Proofs.Tryz.f112
abbrev heap_Heap_puts : Nat := 113
noncomputable abbrev heap_Heap_puts_fn : Func := Go.Proofs.Tryz.f113
abbrev calc_Mul : Nat := 114
noncomputable abbrev calc_Mul_fn : Func := Go.Proofs.Tryz.f114
abbrev admit_Anew : Nat := 115
noncomputable abbrev admit_Anew_fn : Func := Go.Proofs.Tryz.f115
abbrev heap_Heap_back : Nat := 116
noncomputable abbrev heap_Heap_back_fn : Func := Go.Proofs.Tryz.f116
abbrev place_Release : Nat := 117
noncomputable abbrev place_Release_fn : Func := Go.Proofs.Tryz.f117
abbrev heap_Heap_meets : Nat := 118
noncomputable abbrev heap_Heap_meets_fn : Func := Go.Proofs.Tryz.f118
abbrev plain_lowest : Nat := 119
noncomputable abbrev plain_lowest_fn : Func := Go.Proofs.Tryz.f119
abbrev pin_Pages : Nat := 120
noncomputable abbrev pin_Pages_fn : Func := Go.Proofs.Tryz.f120
abbrev commit_Commit : Nat := 121
noncomputable abbrev commit_Commit_fn : Func := Go.Proofs.Tryz.f121
abbrev junk_Fill : Nat := 122
noncomputable abbrev junk_Fill_fn : Func := Go.Proofs.Tryz.f122
abbrev slices_Insert_api_Block_api_Block : Nat := 123
noncomputable abbrev slices_Insert_api_Block_api_Block_fn : Func := Go.Proofs.Tryz.f123
abbrev mem_within : Nat := 124
noncomputable abbrev mem_within_fn : Func := Go.Proofs.Tryz.f124
abbrev slices_IndexFunc_api_Block_api_Block : Nat := 125
noncomputable abbrev slices_IndexFunc_api_Block_api_Block_fn : Func := Go.Proofs.Tryz.f125
abbrev plain_find_1 : Nat := 126
noncomputable abbrev plain_find_1_fn : Func := Go.Proofs.Tryz.f126
abbrev slices_Delete_api_Block_api_Block : Nat := 127
noncomputable abbrev slices_Delete_api_Block_api_Block_fn : Func := Go.Proofs.Tryz.f127
abbrev mem_Get : Nat := 128
noncomputable abbrev mem_Get_fn : Func := Go.Proofs.Tryz.f128
abbrev mem_Put : Nat := 129
noncomputable abbrev mem_Put_fn : Func := Go.Proofs.Tryz.f129
abbrev ref1_Mul : Nat := 130
noncomputable abbrev ref1_Mul_fn : Func := Go.Proofs.Tryz.f130
abbrev ref8_Byte : Nat := 131
noncomputable abbrev ref8_Byte_fn : Func := Go.Proofs.Tryz.f131
abbrev tree_level : Nat := 132
noncomputable abbrev tree_level_fn : Func := Go.Proofs.Tryz.f132
abbrev class_Class : Nat := 133
noncomputable abbrev class_Class_fn : Func := Go.Proofs.Tryz.f133
abbrev place_Place : Nat := 134
noncomputable abbrev place_Place_fn : Func := Go.Proofs.Tryz.f134
abbrev junk_Byte : Nat := 135
noncomputable abbrev junk_Byte_fn : Func := Go.Proofs.Tryz.f135
abbrev side_Take : Nat := 136
noncomputable abbrev side_Take_fn : Func := Go.Proofs.Tryz.f136
abbrev place_twin : Nat := 137
noncomputable abbrev place_twin_fn : Func := Go.Proofs.Tryz.f137
abbrev slots_Use : Nat := 138
noncomputable abbrev slots_Use_fn : Func := Go.Proofs.Tryz.f138
abbrev slices_overlaps_api_Block : Nat := 139
noncomputable abbrev slices_overlaps_api_Block_fn : Func := Go.Proofs.Tryz.f139
abbrev slices_rotateRight_api_Block : Nat := 140
noncomputable abbrev slices_rotateRight_api_Block_fn : Func := Go.Proofs.Tryz.f140
abbrev word_Mask : Nat := 141
noncomputable abbrev word_Mask_fn : Func := Go.Proofs.Tryz.f141
abbrev conf_Shift : Nat := 142
noncomputable abbrev conf_Shift_fn : Func := Go.Proofs.Tryz.f142
abbrev slots_Lowest : Nat := 143
noncomputable abbrev slots_Lowest_fn : Func := Go.Proofs.Tryz.f143
abbrev side_Put : Nat := 144
noncomputable abbrev side_Put_fn : Func := Go.Proofs.Tryz.f144
abbrev slices_Clone_api_Mark_api_Mark : Nat := 145
noncomputable abbrev slices_Clone_api_Mark_api_Mark_fn : Func := Go.Proofs.Tryz.f145
abbrev side_find : Nat := 146
noncomputable abbrev side_find_fn : Func := Go.Proofs.Tryz.f146
abbrev slices_Delete_api_Mark_api_Mark : Nat := 147
noncomputable abbrev slices_Delete_api_Mark_api_Mark_fn : Func := Go.Proofs.Tryz.f147
abbrev slots_twin : Nat := 148
noncomputable abbrev slots_twin_fn : Func := Go.Proofs.Tryz.f148
abbrev tree_Set : Nat := 149
noncomputable abbrev tree_Set_fn : Func := Go.Proofs.Tryz.f149
abbrev slots_taken : Nat := 150
noncomputable abbrev slots_taken_fn : Func := Go.Proofs.Tryz.f150
abbrev slices_rotateLeft_api_Block : Nat := 151
noncomputable abbrev slices_rotateLeft_api_Block_fn : Func := Go.Proofs.Tryz.f151
abbrev tree_FirstZero : Nat := 152
noncomputable abbrev tree_FirstZero_fn : Func := Go.Proofs.Tryz.f152
abbrev slices_Insert_api_Mark_api_Mark : Nat := 153
noncomputable abbrev slices_Insert_api_Mark_api_Mark_fn : Func := Go.Proofs.Tryz.f153
abbrev slices_BinarySearchFunc_api_Mark_api_Mark_int : Nat := 154
noncomputable abbrev slices_BinarySearchFunc_api_Mark_api_Mark_int_fn : Func := Go.Proofs.Tryz.f154
abbrev side_find_1 : Nat := 155
noncomputable abbrev side_find_1_fn : Func := Go.Proofs.Tryz.f155
abbrev cmp_Compare_int : Nat := 156
noncomputable abbrev cmp_Compare_int_fn : Func := Go.Proofs.Tryz.f156
abbrev tree_twin : Nat := 157
noncomputable abbrev tree_twin_fn : Func := Go.Proofs.Tryz.f157
abbrev tree_at : Nat := 158
noncomputable abbrev tree_at_fn : Func := Go.Proofs.Tryz.f158
abbrev tree_put : Nat := 159
noncomputable abbrev tree_put_fn : Func := Go.Proofs.Tryz.f159
abbrev tree_sums : Nat := 160
noncomputable abbrev tree_sums_fn : Func := Go.Proofs.Tryz.f160
abbrev tree_Has : Nat := 161
noncomputable abbrev tree_Has_fn : Func := Go.Proofs.Tryz.f161
abbrev slices_Reverse_api_Block_api_Block : Nat := 162
noncomputable abbrev slices_Reverse_api_Block_api_Block_fn : Func := Go.Proofs.Tryz.f162
abbrev word_LowZero : Nat := 163
noncomputable abbrev word_LowZero_fn : Func := Go.Proofs.Tryz.f163
abbrev slices_overlaps_api_Mark : Nat := 164
noncomputable abbrev slices_overlaps_api_Mark_fn : Func := Go.Proofs.Tryz.f164
abbrev slices_rotateRight_api_Mark : Nat := 165
noncomputable abbrev slices_rotateRight_api_Mark_fn : Func := Go.Proofs.Tryz.f165
abbrev cmp_isNaN_int : Nat := 166
noncomputable abbrev cmp_isNaN_int_fn : Func := Go.Proofs.Tryz.f166
abbrev slices_Clone_uint64_uint64 : Nat := 167
noncomputable abbrev slices_Clone_uint64_uint64_fn : Func := Go.Proofs.Tryz.f167
abbrev slices_Clone_uint64_uint64_b : Nat := 168
noncomputable abbrev slices_Clone_uint64_uint64_b_fn : Func := Go.Proofs.Tryz.f168
abbrev word_LowOne : Nat := 169
noncomputable abbrev word_LowOne_fn : Func := Go.Proofs.Tryz.f169
abbrev slices_rotateLeft_api_Mark : Nat := 170
noncomputable abbrev slices_rotateLeft_api_Mark_fn : Func := Go.Proofs.Tryz.f170
abbrev slices_Reverse_api_Mark_api_Mark : Nat := 171
noncomputable abbrev slices_Reverse_api_Mark_api_Mark_fn : Func := Go.Proofs.Tryz.f171
abbrev heap_Heap_Blocks : Nat := 187
noncomputable abbrev heap_Heap_Blocks_fn : Func := Go.Proofs.Tryz.f187
abbrev t_int64 : Nat := 2
abbrev t_int : Nat := 3
abbrev t_bool : Nat := 4
abbrev t_uint8 : Nat := 5
abbrev t_internal_abi_BoundsErrorCode : Nat := 6
abbrev t_runtime_boundsError : Nat := 8
abbrev t_string : Nat := 9
abbrev t_runtime_errorString : Nat := 10
abbrev t_runtime_plainError : Nat := 11
abbrev t_runtime_errorAddressString : Nat := 14
abbrev tp_runtime_TypeAssertionError : Nat := 15
abbrev tp_runtime_PanicNilError : Nat := 16
abbrev tp_abi_Type : Nat := 17
abbrev t_internal_runtime_maps_unhashableTypeError : Nat := 19
abbrev ts_uint8 : Nat := 22
abbrev t_api_Raw : Nat := 24
abbrev ts_api_Op : Nat := 25
abbrev ts_api_Ans : Nat := 31
abbrev t_api_Errno : Nat := 32
abbrev tp_mk_Picks : Nat := 38
abbrev t_api_Op : Nat := 43
abbrev ts_api_Raw : Nat := 45
abbrev t_api_Ans : Nat := 50
abbrev tp_int : Nat := 51
abbrev ts_int : Nat := 52
abbrev t_uint : Nat := 53
abbrev tp_ref17_reader : Nat := 55
abbrev t_ref17_reader : Nat := 57
abbrev ts_int_59 : Nat := 59
abbrev t_api_Conf : Nat := 63
abbrev ts_api_Block : Nat := 64
abbrev ts_bool : Nat := 65
abbrev t_api_Model : Nat := 67
abbrev t_mk_Picks : Nat := 73
abbrev tp_heap_Heap : Nat := 77
abbrev tm_map_heap_start_api_Block : Nat := 95
abbrev ts_api_Tree : Nat := 96
abbrev t_api_Slots : Nat := 98
abbrev ts_api_Mark : Nat := 99
abbrev t_api_Engine : Nat := 101
abbrev t_heap_Heap : Nat := 103
abbrev tp_api_Op : Nat := 113
abbrev t_api_Block : Nat := 119
abbrev t_api_Span : Nat := 128
abbrev t_heap_start : Nat := 135
abbrev tss_uint64 : Nat := 153
abbrev t_api_Tree : Nat := 155
abbrev t_uint64 : Nat := 171
abbrev ts_uint64 : Nat := 172
abbrev t_api_Mark : Nat := 185
abbrev t_runtime_TypeAssertionError : Nat := 211
abbrev tx_a0_p_runtime_PanicNilError : Nat := 212
abbrev t_runtime_PanicNilError : Nat := 214
abbrev t_internal_abi_TFlag : Nat := 217
abbrev t_internal_abi_Kind : Nat := 218
abbrev tp_uint8 : Nat := 220
abbrev t_internal_abi_NameOff : Nat := 221
abbrev t_internal_abi_TypeOff : Nat := 222
abbrev t_internal_abi_Type : Nat := 224
def tab : List (Nat × TI) := [
  (1, ⟨.func, 1, 8, .und⟩),
  (2, ⟨.int .i64, 1, 8, .int .i64 0⟩),
  (3, ⟨.int .i64, 1, 8, .int .i64 0⟩),
  (4, ⟨.bool, 1, 1, .bool false⟩),
  (5, ⟨.int .u8, 1, 1, .int .u8 0⟩),
  (6, ⟨.int .u8, 1, 1, .int .u8 0⟩),
  (9, ⟨.str, 1, 16, .str .empty⟩),
  (10, ⟨.str, 1, 16, .str .empty⟩),
  (11, ⟨.str, 1, 16, .str .empty⟩),
  (12, ⟨.int .u64, 1, 8, .int .u64 0⟩),
  (15, ⟨.ptr 211, 1, 8, .npt⟩),
  (16, ⟨.ptr 214, 1, 8, .npt⟩),
  (17, ⟨.ptr 224, 1, 8, .npt⟩),
  (21, ⟨.int .i32, 1, 4, .int .i32 0⟩),
  (22, ⟨.slice 5, 1, 24, .nsl 5⟩),
  (23, ⟨.struct [(0, 3), (1, 3), (2, 3), (3, 3), (4, 3), (5, 3)], 6, 48, .agg [.int .i64 0, .int .i64 0, .int .i64 0, .int .i64 0, .int .i64 0, .int .i64 0]⟩),
  (24, ⟨.struct [(0, 3), (1, 3), (2, 3), (3, 3), (4, 3), (5, 3)], 6, 48, .agg [.int .i64 0, .int .i64 0, .int .i64 0, .int .i64 0, .int .i64 0, .int .i64 0]⟩),
  (25, ⟨.slice 43, 1, 24, .nsl 43⟩),
  (26, ⟨.func, 1, 8, .und⟩),
  (28, ⟨.func, 1, 8, .und⟩),
  (29, ⟨.func, 1, 8, .und⟩),
  (30, ⟨.func, 1, 8, .und⟩),
  (31, ⟨.slice 50, 1, 24, .nsl 50⟩),
  (32, ⟨.int .i64, 1, 8, .int .i64 0⟩),
  (34, ⟨.func, 1, 8, .und⟩),
  (35, ⟨.func, 1, 8, .und⟩),
  (36, ⟨.func, 1, 8, .und⟩),
  (37, ⟨.func, 1, 8, .und⟩),
  (38, ⟨.ptr 73, 1, 8, .npt⟩),
  (39, ⟨.func, 1, 8, .und⟩),
  (40, ⟨.func, 1, 8, .und⟩),
  (41, ⟨.func, 1, 8, .und⟩),
  (42, ⟨.struct [(0, 3), (1, 3), (2, 3), (3, 3), (4, 3), (5, 5)], 6, 48, .agg [.int .i64 0, .int .i64 0, .int .i64 0, .int .i64 0, .int .i64 0, .int .u8 0]⟩),
  (43, ⟨.struct [(0, 3), (1, 3), (2, 3), (3, 3), (4, 3), (5, 5)], 6, 48, .agg [.int .i64 0, .int .i64 0, .int .i64 0, .int .i64 0, .int .i64 0, .int .u8 0]⟩),
  (44, ⟨.func, 1, 8, .und⟩),
  (45, ⟨.slice 24, 1, 24, .nsl 24⟩),
  (46, ⟨.func, 1, 8, .und⟩),
  (47, ⟨.func, 1, 8, .und⟩),
  (48, ⟨.func, 1, 8, .und⟩),
  (49, ⟨.struct [(0, 32), (1, 3), (2, 3), (3, 5), (4, 3), (5, 3), (6, 3), (7, 3)], 8, 64, .agg [.int .i64 0, .int .i64 0, .int .i64 0, .int .u8 0, .int .i64 0, .int .i64 0, .int .i64 0, .int .i64 0]⟩),
  (50, ⟨.struct [(0, 32), (1, 3), (2, 3), (3, 5), (4, 3), (5, 3), (6, 3), (7, 3)], 8, 64, .agg [.int .i64 0, .int .i64 0, .int .i64 0, .int .u8 0, .int .i64 0, .int .i64 0, .int .i64 0, .int .i64 0]⟩),
  (51, ⟨.ptr 3, 1, 8, .npt⟩),
  (52, ⟨.slice 51, 1, 24, .nsl 51⟩),
  (53, ⟨.int .u64, 1, 8, .int .u64 0⟩),
  (54, ⟨.func, 1, 8, .und⟩),
  (55, ⟨.ptr 57, 1, 8, .npt⟩),
  (56, ⟨.struct [(0, 22), (1, 4)], 2, 32, .agg [.nsl 5, .bool false]⟩),
  (57, ⟨.struct [(0, 22), (1, 4)], 2, 32, .agg [.nsl 5, .bool false]⟩),
  (58, ⟨.func, 1, 8, .und⟩),
  (59, ⟨.slice 3, 1, 24, .nsl 3⟩),
  (60, ⟨.func, 1, 8, .und⟩),
  (61, ⟨.func, 1, 8, .und⟩),
  (62, ⟨.struct [(0, 3), (1, 3), (2, 3), (3, 3), (4, 3), (5, 3), (6, 3), (7, 3)], 8, 64, .agg [.int .i64 0, .int .i64 0, .int .i64 0, .int .i64 0, .int .i64 0, .int .i64 0, .int .i64 0, .int .i64 0]⟩),
  (63, ⟨.struct [(0, 3), (1, 3), (2, 3), (3, 3), (4, 3), (5, 3), (6, 3), (7, 3)], 8, 64, .agg [.int .i64 0, .int .i64 0, .int .i64 0, .int .i64 0, .int .i64 0, .int .i64 0, .int .i64 0, .int .i64 0]⟩),
  (64, ⟨.slice 119, 1, 24, .nsl 119⟩),
  (65, ⟨.slice 4, 1, 24, .nsl 4⟩),
  (66, ⟨.struct [(0, 63), (8, 64), (9, 3), (10, 3), (11, 3), (12, 65), (13, 22)], 14, 160, .agg [.int .i64 0, .int .i64 0, .int .i64 0, .int .i64 0, .int .i64 0, .int .i64 0, .int .i64 0, .int .i64 0, .nsl 119, .int .i64 0, .int .i64 0, .int .i64 0, .nsl 4, .nsl 5]⟩),
  (67, ⟨.struct [(0, 63), (8, 64), (9, 3), (10, 3), (11, 3), (12, 65), (13, 22)], 14, 160, .agg [.int .i64 0, .int .i64 0, .int .i64 0, .int .i64 0, .int .i64 0, .int .i64 0, .int .i64 0, .int .i64 0, .nsl 119, .int .i64 0, .int .i64 0, .int .i64 0, .nsl 4, .nsl 5]⟩),
  (69, ⟨.func, 1, 8, .und⟩),
  (71, ⟨.func, 1, 8, .und⟩),
  (72, ⟨.struct [(0, 22), (1, 3)], 2, 32, .agg [.nsl 5, .int .i64 0]⟩),
  (73, ⟨.struct [(0, 22), (1, 3)], 2, 32, .agg [.nsl 5, .int .i64 0]⟩),
  (74, ⟨.func, 1, 8, .und⟩),
  (76, ⟨.func, 1, 8, .und⟩),
  (77, ⟨.ptr 103, 1, 8, .npt⟩),
  (79, ⟨.func, 1, 8, .und⟩),
  (80, ⟨.func, 1, 8, .und⟩),
  (82, ⟨.func, 1, 8, .und⟩),
  (83, ⟨.func, 1, 8, .und⟩),
  (85, ⟨.func, 1, 8, .und⟩),
  (86, ⟨.func, 1, 8, .und⟩),
  (87, ⟨.func, 1, 8, .und⟩),
  (89, ⟨.func, 1, 8, .und⟩),
  (90, ⟨.func, 1, 8, .und⟩),
  (91, ⟨.func, 1, 8, .und⟩),
  (92, ⟨.func, 1, 8, .und⟩),
  (93, ⟨.func, 1, 8, .und⟩),
  (94, ⟨.func, 1, 8, .und⟩),
  (95, ⟨.map 135 119, 1, 8, .nmp⟩),
  (96, ⟨.slice 155, 1, 24, .nsl 155⟩),
  (97, ⟨.struct [(0, 96)], 1, 24, .agg [.nsl 155]⟩),
  (98, ⟨.struct [(0, 96)], 1, 24, .agg [.nsl 155]⟩),
  (99, ⟨.slice 185, 1, 24, .nsl 185⟩),
  (100, ⟨.struct [(0, 3), (1, 98), (2, 99)], 3, 56, .agg [.int .i64 0, .nsl 155, .nsl 185]⟩),
  (101, ⟨.struct [(0, 3), (1, 98), (2, 99)], 3, 56, .agg [.int .i64 0, .nsl 155, .nsl 185]⟩),
  (102, ⟨.struct [(0, 63), (8, 101), (11, 95), (12, 3), (13, 3), (14, 3), (15, 59), (16, 65), (17, 22)], 18, 224, .agg [.int .i64 0, .int .i64 0, .int .i64 0, .int .i64 0, .int .i64 0, .int .i64 0, .int .i64 0, .int .i64 0, .int .i64 0, .nsl 155, .nsl 185, .nmp, .int .i64 0, .int .i64 0, .int .i64 0, .nsl 3, .nsl 4, .nsl 5]⟩),
  (103, ⟨.struct [(0, 63), (8, 101), (11, 95), (12, 3), (13, 3), (14, 3), (15, 59), (16, 65), (17, 22)], 18, 224, .agg [.int .i64 0, .int .i64 0, .int .i64 0, .int .i64 0, .int .i64 0, .int .i64 0, .int .i64 0, .int .i64 0, .int .i64 0, .nsl 155, .nsl 185, .nmp, .int .i64 0, .int .i64 0, .int .i64 0, .nsl 3, .nsl 4, .nsl 5]⟩),
  (105, ⟨.func, 1, 8, .und⟩),
  (106, ⟨.func, 1, 8, .und⟩),
  (107, ⟨.func, 1, 8, .und⟩),
  (108, ⟨.func, 1, 8, .und⟩),
  (109, ⟨.func, 1, 8, .und⟩),
  (110, ⟨.func, 1, 8, .und⟩),
  (111, ⟨.func, 1, 8, .und⟩),
  (112, ⟨.func, 1, 8, .und⟩),
  (113, ⟨.ptr 43, 1, 8, .npt⟩),
  (115, ⟨.func, 1, 8, .und⟩),
  (116, ⟨.func, 1, 8, .und⟩),
  (117, ⟨.func, 1, 8, .und⟩),
  (118, ⟨.struct [(0, 3), (1, 3), (2, 3)], 3, 24, .agg [.int .i64 0, .int .i64 0, .int .i64 0]⟩),
  (119, ⟨.struct [(0, 3), (1, 3), (2, 3)], 3, 24, .agg [.int .i64 0, .int .i64 0, .int .i64 0]⟩),
  (121, ⟨.func, 1, 8, .und⟩),
  (123, ⟨.func, 1, 8, .und⟩),
  (125, ⟨.func, 1, 8, .und⟩),
  (126, ⟨.func, 1, 8, .und⟩),
  (127, ⟨.struct [(0, 3), (1, 3)], 2, 16, .agg [.int .i64 0, .int .i64 0]⟩),
  (128, ⟨.struct [(0, 3), (1, 3)], 2, 16, .agg [.int .i64 0, .int .i64 0]⟩),
  (129, ⟨.func, 1, 8, .und⟩),
  (130, ⟨.func, 1, 8, .und⟩),
  (131, ⟨.func, 1, 8, .und⟩),
  (132, ⟨.func, 1, 8, .und⟩),
  (134, ⟨.struct [(0, 3)], 1, 8, .agg [.int .i64 0]⟩),
  (135, ⟨.struct [(0, 3)], 1, 8, .agg [.int .i64 0]⟩),
  (136, ⟨.func, 1, 8, .und⟩),
  (137, ⟨.func, 1, 8, .und⟩),
  (138, ⟨.func, 1, 8, .und⟩),
  (139, ⟨.func, 1, 8, .und⟩),
  (140, ⟨.func, 1, 8, .und⟩),
  (141, ⟨.func, 1, 8, .und⟩),
  (142, ⟨.func, 1, 8, .und⟩),
  (143, ⟨.func, 1, 8, .und⟩),
  (144, ⟨.func, 1, 8, .und⟩),
  (145, ⟨.func, 1, 8, .und⟩),
  (147, ⟨.func, 1, 8, .und⟩),
  (149, ⟨.func, 1, 8, .und⟩),
  (150, ⟨.func, 1, 8, .und⟩),
  (151, ⟨.func, 1, 8, .und⟩),
  (152, ⟨.func, 1, 8, .und⟩),
  (153, ⟨.slice 172, 1, 24, .nsl 172⟩),
  (154, ⟨.struct [(0, 3), (1, 153)], 2, 32, .agg [.int .i64 0, .nsl 172]⟩),
  (155, ⟨.struct [(0, 3), (1, 153)], 2, 32, .agg [.int .i64 0, .nsl 172]⟩),
  (156, ⟨.func, 1, 8, .und⟩),
  (157, ⟨.func, 1, 8, .und⟩),
  (158, ⟨.func, 1, 8, .und⟩),
  (160, ⟨.func, 1, 8, .und⟩),
  (161, ⟨.func, 1, 8, .und⟩),
  (162, ⟨.func, 1, 8, .und⟩),
  (163, ⟨.func, 1, 8, .und⟩),
  (164, ⟨.func, 1, 8, .und⟩),
  (165, ⟨.func, 1, 8, .und⟩),
  (166, ⟨.func, 1, 8, .und⟩),
  (168, ⟨.func, 1, 8, .und⟩),
  (169, ⟨.func, 1, 8, .und⟩),
  (170, ⟨.func, 1, 8, .und⟩),
  (171, ⟨.int .u64, 1, 8, .int .u64 0⟩),
  (172, ⟨.slice 171, 1, 24, .nsl 171⟩),
  (173, ⟨.func, 1, 8, .und⟩),
  (174, ⟨.func, 1, 8, .und⟩),
  (176, ⟨.func, 1, 8, .und⟩),
  (177, ⟨.func, 1, 8, .und⟩),
  (178, ⟨.func, 1, 8, .und⟩),
  (179, ⟨.func, 1, 8, .und⟩),
  (180, ⟨.func, 1, 8, .und⟩),
  (181, ⟨.func, 1, 8, .und⟩),
  (182, ⟨.func, 1, 8, .und⟩),
  (183, ⟨.func, 1, 8, .und⟩),
  (184, ⟨.struct [(0, 3), (1, 3)], 2, 16, .agg [.int .i64 0, .int .i64 0]⟩),
  (185, ⟨.struct [(0, 3), (1, 3)], 2, 16, .agg [.int .i64 0, .int .i64 0]⟩),
  (186, ⟨.func, 1, 8, .und⟩),
  (187, ⟨.func, 1, 8, .und⟩),
  (188, ⟨.func, 1, 8, .und⟩),
  (189, ⟨.func, 1, 8, .und⟩),
  (190, ⟨.func, 1, 8, .und⟩),
  (191, ⟨.func, 1, 8, .und⟩),
  (192, ⟨.func, 1, 8, .und⟩),
  (193, ⟨.func, 1, 8, .und⟩),
  (194, ⟨.func, 1, 8, .und⟩),
  (195, ⟨.func, 1, 8, .und⟩),
  (196, ⟨.func, 1, 8, .und⟩),
  (197, ⟨.func, 1, 8, .und⟩),
  (198, ⟨.func, 1, 8, .und⟩),
  (199, ⟨.func, 1, 8, .und⟩),
  (200, ⟨.func, 1, 8, .und⟩),
  (201, ⟨.func, 1, 8, .und⟩),
  (202, ⟨.func, 1, 8, .und⟩),
  (203, ⟨.func, 1, 8, .und⟩),
  (204, ⟨.func, 1, 8, .und⟩),
  (205, ⟨.func, 1, 8, .und⟩),
  (206, ⟨.func, 1, 8, .und⟩),
  (207, ⟨.func, 1, 8, .und⟩),
  (208, ⟨.func, 1, 8, .und⟩),
  (209, ⟨.func, 1, 8, .und⟩),
  (215, ⟨.func, 1, 8, .und⟩),
  (216, ⟨.int .u32, 1, 4, .int .u32 0⟩),
  (217, ⟨.int .u8, 1, 1, .int .u8 0⟩),
  (218, ⟨.int .u8, 1, 1, .int .u8 0⟩),
  (219, ⟨.func, 1, 8, .und⟩),
  (220, ⟨.ptr 5, 1, 8, .npt⟩),
  (221, ⟨.int .i32, 1, 4, .int .i32 0⟩),
  (222, ⟨.int .i32, 1, 4, .int .i32 0⟩),
  (225, ⟨.func, 1, 8, .und⟩)]
noncomputable abbrev P : Program := Go.Proofs.Tryz.prog
def T : Tab := tabOf tab
theorem tabOk : TabOk P T := TabOk.of tab (by kernel_rfl)
theorem mixed : P.follows .mixedOrders = true := by kernel_rfl
end Go.Ev.N

