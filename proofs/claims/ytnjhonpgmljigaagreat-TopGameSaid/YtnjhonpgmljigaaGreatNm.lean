/- Numbers of this seat, by name. Printed by names.py. -/
import Derived.Test.YtnjhonpgmljigaaGreatChecked
import Derived.Test.YtnjhonpgmljigaaGreatEvOpen
import Derived.KernelRfl
set_option linter.unusedVariables false
set_option linter.unusedSimpArgs false
namespace Go.Ev.N
open Go.Ev
abbrev top_TopFigures : Nat := 3
noncomputable abbrev top_TopFigures_fn : Func := Go.Proofs.Tryz.f3
abbrev top_TopTightOn : Nat := 4
noncomputable abbrev top_TopTightOn_fn : Func := Go.Proofs.Tryz.f4
abbrev top_TopGame : Nat := 5
noncomputable abbrev top_TopGame_fn : Func := Go.Proofs.Tryz.f5
abbrev top_TopSame : Nat := 6
noncomputable abbrev top_TopSame_fn : Func := Go.Proofs.Tryz.f6
abbrev top_TopPlain : Nat := 7
noncomputable abbrev top_TopPlain_fn : Func := Go.Proofs.Tryz.f7
abbrev top_TopWhole : Nat := 8
noncomputable abbrev top_TopWhole_fn : Func := Go.Proofs.Tryz.f8
abbrev top_begun : Nat := 9
noncomputable abbrev top_begun_fn : Func := Go.Proofs.Tryz.f9
abbrev mk_Made : Nat := 10
noncomputable abbrev mk_Made_fn : Func := Go.Proofs.Tryz.f10
abbrev mk_Picks_Raw : Nat := 11
noncomputable abbrev mk_Picks_Raw_fn : Func := Go.Proofs.Tryz.f11
abbrev ref1_Of : Nat := 12
noncomputable abbrev ref1_Of_fn : Func := Go.Proofs.Tryz.f12
abbrev mk_Picks_Ops : Nat := 13
noncomputable abbrev mk_Picks_Ops_fn : Func := Go.Proofs.Tryz.f13
abbrev run_Heap : Nat := 14
noncomputable abbrev run_Heap_fn : Func := Go.Proofs.Tryz.f14
abbrev stats_Of : Nat := 15
noncomputable abbrev stats_Of_fn : Func := Go.Proofs.Tryz.f15
abbrev heap_New : Nat := 16
noncomputable abbrev heap_New_fn : Func := Go.Proofs.Tryz.f16
abbrev heap_Heap_Conf : Nat := 17
noncomputable abbrev heap_Heap_Conf_fn : Func := Go.Proofs.Tryz.f17
abbrev tight_Script : Nat := 18
noncomputable abbrev tight_Script_fn : Func := Go.Proofs.Tryz.f18
abbrev heap_Heap_Do : Nat := 19
noncomputable abbrev heap_Heap_Do_fn : Func := Go.Proofs.Tryz.f19
abbrev mk_Picks_Over : Nat := 20
noncomputable abbrev mk_Picks_Over_fn : Func := Go.Proofs.Tryz.f20
abbrev heap_Heap_Blocks : Nat := 21
noncomputable abbrev heap_Heap_Blocks_fn : Func := Go.Proofs.Tryz.f21
abbrev mk_Picks_Op : Nat := 22
noncomputable abbrev mk_Picks_Op_fn : Func := Go.Proofs.Tryz.f22
abbrev ceil_Within : Nat := 23
noncomputable abbrev ceil_Within_fn : Func := Go.Proofs.Tryz.f23
abbrev ref1_New : Nat := 24
noncomputable abbrev ref1_New_fn : Func := Go.Proofs.Tryz.f24
abbrev game_Begin : Nat := 25
noncomputable abbrev game_Begin_fn : Func := Go.Proofs.Tryz.f25
abbrev game_Asks : Nat := 26
noncomputable abbrev game_Asks_fn : Func := Go.Proofs.Tryz.f26
abbrev game_Told : Nat := 27
noncomputable abbrev game_Told_fn : Func := Go.Proofs.Tryz.f27
abbrev ref8_Cut : Nat := 28
noncomputable abbrev ref8_Cut_fn : Func := Go.Proofs.Tryz.f28
abbrev same_Same : Nat := 29
noncomputable abbrev same_Same_fn : Func := Go.Proofs.Tryz.f29
abbrev same_Plain : Nat := 30
noncomputable abbrev same_Plain_fn : Func := Go.Proofs.Tryz.f30
abbrev plain_New : Nat := 31
noncomputable abbrev plain_New_fn : Func := Go.Proofs.Tryz.f31
abbrev plain_Do : Nat := 32
noncomputable abbrev plain_Do_fn : Func := Go.Proofs.Tryz.f32
abbrev ref17_SameBlocks : Nat := 33
noncomputable abbrev ref17_SameBlocks_fn : Func := Go.Proofs.Tryz.f33
abbrev play_Encode : Nat := 34
noncomputable abbrev play_Encode_fn : Func := Go.Proofs.Tryz.f34
abbrev play_Decode : Nat := 35
noncomputable abbrev play_Decode_fn : Func := Go.Proofs.Tryz.f35
abbrev play_Run : Nat := 36
noncomputable abbrev play_Run_fn : Func := Go.Proofs.Tryz.f36
abbrev run_Plain : Nat := 37
noncomputable abbrev run_Plain_fn : Func := Go.Proofs.Tryz.f37
abbrev conf_Of : Nat := 38
noncomputable abbrev conf_Of_fn : Func := Go.Proofs.Tryz.f38
abbrev ref17_SameAns : Nat := 39
noncomputable abbrev ref17_SameAns_fn : Func := Go.Proofs.Tryz.f39
abbrev mk_Picks_Num : Nat := 40
noncomputable abbrev mk_Picks_Num_fn : Func := Go.Proofs.Tryz.f40
abbrev ref1_Up : Nat := 41
noncomputable abbrev ref1_Up_fn : Func := Go.Proofs.Tryz.f41
abbrev ref1_Round : Nat := 42
noncomputable abbrev ref1_Round_fn : Func := Go.Proofs.Tryz.f42
abbrev ref1_Log : Nat := 43
noncomputable abbrev ref1_Log_fn : Func := Go.Proofs.Tryz.f43
abbrev ref17_New : Nat := 44
noncomputable abbrev ref17_New_fn : Func := Go.Proofs.Tryz.f44
abbrev ref17_Do : Nat := 45
noncomputable abbrev ref17_Do_fn : Func := Go.Proofs.Tryz.f45
abbrev stats_sums_does : Nat := 46
noncomputable abbrev stats_sums_does_fn : Func := Go.Proofs.Tryz.f46
abbrev place_New : Nat := 47
noncomputable abbrev place_New_fn : Func := Go.Proofs.Tryz.f47
abbrev tight_all : Nat := 48
noncomputable abbrev tight_all_fn : Func := Go.Proofs.Tryz.f48
abbrev heap_Heap_aligned : Nat := 49
noncomputable abbrev heap_Heap_aligned_fn : Func := Go.Proofs.Tryz.f49
abbrev heap_Heap_calloc : Nat := 50
noncomputable abbrev heap_Heap_calloc_fn : Func := Go.Proofs.Tryz.f50
abbrev heap_Heap_block : Nat := 51
noncomputable abbrev heap_Heap_block_fn : Func := Go.Proofs.Tryz.f51
abbrev commit_Trim : Nat := 52
noncomputable abbrev commit_Trim_fn : Func := Go.Proofs.Tryz.f52
abbrev heap_Heap_pages : Nat := 53
noncomputable abbrev heap_Heap_pages_fn : Func := Go.Proofs.Tryz.f53
abbrev pin_Count : Nat := 54
noncomputable abbrev pin_Count_fn : Func := Go.Proofs.Tryz.f54
abbrev mk_Picks_Size : Nat := 55
noncomputable abbrev mk_Picks_Size_fn : Func := Go.Proofs.Tryz.f55
abbrev mk_Picks_Block : Nat := 56
noncomputable abbrev mk_Picks_Block_fn : Func := Go.Proofs.Tryz.f56
abbrev conf_Shift : Nat := 57
noncomputable abbrev conf_Shift_fn : Func := Go.Proofs.Tryz.f57
abbrev conf_Ceil : Nat := 58
noncomputable abbrev conf_Ceil_fn : Func := Go.Proofs.Tryz.f58
abbrev ref1_Charge : Nat := 59
noncomputable abbrev ref1_Charge_fn : Func := Go.Proofs.Tryz.f59
abbrev game_size : Nat := 60
noncomputable abbrev game_size_fn : Func := Go.Proofs.Tryz.f60
abbrev slices_Clone_api_Span_api_Span : Nat := 61
noncomputable abbrev slices_Clone_api_Span_api_Span_fn : Func := Go.Proofs.Tryz.f61
abbrev game_Told_1 : Nat := 62
noncomputable abbrev game_Told_1_fn : Func := Go.Proofs.Tryz.f62
abbrev slices_ContainsFunc_api_Span_api_Span : Nat := 63
noncomputable abbrev slices_ContainsFunc_api_Span_api_Span_fn : Func := Go.Proofs.Tryz.f63
abbrev slices_Insert_api_Span_api_Span : Nat := 64
noncomputable abbrev slices_Insert_api_Span_api_Span_fn : Func := Go.Proofs.Tryz.f64
abbrev game_live : Nat := 65
noncomputable abbrev game_live_fn : Func := Go.Proofs.Tryz.f65
abbrev game_next : Nat := 66
noncomputable abbrev game_next_fn : Func := Go.Proofs.Tryz.f66
abbrev slices_Equal_api_Ans_api_Ans : Nat := 67
noncomputable abbrev slices_Equal_api_Ans_api_Ans_fn : Func := Go.Proofs.Tryz.f67
abbrev same_reader_does : Nat := 68
noncomputable abbrev same_reader_does_fn : Func := Go.Proofs.Tryz.f68
abbrev plain_twin : Nat := 69
noncomputable abbrev plain_twin_fn : Func := Go.Proofs.Tryz.f69
abbrev plain_aligned : Nat := 70
noncomputable abbrev plain_aligned_fn : Func := Go.Proofs.Tryz.f70
abbrev plain_calloc : Nat := 71
noncomputable abbrev plain_calloc_fn : Func := Go.Proofs.Tryz.f71
abbrev plain_block : Nat := 72
noncomputable abbrev plain_block_fn : Func := Go.Proofs.Tryz.f72
abbrev plain_trim : Nat := 73
noncomputable abbrev plain_trim_fn : Func := Go.Proofs.Tryz.f73
abbrev wire_Put : Nat := 74
noncomputable abbrev wire_Put_fn : Func := Go.Proofs.Tryz.f74
abbrev wire_Take : Nat := 75
noncomputable abbrev wire_Take_fn : Func := Go.Proofs.Tryz.f75
abbrev conf_within : Nat := 76
noncomputable abbrev conf_within_fn : Func := Go.Proofs.Tryz.f76
abbrev calc_Up : Nat := 77
noncomputable abbrev calc_Up_fn : Func := Go.Proofs.Tryz.f77
abbrev calc_Round : Nat := 78
noncomputable abbrev calc_Round_fn : Func := Go.Proofs.Tryz.f78
abbrev calc_Log : Nat := 79
noncomputable abbrev calc_Log_fn : Func := Go.Proofs.Tryz.f79
abbrev ref1_Add : Nat := 80
noncomputable abbrev ref1_Add_fn : Func := Go.Proofs.Tryz.f80
abbrev ref17_give : Nat := 81
noncomputable abbrev ref17_give_fn : Func := Go.Proofs.Tryz.f81
abbrev ref8_Trim : Nat := 82
noncomputable abbrev ref8_Trim_fn : Func := Go.Proofs.Tryz.f82
abbrev ref8_Met : Nat := 83
noncomputable abbrev ref8_Met_fn : Func := Go.Proofs.Tryz.f83
abbrev ref8_Count : Nat := 84
noncomputable abbrev ref8_Count_fn : Func := Go.Proofs.Tryz.f84
abbrev ref17_Find : Nat := 85
noncomputable abbrev ref17_Find_fn : Func := Go.Proofs.Tryz.f85
abbrev ref17_wrong : Nat := 86
noncomputable abbrev ref17_wrong_fn : Func := Go.Proofs.Tryz.f86
abbrev ref17_of : Nat := 87
noncomputable abbrev ref17_of_fn : Func := Go.Proofs.Tryz.f87
abbrev class_Charge : Nat := 88
noncomputable abbrev class_Charge_fn : Func := Go.Proofs.Tryz.f88
abbrev stats_sums_puts : Nat := 89
noncomputable abbrev stats_sums_puts_fn : Func := Go.Proofs.Tryz.f89
abbrev class_Product : Nat := 90
noncomputable abbrev class_Product_fn : Func := Go.Proofs.Tryz.f90
abbrev stats_sums_goes : Nat := 91
noncomputable abbrev stats_sums_goes_fn : Func := Go.Proofs.Tryz.f91
abbrev slots_New : Nat := 92
noncomputable abbrev slots_New_fn : Func := Go.Proofs.Tryz.f92
abbrev tight_may : Nat := 93
noncomputable abbrev tight_may_fn : Func := Go.Proofs.Tryz.f93
abbrev tight_writer_frees : Nat := 94
noncomputable abbrev tight_writer_frees_fn : Func := Go.Proofs.Tryz.f94
abbrev tight_writer_fills : Nat := 95
noncomputable abbrev tight_writer_fills_fn : Func := Go.Proofs.Tryz.f95
abbrev admit_New : Nat := 96
noncomputable abbrev admit_New_fn : Func := Go.Proofs.Tryz.f96
abbrev heap_Heap_asks : Nat := 97
noncomputable abbrev heap_Heap_asks_fn : Func := Go.Proofs.Tryz.f97
abbrev admit_Many : Nat := 98
noncomputable abbrev admit_Many_fn : Func := Go.Proofs.Tryz.f98
abbrev heap_Heap_realloc : Nat := 99
noncomputable abbrev heap_Heap_realloc_fn : Func := Go.Proofs.Tryz.f99
abbrev heap_Heap_gone : Nat := 100
noncomputable abbrev heap_Heap_gone_fn : Func := Go.Proofs.Tryz.f100
abbrev slices_Clone_bool_bool : Nat := 101
noncomputable abbrev slices_Clone_bool_bool_fn : Func := Go.Proofs.Tryz.f101
abbrev ref1_Size : Nat := 102
noncomputable abbrev ref1_Size_fn : Func := Go.Proofs.Tryz.f102
abbrev slices_IndexFunc_api_Span_api_Span : Nat := 103
noncomputable abbrev slices_IndexFunc_api_Span_api_Span_fn : Func := Go.Proofs.Tryz.f103
abbrev slices_overlaps_api_Span : Nat := 104
noncomputable abbrev slices_overlaps_api_Span_fn : Func := Go.Proofs.Tryz.f104
abbrev slices_rotateRight_api_Span : Nat := 105
noncomputable abbrev slices_rotateRight_api_Span_fn : Func := Go.Proofs.Tryz.f105
abbrev game_kept : Nat := 106
noncomputable abbrev game_kept_fn : Func := Go.Proofs.Tryz.f106
abbrev same_reader_charge : Nat := 107
noncomputable abbrev same_reader_charge_fn : Func := Go.Proofs.Tryz.f107
abbrev same_moved : Nat := 108
noncomputable abbrev same_moved_fn : Func := Go.Proofs.Tryz.f108
abbrev same_reader_knows : Nat := 109
noncomputable abbrev same_reader_knows_fn : Func := Go.Proofs.Tryz.f109
abbrev slices_Clone_api_Block_api_Block : Nat := 110
noncomputable abbrev slices_Clone_api_Block_api_Block_fn : Func := Go.Proofs.Tryz.f110
abbrev slices_Clone_byte_byte : Nat := 111
noncomputable abbrev slices_Clone_byte_byte_fn : Func := Go.Proofs.Tryz.f111
abbrev plain_puts : Nat := 112
noncomputable abbrev plain_puts_fn : Func := Go.Proofs.Tryz.f112
abbrev mem_Zero : Nat := 113
noncomputable abbrev mem_Zero_fn : Func := Go.Proofs.Tryz.f113
abbrev plain_find : Nat := 114
noncomputable abbrev plain_find_fn : Func := Go.Proofs.Tryz.f114
abbrev plain_realloc : Nat := 115
noncomputable abbrev plain_realloc_fn : Func := Go.Proofs.Tryz.f115
abbrev plain_goes : Nat := 116
noncomputable abbrev plain_goes_fn : Func := Go.Proofs.Tryz.f116
abbrev plain_bytes : Nat := 117
noncomputable abbrev plain_bytes_fn : Func := Go.Proofs.Tryz.f117
abbrev pin_Met : Nat := 118
noncomputable abbrev pin_Met_fn : Func := Go.Proofs.Tryz.f118
abbrev wire_put : Nat := 119
noncomputable abbrev wire_put_fn : Func := Go.Proofs.Tryz.f119
abbrev wire_one : Nat := 120
noncomputable abbrev wire_one_fn : Func := Go.Proofs.Tryz.f120
abbrev calc_Add : Nat := 121
noncomputable abbrev calc_Add_fn : Func := Go.Proofs.Tryz.f121
abbrev ref1_Many : Nat := 122
noncomputable abbrev ref1_Many_fn : Func := Go.Proofs.Tryz.f122
abbrev ref17_place : Nat := 123
noncomputable abbrev ref17_place_fn : Func := Go.Proofs.Tryz.f123
abbrev ref8_Zero : Nat := 124
noncomputable abbrev ref8_Zero_fn : Func := Go.Proofs.Tryz.f124
abbrev ref8_Over : Nat := 125
noncomputable abbrev ref8_Over_fn : Func := Go.Proofs.Tryz.f125
abbrev ref1_Anew : Nat := 126
noncomputable abbrev ref1_Anew_fn : Func := Go.Proofs.Tryz.f126
abbrev calc_Mul : Nat := 127
noncomputable abbrev calc_Mul_fn : Func := Go.Proofs.Tryz.f127
abbrev tree_New : Nat := 128
noncomputable abbrev tree_New_fn : Func := Go.Proofs.Tryz.f128
abbrev heap_Heap_puts : Nat := 129
noncomputable abbrev heap_Heap_puts_fn : Func := Go.Proofs.Tryz.f129
abbrev admit_Anew : Nat := 130
noncomputable abbrev admit_Anew_fn : Func := Go.Proofs.Tryz.f130
abbrev heap_Heap_back : Nat := 131
noncomputable abbrev heap_Heap_back_fn : Func := Go.Proofs.Tryz.f131
abbrev place_Release : Nat := 132
noncomputable abbrev place_Release_fn : Func := Go.Proofs.Tryz.f132
abbrev heap_Heap_meets : Nat := 133
noncomputable abbrev heap_Heap_meets_fn : Func := Go.Proofs.Tryz.f133
abbrev slices_rotateLeft_api_Span : Nat := 134
noncomputable abbrev slices_rotateLeft_api_Span_fn : Func := Go.Proofs.Tryz.f134
abbrev game_covers : Nat := 135
noncomputable abbrev game_covers_fn : Func := Go.Proofs.Tryz.f135
abbrev slices_Contains_int_int : Nat := 136
noncomputable abbrev slices_Contains_int_int_fn : Func := Go.Proofs.Tryz.f136
abbrev plain_lowest : Nat := 137
noncomputable abbrev plain_lowest_fn : Func := Go.Proofs.Tryz.f137
abbrev pin_Pages : Nat := 138
noncomputable abbrev pin_Pages_fn : Func := Go.Proofs.Tryz.f138
abbrev commit_Commit : Nat := 139
noncomputable abbrev commit_Commit_fn : Func := Go.Proofs.Tryz.f139
abbrev junk_Fill : Nat := 140
noncomputable abbrev junk_Fill_fn : Func := Go.Proofs.Tryz.f140
abbrev slices_Insert_api_Block_api_Block : Nat := 141
noncomputable abbrev slices_Insert_api_Block_api_Block_fn : Func := Go.Proofs.Tryz.f141
abbrev mem_within : Nat := 142
noncomputable abbrev mem_within_fn : Func := Go.Proofs.Tryz.f142
abbrev slices_IndexFunc_api_Block_api_Block : Nat := 143
noncomputable abbrev slices_IndexFunc_api_Block_api_Block_fn : Func := Go.Proofs.Tryz.f143
abbrev plain_find_1 : Nat := 144
noncomputable abbrev plain_find_1_fn : Func := Go.Proofs.Tryz.f144
abbrev slices_Delete_api_Block_api_Block : Nat := 145
noncomputable abbrev slices_Delete_api_Block_api_Block_fn : Func := Go.Proofs.Tryz.f145
abbrev mem_Get : Nat := 146
noncomputable abbrev mem_Get_fn : Func := Go.Proofs.Tryz.f146
abbrev mem_Put : Nat := 147
noncomputable abbrev mem_Put_fn : Func := Go.Proofs.Tryz.f147
abbrev wire_fields : Nat := 148
noncomputable abbrev wire_fields_fn : Func := Go.Proofs.Tryz.f148
abbrev wire_field : Nat := 149
noncomputable abbrev wire_field_fn : Func := Go.Proofs.Tryz.f149
abbrev ref1_Product : Nat := 150
noncomputable abbrev ref1_Product_fn : Func := Go.Proofs.Tryz.f150
abbrev ref17_Lowest : Nat := 151
noncomputable abbrev ref17_Lowest_fn : Func := Go.Proofs.Tryz.f151
abbrev ref8_Pages : Nat := 152
noncomputable abbrev ref8_Pages_fn : Func := Go.Proofs.Tryz.f152
abbrev ref8_Commit : Nat := 153
noncomputable abbrev ref8_Commit_fn : Func := Go.Proofs.Tryz.f153
abbrev ref8_Fill : Nat := 154
noncomputable abbrev ref8_Fill_fn : Func := Go.Proofs.Tryz.f154
abbrev ref17_put : Nat := 155
noncomputable abbrev ref17_put_fn : Func := Go.Proofs.Tryz.f155
abbrev ref8_there : Nat := 156
noncomputable abbrev ref8_there_fn : Func := Go.Proofs.Tryz.f156
abbrev tree_level : Nat := 157
noncomputable abbrev tree_level_fn : Func := Go.Proofs.Tryz.f157
abbrev class_Class : Nat := 158
noncomputable abbrev class_Class_fn : Func := Go.Proofs.Tryz.f158
abbrev place_Place : Nat := 159
noncomputable abbrev place_Place_fn : Func := Go.Proofs.Tryz.f159
abbrev junk_Byte : Nat := 160
noncomputable abbrev junk_Byte_fn : Func := Go.Proofs.Tryz.f160
abbrev side_Take : Nat := 161
noncomputable abbrev side_Take_fn : Func := Go.Proofs.Tryz.f161
abbrev place_twin : Nat := 162
noncomputable abbrev place_twin_fn : Func := Go.Proofs.Tryz.f162
abbrev slots_Use : Nat := 163
noncomputable abbrev slots_Use_fn : Func := Go.Proofs.Tryz.f163
abbrev slices_Reverse_api_Span_api_Span : Nat := 164
noncomputable abbrev slices_Reverse_api_Span_api_Span_fn : Func := Go.Proofs.Tryz.f164
abbrev slices_Index_int_int : Nat := 165
noncomputable abbrev slices_Index_int_int_fn : Func := Go.Proofs.Tryz.f165
abbrev slices_overlaps_api_Block : Nat := 166
noncomputable abbrev slices_overlaps_api_Block_fn : Func := Go.Proofs.Tryz.f166
abbrev slices_rotateRight_api_Block : Nat := 167
noncomputable abbrev slices_rotateRight_api_Block_fn : Func := Go.Proofs.Tryz.f167
abbrev ref1_Mul : Nat := 168
noncomputable abbrev ref1_Mul_fn : Func := Go.Proofs.Tryz.f168
abbrev ref8_Byte : Nat := 169
noncomputable abbrev ref8_Byte_fn : Func := Go.Proofs.Tryz.f169
abbrev word_Mask : Nat := 170
noncomputable abbrev word_Mask_fn : Func := Go.Proofs.Tryz.f170
abbrev slots_Lowest : Nat := 171
noncomputable abbrev slots_Lowest_fn : Func := Go.Proofs.Tryz.f171
abbrev side_Put : Nat := 172
noncomputable abbrev side_Put_fn : Func := Go.Proofs.Tryz.f172
abbrev slices_Clone_api_Mark_api_Mark : Nat := 173
noncomputable abbrev slices_Clone_api_Mark_api_Mark_fn : Func := Go.Proofs.Tryz.f173
abbrev side_find : Nat := 174
noncomputable abbrev side_find_fn : Func := Go.Proofs.Tryz.f174
abbrev slices_Delete_api_Mark_api_Mark : Nat := 175
noncomputable abbrev slices_Delete_api_Mark_api_Mark_fn : Func := Go.Proofs.Tryz.f175
abbrev slots_twin : Nat := 176
noncomputable abbrev slots_twin_fn : Func := Go.Proofs.Tryz.f176
abbrev tree_Set : Nat := 177
noncomputable abbrev tree_Set_fn : Func := Go.Proofs.Tryz.f177
abbrev slots_taken : Nat := 178
noncomputable abbrev slots_taken_fn : Func := Go.Proofs.Tryz.f178
abbrev slices_rotateLeft_api_Block : Nat := 179
noncomputable abbrev slices_rotateLeft_api_Block_fn : Func := Go.Proofs.Tryz.f179
abbrev tree_FirstZero : Nat := 180
noncomputable abbrev tree_FirstZero_fn : Func := Go.Proofs.Tryz.f180
abbrev slices_Insert_api_Mark_api_Mark : Nat := 181
noncomputable abbrev slices_Insert_api_Mark_api_Mark_fn : Func := Go.Proofs.Tryz.f181
abbrev slices_BinarySearchFunc_api_Mark_api_Mark_int : Nat := 182
noncomputable abbrev slices_BinarySearchFunc_api_Mark_api_Mark_int_fn : Func := Go.Proofs.Tryz.f182
abbrev side_find_1 : Nat := 183
noncomputable abbrev side_find_1_fn : Func := Go.Proofs.Tryz.f183
abbrev cmp_Compare_int : Nat := 184
noncomputable abbrev cmp_Compare_int_fn : Func := Go.Proofs.Tryz.f184
abbrev tree_twin : Nat := 185
noncomputable abbrev tree_twin_fn : Func := Go.Proofs.Tryz.f185
abbrev tree_at : Nat := 186
noncomputable abbrev tree_at_fn : Func := Go.Proofs.Tryz.f186
abbrev tree_put : Nat := 187
noncomputable abbrev tree_put_fn : Func := Go.Proofs.Tryz.f187
abbrev tree_sums : Nat := 188
noncomputable abbrev tree_sums_fn : Func := Go.Proofs.Tryz.f188
abbrev tree_Has : Nat := 189
noncomputable abbrev tree_Has_fn : Func := Go.Proofs.Tryz.f189
abbrev slices_Reverse_api_Block_api_Block : Nat := 190
noncomputable abbrev slices_Reverse_api_Block_api_Block_fn : Func := Go.Proofs.Tryz.f190
abbrev word_LowZero : Nat := 191
noncomputable abbrev word_LowZero_fn : Func := Go.Proofs.Tryz.f191
abbrev slices_overlaps_api_Mark : Nat := 192
noncomputable abbrev slices_overlaps_api_Mark_fn : Func := Go.Proofs.Tryz.f192
abbrev slices_rotateRight_api_Mark : Nat := 193
noncomputable abbrev slices_rotateRight_api_Mark_fn : Func := Go.Proofs.Tryz.f193
abbrev cmp_isNaN_int : Nat := 194
noncomputable abbrev cmp_isNaN_int_fn : Func := Go.Proofs.Tryz.f194
abbrev slices_Clone_uint64_uint64 : Nat := 195
noncomputable abbrev slices_Clone_uint64_uint64_fn : Func := Go.Proofs.Tryz.f195
abbrev slices_Clone_uint64_uint64_b : Nat := 196
noncomputable abbrev slices_Clone_uint64_uint64_b_fn : Func := Go.Proofs.Tryz.f196
abbrev word_LowOne : Nat := 197
noncomputable abbrev word_LowOne_fn : Func := Go.Proofs.Tryz.f197
abbrev slices_rotateLeft_api_Mark : Nat := 198
noncomputable abbrev slices_rotateLeft_api_Mark_fn : Func := Go.Proofs.Tryz.f198
abbrev slices_Reverse_api_Mark_api_Mark : Nat := 199
noncomputable abbrev slices_Reverse_api_Mark_api_Mark_fn : Func := Go.Proofs.Tryz.f199
abbrev t_int64 : Nat := 2
abbrev t_int : Nat := 3
abbrev t_bool : Nat := 4
abbrev t_uint8 : Nat := 5
abbrev t_internal_abi_BoundsErrorCode : Nat := 6
abbrev t_runtime_boundsError : Nat := 8
abbrev t_string : Nat := 9
abbrev t_runtime_errorString : Nat := 10
abbrev t_runtime_plainError : Nat := 11
abbrev t_runtime_errorAddressString : Nat := 14
abbrev tp_runtime_TypeAssertionError : Nat := 15
abbrev tp_runtime_PanicNilError : Nat := 16
abbrev tp_abi_Type : Nat := 17
abbrev t_internal_runtime_maps_unhashableTypeError : Nat := 19
abbrev ts_uint8 : Nat := 22
abbrev t_api_Raw : Nat := 25
abbrev tp_mk_Picks : Nat := 26
abbrev t_api_Conf : Nat := 30
abbrev t_api_Errno : Nat := 31
abbrev ts_api_Op : Nat := 34
abbrev t_api_Op : Nat := 37
abbrev ts_api_Ans : Nat := 38
abbrev t_api_Ans : Nat := 44
abbrev tp_heap_Heap : Nat := 46
abbrev ts_api_Block : Nat := 52
abbrev t_api_Block : Nat := 55
abbrev ts_api_Span : Nat := 60
abbrev t_api_Round : Nat := 62
abbrev t_api_Span : Nat := 68
abbrev ts_bool : Nat := 75
abbrev t_api_Model : Nat := 77
abbrev t_mk_Picks : Nat := 89
abbrev ts_int : Nat := 91
abbrev tp_stats_sums : Nat := 94
abbrev tm_map_stats_start_int : Nat := 95
abbrev t_stats_sums : Nat := 97
abbrev tm_map_heap_start_api_Block : Nat := 99
abbrev ts_api_Tree : Nat := 100
abbrev t_api_Slots : Nat := 102
abbrev ts_api_Mark : Nat := 103
abbrev t_api_Engine : Nat := 105
abbrev t_heap_Heap : Nat := 107
abbrev t_tight_writer : Nat := 111
abbrev tp_tight_writer : Nat := 112
abbrev t_api_Mark : Nat := 120
abbrev t_heap_start : Nat := 122
abbrev tp_same_reader : Nat := 134
abbrev tm_map_same_cell_same_block : Nat := 135
abbrev t_same_reader : Nat := 137
abbrev t_uint : Nat := 142
abbrev tp_int : Nat := 144
abbrev ts_int_145 : Nat := 145
abbrev t_same_cell : Nat := 168
abbrev tp_same_block : Nat := 169
abbrev t_same_block : Nat := 172
abbrev t_stats_start : Nat := 191
abbrev tss_uint64 : Nat := 192
abbrev t_api_Tree : Nat := 194
abbrev tm_map_tight_slot_bool : Nat := 196
abbrev t_tight_slot : Nat := 198
abbrev tp_api_Op : Nat := 222
abbrev t_uint64 : Nat := 223
abbrev ts_uint64 : Nat := 226
abbrev t_runtime_TypeAssertionError : Nat := 263
abbrev tx_a0_p_runtime_PanicNilError : Nat := 264
abbrev t_runtime_PanicNilError : Nat := 266
abbrev t_internal_abi_TFlag : Nat := 269
abbrev t_internal_abi_Kind : Nat := 270
abbrev tp_uint8 : Nat := 272
abbrev t_internal_abi_NameOff : Nat := 273
abbrev t_internal_abi_TypeOff : Nat := 274
abbrev t_internal_abi_Type : Nat := 276
def tab : List (Nat × TI) := [
  (1, ⟨.func, 1, 8, .und⟩),
  (2, ⟨.int .i64, 1, 8, .int .i64 0⟩),
  (3, ⟨.int .i64, 1, 8, .int .i64 0⟩),
  (4, ⟨.bool, 1, 1, .bool false⟩),
  (5, ⟨.int .u8, 1, 1, .int .u8 0⟩),
  (6, ⟨.int .u8, 1, 1, .int .u8 0⟩),
  (9, ⟨.str, 1, 16, .str .empty⟩),
  (10, ⟨.str, 1, 16, .str .empty⟩),
  (11, ⟨.str, 1, 16, .str .empty⟩),
  (12, ⟨.int .u64, 1, 8, .int .u64 0⟩),
  (15, ⟨.ptr 263, 1, 8, .npt⟩),
  (16, ⟨.ptr 266, 1, 8, .npt⟩),
  (17, ⟨.ptr 276, 1, 8, .npt⟩),
  (21, ⟨.int .i32, 1, 4, .int .i32 0⟩),
  (22, ⟨.slice 5, 1, 24, .nsl 5⟩),
  (23, ⟨.func, 1, 8, .und⟩),
  (24, ⟨.struct [(0, 3), (1, 3), (2, 3), (3, 3), (4, 3), (5, 3)], 6, 48, .agg [.int .i64 0, .int .i64 0, .int .i64 0, .int .i64 0, .int .i64 0, .int .i64 0]⟩),
  (25, ⟨.struct [(0, 3), (1, 3), (2, 3), (3, 3), (4, 3), (5, 3)], 6, 48, .agg [.int .i64 0, .int .i64 0, .int .i64 0, .int .i64 0, .int .i64 0, .int .i64 0]⟩),
  (26, ⟨.ptr 89, 1, 8, .npt⟩),
  (27, ⟨.func, 1, 8, .und⟩),
  (28, ⟨.func, 1, 8, .und⟩),
  (29, ⟨.struct [(0, 3), (1, 3), (2, 3), (3, 3), (4, 3), (5, 3), (6, 3), (7, 3)], 8, 64, .agg [.int .i64 0, .int .i64 0, .int .i64 0, .int .i64 0, .int .i64 0, .int .i64 0, .int .i64 0, .int .i64 0]⟩),
  (30, ⟨.struct [(0, 3), (1, 3), (2, 3), (3, 3), (4, 3), (5, 3), (6, 3), (7, 3)], 8, 64, .agg [.int .i64 0, .int .i64 0, .int .i64 0, .int .i64 0, .int .i64 0, .int .i64 0, .int .i64 0, .int .i64 0]⟩),
  (31, ⟨.int .i64, 1, 8, .int .i64 0⟩),
  (33, ⟨.func, 1, 8, .und⟩),
  (34, ⟨.slice 37, 1, 24, .nsl 37⟩),
  (35, ⟨.func, 1, 8, .und⟩),
  (36, ⟨.struct [(0, 3), (1, 3), (2, 3), (3, 3), (4, 3), (5, 5)], 6, 48, .agg [.int .i64 0, .int .i64 0, .int .i64 0, .int .i64 0, .int .i64 0, .int .u8 0]⟩),
  (37, ⟨.struct [(0, 3), (1, 3), (2, 3), (3, 3), (4, 3), (5, 5)], 6, 48, .agg [.int .i64 0, .int .i64 0, .int .i64 0, .int .i64 0, .int .i64 0, .int .u8 0]⟩),
  (38, ⟨.slice 44, 1, 24, .nsl 44⟩),
  (40, ⟨.func, 1, 8, .und⟩),
  (42, ⟨.func, 1, 8, .und⟩),
  (43, ⟨.struct [(0, 31), (1, 3), (2, 3), (3, 5), (4, 3), (5, 3), (6, 3), (7, 3)], 8, 64, .agg [.int .i64 0, .int .i64 0, .int .i64 0, .int .u8 0, .int .i64 0, .int .i64 0, .int .i64 0, .int .i64 0]⟩),
  (44, ⟨.struct [(0, 31), (1, 3), (2, 3), (3, 5), (4, 3), (5, 3), (6, 3), (7, 3)], 8, 64, .agg [.int .i64 0, .int .i64 0, .int .i64 0, .int .u8 0, .int .i64 0, .int .i64 0, .int .i64 0, .int .i64 0]⟩),
  (45, ⟨.func, 1, 8, .und⟩),
  (46, ⟨.ptr 107, 1, 8, .npt⟩),
  (48, ⟨.func, 1, 8, .und⟩),
  (49, ⟨.func, 1, 8, .und⟩),
  (50, ⟨.func, 1, 8, .und⟩),
  (51, ⟨.func, 1, 8, .und⟩),
  (52, ⟨.slice 55, 1, 24, .nsl 55⟩),
  (53, ⟨.func, 1, 8, .und⟩),
  (54, ⟨.struct [(0, 3), (1, 3), (2, 3)], 3, 24, .agg [.int .i64 0, .int .i64 0, .int .i64 0]⟩),
  (55, ⟨.struct [(0, 3), (1, 3), (2, 3)], 3, 24, .agg [.int .i64 0, .int .i64 0, .int .i64 0]⟩),
  (56, ⟨.func, 1, 8, .und⟩),
  (57, ⟨.func, 1, 8, .und⟩),
  (59, ⟨.func, 1, 8, .und⟩),
  (60, ⟨.slice 68, 1, 24, .nsl 68⟩),
  (61, ⟨.struct [(0, 3), (1, 3), (2, 60), (3, 3), (4, 3), (5, 3)], 6, 64, .agg [.int .i64 0, .int .i64 0, .nsl 68, .int .i64 0, .int .i64 0, .int .i64 0]⟩),
  (62, ⟨.struct [(0, 3), (1, 3), (2, 60), (3, 3), (4, 3), (5, 3)], 6, 64, .agg [.int .i64 0, .int .i64 0, .nsl 68, .int .i64 0, .int .i64 0, .int .i64 0]⟩),
  (63, ⟨.func, 1, 8, .und⟩),
  (65, ⟨.func, 1, 8, .und⟩),
  (66, ⟨.func, 1, 8, .und⟩),
  (67, ⟨.struct [(0, 3), (1, 3)], 2, 16, .agg [.int .i64 0, .int .i64 0]⟩),
  (68, ⟨.struct [(0, 3), (1, 3)], 2, 16, .agg [.int .i64 0, .int .i64 0]⟩),
  (70, ⟨.func, 1, 8, .und⟩),
  (71, ⟨.func, 1, 8, .und⟩),
  (72, ⟨.func, 1, 8, .und⟩),
  (73, ⟨.func, 1, 8, .und⟩),
  (74, ⟨.func, 1, 8, .und⟩),
  (75, ⟨.slice 4, 1, 24, .nsl 4⟩),
  (76, ⟨.struct [(0, 30), (8, 52), (9, 3), (10, 3), (11, 3), (12, 75), (13, 22)], 14, 160, .agg [.int .i64 0, .int .i64 0, .int .i64 0, .int .i64 0, .int .i64 0, .int .i64 0, .int .i64 0, .int .i64 0, .nsl 55, .int .i64 0, .int .i64 0, .int .i64 0, .nsl 4, .nsl 5]⟩),
  (77, ⟨.struct [(0, 30), (8, 52), (9, 3), (10, 3), (11, 3), (12, 75), (13, 22)], 14, 160, .agg [.int .i64 0, .int .i64 0, .int .i64 0, .int .i64 0, .int .i64 0, .int .i64 0, .int .i64 0, .int .i64 0, .nsl 55, .int .i64 0, .int .i64 0, .int .i64 0, .nsl 4, .nsl 5]⟩),
  (79, ⟨.func, 1, 8, .und⟩),
  (81, ⟨.func, 1, 8, .und⟩),
  (82, ⟨.func, 1, 8, .und⟩),
  (83, ⟨.func, 1, 8, .und⟩),
  (84, ⟨.func, 1, 8, .und⟩),
  (86, ⟨.func, 1, 8, .und⟩),
  (87, ⟨.func, 1, 8, .und⟩),
  (88, ⟨.struct [(0, 22), (1, 3)], 2, 32, .agg [.nsl 5, .int .i64 0]⟩),
  (89, ⟨.struct [(0, 22), (1, 3)], 2, 32, .agg [.nsl 5, .int .i64 0]⟩),
  (90, ⟨.func, 1, 8, .und⟩),
  (91, ⟨.slice 3, 1, 24, .nsl 3⟩),
  (92, ⟨.func, 1, 8, .und⟩),
  (93, ⟨.func, 1, 8, .und⟩),
  (94, ⟨.ptr 97, 1, 8, .npt⟩),
  (95, ⟨.map 191 3, 1, 8, .nmp⟩),
  (96, ⟨.struct [(0, 30), (8, 95), (9, 60), (10, 3), (11, 3), (12, 3)], 13, 120, .agg [.int .i64 0, .int .i64 0, .int .i64 0, .int .i64 0, .int .i64 0, .int .i64 0, .int .i64 0, .int .i64 0, .nmp, .nsl 68, .int .i64 0, .int .i64 0, .int .i64 0]⟩),
  (97, ⟨.struct [(0, 30), (8, 95), (9, 60), (10, 3), (11, 3), (12, 3)], 13, 120, .agg [.int .i64 0, .int .i64 0, .int .i64 0, .int .i64 0, .int .i64 0, .int .i64 0, .int .i64 0, .int .i64 0, .nmp, .nsl 68, .int .i64 0, .int .i64 0, .int .i64 0]⟩),
  (98, ⟨.func, 1, 8, .und⟩),
  (99, ⟨.map 122 55, 1, 8, .nmp⟩),
  (100, ⟨.slice 194, 1, 24, .nsl 194⟩),
  (101, ⟨.struct [(0, 100)], 1, 24, .agg [.nsl 194]⟩),
  (102, ⟨.struct [(0, 100)], 1, 24, .agg [.nsl 194]⟩),
  (103, ⟨.slice 120, 1, 24, .nsl 120⟩),
  (104, ⟨.struct [(0, 3), (1, 102), (2, 103)], 3, 56, .agg [.int .i64 0, .nsl 194, .nsl 120]⟩),
  (105, ⟨.struct [(0, 3), (1, 102), (2, 103)], 3, 56, .agg [.int .i64 0, .nsl 194, .nsl 120]⟩),
  (106, ⟨.struct [(0, 30), (8, 105), (11, 99), (12, 3), (13, 3), (14, 3), (15, 91), (16, 75), (17, 22)], 18, 224, .agg [.int .i64 0, .int .i64 0, .int .i64 0, .int .i64 0, .int .i64 0, .int .i64 0, .int .i64 0, .int .i64 0, .int .i64 0, .nsl 194, .nsl 120, .nmp, .int .i64 0, .int .i64 0, .int .i64 0, .nsl 3, .nsl 4, .nsl 5]⟩),
  (107, ⟨.struct [(0, 30), (8, 105), (11, 99), (12, 3), (13, 3), (14, 3), (15, 91), (16, 75), (17, 22)], 18, 224, .agg [.int .i64 0, .int .i64 0, .int .i64 0, .int .i64 0, .int .i64 0, .int .i64 0, .int .i64 0, .int .i64 0, .int .i64 0, .nsl 194, .nsl 120, .nmp, .int .i64 0, .int .i64 0, .int .i64 0, .nsl 3, .nsl 4, .nsl 5]⟩),
  (109, ⟨.func, 1, 8, .und⟩),
  (110, ⟨.struct [(0, 30), (8, 34), (9, 60), (10, 3), (11, 91)], 12, 144, .agg [.int .i64 0, .int .i64 0, .int .i64 0, .int .i64 0, .int .i64 0, .int .i64 0, .int .i64 0, .int .i64 0, .nsl 37, .nsl 68, .int .i64 0, .nsl 3]⟩),
  (111, ⟨.struct [(0, 30), (8, 34), (9, 60), (10, 3), (11, 91)], 12, 144, .agg [.int .i64 0, .int .i64 0, .int .i64 0, .int .i64 0, .int .i64 0, .int .i64 0, .int .i64 0, .int .i64 0, .nsl 37, .nsl 68, .int .i64 0, .nsl 3]⟩),
  (112, ⟨.ptr 111, 1, 8, .npt⟩),
  (113, ⟨.func, 1, 8, .und⟩),
  (114, ⟨.func, 1, 8, .und⟩),
  (116, ⟨.func, 1, 8, .und⟩),
  (117, ⟨.func, 1, 8, .und⟩),
  (118, ⟨.func, 1, 8, .und⟩),
  (119, ⟨.struct [(0, 3), (1, 3)], 2, 16, .agg [.int .i64 0, .int .i64 0]⟩),
  (120, ⟨.struct [(0, 3), (1, 3)], 2, 16, .agg [.int .i64 0, .int .i64 0]⟩),
  (121, ⟨.struct [(0, 3)], 1, 8, .agg [.int .i64 0]⟩),
  (122, ⟨.struct [(0, 3)], 1, 8, .agg [.int .i64 0]⟩),
  (123, ⟨.func, 1, 8, .und⟩),
  (124, ⟨.func, 1, 8, .und⟩),
  (125, ⟨.func, 1, 8, .und⟩),
  (126, ⟨.func, 1, 8, .und⟩),
  (127, ⟨.func, 1, 8, .und⟩),
  (128, ⟨.func, 1, 8, .und⟩),
  (129, ⟨.func, 1, 8, .und⟩),
  (130, ⟨.func, 1, 8, .und⟩),
  (131, ⟨.func, 1, 8, .und⟩),
  (132, ⟨.func, 1, 8, .und⟩),
  (133, ⟨.func, 1, 8, .und⟩),
  (134, ⟨.ptr 137, 1, 8, .npt⟩),
  (135, ⟨.map 168 169, 1, 8, .nmp⟩),
  (136, ⟨.struct [(0, 30), (8, 135)], 9, 72, .agg [.int .i64 0, .int .i64 0, .int .i64 0, .int .i64 0, .int .i64 0, .int .i64 0, .int .i64 0, .int .i64 0, .nmp]⟩),
  (137, ⟨.struct [(0, 30), (8, 135)], 9, 72, .agg [.int .i64 0, .int .i64 0, .int .i64 0, .int .i64 0, .int .i64 0, .int .i64 0, .int .i64 0, .int .i64 0, .nmp]⟩),
  (138, ⟨.func, 1, 8, .und⟩),
  (139, ⟨.func, 1, 8, .und⟩),
  (140, ⟨.func, 1, 8, .und⟩),
  (141, ⟨.func, 1, 8, .und⟩),
  (142, ⟨.int .u64, 1, 8, .int .u64 0⟩),
  (143, ⟨.func, 1, 8, .und⟩),
  (144, ⟨.ptr 3, 1, 8, .npt⟩),
  (145, ⟨.slice 144, 1, 24, .nsl 144⟩),
  (146, ⟨.func, 1, 8, .und⟩),
  (147, ⟨.func, 1, 8, .und⟩),
  (148, ⟨.func, 1, 8, .und⟩),
  (149, ⟨.func, 1, 8, .und⟩),
  (150, ⟨.func, 1, 8, .und⟩),
  (151, ⟨.func, 1, 8, .und⟩),
  (152, ⟨.func, 1, 8, .und⟩),
  (153, ⟨.func, 1, 8, .und⟩),
  (154, ⟨.func, 1, 8, .und⟩),
  (155, ⟨.func, 1, 8, .und⟩),
  (156, ⟨.func, 1, 8, .und⟩),
  (157, ⟨.func, 1, 8, .und⟩),
  (159, ⟨.func, 1, 8, .und⟩),
  (160, ⟨.func, 1, 8, .und⟩),
  (161, ⟨.func, 1, 8, .und⟩),
  (162, ⟨.func, 1, 8, .und⟩),
  (163, ⟨.func, 1, 8, .und⟩),
  (164, ⟨.func, 1, 8, .und⟩),
  (166, ⟨.func, 1, 8, .und⟩),
  (167, ⟨.struct [(0, 3), (1, 3)], 2, 16, .agg [.int .i64 0, .int .i64 0]⟩),
  (168, ⟨.struct [(0, 3), (1, 3)], 2, 16, .agg [.int .i64 0, .int .i64 0]⟩),
  (169, ⟨.ptr 172, 1, 8, .npt⟩),
  (170, ⟨.func, 1, 8, .und⟩),
  (171, ⟨.struct [(0, 3), (1, 3), (2, 91)], 3, 40, .agg [.int .i64 0, .int .i64 0, .nsl 3]⟩),
  (172, ⟨.struct [(0, 3), (1, 3), (2, 91)], 3, 40, .agg [.int .i64 0, .int .i64 0, .nsl 3]⟩),
  (173, ⟨.func, 1, 8, .und⟩),
  (175, ⟨.func, 1, 8, .und⟩),
  (176, ⟨.func, 1, 8, .und⟩),
  (177, ⟨.func, 1, 8, .und⟩),
  (179, ⟨.func, 1, 8, .und⟩),
  (181, ⟨.func, 1, 8, .und⟩),
  (182, ⟨.func, 1, 8, .und⟩),
  (183, ⟨.func, 1, 8, .und⟩),
  (184, ⟨.func, 1, 8, .und⟩),
  (185, ⟨.func, 1, 8, .und⟩),
  (187, ⟨.func, 1, 8, .und⟩),
  (188, ⟨.func, 1, 8, .und⟩),
  (189, ⟨.func, 1, 8, .und⟩),
  (190, ⟨.struct [(0, 3)], 1, 8, .agg [.int .i64 0]⟩),
  (191, ⟨.struct [(0, 3)], 1, 8, .agg [.int .i64 0]⟩),
  (192, ⟨.slice 226, 1, 24, .nsl 226⟩),
  (193, ⟨.struct [(0, 3), (1, 192)], 2, 32, .agg [.int .i64 0, .nsl 226]⟩),
  (194, ⟨.struct [(0, 3), (1, 192)], 2, 32, .agg [.int .i64 0, .nsl 226]⟩),
  (195, ⟨.func, 1, 8, .und⟩),
  (196, ⟨.map 198 4, 1, 8, .nmp⟩),
  (197, ⟨.struct [(0, 3), (1, 3)], 2, 16, .agg [.int .i64 0, .int .i64 0]⟩),
  (198, ⟨.struct [(0, 3), (1, 3)], 2, 16, .agg [.int .i64 0, .int .i64 0]⟩),
  (199, ⟨.func, 1, 8, .und⟩),
  (200, ⟨.func, 1, 8, .und⟩),
  (202, ⟨.func, 1, 8, .und⟩),
  (203, ⟨.func, 1, 8, .und⟩),
  (204, ⟨.func, 1, 8, .und⟩),
  (205, ⟨.func, 1, 8, .und⟩),
  (206, ⟨.func, 1, 8, .und⟩),
  (208, ⟨.func, 1, 8, .und⟩),
  (210, ⟨.func, 1, 8, .und⟩),
  (211, ⟨.func, 1, 8, .und⟩),
  (212, ⟨.func, 1, 8, .und⟩),
  (213, ⟨.func, 1, 8, .und⟩),
  (214, ⟨.func, 1, 8, .und⟩),
  (215, ⟨.func, 1, 8, .und⟩),
  (216, ⟨.func, 1, 8, .und⟩),
  (218, ⟨.func, 1, 8, .und⟩),
  (219, ⟨.func, 1, 8, .und⟩),
  (220, ⟨.func, 1, 8, .und⟩),
  (221, ⟨.func, 1, 8, .und⟩),
  (222, ⟨.ptr 37, 1, 8, .npt⟩),
  (223, ⟨.int .u64, 1, 8, .int .u64 0⟩),
  (224, ⟨.func, 1, 8, .und⟩),
  (225, ⟨.func, 1, 8, .und⟩),
  (226, ⟨.slice 223, 1, 24, .nsl 223⟩),
  (227, ⟨.func, 1, 8, .und⟩),
  (228, ⟨.func, 1, 8, .und⟩),
  (230, ⟨.func, 1, 8, .und⟩),
  (231, ⟨.func, 1, 8, .und⟩),
  (232, ⟨.func, 1, 8, .und⟩),
  (233, ⟨.func, 1, 8, .und⟩),
  (234, ⟨.func, 1, 8, .und⟩),
  (235, ⟨.func, 1, 8, .und⟩),
  (236, ⟨.func, 1, 8, .und⟩),
  (237, ⟨.func, 1, 8, .und⟩),
  (238, ⟨.func, 1, 8, .und⟩),
  (239, ⟨.func, 1, 8, .und⟩),
  (240, ⟨.func, 1, 8, .und⟩),
  (241, ⟨.func, 1, 8, .und⟩),
  (242, ⟨.func, 1, 8, .und⟩),
  (243, ⟨.func, 1, 8, .und⟩),
  (244, ⟨.func, 1, 8, .und⟩),
  (245, ⟨.func, 1, 8, .und⟩),
  (246, ⟨.func, 1, 8, .und⟩),
  (247, ⟨.func, 1, 8, .und⟩),
  (248, ⟨.func, 1, 8, .und⟩),
  (249, ⟨.func, 1, 8, .und⟩),
  (250, ⟨.func, 1, 8, .und⟩),
  (251, ⟨.func, 1, 8, .und⟩),
  (252, ⟨.func, 1, 8, .und⟩),
  (253, ⟨.func, 1, 8, .und⟩),
  (254, ⟨.func, 1, 8, .und⟩),
  (255, ⟨.func, 1, 8, .und⟩),
  (256, ⟨.func, 1, 8, .und⟩),
  (257, ⟨.func, 1, 8, .und⟩),
  (258, ⟨.func, 1, 8, .und⟩),
  (259, ⟨.func, 1, 8, .und⟩),
  (260, ⟨.func, 1, 8, .und⟩),
  (261, ⟨.func, 1, 8, .und⟩),
  (267, ⟨.func, 1, 8, .und⟩),
  (268, ⟨.int .u32, 1, 4, .int .u32 0⟩),
  (269, ⟨.int .u8, 1, 1, .int .u8 0⟩),
  (270, ⟨.int .u8, 1, 1, .int .u8 0⟩),
  (271, ⟨.func, 1, 8, .und⟩),
  (272, ⟨.ptr 5, 1, 8, .npt⟩),
  (273, ⟨.int .i32, 1, 4, .int .i32 0⟩),
  (274, ⟨.int .i32, 1, 4, .int .i32 0⟩)]
noncomputable abbrev P : Program := Go.Proofs.Tryz.prog
def T : Tab := tabOf tab
theorem tabOk : TabOk P T := TabOk.of tab (by kernel_rfl)
theorem mixed : P.follows .mixedOrders = true := by kernel_rfl
end Go.Ev.N

