/- Numbers of this seat, by name. Printed by names.py. -/
import Derived.Test.YtbmgdbhnendopaaChecked
import Derived.Test.YtbmgdbhnendopaaEvOpen
import Derived.KernelRfl
set_option linter.unusedVariables false
set_option linter.unusedSimpArgs false
namespace Go.Ev.N
open Go.Ev
abbrev law8_SpanAll : Nat := 3
noncomputable abbrev law8_SpanAll_fn : Func := Go.Proofs.Try.f3
abbrev law8_SpanApart : Nat := 4
noncomputable abbrev law8_SpanApart_fn : Func := Go.Proofs.Try.f4
abbrev law8_SpanCut : Nat := 5
noncomputable abbrev law8_SpanCut_fn : Func := Go.Proofs.Try.f5
abbrev law8_SpanForms : Nat := 6
noncomputable abbrev law8_SpanForms_fn : Func := Go.Proofs.Try.f6
abbrev law22_GameAll : Nat := 7
noncomputable abbrev law22_GameAll_fn : Func := Go.Proofs.Try.f7
abbrev law22_GameFair : Nat := 8
noncomputable abbrev law22_GameFair_fn : Func := Go.Proofs.Try.f8
abbrev law22_GameHigh : Nat := 9
noncomputable abbrev law22_GameHigh_fn : Func := Go.Proofs.Try.f9
abbrev law22_GameForms : Nat := 10
noncomputable abbrev law22_GameForms_fn : Func := Go.Proofs.Try.f10
abbrev law22_GamePlays : Nat := 11
noncomputable abbrev law22_GamePlays_fn : Func := Go.Proofs.Try.f11
abbrev law22_GameMoved : Nat := 12
noncomputable abbrev law22_GameMoved_fn : Func := Go.Proofs.Try.f12
abbrev law8_begun : Nat := 13
noncomputable abbrev law8_begun_fn : Func := Go.Proofs.Try.f13
abbrev law8_Spans : Nat := 14
noncomputable abbrev law8_Spans_fn : Func := Go.Proofs.Try.f14
abbrev span_Put : Nat := 15
noncomputable abbrev span_Put_fn : Func := Go.Proofs.Try.f15
abbrev ref8_Put : Nat := 16
noncomputable abbrev ref8_Put_fn : Func := Go.Proofs.Try.f16
abbrev span_Cut : Nat := 17
noncomputable abbrev span_Cut_fn : Func := Go.Proofs.Try.f17
abbrev ref8_Cut : Nat := 18
noncomputable abbrev ref8_Cut_fn : Func := Go.Proofs.Try.f18
abbrev ref8_SameSpans : Nat := 19
noncomputable abbrev ref8_SameSpans_fn : Func := Go.Proofs.Try.f19
abbrev span_May : Nat := 20
noncomputable abbrev span_May_fn : Func := Go.Proofs.Try.f20
abbrev ref8_MaySpans : Nat := 21
noncomputable abbrev ref8_MaySpans_fn : Func := Go.Proofs.Try.f21
abbrev span_Total : Nat := 22
noncomputable abbrev span_Total_fn : Func := Go.Proofs.Try.f22
abbrev span_End : Nat := 23
noncomputable abbrev span_End_fn : Func := Go.Proofs.Try.f23
abbrev law22_begun : Nat := 24
noncomputable abbrev law22_begun_fn : Func := Go.Proofs.Try.f24
abbrev mk_Made : Nat := 25
noncomputable abbrev mk_Made_fn : Func := Go.Proofs.Try.f25
abbrev mk_Picks_Conf : Nat := 26
noncomputable abbrev mk_Picks_Conf_fn : Func := Go.Proofs.Try.f26
abbrev game_Begin : Nat := 27
noncomputable abbrev game_Begin_fn : Func := Go.Proofs.Try.f27
abbrev game_Asks : Nat := 28
noncomputable abbrev game_Asks_fn : Func := Go.Proofs.Try.f28
abbrev ref17_Asks : Nat := 29
noncomputable abbrev ref17_Asks_fn : Func := Go.Proofs.Try.f29
abbrev law22_where : Nat := 30
noncomputable abbrev law22_where_fn : Func := Go.Proofs.Try.f30
abbrev game_Told : Nat := 31
noncomputable abbrev game_Told_fn : Func := Go.Proofs.Try.f31
abbrev ref17_Told : Nat := 32
noncomputable abbrev ref17_Told_fn : Func := Go.Proofs.Try.f32
abbrev ref17_SameRound : Nat := 33
noncomputable abbrev ref17_SameRound_fn : Func := Go.Proofs.Try.f33
abbrev game_Play : Nat := 34
noncomputable abbrev game_Play_fn : Func := Go.Proofs.Try.f34
abbrev ref1_Size : Nat := 35
noncomputable abbrev ref1_Size_fn : Func := Go.Proofs.Try.f35
abbrev mk_Picks_Raw : Nat := 36
noncomputable abbrev mk_Picks_Raw_fn : Func := Go.Proofs.Try.f36
abbrev ref1_Of : Nat := 37
noncomputable abbrev ref1_Of_fn : Func := Go.Proofs.Try.f37
abbrev law22_first : Nat := 38
noncomputable abbrev law22_first_fn : Func := Go.Proofs.Try.f38
abbrev law22_best : Nat := 39
noncomputable abbrev law22_best_fn : Func := Go.Proofs.Try.f39
abbrev mk_Picks_Over : Nat := 40
noncomputable abbrev mk_Picks_Over_fn : Func := Go.Proofs.Try.f40
abbrev mk_Picks_Num : Nat := 41
noncomputable abbrev mk_Picks_Num_fn : Func := Go.Proofs.Try.f41
abbrev slices_Clone_api_Span_api_Span : Nat := 42
noncomputable abbrev slices_Clone_api_Span_api_Span_fn : Func := Go.Proofs.Try.f42
abbrev span_one : Nat := 43
noncomputable abbrev span_one_fn : Func := Go.Proofs.Try.f43
abbrev slices_Insert_api_Span_api_Span : Nat := 44
noncomputable abbrev slices_Insert_api_Span_api_Span_fn : Func := Go.Proofs.Try.f44
abbrev ref8_MaySpan : Nat := 45
noncomputable abbrev ref8_MaySpan_fn : Func := Go.Proofs.Try.f45
abbrev ref8_Over : Nat := 46
noncomputable abbrev ref8_Over_fn : Func := Go.Proofs.Try.f46
abbrev slices_Delete_api_Span_api_Span : Nat := 47
noncomputable abbrev slices_Delete_api_Span_api_Span_fn : Func := Go.Proofs.Try.f47
abbrev game_size : Nat := 48
noncomputable abbrev game_size_fn : Func := Go.Proofs.Try.f48
abbrev game_Told_1 : Nat := 49
noncomputable abbrev game_Told_1_fn : Func := Go.Proofs.Try.f49
abbrev slices_ContainsFunc_api_Span_api_Span : Nat := 50
noncomputable abbrev slices_ContainsFunc_api_Span_api_Span_fn : Func := Go.Proofs.Try.f50
abbrev game_live : Nat := 51
noncomputable abbrev game_live_fn : Func := Go.Proofs.Try.f51
abbrev game_next : Nat := 52
noncomputable abbrev game_next_fn : Func := Go.Proofs.Try.f52
abbrev ref17_total : Nat := 53
noncomputable abbrev ref17_total_fn : Func := Go.Proofs.Try.f53
abbrev ref17_covers : Nat := 54
noncomputable abbrev ref17_covers_fn : Func := Go.Proofs.Try.f54
abbrev ref1_Up : Nat := 55
noncomputable abbrev ref1_Up_fn : Func := Go.Proofs.Try.f55
abbrev ref1_Round : Nat := 56
noncomputable abbrev ref1_Round_fn : Func := Go.Proofs.Try.f56
abbrev ref1_Log : Nat := 57
noncomputable abbrev ref1_Log_fn : Func := Go.Proofs.Try.f57
abbrev slices_overlaps_api_Span : Nat := 58
noncomputable abbrev slices_overlaps_api_Span_fn : Func := Go.Proofs.Try.f58
abbrev slices_rotateRight_api_Span : Nat := 59
noncomputable abbrev slices_rotateRight_api_Span_fn : Func := Go.Proofs.Try.f59
abbrev slices_IndexFunc_api_Span_api_Span : Nat := 60
noncomputable abbrev slices_IndexFunc_api_Span_api_Span_fn : Func := Go.Proofs.Try.f60
abbrev game_kept : Nat := 61
noncomputable abbrev game_kept_fn : Func := Go.Proofs.Try.f61
abbrev ref1_Add : Nat := 62
noncomputable abbrev ref1_Add_fn : Func := Go.Proofs.Try.f62
abbrev slices_rotateLeft_api_Span : Nat := 63
noncomputable abbrev slices_rotateLeft_api_Span_fn : Func := Go.Proofs.Try.f63
abbrev game_covers : Nat := 64
noncomputable abbrev game_covers_fn : Func := Go.Proofs.Try.f64
abbrev slices_Reverse_api_Span_api_Span : Nat := 65
noncomputable abbrev slices_Reverse_api_Span_api_Span_fn : Func := Go.Proofs.Try.f65
abbrev t_int64 : Nat := 2
abbrev t_int : Nat := 3
abbrev t_bool : Nat := 4
abbrev t_uint8 : Nat := 5
abbrev t_internal_abi_BoundsErrorCode : Nat := 6
abbrev t_runtime_boundsError : Nat := 8
abbrev t_string : Nat := 9
abbrev t_runtime_errorString : Nat := 10
abbrev t_runtime_plainError : Nat := 11
abbrev t_runtime_errorAddressString : Nat := 14
abbrev tp_runtime_TypeAssertionError : Nat := 15
abbrev tp_runtime_PanicNilError : Nat := 16
abbrev tp_abi_Type : Nat := 17
abbrev t_internal_runtime_maps_unhashableTypeError : Nat := 19
abbrev ts_uint8 : Nat := 22
abbrev ts_api_Span : Nat := 23
abbrev t_api_Span : Nat := 25
abbrev tx_a300_bool : Nat := 36
abbrev ts_int : Nat := 39
abbrev ts_bool : Nat := 40
abbrev tss_api_Span : Nat := 41
abbrev t_api_Conf : Nat := 43
abbrev t_api_Raw : Nat := 45
abbrev tp_mk_Picks : Nat := 47
abbrev t_api_Round : Nat := 51
abbrev t_api_Errno : Nat := 63
abbrev tm_map_api_Span_int : Nat := 76
abbrev t_mk_Picks : Nat := 79
abbrev tx_a2_int : Nat := 82
abbrev t_uint : Nat := 87
abbrev t_runtime_TypeAssertionError : Nat := 94
abbrev tx_a0_p_runtime_PanicNilError : Nat := 95
abbrev t_runtime_PanicNilError : Nat := 97
abbrev t_internal_abi_TFlag : Nat := 100
abbrev t_internal_abi_Kind : Nat := 101
abbrev tp_uint8 : Nat := 103
abbrev t_internal_abi_NameOff : Nat := 104
abbrev t_internal_abi_TypeOff : Nat := 105
abbrev t_internal_abi_Type : Nat := 107
def tab : List (Nat × TI) := [
  (1, ⟨.func, 1, 8, .und⟩),
  (2, ⟨.int .i64, 1, 8, .int .i64 0⟩),
  (3, ⟨.int .i64, 1, 8, .int .i64 0⟩),
  (4, ⟨.bool, 1, 1, .bool false⟩),
  (5, ⟨.int .u8, 1, 1, .int .u8 0⟩),
  (6, ⟨.int .u8, 1, 1, .int .u8 0⟩),
  (9, ⟨.str, 1, 16, .str .empty⟩),
  (10, ⟨.str, 1, 16, .str .empty⟩),
  (11, ⟨.str, 1, 16, .str .empty⟩),
  (12, ⟨.int .u64, 1, 8, .int .u64 0⟩),
  (15, ⟨.ptr 94, 1, 8, .npt⟩),
  (16, ⟨.ptr 97, 1, 8, .npt⟩),
  (17, ⟨.ptr 107, 1, 8, .npt⟩),
  (21, ⟨.int .i32, 1, 4, .int .i32 0⟩),
  (22, ⟨.slice 5, 1, 24, .nsl 5⟩),
  (23, ⟨.slice 25, 1, 24, .nsl 25⟩),
  (24, ⟨.struct [(0, 3), (1, 3)], 2, 16, .agg [.int .i64 0, .int .i64 0]⟩),
  (25, ⟨.struct [(0, 3), (1, 3)], 2, 16, .agg [.int .i64 0, .int .i64 0]⟩),
  (26, ⟨.func, 1, 8, .und⟩),
  (27, ⟨.func, 1, 8, .und⟩),
  (29, ⟨.func, 1, 8, .und⟩),
  (31, ⟨.func, 1, 8, .und⟩),
  (32, ⟨.func, 1, 8, .und⟩),
  (33, ⟨.func, 1, 8, .und⟩),
  (34, ⟨.func, 1, 8, .und⟩),
  (35, ⟨.func, 1, 8, .und⟩),
  (36, ⟨.arr 300 4, 300, 300, .agg [.bool false, .bool false, .bool false, .bool false, .bool false, .bool false, .bool false, .bool false, .bool false, .bool false, .bool false, .bool false, .bool false, .bool false, .bool false, .bool false, .bool false, .bool false, .bool false, .bool false, .bool false, .bool false, .bool false, .bool false, .bool false, .bool false, .bool false, .bool false, .bool false, .bool false, .bool false, .bool false, .bool false, .bool false, .bool false, .bool false, .bool false, .bool false, .bool false, .bool false, .bool false, .bool false, .bool false, .bool false, .bool false, .bool false, .bool false, .bool false, .bool false, .bool false, .bool false, .bool false, .bool false, .bool false, .bool false, .bool false, .bool false, .bool false, .bool false, .bool false, .bool false, .bool false, .bool false, .bool false, .bool false, .bool false, .bool false, .bool false, .bool false, .bool false, .bool false, .bool false, .bool false, .bool false, .bool false, .bool false, .bool false, .bool false, .bool false, .bool false, .bool false, .bool false, .bool false, .bool false, .bool false, .bool false, .bool false, .bool false, .bool false, .bool false, .bool false, .bool false, .bool false, .bool false, .bool false, .bool false, .bool false, .bool false, .bool false, .bool false, .bool false, .bool false, .bool false, .bool false, .bool false, .bool false, .bool false, .bool false, .bool false, .bool false, .bool false, .bool false, .bool false, .bool false, .bool false, .bool false, .bool false, .bool false, .bool false, .bool false, .bool false, .bool false, .bool false, .bool false, .bool false, .bool false, .bool false, .bool false, .bool false, .bool false, .bool false, .bool false, .bool false, .bool false, .bool false, .bool false, .bool false, .bool false, .bool false, .bool false, .bool false, .bool false, .bool false, .bool false, .bool false, .bool false, .bool false, .bool false, .bool false, .bool false, .bool false, .bool false, .bool false, .bool false, .bool false, .bool false, .bool false, .bool false, .bool false, .bool false, .bool false, .bool false, .bool false, .bool false, .bool false, .bool false, .bool false, .bool false, .bool false, .bool false, .bool false, .bool false, .bool false, .bool false, .bool false, .bool false, .bool false, .bool false, .bool false, .bool false, .bool false, .bool false, .bool false, .bool false, .bool false, .bool false, .bool false, .bool false, .bool false, .bool false, .bool false, .bool false, .bool false, .bool false, .bool false, .bool false, .bool false, .bool false, .bool false, .bool false, .bool false, .bool false, .bool false, .bool false, .bool false, .bool false, .bool false, .bool false, .bool false, .bool false, .bool false, .bool false, .bool false, .bool false, .bool false, .bool false, .bool false, .bool false, .bool false, .bool false, .bool false, .bool false, .bool false, .bool false, .bool false, .bool false, .bool false, .bool false, .bool false, .bool false, .bool false, .bool false, .bool false, .bool false, .bool false, .bool false, .bool false, .bool false, .bool false, .bool false, .bool false, .bool false, .bool false, .bool false, .bool false, .bool false, .bool false, .bool false, .bool false, .bool false, .bool false, .bool false, .bool false, .bool false, .bool false, .bool false, .bool false, .bool false, .bool false, .bool false, .bool false, .bool false, .bool false, .bool false, .bool false, .bool false, .bool false, .bool false, .bool false, .bool false, .bool false, .bool false, .bool false, .bool false, .bool false, .bool false, .bool false, .bool false, .bool false, .bool false, .bool false, .bool false, .bool false, .bool false, .bool false, .bool false, .bool false, .bool false, .bool false, .bool false, .bool false, .bool false, .bool false, .bool false, .bool false, .bool false, .bool false, .bool false, .bool false, .bool false]⟩),
  (37, ⟨.func, 1, 8, .und⟩),
  (38, ⟨.func, 1, 8, .und⟩),
  (39, ⟨.slice 3, 1, 24, .nsl 3⟩),
  (40, ⟨.slice 4, 1, 24, .nsl 4⟩),
  (41, ⟨.slice 23, 1, 24, .nsl 23⟩),
  (42, ⟨.struct [(0, 3), (1, 3), (2, 3), (3, 3), (4, 3), (5, 3), (6, 3), (7, 3)], 8, 64, .agg [.int .i64 0, .int .i64 0, .int .i64 0, .int .i64 0, .int .i64 0, .int .i64 0, .int .i64 0, .int .i64 0]⟩),
  (43, ⟨.struct [(0, 3), (1, 3), (2, 3), (3, 3), (4, 3), (5, 3), (6, 3), (7, 3)], 8, 64, .agg [.int .i64 0, .int .i64 0, .int .i64 0, .int .i64 0, .int .i64 0, .int .i64 0, .int .i64 0, .int .i64 0]⟩),
  (44, ⟨.struct [(0, 3), (1, 3), (2, 3), (3, 3), (4, 3), (5, 3)], 6, 48, .agg [.int .i64 0, .int .i64 0, .int .i64 0, .int .i64 0, .int .i64 0, .int .i64 0]⟩),
  (45, ⟨.struct [(0, 3), (1, 3), (2, 3), (3, 3), (4, 3), (5, 3)], 6, 48, .agg [.int .i64 0, .int .i64 0, .int .i64 0, .int .i64 0, .int .i64 0, .int .i64 0]⟩),
  (47, ⟨.ptr 79, 1, 8, .npt⟩),
  (48, ⟨.func, 1, 8, .und⟩),
  (49, ⟨.func, 1, 8, .und⟩),
  (50, ⟨.struct [(0, 3), (1, 3), (2, 23), (3, 3), (4, 3), (5, 3)], 6, 64, .agg [.int .i64 0, .int .i64 0, .nsl 25, .int .i64 0, .int .i64 0, .int .i64 0]⟩),
  (51, ⟨.struct [(0, 3), (1, 3), (2, 23), (3, 3), (4, 3), (5, 3)], 6, 64, .agg [.int .i64 0, .int .i64 0, .nsl 25, .int .i64 0, .int .i64 0, .int .i64 0]⟩),
  (52, ⟨.func, 1, 8, .und⟩),
  (54, ⟨.func, 1, 8, .und⟩),
  (55, ⟨.func, 1, 8, .und⟩),
  (56, ⟨.func, 1, 8, .und⟩),
  (57, ⟨.func, 1, 8, .und⟩),
  (58, ⟨.func, 1, 8, .und⟩),
  (59, ⟨.func, 1, 8, .und⟩),
  (60, ⟨.func, 1, 8, .und⟩),
  (61, ⟨.func, 1, 8, .und⟩),
  (62, ⟨.func, 1, 8, .und⟩),
  (63, ⟨.int .i64, 1, 8, .int .i64 0⟩),
  (65, ⟨.func, 1, 8, .und⟩),
  (66, ⟨.func, 1, 8, .und⟩),
  (67, ⟨.func, 1, 8, .und⟩),
  (68, ⟨.func, 1, 8, .und⟩),
  (69, ⟨.func, 1, 8, .und⟩),
  (70, ⟨.func, 1, 8, .und⟩),
  (71, ⟨.func, 1, 8, .und⟩),
  (72, ⟨.func, 1, 8, .und⟩),
  (73, ⟨.func, 1, 8, .und⟩),
  (74, ⟨.func, 1, 8, .und⟩),
  (75, ⟨.func, 1, 8, .und⟩),
  (76, ⟨.map 25 3, 1, 8, .nmp⟩),
  (77, ⟨.func, 1, 8, .und⟩),
  (78, ⟨.struct [(0, 22), (1, 3)], 2, 32, .agg [.nsl 5, .int .i64 0]⟩),
  (79, ⟨.struct [(0, 22), (1, 3)], 2, 32, .agg [.nsl 5, .int .i64 0]⟩),
  (80, ⟨.func, 1, 8, .und⟩),
  (81, ⟨.func, 1, 8, .und⟩),
  (82, ⟨.arr 2 3, 2, 16, .agg [.int .i64 0, .int .i64 0]⟩),
  (83, ⟨.func, 1, 8, .und⟩),
  (84, ⟨.func, 1, 8, .und⟩),
  (85, ⟨.func, 1, 8, .und⟩),
  (86, ⟨.func, 1, 8, .und⟩),
  (87, ⟨.int .u64, 1, 8, .int .u64 0⟩),
  (88, ⟨.func, 1, 8, .und⟩),
  (90, ⟨.func, 1, 8, .und⟩),
  (91, ⟨.func, 1, 8, .und⟩),
  (92, ⟨.func, 1, 8, .und⟩),
  (98, ⟨.func, 1, 8, .und⟩),
  (99, ⟨.int .u32, 1, 4, .int .u32 0⟩),
  (100, ⟨.int .u8, 1, 1, .int .u8 0⟩),
  (101, ⟨.int .u8, 1, 1, .int .u8 0⟩),
  (102, ⟨.func, 1, 8, .und⟩),
  (103, ⟨.ptr 5, 1, 8, .npt⟩),
  (104, ⟨.int .i32, 1, 4, .int .i32 0⟩),
  (105, ⟨.int .i32, 1, 4, .int .i32 0⟩)]
noncomputable abbrev P : Program := Go.Proofs.Try.prog
def T : Tab := tabOf tab
theorem tabOk : TabOk P T := TabOk.of tab (by kernel_rfl)
theorem mixed : P.follows .mixedOrders = true := by kernel_rfl
end Go.Ev.N

