/- Numbers of this seat, by name. Printed by names.py. -/
import Derived.Test.YtkbopikamadjoaaChecked
import Derived.Test.YtkbopikamadjoaaEvOpen
import Derived.KernelRfl
set_option linter.unusedVariables false
set_option linter.unusedSimpArgs false
namespace Go.Ev.N
open Go.Ev
abbrev law25_WireAll : Nat := 3
noncomputable abbrev law25_WireAll_fn : Func := Go.Proofs.Try.f3
abbrev law25_WireBack : Nat := 4
noncomputable abbrev law25_WireBack_fn : Func := Go.Proofs.Try.f4
abbrev law25_WireJoins : Nat := 5
noncomputable abbrev law25_WireJoins_fn : Func := Go.Proofs.Try.f5
abbrev law25_WireForms : Nat := 6
noncomputable abbrev law25_WireForms_fn : Func := Go.Proofs.Try.f6
abbrev law25_WireLong : Nat := 7
noncomputable abbrev law25_WireLong_fn : Func := Go.Proofs.Try.f7
abbrev law25_begun : Nat := 8
noncomputable abbrev law25_begun_fn : Func := Go.Proofs.Try.f8
abbrev mk_Made : Nat := 9
noncomputable abbrev mk_Made_fn : Func := Go.Proofs.Try.f9
abbrev mk_Picks_Ops : Nat := 10
noncomputable abbrev mk_Picks_Ops_fn : Func := Go.Proofs.Try.f10
abbrev ref17_SameOps : Nat := 11
noncomputable abbrev ref17_SameOps_fn : Func := Go.Proofs.Try.f11
abbrev wire_Take : Nat := 12
noncomputable abbrev wire_Take_fn : Func := Go.Proofs.Try.f12
abbrev ref17_TakeOps : Nat := 13
noncomputable abbrev ref17_TakeOps_fn : Func := Go.Proofs.Try.f13
abbrev wire_Put : Nat := 14
noncomputable abbrev wire_Put_fn : Func := Go.Proofs.Try.f14
abbrev ref17_PutOps : Nat := 15
noncomputable abbrev ref17_PutOps_fn : Func := Go.Proofs.Try.f15
abbrev mk_Picks_Raw : Nat := 16
noncomputable abbrev mk_Picks_Raw_fn : Func := Go.Proofs.Try.f16
abbrev ref17_New : Nat := 17
noncomputable abbrev ref17_New_fn : Func := Go.Proofs.Try.f17
abbrev mk_Picks_Over : Nat := 18
noncomputable abbrev mk_Picks_Over_fn : Func := Go.Proofs.Try.f18
abbrev mk_Picks_Op : Nat := 19
noncomputable abbrev mk_Picks_Op_fn : Func := Go.Proofs.Try.f19
abbrev ref17_Do : Nat := 20
noncomputable abbrev ref17_Do_fn : Func := Go.Proofs.Try.f20
abbrev wire_one : Nat := 21
noncomputable abbrev wire_one_fn : Func := Go.Proofs.Try.f21
abbrev ref17_reader_num : Nat := 22
noncomputable abbrev ref17_reader_num_fn : Func := Go.Proofs.Try.f22
abbrev wire_put : Nat := 23
noncomputable abbrev wire_put_fn : Func := Go.Proofs.Try.f23
abbrev ref17_putOp : Nat := 24
noncomputable abbrev ref17_putOp_fn : Func := Go.Proofs.Try.f24
abbrev mk_Picks_Num : Nat := 25
noncomputable abbrev mk_Picks_Num_fn : Func := Go.Proofs.Try.f25
abbrev ref1_Of : Nat := 26
noncomputable abbrev ref1_Of_fn : Func := Go.Proofs.Try.f26
abbrev mk_Picks_Size : Nat := 27
noncomputable abbrev mk_Picks_Size_fn : Func := Go.Proofs.Try.f27
abbrev mk_Picks_Block : Nat := 28
noncomputable abbrev mk_Picks_Block_fn : Func := Go.Proofs.Try.f28
abbrev ref17_give : Nat := 29
noncomputable abbrev ref17_give_fn : Func := Go.Proofs.Try.f29
abbrev ref8_Trim : Nat := 30
noncomputable abbrev ref8_Trim_fn : Func := Go.Proofs.Try.f30
abbrev ref8_Met : Nat := 31
noncomputable abbrev ref8_Met_fn : Func := Go.Proofs.Try.f31
abbrev ref8_Count : Nat := 32
noncomputable abbrev ref8_Count_fn : Func := Go.Proofs.Try.f32
abbrev ref17_Find : Nat := 33
noncomputable abbrev ref17_Find_fn : Func := Go.Proofs.Try.f33
abbrev ref17_wrong : Nat := 34
noncomputable abbrev ref17_wrong_fn : Func := Go.Proofs.Try.f34
abbrev ref17_of : Nat := 35
noncomputable abbrev ref17_of_fn : Func := Go.Proofs.Try.f35
abbrev wire_fields : Nat := 36
noncomputable abbrev wire_fields_fn : Func := Go.Proofs.Try.f36
abbrev wire_field : Nat := 37
noncomputable abbrev wire_field_fn : Func := Go.Proofs.Try.f37
abbrev ref17_three : Nat := 38
noncomputable abbrev ref17_three_fn : Func := Go.Proofs.Try.f38
abbrev ref1_Up : Nat := 39
noncomputable abbrev ref1_Up_fn : Func := Go.Proofs.Try.f39
abbrev ref1_Round : Nat := 40
noncomputable abbrev ref1_Round_fn : Func := Go.Proofs.Try.f40
abbrev ref1_Log : Nat := 41
noncomputable abbrev ref1_Log_fn : Func := Go.Proofs.Try.f41
abbrev ref1_Size : Nat := 42
noncomputable abbrev ref1_Size_fn : Func := Go.Proofs.Try.f42
abbrev ref1_New : Nat := 43
noncomputable abbrev ref1_New_fn : Func := Go.Proofs.Try.f43
abbrev ref1_Many : Nat := 44
noncomputable abbrev ref1_Many_fn : Func := Go.Proofs.Try.f44
abbrev ref17_place : Nat := 45
noncomputable abbrev ref17_place_fn : Func := Go.Proofs.Try.f45
abbrev ref8_Zero : Nat := 46
noncomputable abbrev ref8_Zero_fn : Func := Go.Proofs.Try.f46
abbrev ref8_Over : Nat := 47
noncomputable abbrev ref8_Over_fn : Func := Go.Proofs.Try.f47
abbrev ref1_Anew : Nat := 48
noncomputable abbrev ref1_Anew_fn : Func := Go.Proofs.Try.f48
abbrev ref1_Add : Nat := 49
noncomputable abbrev ref1_Add_fn : Func := Go.Proofs.Try.f49
abbrev ref1_Charge : Nat := 50
noncomputable abbrev ref1_Charge_fn : Func := Go.Proofs.Try.f50
abbrev ref1_Product : Nat := 51
noncomputable abbrev ref1_Product_fn : Func := Go.Proofs.Try.f51
abbrev ref17_Lowest : Nat := 52
noncomputable abbrev ref17_Lowest_fn : Func := Go.Proofs.Try.f52
abbrev ref8_Pages : Nat := 53
noncomputable abbrev ref8_Pages_fn : Func := Go.Proofs.Try.f53
abbrev ref8_Commit : Nat := 54
noncomputable abbrev ref8_Commit_fn : Func := Go.Proofs.Try.f54
abbrev ref8_Fill : Nat := 55
noncomputable abbrev ref8_Fill_fn : Func := Go.Proofs.Try.f55
abbrev ref17_put : Nat := 56
noncomputable abbrev ref17_put_fn : Func := Go.Proofs.Try.f56
abbrev ref8_there : Nat := 57
noncomputable abbrev ref8_there_fn : Func := Go.Proofs.Try.f57
abbrev ref1_Mul : Nat := 58
noncomputable abbrev ref1_Mul_fn : Func := Go.Proofs.Try.f58
abbrev ref8_Byte : Nat := 59
noncomputable abbrev ref8_Byte_fn : Func := Go.Proofs.Try.f59
abbrev t_int64 : Nat := 2
abbrev t_int : Nat := 3
abbrev t_bool : Nat := 4
abbrev t_uint8 : Nat := 5
abbrev t_internal_abi_BoundsErrorCode : Nat := 6
abbrev t_runtime_boundsError : Nat := 8
abbrev t_string : Nat := 9
abbrev t_runtime_errorString : Nat := 10
abbrev t_runtime_plainError : Nat := 11
abbrev t_runtime_errorAddressString : Nat := 14
abbrev tp_runtime_TypeAssertionError : Nat := 15
abbrev tp_runtime_PanicNilError : Nat := 16
abbrev tp_abi_Type : Nat := 17
abbrev t_internal_runtime_maps_unhashableTypeError : Nat := 19
abbrev ts_uint8 : Nat := 22
abbrev ts_api_Op : Nat := 23
abbrev tp_mk_Picks : Nat := 25
abbrev t_api_Raw : Nat := 29
abbrev t_uint16 : Nat := 34
abbrev t_api_Op : Nat := 38
abbrev ts_int : Nat := 40
abbrev t_mk_Picks : Nat := 43
abbrev t_api_Conf : Nat := 45
abbrev ts_api_Block : Nat := 46
abbrev ts_bool : Nat := 47
abbrev t_api_Model : Nat := 49
abbrev t_api_Errno : Nat := 50
abbrev t_api_Ans : Nat := 55
abbrev tp_ref17_reader : Nat := 60
abbrev t_ref17_reader : Nat := 62
abbrev t_uint : Nat := 77
abbrev tp_int : Nat := 78
abbrev tp_api_Op : Nat := 80
abbrev t_api_Block : Nat := 87
abbrev t_api_Span : Nat := 96
abbrev t_runtime_TypeAssertionError : Nat := 109
abbrev t_runtime_PanicNilError : Nat := 112
abbrev t_internal_abi_TFlag : Nat := 115
abbrev t_internal_abi_Kind : Nat := 116
abbrev tp_uint8 : Nat := 118
abbrev t_internal_abi_NameOff : Nat := 119
abbrev t_internal_abi_TypeOff : Nat := 120
abbrev t_internal_abi_Type : Nat := 122
def tab : List (Nat × TI) := [
  (1, ⟨.func, 1, 8, .und⟩),
  (2, ⟨.int .i64, 1, 8, .int .i64 0⟩),
  (3, ⟨.int .i64, 1, 8, .int .i64 0⟩),
  (4, ⟨.bool, 1, 1, .bool false⟩),
  (5, ⟨.int .u8, 1, 1, .int .u8 0⟩),
  (6, ⟨.int .u8, 1, 1, .int .u8 0⟩),
  (9, ⟨.str, 1, 16, .str .empty⟩),
  (10, ⟨.str, 1, 16, .str .empty⟩),
  (11, ⟨.str, 1, 16, .str .empty⟩),
  (12, ⟨.int .u64, 1, 8, .int .u64 0⟩),
  (15, ⟨.ptr 109, 1, 8, .npt⟩),
  (16, ⟨.ptr 112, 1, 8, .npt⟩),
  (17, ⟨.ptr 122, 1, 8, .npt⟩),
  (21, ⟨.int .i32, 1, 4, .int .i32 0⟩),
  (22, ⟨.slice 5, 1, 24, .nsl 5⟩),
  (23, ⟨.slice 38, 1, 24, .nsl 38⟩),
  (24, ⟨.func, 1, 8, .und⟩),
  (25, ⟨.ptr 43, 1, 8, .npt⟩),
  (26, ⟨.func, 1, 8, .und⟩),
  (27, ⟨.func, 1, 8, .und⟩),
  (28, ⟨.struct [(0, 3), (1, 3), (2, 3), (3, 3), (4, 3), (5, 3)], 6, 48, .agg [.int .i64 0, .int .i64 0, .int .i64 0, .int .i64 0, .int .i64 0, .int .i64 0]⟩),
  (29, ⟨.struct [(0, 3), (1, 3), (2, 3), (3, 3), (4, 3), (5, 3)], 6, 48, .agg [.int .i64 0, .int .i64 0, .int .i64 0, .int .i64 0, .int .i64 0, .int .i64 0]⟩),
  (30, ⟨.func, 1, 8, .und⟩),
  (31, ⟨.func, 1, 8, .und⟩),
  (32, ⟨.func, 1, 8, .und⟩),
  (33, ⟨.func, 1, 8, .und⟩),
  (34, ⟨.int .u16, 1, 2, .int .u16 0⟩),
  (35, ⟨.func, 1, 8, .und⟩),
  (36, ⟨.func, 1, 8, .und⟩),
  (37, ⟨.struct [(0, 3), (1, 3), (2, 3), (3, 3), (4, 3), (5, 5)], 6, 48, .agg [.int .i64 0, .int .i64 0, .int .i64 0, .int .i64 0, .int .i64 0, .int .u8 0]⟩),
  (38, ⟨.struct [(0, 3), (1, 3), (2, 3), (3, 3), (4, 3), (5, 5)], 6, 48, .agg [.int .i64 0, .int .i64 0, .int .i64 0, .int .i64 0, .int .i64 0, .int .u8 0]⟩),
  (39, ⟨.func, 1, 8, .und⟩),
  (40, ⟨.slice 3, 1, 24, .nsl 3⟩),
  (41, ⟨.func, 1, 8, .und⟩),
  (42, ⟨.struct [(0, 22), (1, 3)], 2, 32, .agg [.nsl 5, .int .i64 0]⟩),
  (43, ⟨.struct [(0, 22), (1, 3)], 2, 32, .agg [.nsl 5, .int .i64 0]⟩),
  (44, ⟨.struct [(0, 3), (1, 3), (2, 3), (3, 3), (4, 3), (5, 3), (6, 3), (7, 3)], 8, 64, .agg [.int .i64 0, .int .i64 0, .int .i64 0, .int .i64 0, .int .i64 0, .int .i64 0, .int .i64 0, .int .i64 0]⟩),
  (45, ⟨.struct [(0, 3), (1, 3), (2, 3), (3, 3), (4, 3), (5, 3), (6, 3), (7, 3)], 8, 64, .agg [.int .i64 0, .int .i64 0, .int .i64 0, .int .i64 0, .int .i64 0, .int .i64 0, .int .i64 0, .int .i64 0]⟩),
  (46, ⟨.slice 87, 1, 24, .nsl 87⟩),
  (47, ⟨.slice 4, 1, 24, .nsl 4⟩),
  (48, ⟨.struct [(0, 45), (8, 46), (9, 3), (10, 3), (11, 3), (12, 47), (13, 22)], 14, 160, .agg [.int .i64 0, .int .i64 0, .int .i64 0, .int .i64 0, .int .i64 0, .int .i64 0, .int .i64 0, .int .i64 0, .nsl 87, .int .i64 0, .int .i64 0, .int .i64 0, .nsl 4, .nsl 5]⟩),
  (49, ⟨.struct [(0, 45), (8, 46), (9, 3), (10, 3), (11, 3), (12, 47), (13, 22)], 14, 160, .agg [.int .i64 0, .int .i64 0, .int .i64 0, .int .i64 0, .int .i64 0, .int .i64 0, .int .i64 0, .int .i64 0, .nsl 87, .int .i64 0, .int .i64 0, .int .i64 0, .nsl 4, .nsl 5]⟩),
  (50, ⟨.int .i64, 1, 8, .int .i64 0⟩),
  (52, ⟨.func, 1, 8, .und⟩),
  (53, ⟨.func, 1, 8, .und⟩),
  (54, ⟨.struct [(0, 50), (1, 3), (2, 3), (3, 5), (4, 3), (5, 3), (6, 3), (7, 3)], 8, 64, .agg [.int .i64 0, .int .i64 0, .int .i64 0, .int .u8 0, .int .i64 0, .int .i64 0, .int .i64 0, .int .i64 0]⟩),
  (55, ⟨.struct [(0, 50), (1, 3), (2, 3), (3, 5), (4, 3), (5, 3), (6, 3), (7, 3)], 8, 64, .agg [.int .i64 0, .int .i64 0, .int .i64 0, .int .u8 0, .int .i64 0, .int .i64 0, .int .i64 0, .int .i64 0]⟩),
  (57, ⟨.func, 1, 8, .und⟩),
  (59, ⟨.func, 1, 8, .und⟩),
  (60, ⟨.ptr 62, 1, 8, .npt⟩),
  (61, ⟨.struct [(0, 22), (1, 4)], 2, 32, .agg [.nsl 5, .bool false]⟩),
  (62, ⟨.struct [(0, 22), (1, 4)], 2, 32, .agg [.nsl 5, .bool false]⟩),
  (63, ⟨.func, 1, 8, .und⟩),
  (64, ⟨.func, 1, 8, .und⟩),
  (66, ⟨.func, 1, 8, .und⟩),
  (67, ⟨.func, 1, 8, .und⟩),
  (68, ⟨.func, 1, 8, .und⟩),
  (70, ⟨.func, 1, 8, .und⟩),
  (71, ⟨.func, 1, 8, .und⟩),
  (72, ⟨.func, 1, 8, .und⟩),
  (73, ⟨.func, 1, 8, .und⟩),
  (74, ⟨.func, 1, 8, .und⟩),
  (75, ⟨.func, 1, 8, .und⟩),
  (76, ⟨.func, 1, 8, .und⟩),
  (77, ⟨.int .u64, 1, 8, .int .u64 0⟩),
  (78, ⟨.ptr 3, 1, 8, .npt⟩),
  (79, ⟨.func, 1, 8, .und⟩),
  (80, ⟨.ptr 38, 1, 8, .npt⟩),
  (81, ⟨.func, 1, 8, .und⟩),
  (83, ⟨.func, 1, 8, .und⟩),
  (84, ⟨.func, 1, 8, .und⟩),
  (85, ⟨.func, 1, 8, .und⟩),
  (86, ⟨.struct [(0, 3), (1, 3), (2, 3)], 3, 24, .agg [.int .i64 0, .int .i64 0, .int .i64 0]⟩),
  (87, ⟨.struct [(0, 3), (1, 3), (2, 3)], 3, 24, .agg [.int .i64 0, .int .i64 0, .int .i64 0]⟩),
  (89, ⟨.func, 1, 8, .und⟩),
  (91, ⟨.func, 1, 8, .und⟩),
  (93, ⟨.func, 1, 8, .und⟩),
  (94, ⟨.func, 1, 8, .und⟩),
  (95, ⟨.struct [(0, 3), (1, 3)], 2, 16, .agg [.int .i64 0, .int .i64 0]⟩),
  (96, ⟨.struct [(0, 3), (1, 3)], 2, 16, .agg [.int .i64 0, .int .i64 0]⟩),
  (97, ⟨.func, 1, 8, .und⟩),
  (98, ⟨.func, 1, 8, .und⟩),
  (100, ⟨.func, 1, 8, .und⟩),
  (102, ⟨.func, 1, 8, .und⟩),
  (103, ⟨.func, 1, 8, .und⟩),
  (104, ⟨.func, 1, 8, .und⟩),
  (105, ⟨.func, 1, 8, .und⟩),
  (106, ⟨.func, 1, 8, .und⟩),
  (107, ⟨.func, 1, 8, .und⟩),
  (113, ⟨.func, 1, 8, .und⟩),
  (114, ⟨.int .u32, 1, 4, .int .u32 0⟩),
  (115, ⟨.int .u8, 1, 1, .int .u8 0⟩),
  (116, ⟨.int .u8, 1, 1, .int .u8 0⟩),
  (117, ⟨.func, 1, 8, .und⟩),
  (118, ⟨.ptr 5, 1, 8, .npt⟩),
  (119, ⟨.int .i32, 1, 4, .int .i32 0⟩),
  (120, ⟨.int .i32, 1, 4, .int .i32 0⟩)]
noncomputable abbrev P : Program := Go.Proofs.Try.prog
def T : Tab := tabOf tab
theorem tabOk : TabOk P T := TabOk.of tab (by kernel_rfl)
theorem mixed : P.follows .mixedOrders = true := by kernel_rfl
end Go.Ev.N

