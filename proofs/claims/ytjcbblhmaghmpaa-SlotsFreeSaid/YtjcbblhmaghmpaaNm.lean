/- Numbers of this seat, by name. Printed by names.py. -/
import Derived.Test.YtjcbblhmaghmpaaChecked
import Derived.Test.YtjcbblhmaghmpaaEvOpen
import Derived.KernelRfl
set_option linter.unusedVariables false
set_option linter.unusedSimpArgs false
namespace Go.Ev.N
open Go.Ev
abbrev law5_TreeAll : Nat := 3
noncomputable abbrev law5_TreeAll_fn : Func := Go.Proofs.Try.f3
abbrev law5_TreeGlance : Nat := 4
noncomputable abbrev law5_TreeGlance_fn : Func := Go.Proofs.Try.f4
abbrev law5_TreeForms : Nat := 5
noncomputable abbrev law5_TreeForms_fn : Func := Go.Proofs.Try.f5
abbrev law5_TreeRow : Nat := 6
noncomputable abbrev law5_TreeRow_fn : Func := Go.Proofs.Try.f6
abbrev law9_SlotsAll : Nat := 7
noncomputable abbrev law9_SlotsAll_fn : Func := Go.Proofs.Try.f7
abbrev law9_SlotsMay : Nat := 8
noncomputable abbrev law9_SlotsMay_fn : Func := Go.Proofs.Try.f8
abbrev law9_SlotsFree : Nat := 9
noncomputable abbrev law9_SlotsFree_fn : Func := Go.Proofs.Try.f9
abbrev law9_SlotsForms : Nat := 10
noncomputable abbrev law9_SlotsForms_fn : Func := Go.Proofs.Try.f10
abbrev law9_SlotsLess : Nat := 11
noncomputable abbrev law9_SlotsLess_fn : Func := Go.Proofs.Try.f11
abbrev law5_begun : Nat := 12
noncomputable abbrev law5_begun_fn : Func := Go.Proofs.Try.f12
abbrev mk_Made : Nat := 13
noncomputable abbrev mk_Made_fn : Func := Go.Proofs.Try.f13
abbrev mk_Picks_Tree : Nat := 14
noncomputable abbrev mk_Picks_Tree_fn : Func := Go.Proofs.Try.f14
abbrev law5_size : Nat := 15
noncomputable abbrev law5_size_fn : Func := Go.Proofs.Try.f15
abbrev tree_FirstZero : Nat := 16
noncomputable abbrev tree_FirstZero_fn : Func := Go.Proofs.Try.f16
abbrev ref3_First : Nat := 17
noncomputable abbrev ref3_First_fn : Func := Go.Proofs.Try.f17
abbrev ref3_Has : Nat := 18
noncomputable abbrev ref3_Has_fn : Func := Go.Proofs.Try.f18
abbrev tree_Has : Nat := 19
noncomputable abbrev tree_Has_fn : Func := Go.Proofs.Try.f19
abbrev ref3_SameTree : Nat := 20
noncomputable abbrev ref3_SameTree_fn : Func := Go.Proofs.Try.f20
abbrev tree_Set : Nat := 21
noncomputable abbrev tree_Set_fn : Func := Go.Proofs.Try.f21
abbrev ref3_SetTree : Nat := 22
noncomputable abbrev ref3_SetTree_fn : Func := Go.Proofs.Try.f22
abbrev tree_May : Nat := 23
noncomputable abbrev tree_May_fn : Func := Go.Proofs.Try.f23
abbrev tree_New : Nat := 24
noncomputable abbrev tree_New_fn : Func := Go.Proofs.Try.f24
abbrev ref3_Made : Nat := 25
noncomputable abbrev ref3_Made_fn : Func := Go.Proofs.Try.f25
abbrev law9_begun : Nat := 26
noncomputable abbrev law9_begun_fn : Func := Go.Proofs.Try.f26
abbrev law9_Used : Nat := 27
noncomputable abbrev law9_Used_fn : Func := Go.Proofs.Try.f27
abbrev slots_Lowest : Nat := 28
noncomputable abbrev slots_Lowest_fn : Func := Go.Proofs.Try.f28
abbrev ref8_Lowest : Nat := 29
noncomputable abbrev ref8_Lowest_fn : Func := Go.Proofs.Try.f29
abbrev ref8_SameSlots : Nat := 30
noncomputable abbrev ref8_SameSlots_fn : Func := Go.Proofs.Try.f30
abbrev slots_Use : Nat := 31
noncomputable abbrev slots_Use_fn : Func := Go.Proofs.Try.f31
abbrev ref8_Use : Nat := 32
noncomputable abbrev ref8_Use_fn : Func := Go.Proofs.Try.f32
abbrev slots_May : Nat := 33
noncomputable abbrev slots_May_fn : Func := Go.Proofs.Try.f33
abbrev slots_New : Nat := 34
noncomputable abbrev slots_New_fn : Func := Go.Proofs.Try.f34
abbrev ref8_NewSlots : Nat := 35
noncomputable abbrev ref8_NewSlots_fn : Func := Go.Proofs.Try.f35
abbrev ref8_MaySlots : Nat := 36
noncomputable abbrev ref8_MaySlots_fn : Func := Go.Proofs.Try.f36
abbrev mk_Picks_Num : Nat := 37
noncomputable abbrev mk_Picks_Num_fn : Func := Go.Proofs.Try.f37
abbrev word_LowZero : Nat := 38
noncomputable abbrev word_LowZero_fn : Func := Go.Proofs.Try.f38
abbrev tree_at : Nat := 39
noncomputable abbrev tree_at_fn : Func := Go.Proofs.Try.f39
abbrev word_Mask : Nat := 40
noncomputable abbrev word_Mask_fn : Func := Go.Proofs.Try.f40
abbrev ref3_Bits : Nat := 41
noncomputable abbrev ref3_Bits_fn : Func := Go.Proofs.Try.f41
abbrev ref3_Bit : Nat := 42
noncomputable abbrev ref3_Bit_fn : Func := Go.Proofs.Try.f42
abbrev ref3_SameRow : Nat := 43
noncomputable abbrev ref3_SameRow_fn : Func := Go.Proofs.Try.f43
abbrev tree_twin : Nat := 44
noncomputable abbrev tree_twin_fn : Func := Go.Proofs.Try.f44
abbrev tree_put : Nat := 45
noncomputable abbrev tree_put_fn : Func := Go.Proofs.Try.f45
abbrev tree_sums : Nat := 46
noncomputable abbrev tree_sums_fn : Func := Go.Proofs.Try.f46
abbrev slices_EqualFunc_uint64_uint64_uint64_uint64 : Nat := 47
noncomputable abbrev slices_EqualFunc_uint64_uint64_uint64_uint64_fn : Func := Go.Proofs.Try.f47
abbrev slices_Equal_uint64_uint64 : Nat := 48
noncomputable abbrev slices_Equal_uint64_uint64_fn : Func := Go.Proofs.Try.f48
abbrev tree_level : Nat := 49
noncomputable abbrev tree_level_fn : Func := Go.Proofs.Try.f49
abbrev ref3_NewRow : Nat := 50
noncomputable abbrev ref3_NewRow_fn : Func := Go.Proofs.Try.f50
abbrev mk_Picks_Over : Nat := 51
noncomputable abbrev mk_Picks_Over_fn : Func := Go.Proofs.Try.f51
abbrev slots_twin : Nat := 52
noncomputable abbrev slots_twin_fn : Func := Go.Proofs.Try.f52
abbrev slots_taken : Nat := 53
noncomputable abbrev slots_taken_fn : Func := Go.Proofs.Try.f53
abbrev ref8_Of : Nat := 54
noncomputable abbrev ref8_Of_fn : Func := Go.Proofs.Try.f54
abbrev slots_above : Nat := 55
noncomputable abbrev slots_above_fn : Func := Go.Proofs.Try.f55
abbrev ref3_MayTree : Nat := 56
noncomputable abbrev ref3_MayTree_fn : Func := Go.Proofs.Try.f56
abbrev word_LowOne : Nat := 57
noncomputable abbrev word_LowOne_fn : Func := Go.Proofs.Try.f57
abbrev slices_Clone_uint64_uint64 : Nat := 58
noncomputable abbrev slices_Clone_uint64_uint64_fn : Func := Go.Proofs.Try.f58
abbrev slices_Clone_uint64_uint64_59 : Nat := 59
noncomputable abbrev slices_Clone_uint64_uint64_59_fn : Func := Go.Proofs.Try.f59
abbrev t_int64 : Nat := 2
abbrev t_int : Nat := 3
abbrev t_bool : Nat := 4
abbrev t_uint8 : Nat := 5
abbrev t_internal_abi_BoundsErrorCode : Nat := 6
abbrev t_runtime_boundsError : Nat := 8
abbrev t_string : Nat := 9
abbrev t_runtime_errorString : Nat := 10
abbrev t_runtime_plainError : Nat := 11
abbrev t_runtime_errorAddressString : Nat := 14
abbrev tp_runtime_TypeAssertionError : Nat := 15
abbrev tp_runtime_PanicNilError : Nat := 16
abbrev tp_abi_Type : Nat := 17
abbrev t_internal_runtime_maps_unhashableTypeError : Nat := 19
abbrev ts_uint8 : Nat := 22
abbrev t_uint16 : Nat := 23
abbrev tss_uint64 : Nat := 25
abbrev t_api_Tree : Nat := 27
abbrev tp_mk_Picks : Nat := 28
abbrev ts_int : Nat := 32
abbrev ts_uint64 : Nat := 36
abbrev ts_bool : Nat := 42
abbrev t_uint64 : Nat := 45
abbrev ts_3_uint8 : Nat := 46
abbrev tx_a200_bool : Nat := 47
abbrev tx_a3_uint8 : Nat := 48
abbrev ts_api_Tree : Nat := 50
abbrev t_api_Slots : Nat := 52
abbrev tx_a64_bool : Nat := 61
abbrev t_mk_Picks : Nat := 65
abbrev t_uint : Nat := 72
abbrev t_runtime_TypeAssertionError : Nat := 85
abbrev tx_a0_p_runtime_PanicNilError : Nat := 86
abbrev t_runtime_PanicNilError : Nat := 88
abbrev t_internal_abi_TFlag : Nat := 91
abbrev t_internal_abi_Kind : Nat := 92
abbrev tp_uint8 : Nat := 94
abbrev t_internal_abi_NameOff : Nat := 95
abbrev t_internal_abi_TypeOff : Nat := 96
abbrev t_internal_abi_Type : Nat := 98
def tab : List (Nat × TI) := [
  (1, ⟨.func, 1, 8, .und⟩),
  (2, ⟨.int .i64, 1, 8, .int .i64 0⟩),
  (3, ⟨.int .i64, 1, 8, .int .i64 0⟩),
  (4, ⟨.bool, 1, 1, .bool false⟩),
  (5, ⟨.int .u8, 1, 1, .int .u8 0⟩),
  (6, ⟨.int .u8, 1, 1, .int .u8 0⟩),
  (9, ⟨.str, 1, 16, .str .empty⟩),
  (10, ⟨.str, 1, 16, .str .empty⟩),
  (11, ⟨.str, 1, 16, .str .empty⟩),
  (12, ⟨.int .u64, 1, 8, .int .u64 0⟩),
  (15, ⟨.ptr 85, 1, 8, .npt⟩),
  (16, ⟨.ptr 88, 1, 8, .npt⟩),
  (17, ⟨.ptr 98, 1, 8, .npt⟩),
  (21, ⟨.int .i32, 1, 4, .int .i32 0⟩),
  (22, ⟨.slice 5, 1, 24, .nsl 5⟩),
  (23, ⟨.int .u16, 1, 2, .int .u16 0⟩),
  (24, ⟨.func, 1, 8, .und⟩),
  (25, ⟨.slice 36, 1, 24, .nsl 36⟩),
  (26, ⟨.struct [(0, 3), (1, 25)], 2, 32, .agg [.int .i64 0, .nsl 36]⟩),
  (27, ⟨.struct [(0, 3), (1, 25)], 2, 32, .agg [.int .i64 0, .nsl 36]⟩),
  (28, ⟨.ptr 65, 1, 8, .npt⟩),
  (29, ⟨.func, 1, 8, .und⟩),
  (30, ⟨.func, 1, 8, .und⟩),
  (31, ⟨.func, 1, 8, .und⟩),
  (32, ⟨.slice 3, 1, 24, .nsl 3⟩),
  (34, ⟨.func, 1, 8, .und⟩),
  (35, ⟨.func, 1, 8, .und⟩),
  (36, ⟨.slice 45, 1, 24, .nsl 45⟩),
  (37, ⟨.func, 1, 8, .und⟩),
  (38, ⟨.func, 1, 8, .und⟩),
  (39, ⟨.func, 1, 8, .und⟩),
  (40, ⟨.func, 1, 8, .und⟩),
  (41, ⟨.func, 1, 8, .und⟩),
  (42, ⟨.slice 4, 1, 24, .nsl 4⟩),
  (43, ⟨.func, 1, 8, .und⟩),
  (44, ⟨.func, 1, 8, .und⟩),
  (45, ⟨.int .u64, 1, 8, .int .u64 0⟩),
  (46, ⟨.slice 48, 1, 24, .nsl 48⟩),
  (47, ⟨.arr 200 4, 200, 200, .agg [.bool false, .bool false, .bool false, .bool false, .bool false, .bool false, .bool false, .bool false, .bool false, .bool false, .bool false, .bool false, .bool false, .bool false, .bool false, .bool false, .bool false, .bool false, .bool false, .bool false, .bool false, .bool false, .bool false, .bool false, .bool false, .bool false, .bool false, .bool false, .bool false, .bool false, .bool false, .bool false, .bool false, .bool false, .bool false, .bool false, .bool false, .bool false, .bool false, .bool false, .bool false, .bool false, .bool false, .bool false, .bool false, .bool false, .bool false, .bool false, .bool false, .bool false, .bool false, .bool false, .bool false, .bool false, .bool false, .bool false, .bool false, .bool false, .bool false, .bool false, .bool false, .bool false, .bool false, .bool false, .bool false, .bool false, .bool false, .bool false, .bool false, .bool false, .bool false, .bool false, .bool false, .bool false, .bool false, .bool false, .bool false, .bool false, .bool false, .bool false, .bool false, .bool false, .bool false, .bool false, .bool false, .bool false, .bool false, .bool false, .bool false, .bool false, .bool false, .bool false, .bool false, .bool false, .bool false, .bool false, .bool false, .bool false, .bool false, .bool false, .bool false, .bool false, .bool false, .bool false, .bool false, .bool false, .bool false, .bool false, .bool false, .bool false, .bool false, .bool false, .bool false, .bool false, .bool false, .bool false, .bool false, .bool false, .bool false, .bool false, .bool false, .bool false, .bool false, .bool false, .bool false, .bool false, .bool false, .bool false, .bool false, .bool false, .bool false, .bool false, .bool false, .bool false, .bool false, .bool false, .bool false, .bool false, .bool false, .bool false, .bool false, .bool false, .bool false, .bool false, .bool false, .bool false, .bool false, .bool false, .bool false, .bool false, .bool false, .bool false, .bool false, .bool false, .bool false, .bool false, .bool false, .bool false, .bool false, .bool false, .bool false, .bool false, .bool false, .bool false, .bool false, .bool false, .bool false, .bool false, .bool false, .bool false, .bool false, .bool false, .bool false, .bool false, .bool false, .bool false, .bool false, .bool false, .bool false, .bool false, .bool false, .bool false, .bool false, .bool false, .bool false, .bool false, .bool false, .bool false, .bool false, .bool false, .bool false, .bool false, .bool false, .bool false, .bool false, .bool false, .bool false, .bool false, .bool false, .bool false]⟩),
  (48, ⟨.arr 3 5, 3, 3, .agg [.int .u8 0, .int .u8 0, .int .u8 0]⟩),
  (49, ⟨.func, 1, 8, .und⟩),
  (50, ⟨.slice 27, 1, 24, .nsl 27⟩),
  (51, ⟨.struct [(0, 50)], 1, 24, .agg [.nsl 27]⟩),
  (52, ⟨.struct [(0, 50)], 1, 24, .agg [.nsl 27]⟩),
  (53, ⟨.func, 1, 8, .und⟩),
  (54, ⟨.func, 1, 8, .und⟩),
  (55, ⟨.func, 1, 8, .und⟩),
  (56, ⟨.func, 1, 8, .und⟩),
  (57, ⟨.func, 1, 8, .und⟩),
  (58, ⟨.func, 1, 8, .und⟩),
  (59, ⟨.func, 1, 8, .und⟩),
  (60, ⟨.func, 1, 8, .und⟩),
  (61, ⟨.arr 64 4, 64, 64, .agg [.bool false, .bool false, .bool false, .bool false, .bool false, .bool false, .bool false, .bool false, .bool false, .bool false, .bool false, .bool false, .bool false, .bool false, .bool false, .bool false, .bool false, .bool false, .bool false, .bool false, .bool false, .bool false, .bool false, .bool false, .bool false, .bool false, .bool false, .bool false, .bool false, .bool false, .bool false, .bool false, .bool false, .bool false, .bool false, .bool false, .bool false, .bool false, .bool false, .bool false, .bool false, .bool false, .bool false, .bool false, .bool false, .bool false, .bool false, .bool false, .bool false, .bool false, .bool false, .bool false, .bool false, .bool false, .bool false, .bool false, .bool false, .bool false, .bool false, .bool false, .bool false, .bool false, .bool false, .bool false]⟩),
  (62, ⟨.func, 1, 8, .und⟩),
  (63, ⟨.func, 1, 8, .und⟩),
  (64, ⟨.struct [(0, 22), (1, 3)], 2, 32, .agg [.nsl 5, .int .i64 0]⟩),
  (65, ⟨.struct [(0, 22), (1, 3)], 2, 32, .agg [.nsl 5, .int .i64 0]⟩),
  (66, ⟨.func, 1, 8, .und⟩),
  (67, ⟨.func, 1, 8, .und⟩),
  (68, ⟨.func, 1, 8, .und⟩),
  (69, ⟨.func, 1, 8, .und⟩),
  (70, ⟨.func, 1, 8, .und⟩),
  (71, ⟨.func, 1, 8, .und⟩),
  (72, ⟨.int .u64, 1, 8, .int .u64 0⟩),
  (73, ⟨.func, 1, 8, .und⟩),
  (74, ⟨.func, 1, 8, .und⟩),
  (75, ⟨.func, 1, 8, .und⟩),
  (76, ⟨.func, 1, 8, .und⟩),
  (77, ⟨.func, 1, 8, .und⟩),
  (78, ⟨.func, 1, 8, .und⟩),
  (79, ⟨.func, 1, 8, .und⟩),
  (80, ⟨.func, 1, 8, .und⟩),
  (81, ⟨.func, 1, 8, .und⟩),
  (82, ⟨.func, 1, 8, .und⟩),
  (83, ⟨.func, 1, 8, .und⟩),
  (89, ⟨.func, 1, 8, .und⟩),
  (90, ⟨.int .u32, 1, 4, .int .u32 0⟩),
  (91, ⟨.int .u8, 1, 1, .int .u8 0⟩),
  (92, ⟨.int .u8, 1, 1, .int .u8 0⟩),
  (93, ⟨.func, 1, 8, .und⟩),
  (94, ⟨.ptr 5, 1, 8, .npt⟩),
  (95, ⟨.int .i32, 1, 4, .int .i32 0⟩),
  (96, ⟨.int .i32, 1, 4, .int .i32 0⟩)]
noncomputable abbrev P : Program := Go.Proofs.Try.prog
def T : Tab := tabOf tab
theorem tabOk : TabOk P T := TabOk.of tab (by kernel_rfl)
theorem mixed : P.follows .mixedOrders = true := by kernel_rfl
end Go.Ev.N

