/- Part 7 of what the row leans on: abstract values and states, their rules, and the contracts of the functions. -/
import Derived.Test.YtejeemhenoobjaaProg
import Derived.Test.YtejeemhenoobjaaZW14P6
namespace Go.Proofs.Ytejeemhenoobjaa.Asl
open Go
theorem mixed : Try.prog.follows .mixedOrders = true := by kernel_rfl
@[simp] theorem isSl_0 : isSl Try.prog 0 = false := by kernel_rfl
@[simp] theorem tyI_1 : tyI Try.prog 1 = some (1, false) := by kernel_rfl
@[simp] theorem isSl_1 : isSl Try.prog 1 = false := by kernel_rfl
@[simp] theorem isStr_1 : isStr Try.prog 1 = false := by kernel_rfl
@[simp] theorem isBool_1 : isBool Try.prog 1 = false := by kernel_rfl
@[simp] theorem isPtr_1 : isPtr Try.prog 1 = false := by kernel_rfl
@[simp] theorem isIf_1 : isIf Try.prog 1 = false := by kernel_rfl
@[simp] theorem isIface_1 : isIface Try.prog 1 = false := by kernel_rfl
@[simp] theorem isArr_1 : isArr Try.prog 1 = false := by kernel_rfl
@[simp] theorem plainT_1 : plainT Try.prog 1 = false := by kernel_rfl
@[simp] theorem zAV_1 : zAV Try.prog 9 1 = .raw (.nilFunc) := by kernel_rfl
@[simp] theorem zeroIs_1 : zeroIs Try.prog 1 (.raw (.nilFunc)) := ⟨.nilFunc, by kernel_rfl, .inl ⟨rfl, rfl⟩⟩
@[simp] theorem tyI_2 : tyI Try.prog 2 = some (1, false) := by kernel_rfl
@[simp] theorem isSl_2 : isSl Try.prog 2 = false := by kernel_rfl
@[simp] theorem isStr_2 : isStr Try.prog 2 = false := by kernel_rfl
@[simp] theorem isBool_2 : isBool Try.prog 2 = false := by kernel_rfl
@[simp] theorem isPtr_2 : isPtr Try.prog 2 = false := by kernel_rfl
@[simp] theorem isIf_2 : isIf Try.prog 2 = false := by kernel_rfl
@[simp] theorem isIface_2 : isIface Try.prog 2 = false := by kernel_rfl
@[simp] theorem isArr_2 : isArr Try.prog 2 = false := by kernel_rfl
@[simp] theorem plainT_2 : plainT Try.prog 2 = true := by kernel_rfl
@[simp] theorem und_2 : Try.prog.underlying 2 = some (.int .i64) := by kernel_rfl
@[simp] theorem zAV_2 : zAV Try.prog 9 2 = .raw (.int .i64 0) := by kernel_rfl
@[simp] theorem zeroIs_2 : zeroIs Try.prog 2 (.raw (.int .i64 0)) := ⟨.int .i64 0, by kernel_rfl, .inl ⟨rfl, rfl⟩⟩
@[simp] theorem tyI_3 : tyI Try.prog 3 = some (1, false) := by kernel_rfl
@[simp] theorem isSl_3 : isSl Try.prog 3 = false := by kernel_rfl
@[simp] theorem isStr_3 : isStr Try.prog 3 = false := by kernel_rfl
@[simp] theorem isBool_3 : isBool Try.prog 3 = false := by kernel_rfl
@[simp] theorem isPtr_3 : isPtr Try.prog 3 = false := by kernel_rfl
@[simp] theorem isIf_3 : isIf Try.prog 3 = false := by kernel_rfl
@[simp] theorem isIface_3 : isIface Try.prog 3 = false := by kernel_rfl
@[simp] theorem isArr_3 : isArr Try.prog 3 = false := by kernel_rfl
@[simp] theorem plainT_3 : plainT Try.prog 3 = true := by kernel_rfl
@[simp] theorem und_3 : Try.prog.underlying 3 = some (.int .i64) := by kernel_rfl
@[simp] theorem zAV_3 : zAV Try.prog 9 3 = .raw (.int .i64 0) := by kernel_rfl
@[simp] theorem zeroIs_3 : zeroIs Try.prog 3 (.raw (.int .i64 0)) := ⟨.int .i64 0, by kernel_rfl, .inl ⟨rfl, rfl⟩⟩
@[simp] theorem tyI_4 : tyI Try.prog 4 = some (1, false) := by kernel_rfl
@[simp] theorem isSl_4 : isSl Try.prog 4 = false := by kernel_rfl
@[simp] theorem isStr_4 : isStr Try.prog 4 = false := by kernel_rfl
@[simp] theorem isBool_4 : isBool Try.prog 4 = true := by kernel_rfl
@[simp] theorem isPtr_4 : isPtr Try.prog 4 = false := by kernel_rfl
@[simp] theorem isIf_4 : isIf Try.prog 4 = false := by kernel_rfl
@[simp] theorem isIface_4 : isIface Try.prog 4 = false := by kernel_rfl
@[simp] theorem isArr_4 : isArr Try.prog 4 = false := by kernel_rfl
@[simp] theorem plainT_4 : plainT Try.prog 4 = true := by kernel_rfl
@[simp] theorem zAV_4 : zAV Try.prog 9 4 = .raw (.bool false) := by kernel_rfl
@[simp] theorem zeroIs_4 : zeroIs Try.prog 4 (.raw (.bool false)) := ⟨.bool false, by kernel_rfl, .inl ⟨rfl, rfl⟩⟩
@[simp] theorem tyI_5 : tyI Try.prog 5 = some (1, false) := by kernel_rfl
@[simp] theorem isSl_5 : isSl Try.prog 5 = false := by kernel_rfl
@[simp] theorem isStr_5 : isStr Try.prog 5 = false := by kernel_rfl
@[simp] theorem isBool_5 : isBool Try.prog 5 = false := by kernel_rfl
@[simp] theorem isPtr_5 : isPtr Try.prog 5 = false := by kernel_rfl
@[simp] theorem isIf_5 : isIf Try.prog 5 = false := by kernel_rfl
@[simp] theorem isIface_5 : isIface Try.prog 5 = false := by kernel_rfl
@[simp] theorem isArr_5 : isArr Try.prog 5 = false := by kernel_rfl
@[simp] theorem plainT_5 : plainT Try.prog 5 = true := by kernel_rfl
@[simp] theorem und_5 : Try.prog.underlying 5 = some (.int .u8) := by kernel_rfl
@[simp] theorem zAV_5 : zAV Try.prog 9 5 = .raw (.int .u8 0) := by kernel_rfl
@[simp] theorem zeroIs_5 : zeroIs Try.prog 5 (.raw (.int .u8 0)) := ⟨.int .u8 0, by kernel_rfl, .inl ⟨rfl, rfl⟩⟩
@[simp] theorem tyI_6 : tyI Try.prog 6 = some (1, false) := by kernel_rfl
@[simp] theorem isSl_6 : isSl Try.prog 6 = false := by kernel_rfl
@[simp] theorem isStr_6 : isStr Try.prog 6 = false := by kernel_rfl
@[simp] theorem isBool_6 : isBool Try.prog 6 = false := by kernel_rfl
@[simp] theorem isPtr_6 : isPtr Try.prog 6 = false := by kernel_rfl
@[simp] theorem isIf_6 : isIf Try.prog 6 = false := by kernel_rfl
@[simp] theorem isIface_6 : isIface Try.prog 6 = false := by kernel_rfl
@[simp] theorem isArr_6 : isArr Try.prog 6 = false := by kernel_rfl
@[simp] theorem plainT_6 : plainT Try.prog 6 = true := by kernel_rfl
@[simp] theorem und_6 : Try.prog.underlying 6 = some (.int .u8) := by kernel_rfl
@[simp] theorem zAV_6 : zAV Try.prog 9 6 = .raw (.int .u8 0) := by kernel_rfl
@[simp] theorem zeroIs_6 : zeroIs Try.prog 6 (.raw (.int .u8 0)) := ⟨.int .u8 0, by kernel_rfl, .inl ⟨rfl, rfl⟩⟩
@[simp] theorem tyI_7 : tyI Try.prog 7 = some (4, true) := by kernel_rfl
@[simp] theorem isSl_7 : isSl Try.prog 7 = false := by kernel_rfl
@[simp] theorem isStr_7 : isStr Try.prog 7 = false := by kernel_rfl
@[simp] theorem isBool_7 : isBool Try.prog 7 = false := by kernel_rfl
@[simp] theorem isPtr_7 : isPtr Try.prog 7 = false := by kernel_rfl
@[simp] theorem isIf_7 : isIf Try.prog 7 = false := by kernel_rfl
@[simp] theorem isIface_7 : isIface Try.prog 7 = false := by kernel_rfl
@[simp] theorem isArr_7 : isArr Try.prog 7 = false := by kernel_rfl
@[simp] theorem plainT_7 : plainT Try.prog 7 = true := by kernel_rfl
@[simp] theorem fldI_7_0 : fldI Try.prog 7 0 = some (0, 1, false) := by kernel_rfl
@[simp] theorem fldI_7_1 : fldI Try.prog 7 1 = some (1, 1, false) := by kernel_rfl
@[simp] theorem fldI_7_2 : fldI Try.prog 7 2 = some (2, 1, false) := by kernel_rfl
@[simp] theorem fldI_7_3 : fldI Try.prog 7 3 = some (3, 1, false) := by kernel_rfl
@[simp] theorem zAV_7 : zAV Try.prog 9 7 = .agg [.raw (.int .i64 0), .raw (.int .i64 0), .raw (.bool false), .raw (.int .u8 0)] := by kernel_rfl
@[simp] theorem zeroIs_7 : zeroIs Try.prog 7 (.agg [.raw (.int .i64 0), .raw (.int .i64 0), .raw (.bool false), .raw (.int .u8 0)]) := ⟨.agg #[.int .i64 0, .int .i64 0, .bool false, .int .u8 0], by kernel_rfl, .inr ⟨_, _, rfl, rfl, by kernel_rfl⟩⟩
@[simp] theorem layIs_7 : layIs Try.prog 7 [.raw (.int .i64 0), .raw (.int .i64 0), .raw (.bool false), .raw (.int .u8 0)] := layIs_of (by kernel_rfl)
@[simp] theorem tyI_8 : tyI Try.prog 8 = some (4, true) := by kernel_rfl
@[simp] theorem isSl_8 : isSl Try.prog 8 = false := by kernel_rfl
@[simp] theorem isStr_8 : isStr Try.prog 8 = false := by kernel_rfl
@[simp] theorem isBool_8 : isBool Try.prog 8 = false := by kernel_rfl
@[simp] theorem isPtr_8 : isPtr Try.prog 8 = false := by kernel_rfl
@[simp] theorem isIf_8 : isIf Try.prog 8 = false := by kernel_rfl
@[simp] theorem isIface_8 : isIface Try.prog 8 = false := by kernel_rfl
@[simp] theorem isArr_8 : isArr Try.prog 8 = false := by kernel_rfl
@[simp] theorem plainT_8 : plainT Try.prog 8 = true := by kernel_rfl
@[simp] theorem fldI_8_0 : fldI Try.prog 8 0 = some (0, 1, false) := by kernel_rfl
@[simp] theorem fldI_8_1 : fldI Try.prog 8 1 = some (1, 1, false) := by kernel_rfl
@[simp] theorem fldI_8_2 : fldI Try.prog 8 2 = some (2, 1, false) := by kernel_rfl
@[simp] theorem fldI_8_3 : fldI Try.prog 8 3 = some (3, 1, false) := by kernel_rfl
@[simp] theorem zAV_8 : zAV Try.prog 9 8 = .agg [.raw (.int .i64 0), .raw (.int .i64 0), .raw (.bool false), .raw (.int .u8 0)] := by kernel_rfl
@[simp] theorem zeroIs_8 : zeroIs Try.prog 8 (.agg [.raw (.int .i64 0), .raw (.int .i64 0), .raw (.bool false), .raw (.int .u8 0)]) := ⟨.agg #[.int .i64 0, .int .i64 0, .bool false, .int .u8 0], by kernel_rfl, .inr ⟨_, _, rfl, rfl, by kernel_rfl⟩⟩
@[simp] theorem layIs_8 : layIs Try.prog 8 [.raw (.int .i64 0), .raw (.int .i64 0), .raw (.bool false), .raw (.int .u8 0)] := layIs_of (by kernel_rfl)
@[simp] theorem tyI_9 : tyI Try.prog 9 = some (1, false) := by kernel_rfl
@[simp] theorem isSl_9 : isSl Try.prog 9 = false := by kernel_rfl
@[simp] theorem isStr_9 : isStr Try.prog 9 = true := by kernel_rfl
@[simp] theorem isBool_9 : isBool Try.prog 9 = false := by kernel_rfl
@[simp] theorem isPtr_9 : isPtr Try.prog 9 = false := by kernel_rfl
@[simp] theorem isIf_9 : isIf Try.prog 9 = false := by kernel_rfl
@[simp] theorem isIface_9 : isIface Try.prog 9 = false := by kernel_rfl
@[simp] theorem isArr_9 : isArr Try.prog 9 = false := by kernel_rfl
@[simp] theorem plainT_9 : plainT Try.prog 9 = true := by kernel_rfl
@[simp] theorem und_9 : Try.prog.underlying 9 = some .string := by kernel_rfl
@[simp] theorem zAV_9 : zAV Try.prog 9 9 = .raw (.string ⟨#[]⟩) := by kernel_rfl
@[simp] theorem zeroIs_9 : zeroIs Try.prog 9 (.raw (.string ⟨#[]⟩)) := ⟨.string ⟨#[]⟩, by kernel_rfl, .inl ⟨rfl, rfl⟩⟩
@[simp] theorem tyI_10 : tyI Try.prog 10 = some (1, false) := by kernel_rfl
@[simp] theorem isSl_10 : isSl Try.prog 10 = false := by kernel_rfl
@[simp] theorem isStr_10 : isStr Try.prog 10 = true := by kernel_rfl
@[simp] theorem isBool_10 : isBool Try.prog 10 = false := by kernel_rfl
@[simp] theorem isPtr_10 : isPtr Try.prog 10 = false := by kernel_rfl
@[simp] theorem isIf_10 : isIf Try.prog 10 = false := by kernel_rfl
@[simp] theorem isIface_10 : isIface Try.prog 10 = false := by kernel_rfl
@[simp] theorem isArr_10 : isArr Try.prog 10 = false := by kernel_rfl
@[simp] theorem plainT_10 : plainT Try.prog 10 = true := by kernel_rfl
@[simp] theorem und_10 : Try.prog.underlying 10 = some .string := by kernel_rfl
@[simp] theorem zAV_10 : zAV Try.prog 9 10 = .raw (.string ⟨#[]⟩) := by kernel_rfl
@[simp] theorem zeroIs_10 : zeroIs Try.prog 10 (.raw (.string ⟨#[]⟩)) := ⟨.string ⟨#[]⟩, by kernel_rfl, .inl ⟨rfl, rfl⟩⟩
@[simp] theorem tyI_11 : tyI Try.prog 11 = some (1, false) := by kernel_rfl
@[simp] theorem isSl_11 : isSl Try.prog 11 = false := by kernel_rfl
@[simp] theorem isStr_11 : isStr Try.prog 11 = true := by kernel_rfl
@[simp] theorem isBool_11 : isBool Try.prog 11 = false := by kernel_rfl
@[simp] theorem isPtr_11 : isPtr Try.prog 11 = false := by kernel_rfl
@[simp] theorem isIf_11 : isIf Try.prog 11 = false := by kernel_rfl
@[simp] theorem isIface_11 : isIface Try.prog 11 = false := by kernel_rfl
@[simp] theorem isArr_11 : isArr Try.prog 11 = false := by kernel_rfl
@[simp] theorem plainT_11 : plainT Try.prog 11 = true := by kernel_rfl
@[simp] theorem und_11 : Try.prog.underlying 11 = some .string := by kernel_rfl
@[simp] theorem zAV_11 : zAV Try.prog 9 11 = .raw (.string ⟨#[]⟩) := by kernel_rfl
@[simp] theorem zeroIs_11 : zeroIs Try.prog 11 (.raw (.string ⟨#[]⟩)) := ⟨.string ⟨#[]⟩, by kernel_rfl, .inl ⟨rfl, rfl⟩⟩
@[simp] theorem tyI_12 : tyI Try.prog 12 = some (1, false) := by kernel_rfl
@[simp] theorem isSl_12 : isSl Try.prog 12 = false := by kernel_rfl
@[simp] theorem isStr_12 : isStr Try.prog 12 = false := by kernel_rfl
@[simp] theorem isBool_12 : isBool Try.prog 12 = false := by kernel_rfl
@[simp] theorem isPtr_12 : isPtr Try.prog 12 = false := by kernel_rfl
@[simp] theorem isIf_12 : isIf Try.prog 12 = false := by kernel_rfl
@[simp] theorem isIface_12 : isIface Try.prog 12 = false := by kernel_rfl
@[simp] theorem isArr_12 : isArr Try.prog 12 = false := by kernel_rfl
@[simp] theorem plainT_12 : plainT Try.prog 12 = true := by kernel_rfl
@[simp] theorem und_12 : Try.prog.underlying 12 = some (.int .u64) := by kernel_rfl
@[simp] theorem zAV_12 : zAV Try.prog 9 12 = .raw (.int .u64 0) := by kernel_rfl
@[simp] theorem zeroIs_12 : zeroIs Try.prog 12 (.raw (.int .u64 0)) := ⟨.int .u64 0, by kernel_rfl, .inl ⟨rfl, rfl⟩⟩
@[simp] theorem tyI_13 : tyI Try.prog 13 = some (2, true) := by kernel_rfl
@[simp] theorem isSl_13 : isSl Try.prog 13 = false := by kernel_rfl
@[simp] theorem isStr_13 : isStr Try.prog 13 = false := by kernel_rfl
@[simp] theorem isBool_13 : isBool Try.prog 13 = false := by kernel_rfl
@[simp] theorem isPtr_13 : isPtr Try.prog 13 = false := by kernel_rfl
@[simp] theorem isIf_13 : isIf Try.prog 13 = false := by kernel_rfl
@[simp] theorem isIface_13 : isIface Try.prog 13 = false := by kernel_rfl
@[simp] theorem isArr_13 : isArr Try.prog 13 = false := by kernel_rfl
@[simp] theorem plainT_13 : plainT Try.prog 13 = true := by kernel_rfl
@[simp] theorem fldI_13_0 : fldI Try.prog 13 0 = some (0, 1, false) := by kernel_rfl
@[simp] theorem fldI_13_1 : fldI Try.prog 13 1 = some (1, 1, false) := by kernel_rfl
@[simp] theorem zAV_13 : zAV Try.prog 9 13 = .agg [.raw (.string ⟨#[]⟩), .raw (.int .u64 0)] := by kernel_rfl
@[simp] theorem zeroIs_13 : zeroIs Try.prog 13 (.agg [.raw (.string ⟨#[]⟩), .raw (.int .u64 0)]) := ⟨.agg #[.string ⟨#[]⟩, .int .u64 0], by kernel_rfl, .inr ⟨_, _, rfl, rfl, by kernel_rfl⟩⟩
@[simp] theorem layIs_13 : layIs Try.prog 13 [.raw (.string ⟨#[]⟩), .raw (.int .u64 0)] := layIs_of (by kernel_rfl)
@[simp] theorem tyI_14 : tyI Try.prog 14 = some (2, true) := by kernel_rfl
@[simp] theorem isSl_14 : isSl Try.prog 14 = false := by kernel_rfl
@[simp] theorem isStr_14 : isStr Try.prog 14 = false := by kernel_rfl
@[simp] theorem isBool_14 : isBool Try.prog 14 = false := by kernel_rfl
@[simp] theorem isPtr_14 : isPtr Try.prog 14 = false := by kernel_rfl
@[simp] theorem isIf_14 : isIf Try.prog 14 = false := by kernel_rfl
@[simp] theorem isIface_14 : isIface Try.prog 14 = false := by kernel_rfl
@[simp] theorem isArr_14 : isArr Try.prog 14 = false := by kernel_rfl
@[simp] theorem plainT_14 : plainT Try.prog 14 = true := by kernel_rfl
@[simp] theorem fldI_14_0 : fldI Try.prog 14 0 = some (0, 1, false) := by kernel_rfl
@[simp] theorem fldI_14_1 : fldI Try.prog 14 1 = some (1, 1, false) := by kernel_rfl
@[simp] theorem zAV_14 : zAV Try.prog 9 14 = .agg [.raw (.string ⟨#[]⟩), .raw (.int .u64 0)] := by kernel_rfl
@[simp] theorem zeroIs_14 : zeroIs Try.prog 14 (.agg [.raw (.string ⟨#[]⟩), .raw (.int .u64 0)]) := ⟨.agg #[.string ⟨#[]⟩, .int .u64 0], by kernel_rfl, .inr ⟨_, _, rfl, rfl, by kernel_rfl⟩⟩
@[simp] theorem layIs_14 : layIs Try.prog 14 [.raw (.string ⟨#[]⟩), .raw (.int .u64 0)] := layIs_of (by kernel_rfl)
@[simp] theorem tyI_15 : tyI Try.prog 15 = some (1, false) := by kernel_rfl
@[simp] theorem isSl_15 : isSl Try.prog 15 = false := by kernel_rfl
@[simp] theorem isStr_15 : isStr Try.prog 15 = false := by kernel_rfl
@[simp] theorem isBool_15 : isBool Try.prog 15 = false := by kernel_rfl
@[simp] theorem isPtr_15 : isPtr Try.prog 15 = true := by kernel_rfl
@[simp] theorem isIf_15 : isIf Try.prog 15 = false := by kernel_rfl
@[simp] theorem isIface_15 : isIface Try.prog 15 = false := by kernel_rfl
@[simp] theorem isArr_15 : isArr Try.prog 15 = false := by kernel_rfl
@[simp] theorem plainT_15 : plainT Try.prog 15 = false := by kernel_rfl
@[simp] theorem zAV_15 : zAV Try.prog 9 15 = .raw (.pointer none) := by kernel_rfl
@[simp] theorem zeroIs_15 : zeroIs Try.prog 15 (.raw (.pointer none)) := ⟨.pointer none, by kernel_rfl, .inl ⟨rfl, rfl⟩⟩
@[simp] theorem tyI_16 : tyI Try.prog 16 = some (1, false) := by kernel_rfl
@[simp] theorem isSl_16 : isSl Try.prog 16 = false := by kernel_rfl
@[simp] theorem isStr_16 : isStr Try.prog 16 = false := by kernel_rfl
@[simp] theorem isBool_16 : isBool Try.prog 16 = false := by kernel_rfl
@[simp] theorem isPtr_16 : isPtr Try.prog 16 = true := by kernel_rfl
@[simp] theorem isIf_16 : isIf Try.prog 16 = false := by kernel_rfl
@[simp] theorem isIface_16 : isIface Try.prog 16 = false := by kernel_rfl
@[simp] theorem isArr_16 : isArr Try.prog 16 = false := by kernel_rfl
@[simp] theorem plainT_16 : plainT Try.prog 16 = false := by kernel_rfl
@[simp] theorem zAV_16 : zAV Try.prog 9 16 = .raw (.pointer none) := by kernel_rfl
@[simp] theorem zeroIs_16 : zeroIs Try.prog 16 (.raw (.pointer none)) := ⟨.pointer none, by kernel_rfl, .inl ⟨rfl, rfl⟩⟩
@[simp] theorem tyI_17 : tyI Try.prog 17 = some (1, false) := by kernel_rfl
@[simp] theorem isSl_17 : isSl Try.prog 17 = false := by kernel_rfl
@[simp] theorem isStr_17 : isStr Try.prog 17 = false := by kernel_rfl
@[simp] theorem isBool_17 : isBool Try.prog 17 = false := by kernel_rfl
@[simp] theorem isPtr_17 : isPtr Try.prog 17 = true := by kernel_rfl
@[simp] theorem isIf_17 : isIf Try.prog 17 = false := by kernel_rfl
@[simp] theorem isIface_17 : isIface Try.prog 17 = false := by kernel_rfl
@[simp] theorem isArr_17 : isArr Try.prog 17 = false := by kernel_rfl
@[simp] theorem plainT_17 : plainT Try.prog 17 = false := by kernel_rfl
@[simp] theorem zAV_17 : zAV Try.prog 9 17 = .raw (.pointer none) := by kernel_rfl
@[simp] theorem zeroIs_17 : zeroIs Try.prog 17 (.raw (.pointer none)) := ⟨.pointer none, by kernel_rfl, .inl ⟨rfl, rfl⟩⟩
@[simp] theorem tyI_18 : tyI Try.prog 18 = some (1, true) := by kernel_rfl
@[simp] theorem isSl_18 : isSl Try.prog 18 = false := by kernel_rfl
@[simp] theorem isStr_18 : isStr Try.prog 18 = false := by kernel_rfl
@[simp] theorem isBool_18 : isBool Try.prog 18 = false := by kernel_rfl
@[simp] theorem isPtr_18 : isPtr Try.prog 18 = false := by kernel_rfl
@[simp] theorem isIf_18 : isIf Try.prog 18 = false := by kernel_rfl
@[simp] theorem isIface_18 : isIface Try.prog 18 = false := by kernel_rfl
@[simp] theorem isArr_18 : isArr Try.prog 18 = false := by kernel_rfl
@[simp] theorem plainT_18 : plainT Try.prog 18 = false := by kernel_rfl
@[simp] theorem fldI_18_0 : fldI Try.prog 18 0 = some (0, 1, false) := by kernel_rfl
@[simp] theorem zAV_18 : zAV Try.prog 9 18 = .agg [.raw (.pointer none)] := by kernel_rfl
@[simp] theorem zeroIs_18 : zeroIs Try.prog 18 (.agg [.raw (.pointer none)]) := ⟨.agg #[.pointer none], by kernel_rfl, .inr ⟨_, _, rfl, rfl, by kernel_rfl⟩⟩
@[simp] theorem layIs_18 : layIs Try.prog 18 [.raw (.pointer none)] := layIs_of (by kernel_rfl)
@[simp] theorem tyI_19 : tyI Try.prog 19 = some (1, true) := by kernel_rfl
@[simp] theorem isSl_19 : isSl Try.prog 19 = false := by kernel_rfl
@[simp] theorem isStr_19 : isStr Try.prog 19 = false := by kernel_rfl
@[simp] theorem isBool_19 : isBool Try.prog 19 = false := by kernel_rfl
@[simp] theorem isPtr_19 : isPtr Try.prog 19 = false := by kernel_rfl
@[simp] theorem isIf_19 : isIf Try.prog 19 = false := by kernel_rfl
@[simp] theorem isIface_19 : isIface Try.prog 19 = false := by kernel_rfl
@[simp] theorem isArr_19 : isArr Try.prog 19 = false := by kernel_rfl
@[simp] theorem plainT_19 : plainT Try.prog 19 = false := by kernel_rfl
@[simp] theorem fldI_19_0 : fldI Try.prog 19 0 = some (0, 1, false) := by kernel_rfl
@[simp] theorem zAV_19 : zAV Try.prog 9 19 = .agg [.raw (.pointer none)] := by kernel_rfl
@[simp] theorem zeroIs_19 : zeroIs Try.prog 19 (.agg [.raw (.pointer none)]) := ⟨.agg #[.pointer none], by kernel_rfl, .inr ⟨_, _, rfl, rfl, by kernel_rfl⟩⟩
@[simp] theorem layIs_19 : layIs Try.prog 19 [.raw (.pointer none)] := layIs_of (by kernel_rfl)
@[simp] theorem tyI_20 : tyI Try.prog 20 = some (1, false) := by kernel_rfl
@[simp] theorem isSl_20 : isSl Try.prog 20 = false := by kernel_rfl
@[simp] theorem isStr_20 : isStr Try.prog 20 = false := by kernel_rfl
@[simp] theorem isBool_20 : isBool Try.prog 20 = false := by kernel_rfl
@[simp] theorem isPtr_20 : isPtr Try.prog 20 = false := by kernel_rfl
@[simp] theorem isIf_20 : isIf Try.prog 20 = true := by kernel_rfl
@[simp] theorem isIface_20 : isIface Try.prog 20 = true := by kernel_rfl
@[simp] theorem isArr_20 : isArr Try.prog 20 = false := by kernel_rfl
@[simp] theorem plainT_20 : plainT Try.prog 20 = false := by kernel_rfl
@[simp] theorem zAV_20 : zAV Try.prog 9 20 = .raw (.nilIface) := by kernel_rfl
@[simp] theorem zeroIs_20 : zeroIs Try.prog 20 (.raw (.nilIface)) := ⟨.nilIface, by kernel_rfl, .inl ⟨rfl, rfl⟩⟩
@[simp] theorem tyI_21 : tyI Try.prog 21 = some (1, false) := by kernel_rfl
@[simp] theorem isSl_21 : isSl Try.prog 21 = false := by kernel_rfl
@[simp] theorem isStr_21 : isStr Try.prog 21 = false := by kernel_rfl
@[simp] theorem isBool_21 : isBool Try.prog 21 = false := by kernel_rfl
@[simp] theorem isPtr_21 : isPtr Try.prog 21 = false := by kernel_rfl
@[simp] theorem isIf_21 : isIf Try.prog 21 = false := by kernel_rfl
@[simp] theorem isIface_21 : isIface Try.prog 21 = false := by kernel_rfl
@[simp] theorem isArr_21 : isArr Try.prog 21 = false := by kernel_rfl
@[simp] theorem plainT_21 : plainT Try.prog 21 = true := by kernel_rfl
@[simp] theorem und_21 : Try.prog.underlying 21 = some (.int .i32) := by kernel_rfl
@[simp] theorem zAV_21 : zAV Try.prog 9 21 = .raw (.int .i32 0) := by kernel_rfl
@[simp] theorem zeroIs_21 : zeroIs Try.prog 21 (.raw (.int .i32 0)) := ⟨.int .i32 0, by kernel_rfl, .inl ⟨rfl, rfl⟩⟩
@[simp] theorem tyI_22 : tyI Try.prog 22 = some (1, false) := by kernel_rfl
@[simp] theorem isSl_22 : isSl Try.prog 22 = true := by kernel_rfl
@[simp] theorem isStr_22 : isStr Try.prog 22 = false := by kernel_rfl
@[simp] theorem isBool_22 : isBool Try.prog 22 = false := by kernel_rfl
@[simp] theorem isPtr_22 : isPtr Try.prog 22 = false := by kernel_rfl
@[simp] theorem isIf_22 : isIf Try.prog 22 = false := by kernel_rfl
@[simp] theorem isIface_22 : isIface Try.prog 22 = false := by kernel_rfl
@[simp] theorem isArr_22 : isArr Try.prog 22 = false := by kernel_rfl
@[simp] theorem plainT_22 : plainT Try.prog 22 = false := by kernel_rfl
@[simp] theorem rowI_22 : rowI Try.prog 22 = some (40, 8, 96) := by kernel_rfl
@[simp] theorem zAV_22 : zAV Try.prog 9 22 = .raw (.slice none 0 0) := by kernel_rfl
@[simp] theorem zeroIs_22 : zeroIs Try.prog 22 (.raw (.slice none 0 0)) := ⟨.slice none 0 0, by kernel_rfl, .inl ⟨rfl, rfl⟩⟩
@[simp] theorem tyI_23 : tyI Try.prog 23 = some (1, false) := by kernel_rfl
@[simp] theorem isSl_23 : isSl Try.prog 23 = true := by kernel_rfl
@[simp] theorem isStr_23 : isStr Try.prog 23 = false := by kernel_rfl
@[simp] theorem isBool_23 : isBool Try.prog 23 = false := by kernel_rfl
@[simp] theorem isPtr_23 : isPtr Try.prog 23 = false := by kernel_rfl
@[simp] theorem isIf_23 : isIf Try.prog 23 = false := by kernel_rfl
@[simp] theorem isIface_23 : isIface Try.prog 23 = false := by kernel_rfl
@[simp] theorem isArr_23 : isArr Try.prog 23 = false := by kernel_rfl
@[simp] theorem plainT_23 : plainT Try.prog 23 = false := by kernel_rfl
@[simp] theorem rowI_23 : rowI Try.prog 23 = some (42, 4, 40) := by kernel_rfl
@[simp] theorem zAV_23 : zAV Try.prog 9 23 = .raw (.slice none 0 0) := by kernel_rfl
@[simp] theorem zeroIs_23 : zeroIs Try.prog 23 (.raw (.slice none 0 0)) := ⟨.slice none 0 0, by kernel_rfl, .inl ⟨rfl, rfl⟩⟩
@[simp] theorem tyI_24 : tyI Try.prog 24 = some (3, true) := by kernel_rfl
@[simp] theorem isSl_24 : isSl Try.prog 24 = false := by kernel_rfl
@[simp] theorem isStr_24 : isStr Try.prog 24 = false := by kernel_rfl
@[simp] theorem isBool_24 : isBool Try.prog 24 = false := by kernel_rfl
@[simp] theorem isPtr_24 : isPtr Try.prog 24 = false := by kernel_rfl
@[simp] theorem isIf_24 : isIf Try.prog 24 = false := by kernel_rfl
@[simp] theorem isIface_24 : isIface Try.prog 24 = false := by kernel_rfl
@[simp] theorem isArr_24 : isArr Try.prog 24 = false := by kernel_rfl
@[simp] theorem plainT_24 : plainT Try.prog 24 = false := by kernel_rfl
@[simp] theorem fldI_24_0 : fldI Try.prog 24 0 = some (0, 1, false) := by kernel_rfl
@[simp] theorem fldI_24_1 : fldI Try.prog 24 1 = some (1, 1, false) := by kernel_rfl
@[simp] theorem fldI_24_2 : fldI Try.prog 24 2 = some (2, 1, false) := by kernel_rfl
@[simp] theorem zAV_24 : zAV Try.prog 9 24 = .agg [.raw (.string ⟨#[]⟩), .raw (.slice none 0 0), .raw (.slice none 0 0)] := by kernel_rfl
@[simp] theorem zeroIs_24 : zeroIs Try.prog 24 (.agg [.raw (.string ⟨#[]⟩), .raw (.slice none 0 0), .raw (.slice none 0 0)]) := ⟨.agg #[.string ⟨#[]⟩, .slice none 0 0, .slice none 0 0], by kernel_rfl, .inr ⟨_, _, rfl, rfl, by kernel_rfl⟩⟩
@[simp] theorem layIs_24 : layIs Try.prog 24 [.raw (.string ⟨#[]⟩), .raw (.slice none 0 0), .raw (.slice none 0 0)] := layIs_of (by kernel_rfl)
@[simp] theorem tyI_25 : tyI Try.prog 25 = some (3, true) := by kernel_rfl
@[simp] theorem isSl_25 : isSl Try.prog 25 = false := by kernel_rfl
@[simp] theorem isStr_25 : isStr Try.prog 25 = false := by kernel_rfl
@[simp] theorem isBool_25 : isBool Try.prog 25 = false := by kernel_rfl
@[simp] theorem isPtr_25 : isPtr Try.prog 25 = false := by kernel_rfl
@[simp] theorem isIf_25 : isIf Try.prog 25 = false := by kernel_rfl
@[simp] theorem isIface_25 : isIface Try.prog 25 = false := by kernel_rfl
@[simp] theorem isArr_25 : isArr Try.prog 25 = false := by kernel_rfl
@[simp] theorem plainT_25 : plainT Try.prog 25 = false := by kernel_rfl
@[simp] theorem fldI_25_0 : fldI Try.prog 25 0 = some (0, 1, false) := by kernel_rfl
@[simp] theorem fldI_25_1 : fldI Try.prog 25 1 = some (1, 1, false) := by kernel_rfl
@[simp] theorem fldI_25_2 : fldI Try.prog 25 2 = some (2, 1, false) := by kernel_rfl
@[simp] theorem zAV_25 : zAV Try.prog 9 25 = .agg [.raw (.string ⟨#[]⟩), .raw (.slice none 0 0), .raw (.slice none 0 0)] := by kernel_rfl
@[simp] theorem zeroIs_25 : zeroIs Try.prog 25 (.agg [.raw (.string ⟨#[]⟩), .raw (.slice none 0 0), .raw (.slice none 0 0)]) := ⟨.agg #[.string ⟨#[]⟩, .slice none 0 0, .slice none 0 0], by kernel_rfl, .inr ⟨_, _, rfl, rfl, by kernel_rfl⟩⟩
@[simp] theorem layIs_25 : layIs Try.prog 25 [.raw (.string ⟨#[]⟩), .raw (.slice none 0 0), .raw (.slice none 0 0)] := layIs_of (by kernel_rfl)
@[simp] theorem tyI_26 : tyI Try.prog 26 = some (1, false) := by kernel_rfl
@[simp] theorem isSl_26 : isSl Try.prog 26 = false := by kernel_rfl
@[simp] theorem isStr_26 : isStr Try.prog 26 = false := by kernel_rfl
@[simp] theorem isBool_26 : isBool Try.prog 26 = false := by kernel_rfl
@[simp] theorem isPtr_26 : isPtr Try.prog 26 = false := by kernel_rfl
@[simp] theorem isIf_26 : isIf Try.prog 26 = false := by kernel_rfl
@[simp] theorem isIface_26 : isIface Try.prog 26 = false := by kernel_rfl
@[simp] theorem isArr_26 : isArr Try.prog 26 = false := by kernel_rfl
@[simp] theorem plainT_26 : plainT Try.prog 26 = false := by kernel_rfl
@[simp] theorem zAV_26 : zAV Try.prog 9 26 = .raw (.nilFunc) := by kernel_rfl
@[simp] theorem zeroIs_26 : zeroIs Try.prog 26 (.raw (.nilFunc)) := ⟨.nilFunc, by kernel_rfl, .inl ⟨rfl, rfl⟩⟩
@[simp] theorem tyI_27 : tyI Try.prog 27 = some (1, false) := by kernel_rfl
@[simp] theorem isSl_27 : isSl Try.prog 27 = false := by kernel_rfl
@[simp] theorem isStr_27 : isStr Try.prog 27 = false := by kernel_rfl
@[simp] theorem isBool_27 : isBool Try.prog 27 = false := by kernel_rfl
@[simp] theorem isPtr_27 : isPtr Try.prog 27 = false := by kernel_rfl
@[simp] theorem isIf_27 : isIf Try.prog 27 = false := by kernel_rfl
@[simp] theorem isIface_27 : isIface Try.prog 27 = false := by kernel_rfl
@[simp] theorem isArr_27 : isArr Try.prog 27 = false := by kernel_rfl
@[simp] theorem plainT_27 : plainT Try.prog 27 = false := by kernel_rfl
@[simp] theorem zAV_27 : zAV Try.prog 9 27 = .raw (.nilFunc) := by kernel_rfl
@[simp] theorem zeroIs_27 : zeroIs Try.prog 27 (.raw (.nilFunc)) := ⟨.nilFunc, by kernel_rfl, .inl ⟨rfl, rfl⟩⟩
@[simp] theorem tyI_28 : tyI Try.prog 28 = some (1, false) := by kernel_rfl
@[simp] theorem isSl_28 : isSl Try.prog 28 = true := by kernel_rfl
@[simp] theorem isStr_28 : isStr Try.prog 28 = false := by kernel_rfl
@[simp] theorem isBool_28 : isBool Try.prog 28 = false := by kernel_rfl
@[simp] theorem isPtr_28 : isPtr Try.prog 28 = false := by kernel_rfl
@[simp] theorem isIf_28 : isIf Try.prog 28 = false := by kernel_rfl
@[simp] theorem isIface_28 : isIface Try.prog 28 = false := by kernel_rfl
@[simp] theorem isArr_28 : isArr Try.prog 28 = false := by kernel_rfl
@[simp] theorem plainT_28 : plainT Try.prog 28 = false := by kernel_rfl
@[simp] theorem rowI_28 : rowI Try.prog 28 = some (5, 1, 1) := by kernel_rfl
@[simp] theorem zAV_28 : zAV Try.prog 9 28 = .raw (.slice none 0 0) := by kernel_rfl
@[simp] theorem zeroIs_28 : zeroIs Try.prog 28 (.raw (.slice none 0 0)) := ⟨.slice none 0 0, by kernel_rfl, .inl ⟨rfl, rfl⟩⟩
@[simp] theorem tyI_29 : tyI Try.prog 29 = some (1, false) := by kernel_rfl
@[simp] theorem isSl_29 : isSl Try.prog 29 = false := by kernel_rfl
@[simp] theorem isStr_29 : isStr Try.prog 29 = false := by kernel_rfl
@[simp] theorem isBool_29 : isBool Try.prog 29 = false := by kernel_rfl
@[simp] theorem isPtr_29 : isPtr Try.prog 29 = false := by kernel_rfl
@[simp] theorem isIf_29 : isIf Try.prog 29 = false := by kernel_rfl
@[simp] theorem isIface_29 : isIface Try.prog 29 = false := by kernel_rfl
@[simp] theorem isArr_29 : isArr Try.prog 29 = false := by kernel_rfl
@[simp] theorem plainT_29 : plainT Try.prog 29 = true := by kernel_rfl
@[simp] theorem und_29 : Try.prog.underlying 29 = some (.int .i64) := by kernel_rfl
@[simp] theorem zAV_29 : zAV Try.prog 9 29 = .raw (.int .i64 0) := by kernel_rfl
@[simp] theorem zeroIs_29 : zeroIs Try.prog 29 (.raw (.int .i64 0)) := ⟨.int .i64 0, by kernel_rfl, .inl ⟨rfl, rfl⟩⟩
@[simp] theorem isSl_30 : isSl Try.prog 30 = false := by kernel_rfl
@[simp] theorem tyI_31 : tyI Try.prog 31 = some (1, false) := by kernel_rfl
@[simp] theorem isSl_31 : isSl Try.prog 31 = false := by kernel_rfl
@[simp] theorem isStr_31 : isStr Try.prog 31 = false := by kernel_rfl
@[simp] theorem isBool_31 : isBool Try.prog 31 = false := by kernel_rfl
@[simp] theorem isPtr_31 : isPtr Try.prog 31 = false := by kernel_rfl
@[simp] theorem isIf_31 : isIf Try.prog 31 = false := by kernel_rfl
@[simp] theorem isIface_31 : isIface Try.prog 31 = false := by kernel_rfl
@[simp] theorem isArr_31 : isArr Try.prog 31 = false := by kernel_rfl
@[simp] theorem plainT_31 : plainT Try.prog 31 = false := by kernel_rfl
@[simp] theorem zAV_31 : zAV Try.prog 9 31 = .raw (.nilFunc) := by kernel_rfl
@[simp] theorem zeroIs_31 : zeroIs Try.prog 31 (.raw (.nilFunc)) := ⟨.nilFunc, by kernel_rfl, .inl ⟨rfl, rfl⟩⟩
@[simp] theorem tyI_32 : tyI Try.prog 32 = some (1, false) := by kernel_rfl
@[simp] theorem isSl_32 : isSl Try.prog 32 = false := by kernel_rfl
@[simp] theorem isStr_32 : isStr Try.prog 32 = false := by kernel_rfl
@[simp] theorem isBool_32 : isBool Try.prog 32 = false := by kernel_rfl
@[simp] theorem isPtr_32 : isPtr Try.prog 32 = false := by kernel_rfl
@[simp] theorem isIf_32 : isIf Try.prog 32 = false := by kernel_rfl
@[simp] theorem isIface_32 : isIface Try.prog 32 = false := by kernel_rfl
@[simp] theorem isArr_32 : isArr Try.prog 32 = false := by kernel_rfl
@[simp] theorem plainT_32 : plainT Try.prog 32 = false := by kernel_rfl
@[simp] theorem zAV_32 : zAV Try.prog 9 32 = .raw (.nilFunc) := by kernel_rfl
@[simp] theorem zeroIs_32 : zeroIs Try.prog 32 (.raw (.nilFunc)) := ⟨.nilFunc, by kernel_rfl, .inl ⟨rfl, rfl⟩⟩
@[simp] theorem tyI_33 : tyI Try.prog 33 = some (1, false) := by kernel_rfl
@[simp] theorem isSl_33 : isSl Try.prog 33 = false := by kernel_rfl
@[simp] theorem isStr_33 : isStr Try.prog 33 = false := by kernel_rfl
@[simp] theorem isBool_33 : isBool Try.prog 33 = false := by kernel_rfl
@[simp] theorem isPtr_33 : isPtr Try.prog 33 = false := by kernel_rfl
@[simp] theorem isIf_33 : isIf Try.prog 33 = true := by kernel_rfl
@[simp] theorem isIface_33 : isIface Try.prog 33 = true := by kernel_rfl
@[simp] theorem isArr_33 : isArr Try.prog 33 = false := by kernel_rfl
@[simp] theorem plainT_33 : plainT Try.prog 33 = false := by kernel_rfl
@[simp] theorem zAV_33 : zAV Try.prog 9 33 = .raw (.nilIface) := by kernel_rfl
@[simp] theorem zeroIs_33 : zeroIs Try.prog 33 (.raw (.nilIface)) := ⟨.nilIface, by kernel_rfl, .inl ⟨rfl, rfl⟩⟩
@[simp] theorem tyI_34 : tyI Try.prog 34 = some (1, false) := by kernel_rfl
@[simp] theorem isSl_34 : isSl Try.prog 34 = false := by kernel_rfl
@[simp] theorem isStr_34 : isStr Try.prog 34 = false := by kernel_rfl
@[simp] theorem isBool_34 : isBool Try.prog 34 = false := by kernel_rfl
@[simp] theorem isPtr_34 : isPtr Try.prog 34 = false := by kernel_rfl
@[simp] theorem isIf_34 : isIf Try.prog 34 = true := by kernel_rfl
@[simp] theorem isIface_34 : isIface Try.prog 34 = true := by kernel_rfl
@[simp] theorem isArr_34 : isArr Try.prog 34 = false := by kernel_rfl
@[simp] theorem plainT_34 : plainT Try.prog 34 = false := by kernel_rfl
@[simp] theorem zAV_34 : zAV Try.prog 9 34 = .raw (.nilIface) := by kernel_rfl
@[simp] theorem zeroIs_34 : zeroIs Try.prog 34 (.raw (.nilIface)) := ⟨.nilIface, by kernel_rfl, .inl ⟨rfl, rfl⟩⟩
@[simp] theorem isSl_35 : isSl Try.prog 35 = false := by kernel_rfl
@[simp] theorem tyI_36 : tyI Try.prog 36 = some (1, false) := by kernel_rfl
@[simp] theorem isSl_36 : isSl Try.prog 36 = false := by kernel_rfl
@[simp] theorem isStr_36 : isStr Try.prog 36 = false := by kernel_rfl
@[simp] theorem isBool_36 : isBool Try.prog 36 = false := by kernel_rfl
@[simp] theorem isPtr_36 : isPtr Try.prog 36 = false := by kernel_rfl
@[simp] theorem isIf_36 : isIf Try.prog 36 = false := by kernel_rfl
@[simp] theorem isIface_36 : isIface Try.prog 36 = false := by kernel_rfl
@[simp] theorem isArr_36 : isArr Try.prog 36 = false := by kernel_rfl
@[simp] theorem plainT_36 : plainT Try.prog 36 = false := by kernel_rfl
@[simp] theorem zAV_36 : zAV Try.prog 9 36 = .raw (.nilFunc) := by kernel_rfl
@[simp] theorem zeroIs_36 : zeroIs Try.prog 36 (.raw (.nilFunc)) := ⟨.nilFunc, by kernel_rfl, .inl ⟨rfl, rfl⟩⟩
@[simp] theorem tyI_37 : tyI Try.prog 37 = some (1, false) := by kernel_rfl
@[simp] theorem isSl_37 : isSl Try.prog 37 = false := by kernel_rfl
@[simp] theorem isStr_37 : isStr Try.prog 37 = false := by kernel_rfl
@[simp] theorem isBool_37 : isBool Try.prog 37 = false := by kernel_rfl
@[simp] theorem isPtr_37 : isPtr Try.prog 37 = false := by kernel_rfl
@[simp] theorem isIf_37 : isIf Try.prog 37 = false := by kernel_rfl
@[simp] theorem isIface_37 : isIface Try.prog 37 = false := by kernel_rfl
@[simp] theorem isArr_37 : isArr Try.prog 37 = false := by kernel_rfl
@[simp] theorem plainT_37 : plainT Try.prog 37 = false := by kernel_rfl
@[simp] theorem zAV_37 : zAV Try.prog 9 37 = .raw (.nilFunc) := by kernel_rfl
@[simp] theorem zeroIs_37 : zeroIs Try.prog 37 (.raw (.nilFunc)) := ⟨.nilFunc, by kernel_rfl, .inl ⟨rfl, rfl⟩⟩
@[simp] theorem tyI_38 : tyI Try.prog 38 = some (1, false) := by kernel_rfl
@[simp] theorem isSl_38 : isSl Try.prog 38 = false := by kernel_rfl
@[simp] theorem isStr_38 : isStr Try.prog 38 = false := by kernel_rfl
@[simp] theorem isBool_38 : isBool Try.prog 38 = false := by kernel_rfl
@[simp] theorem isPtr_38 : isPtr Try.prog 38 = false := by kernel_rfl
@[simp] theorem isIf_38 : isIf Try.prog 38 = false := by kernel_rfl
@[simp] theorem isIface_38 : isIface Try.prog 38 = false := by kernel_rfl
@[simp] theorem isArr_38 : isArr Try.prog 38 = false := by kernel_rfl
@[simp] theorem plainT_38 : plainT Try.prog 38 = false := by kernel_rfl
@[simp] theorem zAV_38 : zAV Try.prog 9 38 = .raw (.nilFunc) := by kernel_rfl
@[simp] theorem zeroIs_38 : zeroIs Try.prog 38 (.raw (.nilFunc)) := ⟨.nilFunc, by kernel_rfl, .inl ⟨rfl, rfl⟩⟩
@[simp] theorem tyI_39 : tyI Try.prog 39 = some (8, true) := by kernel_rfl
@[simp] theorem isSl_39 : isSl Try.prog 39 = false := by kernel_rfl
@[simp] theorem isStr_39 : isStr Try.prog 39 = false := by kernel_rfl
@[simp] theorem isBool_39 : isBool Try.prog 39 = false := by kernel_rfl
@[simp] theorem isPtr_39 : isPtr Try.prog 39 = false := by kernel_rfl
@[simp] theorem isIf_39 : isIf Try.prog 39 = false := by kernel_rfl
@[simp] theorem isIface_39 : isIface Try.prog 39 = false := by kernel_rfl
@[simp] theorem isArr_39 : isArr Try.prog 39 = false := by kernel_rfl
@[simp] theorem plainT_39 : plainT Try.prog 39 = true := by kernel_rfl
@[simp] theorem fldI_39_0 : fldI Try.prog 39 0 = some (0, 1, false) := by kernel_rfl
@[simp] theorem fldI_39_1 : fldI Try.prog 39 1 = some (1, 1, false) := by kernel_rfl
@[simp] theorem fldI_39_2 : fldI Try.prog 39 2 = some (2, 1, false) := by kernel_rfl
@[simp] theorem fldI_39_3 : fldI Try.prog 39 3 = some (3, 1, false) := by kernel_rfl
@[simp] theorem fldI_39_4 : fldI Try.prog 39 4 = some (4, 1, false) := by kernel_rfl
@[simp] theorem fldI_39_5 : fldI Try.prog 39 5 = some (5, 1, false) := by kernel_rfl
@[simp] theorem fldI_39_6 : fldI Try.prog 39 6 = some (6, 1, false) := by kernel_rfl
@[simp] theorem fldI_39_7 : fldI Try.prog 39 7 = some (7, 1, false) := by kernel_rfl
@[simp] theorem zAV_39 : zAV Try.prog 9 39 = .agg [.raw (.int .i64 0), .raw (.string ⟨#[]⟩), .raw (.int .i64 0), .raw (.string ⟨#[]⟩), .raw (.string ⟨#[]⟩), .raw (.string ⟨#[]⟩), .raw (.int .i64 0), .raw (.bool false)] := by kernel_rfl
@[simp] theorem zeroIs_39 : zeroIs Try.prog 39 (.agg [.raw (.int .i64 0), .raw (.string ⟨#[]⟩), .raw (.int .i64 0), .raw (.string ⟨#[]⟩), .raw (.string ⟨#[]⟩), .raw (.string ⟨#[]⟩), .raw (.int .i64 0), .raw (.bool false)]) := ⟨.agg #[.int .i64 0, .string ⟨#[]⟩, .int .i64 0, .string ⟨#[]⟩, .string ⟨#[]⟩, .string ⟨#[]⟩, .int .i64 0, .bool false], by kernel_rfl, .inr ⟨_, _, rfl, rfl, by kernel_rfl⟩⟩
@[simp] theorem layIs_39 : layIs Try.prog 39 [.raw (.int .i64 0), .raw (.string ⟨#[]⟩), .raw (.int .i64 0), .raw (.string ⟨#[]⟩), .raw (.string ⟨#[]⟩), .raw (.string ⟨#[]⟩), .raw (.int .i64 0), .raw (.bool false)] := layIs_of (by kernel_rfl)
@[simp] theorem tyI_40 : tyI Try.prog 40 = some (8, true) := by kernel_rfl
@[simp] theorem isSl_40 : isSl Try.prog 40 = false := by kernel_rfl
@[simp] theorem isStr_40 : isStr Try.prog 40 = false := by kernel_rfl
@[simp] theorem isBool_40 : isBool Try.prog 40 = false := by kernel_rfl
@[simp] theorem isPtr_40 : isPtr Try.prog 40 = false := by kernel_rfl
@[simp] theorem isIf_40 : isIf Try.prog 40 = false := by kernel_rfl
@[simp] theorem isIface_40 : isIface Try.prog 40 = false := by kernel_rfl
@[simp] theorem isArr_40 : isArr Try.prog 40 = false := by kernel_rfl
@[simp] theorem plainT_40 : plainT Try.prog 40 = true := by kernel_rfl
@[simp] theorem eqd_40 : eqd Try.prog 9 40 = some (.st [.i, .s, .i, .s, .s, .s, .i, .b]) := by kernel_rfl
@[simp] theorem guardless_40 : guardless Try.prog 40 = true := by kernel_rfl
@[simp] theorem fldI_40_0 : fldI Try.prog 40 0 = some (0, 1, false) := by kernel_rfl
@[simp] theorem fldI_40_1 : fldI Try.prog 40 1 = some (1, 1, false) := by kernel_rfl
@[simp] theorem fldI_40_2 : fldI Try.prog 40 2 = some (2, 1, false) := by kernel_rfl
@[simp] theorem fldI_40_3 : fldI Try.prog 40 3 = some (3, 1, false) := by kernel_rfl
@[simp] theorem fldI_40_4 : fldI Try.prog 40 4 = some (4, 1, false) := by kernel_rfl
@[simp] theorem fldI_40_5 : fldI Try.prog 40 5 = some (5, 1, false) := by kernel_rfl
@[simp] theorem fldI_40_6 : fldI Try.prog 40 6 = some (6, 1, false) := by kernel_rfl
@[simp] theorem fldI_40_7 : fldI Try.prog 40 7 = some (7, 1, false) := by kernel_rfl
@[simp] theorem zAV_40 : zAV Try.prog 9 40 = .agg [.raw (.int .i64 0), .raw (.string ⟨#[]⟩), .raw (.int .i64 0), .raw (.string ⟨#[]⟩), .raw (.string ⟨#[]⟩), .raw (.string ⟨#[]⟩), .raw (.int .i64 0), .raw (.bool false)] := by kernel_rfl
@[simp] theorem zeroIs_40 : zeroIs Try.prog 40 (.agg [.raw (.int .i64 0), .raw (.string ⟨#[]⟩), .raw (.int .i64 0), .raw (.string ⟨#[]⟩), .raw (.string ⟨#[]⟩), .raw (.string ⟨#[]⟩), .raw (.int .i64 0), .raw (.bool false)]) := ⟨.agg #[.int .i64 0, .string ⟨#[]⟩, .int .i64 0, .string ⟨#[]⟩, .string ⟨#[]⟩, .string ⟨#[]⟩, .int .i64 0, .bool false], by kernel_rfl, .inr ⟨_, _, rfl, rfl, by kernel_rfl⟩⟩
@[simp] theorem layIs_40 : layIs Try.prog 40 [.raw (.int .i64 0), .raw (.string ⟨#[]⟩), .raw (.int .i64 0), .raw (.string ⟨#[]⟩), .raw (.string ⟨#[]⟩), .raw (.string ⟨#[]⟩), .raw (.int .i64 0), .raw (.bool false)] := layIs_of (by kernel_rfl)
@[simp] theorem tyI_41 : tyI Try.prog 41 = some (4, true) := by kernel_rfl
@[simp] theorem isSl_41 : isSl Try.prog 41 = false := by kernel_rfl
@[simp] theorem isStr_41 : isStr Try.prog 41 = false := by kernel_rfl
@[simp] theorem isBool_41 : isBool Try.prog 41 = false := by kernel_rfl
@[simp] theorem isPtr_41 : isPtr Try.prog 41 = false := by kernel_rfl
@[simp] theorem isIf_41 : isIf Try.prog 41 = false := by kernel_rfl
@[simp] theorem isIface_41 : isIface Try.prog 41 = false := by kernel_rfl
@[simp] theorem isArr_41 : isArr Try.prog 41 = false := by kernel_rfl
@[simp] theorem plainT_41 : plainT Try.prog 41 = true := by kernel_rfl
@[simp] theorem fldI_41_0 : fldI Try.prog 41 0 = some (0, 1, false) := by kernel_rfl
@[simp] theorem fldI_41_1 : fldI Try.prog 41 1 = some (1, 1, false) := by kernel_rfl
@[simp] theorem fldI_41_2 : fldI Try.prog 41 2 = some (2, 1, false) := by kernel_rfl
@[simp] theorem fldI_41_3 : fldI Try.prog 41 3 = some (3, 1, false) := by kernel_rfl
@[simp] theorem zAV_41 : zAV Try.prog 9 41 = .agg [.raw (.int .i64 0), .raw (.int .i64 0), .raw (.string ⟨#[]⟩), .raw (.bool false)] := by kernel_rfl
@[simp] theorem zeroIs_41 : zeroIs Try.prog 41 (.agg [.raw (.int .i64 0), .raw (.int .i64 0), .raw (.string ⟨#[]⟩), .raw (.bool false)]) := ⟨.agg #[.int .i64 0, .int .i64 0, .string ⟨#[]⟩, .bool false], by kernel_rfl, .inr ⟨_, _, rfl, rfl, by kernel_rfl⟩⟩
@[simp] theorem layIs_41 : layIs Try.prog 41 [.raw (.int .i64 0), .raw (.int .i64 0), .raw (.string ⟨#[]⟩), .raw (.bool false)] := layIs_of (by kernel_rfl)
@[simp] theorem tyI_42 : tyI Try.prog 42 = some (4, true) := by kernel_rfl
@[simp] theorem isSl_42 : isSl Try.prog 42 = false := by kernel_rfl
@[simp] theorem isStr_42 : isStr Try.prog 42 = false := by kernel_rfl
@[simp] theorem isBool_42 : isBool Try.prog 42 = false := by kernel_rfl
@[simp] theorem isPtr_42 : isPtr Try.prog 42 = false := by kernel_rfl
@[simp] theorem isIf_42 : isIf Try.prog 42 = false := by kernel_rfl
@[simp] theorem isIface_42 : isIface Try.prog 42 = false := by kernel_rfl
@[simp] theorem isArr_42 : isArr Try.prog 42 = false := by kernel_rfl
@[simp] theorem plainT_42 : plainT Try.prog 42 = true := by kernel_rfl
@[simp] theorem eqd_42 : eqd Try.prog 9 42 = some (.st [.i, .i, .s, .b]) := by kernel_rfl
@[simp] theorem guardless_42 : guardless Try.prog 42 = true := by kernel_rfl
@[simp] theorem fldI_42_0 : fldI Try.prog 42 0 = some (0, 1, false) := by kernel_rfl
@[simp] theorem fldI_42_1 : fldI Try.prog 42 1 = some (1, 1, false) := by kernel_rfl
@[simp] theorem fldI_42_2 : fldI Try.prog 42 2 = some (2, 1, false) := by kernel_rfl
@[simp] theorem fldI_42_3 : fldI Try.prog 42 3 = some (3, 1, false) := by kernel_rfl
@[simp] theorem zAV_42 : zAV Try.prog 9 42 = .agg [.raw (.int .i64 0), .raw (.int .i64 0), .raw (.string ⟨#[]⟩), .raw (.bool false)] := by kernel_rfl
@[simp] theorem zeroIs_42 : zeroIs Try.prog 42 (.agg [.raw (.int .i64 0), .raw (.int .i64 0), .raw (.string ⟨#[]⟩), .raw (.bool false)]) := ⟨.agg #[.int .i64 0, .int .i64 0, .string ⟨#[]⟩, .bool false], by kernel_rfl, .inr ⟨_, _, rfl, rfl, by kernel_rfl⟩⟩
@[simp] theorem layIs_42 : layIs Try.prog 42 [.raw (.int .i64 0), .raw (.int .i64 0), .raw (.string ⟨#[]⟩), .raw (.bool false)] := layIs_of (by kernel_rfl)
@[simp] theorem tyI_43 : tyI Try.prog 43 = some (1, false) := by kernel_rfl
@[simp] theorem isSl_43 : isSl Try.prog 43 = false := by kernel_rfl
@[simp] theorem isStr_43 : isStr Try.prog 43 = false := by kernel_rfl
@[simp] theorem isBool_43 : isBool Try.prog 43 = false := by kernel_rfl
@[simp] theorem isPtr_43 : isPtr Try.prog 43 = true := by kernel_rfl
@[simp] theorem isIf_43 : isIf Try.prog 43 = false := by kernel_rfl
@[simp] theorem isIface_43 : isIface Try.prog 43 = false := by kernel_rfl
@[simp] theorem isArr_43 : isArr Try.prog 43 = false := by kernel_rfl
@[simp] theorem plainT_43 : plainT Try.prog 43 = false := by kernel_rfl
@[simp] theorem zAV_43 : zAV Try.prog 9 43 = .raw (.pointer none) := by kernel_rfl
@[simp] theorem zeroIs_43 : zeroIs Try.prog 43 (.raw (.pointer none)) := ⟨.pointer none, by kernel_rfl, .inl ⟨rfl, rfl⟩⟩
@[simp] theorem tyI_44 : tyI Try.prog 44 = some (3, true) := by kernel_rfl
@[simp] theorem isSl_44 : isSl Try.prog 44 = false := by kernel_rfl
@[simp] theorem isStr_44 : isStr Try.prog 44 = false := by kernel_rfl
@[simp] theorem isBool_44 : isBool Try.prog 44 = false := by kernel_rfl
@[simp] theorem isPtr_44 : isPtr Try.prog 44 = false := by kernel_rfl
@[simp] theorem isIf_44 : isIf Try.prog 44 = false := by kernel_rfl
@[simp] theorem isIface_44 : isIface Try.prog 44 = false := by kernel_rfl
@[simp] theorem isArr_44 : isArr Try.prog 44 = false := by kernel_rfl
@[simp] theorem plainT_44 : plainT Try.prog 44 = false := by kernel_rfl
@[simp] theorem fldI_44_0 : fldI Try.prog 44 0 = some (0, 1, false) := by kernel_rfl
@[simp] theorem fldI_44_1 : fldI Try.prog 44 1 = some (1, 1, false) := by kernel_rfl
@[simp] theorem fldI_44_2 : fldI Try.prog 44 2 = some (2, 1, false) := by kernel_rfl
@[simp] theorem zAV_44 : zAV Try.prog 9 44 = .agg [.raw (.slice none 0 0), .raw (.bool false), .raw (.bool false)] := by kernel_rfl
@[simp] theorem zeroIs_44 : zeroIs Try.prog 44 (.agg [.raw (.slice none 0 0), .raw (.bool false), .raw (.bool false)]) := ⟨.agg #[.slice none 0 0, .bool false, .bool false], by kernel_rfl, .inr ⟨_, _, rfl, rfl, by kernel_rfl⟩⟩
@[simp] theorem layIs_44 : layIs Try.prog 44 [.raw (.slice none 0 0), .raw (.bool false), .raw (.bool false)] := layIs_of (by kernel_rfl)
@[simp] theorem tyI_45 : tyI Try.prog 45 = some (3, true) := by kernel_rfl
@[simp] theorem isSl_45 : isSl Try.prog 45 = false := by kernel_rfl
@[simp] theorem isStr_45 : isStr Try.prog 45 = false := by kernel_rfl
@[simp] theorem isBool_45 : isBool Try.prog 45 = false := by kernel_rfl
@[simp] theorem isPtr_45 : isPtr Try.prog 45 = false := by kernel_rfl
@[simp] theorem isIf_45 : isIf Try.prog 45 = false := by kernel_rfl
@[simp] theorem isIface_45 : isIface Try.prog 45 = false := by kernel_rfl
@[simp] theorem isArr_45 : isArr Try.prog 45 = false := by kernel_rfl
@[simp] theorem plainT_45 : plainT Try.prog 45 = false := by kernel_rfl
@[simp] theorem fldI_45_0 : fldI Try.prog 45 0 = some (0, 1, false) := by kernel_rfl
@[simp] theorem fldI_45_1 : fldI Try.prog 45 1 = some (1, 1, false) := by kernel_rfl
@[simp] theorem fldI_45_2 : fldI Try.prog 45 2 = some (2, 1, false) := by kernel_rfl
@[simp] theorem zAV_45 : zAV Try.prog 9 45 = .agg [.raw (.slice none 0 0), .raw (.bool false), .raw (.bool false)] := by kernel_rfl
@[simp] theorem zeroIs_45 : zeroIs Try.prog 45 (.agg [.raw (.slice none 0 0), .raw (.bool false), .raw (.bool false)]) := ⟨.agg #[.slice none 0 0, .bool false, .bool false], by kernel_rfl, .inr ⟨_, _, rfl, rfl, by kernel_rfl⟩⟩
@[simp] theorem layIs_45 : layIs Try.prog 45 [.raw (.slice none 0 0), .raw (.bool false), .raw (.bool false)] := layIs_of (by kernel_rfl)
@[simp] theorem tyI_46 : tyI Try.prog 46 = some (1, false) := by kernel_rfl
@[simp] theorem isSl_46 : isSl Try.prog 46 = false := by kernel_rfl
@[simp] theorem isStr_46 : isStr Try.prog 46 = false := by kernel_rfl
@[simp] theorem isBool_46 : isBool Try.prog 46 = false := by kernel_rfl
@[simp] theorem isPtr_46 : isPtr Try.prog 46 = false := by kernel_rfl
@[simp] theorem isIf_46 : isIf Try.prog 46 = false := by kernel_rfl
@[simp] theorem isIface_46 : isIface Try.prog 46 = false := by kernel_rfl
@[simp] theorem isArr_46 : isArr Try.prog 46 = false := by kernel_rfl
@[simp] theorem plainT_46 : plainT Try.prog 46 = false := by kernel_rfl
@[simp] theorem zAV_46 : zAV Try.prog 9 46 = .raw (.nilFunc) := by kernel_rfl
@[simp] theorem zeroIs_46 : zeroIs Try.prog 46 (.raw (.nilFunc)) := ⟨.nilFunc, by kernel_rfl, .inl ⟨rfl, rfl⟩⟩
@[simp] theorem tyI_47 : tyI Try.prog 47 = some (1, false) := by kernel_rfl
@[simp] theorem isSl_47 : isSl Try.prog 47 = false := by kernel_rfl
@[simp] theorem isStr_47 : isStr Try.prog 47 = false := by kernel_rfl
@[simp] theorem isBool_47 : isBool Try.prog 47 = false := by kernel_rfl
@[simp] theorem isPtr_47 : isPtr Try.prog 47 = false := by kernel_rfl
@[simp] theorem isIf_47 : isIf Try.prog 47 = false := by kernel_rfl
@[simp] theorem isIface_47 : isIface Try.prog 47 = false := by kernel_rfl
@[simp] theorem isArr_47 : isArr Try.prog 47 = false := by kernel_rfl
@[simp] theorem plainT_47 : plainT Try.prog 47 = false := by kernel_rfl
@[simp] theorem zAV_47 : zAV Try.prog 9 47 = .raw (.nilFunc) := by kernel_rfl
@[simp] theorem zeroIs_47 : zeroIs Try.prog 47 (.raw (.nilFunc)) := ⟨.nilFunc, by kernel_rfl, .inl ⟨rfl, rfl⟩⟩
@[simp] theorem tyI_48 : tyI Try.prog 48 = some (1, false) := by kernel_rfl
@[simp] theorem isSl_48 : isSl Try.prog 48 = false := by kernel_rfl
@[simp] theorem isStr_48 : isStr Try.prog 48 = false := by kernel_rfl
@[simp] theorem isBool_48 : isBool Try.prog 48 = false := by kernel_rfl
@[simp] theorem isPtr_48 : isPtr Try.prog 48 = false := by kernel_rfl
@[simp] theorem isIf_48 : isIf Try.prog 48 = false := by kernel_rfl
@[simp] theorem isIface_48 : isIface Try.prog 48 = false := by kernel_rfl
@[simp] theorem isArr_48 : isArr Try.prog 48 = false := by kernel_rfl
@[simp] theorem plainT_48 : plainT Try.prog 48 = false := by kernel_rfl
@[simp] theorem zAV_48 : zAV Try.prog 9 48 = .raw (.nilFunc) := by kernel_rfl
@[simp] theorem zeroIs_48 : zeroIs Try.prog 48 (.raw (.nilFunc)) := ⟨.nilFunc, by kernel_rfl, .inl ⟨rfl, rfl⟩⟩
@[simp] theorem tyI_49 : tyI Try.prog 49 = some (1, false) := by kernel_rfl
@[simp] theorem isSl_49 : isSl Try.prog 49 = false := by kernel_rfl
@[simp] theorem isStr_49 : isStr Try.prog 49 = false := by kernel_rfl
@[simp] theorem isBool_49 : isBool Try.prog 49 = false := by kernel_rfl
@[simp] theorem isPtr_49 : isPtr Try.prog 49 = false := by kernel_rfl
@[simp] theorem isIf_49 : isIf Try.prog 49 = false := by kernel_rfl
@[simp] theorem isIface_49 : isIface Try.prog 49 = false := by kernel_rfl
@[simp] theorem isArr_49 : isArr Try.prog 49 = false := by kernel_rfl
@[simp] theorem plainT_49 : plainT Try.prog 49 = false := by kernel_rfl
@[simp] theorem zAV_49 : zAV Try.prog 9 49 = .raw (.nilFunc) := by kernel_rfl
@[simp] theorem zeroIs_49 : zeroIs Try.prog 49 (.raw (.nilFunc)) := ⟨.nilFunc, by kernel_rfl, .inl ⟨rfl, rfl⟩⟩
@[simp] theorem tyI_50 : tyI Try.prog 50 = some (1, false) := by kernel_rfl
@[simp] theorem isSl_50 : isSl Try.prog 50 = false := by kernel_rfl
@[simp] theorem isStr_50 : isStr Try.prog 50 = false := by kernel_rfl
@[simp] theorem isBool_50 : isBool Try.prog 50 = false := by kernel_rfl
@[simp] theorem isPtr_50 : isPtr Try.prog 50 = false := by kernel_rfl
@[simp] theorem isIf_50 : isIf Try.prog 50 = false := by kernel_rfl
@[simp] theorem isIface_50 : isIface Try.prog 50 = false := by kernel_rfl
@[simp] theorem isArr_50 : isArr Try.prog 50 = false := by kernel_rfl
@[simp] theorem plainT_50 : plainT Try.prog 50 = false := by kernel_rfl
@[simp] theorem zAV_50 : zAV Try.prog 9 50 = .raw (.nilFunc) := by kernel_rfl
@[simp] theorem zeroIs_50 : zeroIs Try.prog 50 (.raw (.nilFunc)) := ⟨.nilFunc, by kernel_rfl, .inl ⟨rfl, rfl⟩⟩
@[simp] theorem tyI_51 : tyI Try.prog 51 = some (1, false) := by kernel_rfl
@[simp] theorem isSl_51 : isSl Try.prog 51 = false := by kernel_rfl
@[simp] theorem isStr_51 : isStr Try.prog 51 = false := by kernel_rfl
@[simp] theorem isBool_51 : isBool Try.prog 51 = false := by kernel_rfl
@[simp] theorem isPtr_51 : isPtr Try.prog 51 = false := by kernel_rfl
@[simp] theorem isIf_51 : isIf Try.prog 51 = false := by kernel_rfl
@[simp] theorem isIface_51 : isIface Try.prog 51 = false := by kernel_rfl
@[simp] theorem isArr_51 : isArr Try.prog 51 = false := by kernel_rfl
@[simp] theorem plainT_51 : plainT Try.prog 51 = false := by kernel_rfl
@[simp] theorem zAV_51 : zAV Try.prog 9 51 = .raw (.nilFunc) := by kernel_rfl
@[simp] theorem zeroIs_51 : zeroIs Try.prog 51 (.raw (.nilFunc)) := ⟨.nilFunc, by kernel_rfl, .inl ⟨rfl, rfl⟩⟩
@[simp] theorem tyI_52 : tyI Try.prog 52 = some (1, false) := by kernel_rfl
@[simp] theorem isSl_52 : isSl Try.prog 52 = false := by kernel_rfl
@[simp] theorem isStr_52 : isStr Try.prog 52 = false := by kernel_rfl
@[simp] theorem isBool_52 : isBool Try.prog 52 = false := by kernel_rfl
@[simp] theorem isPtr_52 : isPtr Try.prog 52 = false := by kernel_rfl
@[simp] theorem isIf_52 : isIf Try.prog 52 = false := by kernel_rfl
@[simp] theorem isIface_52 : isIface Try.prog 52 = false := by kernel_rfl
@[simp] theorem isArr_52 : isArr Try.prog 52 = false := by kernel_rfl
@[simp] theorem plainT_52 : plainT Try.prog 52 = false := by kernel_rfl
@[simp] theorem zAV_52 : zAV Try.prog 9 52 = .raw (.nilFunc) := by kernel_rfl
@[simp] theorem zeroIs_52 : zeroIs Try.prog 52 (.raw (.nilFunc)) := ⟨.nilFunc, by kernel_rfl, .inl ⟨rfl, rfl⟩⟩
@[simp] theorem tyI_53 : tyI Try.prog 53 = some (1, false) := by kernel_rfl
@[simp] theorem isSl_53 : isSl Try.prog 53 = false := by kernel_rfl
@[simp] theorem isStr_53 : isStr Try.prog 53 = false := by kernel_rfl
@[simp] theorem isBool_53 : isBool Try.prog 53 = false := by kernel_rfl
@[simp] theorem isPtr_53 : isPtr Try.prog 53 = false := by kernel_rfl
@[simp] theorem isIf_53 : isIf Try.prog 53 = false := by kernel_rfl
@[simp] theorem isIface_53 : isIface Try.prog 53 = false := by kernel_rfl
@[simp] theorem isArr_53 : isArr Try.prog 53 = false := by kernel_rfl
@[simp] theorem plainT_53 : plainT Try.prog 53 = false := by kernel_rfl
@[simp] theorem zAV_53 : zAV Try.prog 9 53 = .raw (.nilFunc) := by kernel_rfl
@[simp] theorem zeroIs_53 : zeroIs Try.prog 53 (.raw (.nilFunc)) := ⟨.nilFunc, by kernel_rfl, .inl ⟨rfl, rfl⟩⟩
@[simp] theorem tyI_54 : tyI Try.prog 54 = some (1, false) := by kernel_rfl
@[simp] theorem isSl_54 : isSl Try.prog 54 = false := by kernel_rfl
@[simp] theorem isStr_54 : isStr Try.prog 54 = false := by kernel_rfl
@[simp] theorem isBool_54 : isBool Try.prog 54 = false := by kernel_rfl
@[simp] theorem isPtr_54 : isPtr Try.prog 54 = false := by kernel_rfl
@[simp] theorem isIf_54 : isIf Try.prog 54 = false := by kernel_rfl
@[simp] theorem isIface_54 : isIface Try.prog 54 = false := by kernel_rfl
@[simp] theorem isArr_54 : isArr Try.prog 54 = false := by kernel_rfl
@[simp] theorem plainT_54 : plainT Try.prog 54 = false := by kernel_rfl
@[simp] theorem zAV_54 : zAV Try.prog 9 54 = .raw (.nilFunc) := by kernel_rfl
@[simp] theorem zeroIs_54 : zeroIs Try.prog 54 (.raw (.nilFunc)) := ⟨.nilFunc, by kernel_rfl, .inl ⟨rfl, rfl⟩⟩
@[simp] theorem tyI_55 : tyI Try.prog 55 = some (1, false) := by kernel_rfl
@[simp] theorem isSl_55 : isSl Try.prog 55 = false := by kernel_rfl
@[simp] theorem isStr_55 : isStr Try.prog 55 = false := by kernel_rfl
@[simp] theorem isBool_55 : isBool Try.prog 55 = false := by kernel_rfl
@[simp] theorem isPtr_55 : isPtr Try.prog 55 = false := by kernel_rfl
@[simp] theorem isIf_55 : isIf Try.prog 55 = false := by kernel_rfl
@[simp] theorem isIface_55 : isIface Try.prog 55 = false := by kernel_rfl
@[simp] theorem isArr_55 : isArr Try.prog 55 = false := by kernel_rfl
@[simp] theorem plainT_55 : plainT Try.prog 55 = false := by kernel_rfl
@[simp] theorem zAV_55 : zAV Try.prog 9 55 = .raw (.nilFunc) := by kernel_rfl
@[simp] theorem zeroIs_55 : zeroIs Try.prog 55 (.raw (.nilFunc)) := ⟨.nilFunc, by kernel_rfl, .inl ⟨rfl, rfl⟩⟩
@[simp] theorem tyI_56 : tyI Try.prog 56 = some (1, false) := by kernel_rfl
@[simp] theorem isSl_56 : isSl Try.prog 56 = false := by kernel_rfl
@[simp] theorem isStr_56 : isStr Try.prog 56 = false := by kernel_rfl
@[simp] theorem isBool_56 : isBool Try.prog 56 = false := by kernel_rfl
@[simp] theorem isPtr_56 : isPtr Try.prog 56 = false := by kernel_rfl
@[simp] theorem isIf_56 : isIf Try.prog 56 = false := by kernel_rfl
@[simp] theorem isIface_56 : isIface Try.prog 56 = false := by kernel_rfl
@[simp] theorem isArr_56 : isArr Try.prog 56 = false := by kernel_rfl
@[simp] theorem plainT_56 : plainT Try.prog 56 = false := by kernel_rfl
@[simp] theorem zAV_56 : zAV Try.prog 9 56 = .raw (.nilFunc) := by kernel_rfl
@[simp] theorem zeroIs_56 : zeroIs Try.prog 56 (.raw (.nilFunc)) := ⟨.nilFunc, by kernel_rfl, .inl ⟨rfl, rfl⟩⟩
@[simp] theorem tyI_57 : tyI Try.prog 57 = some (1, false) := by kernel_rfl
@[simp] theorem isSl_57 : isSl Try.prog 57 = false := by kernel_rfl
@[simp] theorem isStr_57 : isStr Try.prog 57 = false := by kernel_rfl
@[simp] theorem isBool_57 : isBool Try.prog 57 = false := by kernel_rfl
@[simp] theorem isPtr_57 : isPtr Try.prog 57 = true := by kernel_rfl
@[simp] theorem isIf_57 : isIf Try.prog 57 = false := by kernel_rfl
@[simp] theorem isIface_57 : isIface Try.prog 57 = false := by kernel_rfl
@[simp] theorem isArr_57 : isArr Try.prog 57 = false := by kernel_rfl
@[simp] theorem plainT_57 : plainT Try.prog 57 = false := by kernel_rfl
@[simp] theorem zAV_57 : zAV Try.prog 9 57 = .raw (.pointer none) := by kernel_rfl
@[simp] theorem zeroIs_57 : zeroIs Try.prog 57 (.raw (.pointer none)) := ⟨.pointer none, by kernel_rfl, .inl ⟨rfl, rfl⟩⟩
@[simp] theorem tyI_58 : tyI Try.prog 58 = some (1, false) := by kernel_rfl
@[simp] theorem isSl_58 : isSl Try.prog 58 = false := by kernel_rfl
@[simp] theorem isStr_58 : isStr Try.prog 58 = false := by kernel_rfl
@[simp] theorem isBool_58 : isBool Try.prog 58 = false := by kernel_rfl
@[simp] theorem isPtr_58 : isPtr Try.prog 58 = true := by kernel_rfl
@[simp] theorem isIf_58 : isIf Try.prog 58 = false := by kernel_rfl
@[simp] theorem isIface_58 : isIface Try.prog 58 = false := by kernel_rfl
@[simp] theorem isArr_58 : isArr Try.prog 58 = false := by kernel_rfl
@[simp] theorem plainT_58 : plainT Try.prog 58 = false := by kernel_rfl
@[simp] theorem zAV_58 : zAV Try.prog 9 58 = .raw (.pointer none) := by kernel_rfl
@[simp] theorem zeroIs_58 : zeroIs Try.prog 58 (.raw (.pointer none)) := ⟨.pointer none, by kernel_rfl, .inl ⟨rfl, rfl⟩⟩
@[simp] theorem tyI_59 : tyI Try.prog 59 = some (1, false) := by kernel_rfl
@[simp] theorem isSl_59 : isSl Try.prog 59 = false := by kernel_rfl
@[simp] theorem isStr_59 : isStr Try.prog 59 = false := by kernel_rfl
@[simp] theorem isBool_59 : isBool Try.prog 59 = false := by kernel_rfl
@[simp] theorem isPtr_59 : isPtr Try.prog 59 = false := by kernel_rfl
@[simp] theorem isIf_59 : isIf Try.prog 59 = false := by kernel_rfl
@[simp] theorem isIface_59 : isIface Try.prog 59 = false := by kernel_rfl
@[simp] theorem isArr_59 : isArr Try.prog 59 = false := by kernel_rfl
@[simp] theorem plainT_59 : plainT Try.prog 59 = false := by kernel_rfl
@[simp] theorem zAV_59 : zAV Try.prog 9 59 = .raw (.nilFunc) := by kernel_rfl
@[simp] theorem zeroIs_59 : zeroIs Try.prog 59 (.raw (.nilFunc)) := ⟨.nilFunc, by kernel_rfl, .inl ⟨rfl, rfl⟩⟩
@[simp] theorem tyI_60 : tyI Try.prog 60 = some (2, true) := by kernel_rfl
@[simp] theorem isSl_60 : isSl Try.prog 60 = false := by kernel_rfl
@[simp] theorem isStr_60 : isStr Try.prog 60 = false := by kernel_rfl
@[simp] theorem isBool_60 : isBool Try.prog 60 = false := by kernel_rfl
@[simp] theorem isPtr_60 : isPtr Try.prog 60 = false := by kernel_rfl
@[simp] theorem isIf_60 : isIf Try.prog 60 = false := by kernel_rfl
@[simp] theorem isIface_60 : isIface Try.prog 60 = false := by kernel_rfl
@[simp] theorem isArr_60 : isArr Try.prog 60 = false := by kernel_rfl
@[simp] theorem plainT_60 : plainT Try.prog 60 = false := by kernel_rfl
@[simp] theorem fldI_60_0 : fldI Try.prog 60 0 = some (0, 1, false) := by kernel_rfl
@[simp] theorem fldI_60_1 : fldI Try.prog 60 1 = some (1, 1, false) := by kernel_rfl
@[simp] theorem zAV_60 : zAV Try.prog 9 60 = .agg [.raw (.pointer none), .raw (.nilIface)] := by kernel_rfl
@[simp] theorem zeroIs_60 : zeroIs Try.prog 60 (.agg [.raw (.pointer none), .raw (.nilIface)]) := ⟨.agg #[.pointer none, .nilIface], by kernel_rfl, .inr ⟨_, _, rfl, rfl, by kernel_rfl⟩⟩
@[simp] theorem layIs_60 : layIs Try.prog 60 [.raw (.pointer none), .raw (.nilIface)] := layIs_of (by kernel_rfl)
@[simp] theorem tyI_61 : tyI Try.prog 61 = some (2, true) := by kernel_rfl
@[simp] theorem isSl_61 : isSl Try.prog 61 = false := by kernel_rfl
@[simp] theorem isStr_61 : isStr Try.prog 61 = false := by kernel_rfl
@[simp] theorem isBool_61 : isBool Try.prog 61 = false := by kernel_rfl
@[simp] theorem isPtr_61 : isPtr Try.prog 61 = false := by kernel_rfl
@[simp] theorem isIf_61 : isIf Try.prog 61 = false := by kernel_rfl
@[simp] theorem isIface_61 : isIface Try.prog 61 = false := by kernel_rfl
@[simp] theorem isArr_61 : isArr Try.prog 61 = false := by kernel_rfl
@[simp] theorem plainT_61 : plainT Try.prog 61 = false := by kernel_rfl
@[simp] theorem fldI_61_0 : fldI Try.prog 61 0 = some (0, 1, false) := by kernel_rfl
@[simp] theorem fldI_61_1 : fldI Try.prog 61 1 = some (1, 1, false) := by kernel_rfl
@[simp] theorem zAV_61 : zAV Try.prog 9 61 = .agg [.raw (.pointer none), .raw (.nilIface)] := by kernel_rfl
@[simp] theorem zeroIs_61 : zeroIs Try.prog 61 (.agg [.raw (.pointer none), .raw (.nilIface)]) := ⟨.agg #[.pointer none, .nilIface], by kernel_rfl, .inr ⟨_, _, rfl, rfl, by kernel_rfl⟩⟩
@[simp] theorem layIs_61 : layIs Try.prog 61 [.raw (.pointer none), .raw (.nilIface)] := layIs_of (by kernel_rfl)
@[simp] theorem tyI_62 : tyI Try.prog 62 = some (1, false) := by kernel_rfl
@[simp] theorem isSl_62 : isSl Try.prog 62 = false := by kernel_rfl
@[simp] theorem isStr_62 : isStr Try.prog 62 = false := by kernel_rfl
@[simp] theorem isBool_62 : isBool Try.prog 62 = false := by kernel_rfl
@[simp] theorem isPtr_62 : isPtr Try.prog 62 = false := by kernel_rfl
@[simp] theorem isIf_62 : isIf Try.prog 62 = false := by kernel_rfl
@[simp] theorem isIface_62 : isIface Try.prog 62 = false := by kernel_rfl
@[simp] theorem isArr_62 : isArr Try.prog 62 = false := by kernel_rfl
@[simp] theorem plainT_62 : plainT Try.prog 62 = false := by kernel_rfl
@[simp] theorem zAV_62 : zAV Try.prog 9 62 = .raw (.nilFunc) := by kernel_rfl
@[simp] theorem zeroIs_62 : zeroIs Try.prog 62 (.raw (.nilFunc)) := ⟨.nilFunc, by kernel_rfl, .inl ⟨rfl, rfl⟩⟩
@[simp] theorem tyI_63 : tyI Try.prog 63 = some (1, false) := by kernel_rfl
@[simp] theorem isSl_63 : isSl Try.prog 63 = false := by kernel_rfl
@[simp] theorem isStr_63 : isStr Try.prog 63 = false := by kernel_rfl
@[simp] theorem isBool_63 : isBool Try.prog 63 = false := by kernel_rfl
@[simp] theorem isPtr_63 : isPtr Try.prog 63 = false := by kernel_rfl
@[simp] theorem isIf_63 : isIf Try.prog 63 = false := by kernel_rfl
@[simp] theorem isIface_63 : isIface Try.prog 63 = false := by kernel_rfl
@[simp] theorem isArr_63 : isArr Try.prog 63 = false := by kernel_rfl
@[simp] theorem plainT_63 : plainT Try.prog 63 = false := by kernel_rfl
@[simp] theorem zAV_63 : zAV Try.prog 9 63 = .raw (.nilFunc) := by kernel_rfl
@[simp] theorem zeroIs_63 : zeroIs Try.prog 63 (.raw (.nilFunc)) := ⟨.nilFunc, by kernel_rfl, .inl ⟨rfl, rfl⟩⟩
@[simp] theorem tyI_64 : tyI Try.prog 64 = some (1, false) := by kernel_rfl
@[simp] theorem isSl_64 : isSl Try.prog 64 = false := by kernel_rfl
@[simp] theorem isStr_64 : isStr Try.prog 64 = false := by kernel_rfl
@[simp] theorem isBool_64 : isBool Try.prog 64 = false := by kernel_rfl
@[simp] theorem isPtr_64 : isPtr Try.prog 64 = false := by kernel_rfl
@[simp] theorem isIf_64 : isIf Try.prog 64 = false := by kernel_rfl
@[simp] theorem isIface_64 : isIface Try.prog 64 = false := by kernel_rfl
@[simp] theorem isArr_64 : isArr Try.prog 64 = false := by kernel_rfl
@[simp] theorem plainT_64 : plainT Try.prog 64 = false := by kernel_rfl
@[simp] theorem zAV_64 : zAV Try.prog 9 64 = .raw (.nilFunc) := by kernel_rfl
@[simp] theorem zeroIs_64 : zeroIs Try.prog 64 (.raw (.nilFunc)) := ⟨.nilFunc, by kernel_rfl, .inl ⟨rfl, rfl⟩⟩
@[simp] theorem tyI_65 : tyI Try.prog 65 = some (1, false) := by kernel_rfl
@[simp] theorem isSl_65 : isSl Try.prog 65 = false := by kernel_rfl
@[simp] theorem isStr_65 : isStr Try.prog 65 = false := by kernel_rfl
@[simp] theorem isBool_65 : isBool Try.prog 65 = false := by kernel_rfl
@[simp] theorem isPtr_65 : isPtr Try.prog 65 = false := by kernel_rfl
@[simp] theorem isIf_65 : isIf Try.prog 65 = false := by kernel_rfl
@[simp] theorem isIface_65 : isIface Try.prog 65 = false := by kernel_rfl
@[simp] theorem isArr_65 : isArr Try.prog 65 = false := by kernel_rfl
@[simp] theorem plainT_65 : plainT Try.prog 65 = false := by kernel_rfl
@[simp] theorem zAV_65 : zAV Try.prog 9 65 = .raw (.nilFunc) := by kernel_rfl
@[simp] theorem zeroIs_65 : zeroIs Try.prog 65 (.raw (.nilFunc)) := ⟨.nilFunc, by kernel_rfl, .inl ⟨rfl, rfl⟩⟩
@[simp] theorem tyI_66 : tyI Try.prog 66 = some (1, false) := by kernel_rfl
@[simp] theorem isSl_66 : isSl Try.prog 66 = false := by kernel_rfl
@[simp] theorem isStr_66 : isStr Try.prog 66 = false := by kernel_rfl
@[simp] theorem isBool_66 : isBool Try.prog 66 = false := by kernel_rfl
@[simp] theorem isPtr_66 : isPtr Try.prog 66 = false := by kernel_rfl
@[simp] theorem isIf_66 : isIf Try.prog 66 = false := by kernel_rfl
@[simp] theorem isIface_66 : isIface Try.prog 66 = false := by kernel_rfl
@[simp] theorem isArr_66 : isArr Try.prog 66 = false := by kernel_rfl
@[simp] theorem plainT_66 : plainT Try.prog 66 = false := by kernel_rfl
@[simp] theorem zAV_66 : zAV Try.prog 9 66 = .raw (.nilFunc) := by kernel_rfl
@[simp] theorem zeroIs_66 : zeroIs Try.prog 66 (.raw (.nilFunc)) := ⟨.nilFunc, by kernel_rfl, .inl ⟨rfl, rfl⟩⟩
@[simp] theorem tyI_67 : tyI Try.prog 67 = some (1, false) := by kernel_rfl
@[simp] theorem isSl_67 : isSl Try.prog 67 = false := by kernel_rfl
@[simp] theorem isStr_67 : isStr Try.prog 67 = false := by kernel_rfl
@[simp] theorem isBool_67 : isBool Try.prog 67 = false := by kernel_rfl
@[simp] theorem isPtr_67 : isPtr Try.prog 67 = false := by kernel_rfl
@[simp] theorem isIf_67 : isIf Try.prog 67 = false := by kernel_rfl
@[simp] theorem isIface_67 : isIface Try.prog 67 = false := by kernel_rfl
@[simp] theorem isArr_67 : isArr Try.prog 67 = false := by kernel_rfl
@[simp] theorem plainT_67 : plainT Try.prog 67 = false := by kernel_rfl
@[simp] theorem zAV_67 : zAV Try.prog 9 67 = .raw (.nilFunc) := by kernel_rfl
@[simp] theorem zeroIs_67 : zeroIs Try.prog 67 (.raw (.nilFunc)) := ⟨.nilFunc, by kernel_rfl, .inl ⟨rfl, rfl⟩⟩
@[simp] theorem tyI_68 : tyI Try.prog 68 = some (1, false) := by kernel_rfl
@[simp] theorem isSl_68 : isSl Try.prog 68 = false := by kernel_rfl
@[simp] theorem isStr_68 : isStr Try.prog 68 = false := by kernel_rfl
@[simp] theorem isBool_68 : isBool Try.prog 68 = false := by kernel_rfl
@[simp] theorem isPtr_68 : isPtr Try.prog 68 = false := by kernel_rfl
@[simp] theorem isIf_68 : isIf Try.prog 68 = false := by kernel_rfl
@[simp] theorem isIface_68 : isIface Try.prog 68 = false := by kernel_rfl
@[simp] theorem isArr_68 : isArr Try.prog 68 = false := by kernel_rfl
@[simp] theorem plainT_68 : plainT Try.prog 68 = false := by kernel_rfl
@[simp] theorem zAV_68 : zAV Try.prog 9 68 = .raw (.nilFunc) := by kernel_rfl
@[simp] theorem zeroIs_68 : zeroIs Try.prog 68 (.raw (.nilFunc)) := ⟨.nilFunc, by kernel_rfl, .inl ⟨rfl, rfl⟩⟩
@[simp] theorem tyI_69 : tyI Try.prog 69 = some (1, false) := by kernel_rfl
@[simp] theorem isSl_69 : isSl Try.prog 69 = false := by kernel_rfl
@[simp] theorem isStr_69 : isStr Try.prog 69 = false := by kernel_rfl
@[simp] theorem isBool_69 : isBool Try.prog 69 = false := by kernel_rfl
@[simp] theorem isPtr_69 : isPtr Try.prog 69 = false := by kernel_rfl
@[simp] theorem isIf_69 : isIf Try.prog 69 = false := by kernel_rfl
@[simp] theorem isIface_69 : isIface Try.prog 69 = false := by kernel_rfl
@[simp] theorem isArr_69 : isArr Try.prog 69 = false := by kernel_rfl
@[simp] theorem plainT_69 : plainT Try.prog 69 = false := by kernel_rfl
@[simp] theorem zAV_69 : zAV Try.prog 9 69 = .raw (.nilFunc) := by kernel_rfl
@[simp] theorem zeroIs_69 : zeroIs Try.prog 69 (.raw (.nilFunc)) := ⟨.nilFunc, by kernel_rfl, .inl ⟨rfl, rfl⟩⟩
@[simp] theorem tyI_70 : tyI Try.prog 70 = some (1, false) := by kernel_rfl
@[simp] theorem isSl_70 : isSl Try.prog 70 = false := by kernel_rfl
@[simp] theorem isStr_70 : isStr Try.prog 70 = false := by kernel_rfl
@[simp] theorem isBool_70 : isBool Try.prog 70 = false := by kernel_rfl
@[simp] theorem isPtr_70 : isPtr Try.prog 70 = false := by kernel_rfl
@[simp] theorem isIf_70 : isIf Try.prog 70 = false := by kernel_rfl
@[simp] theorem isIface_70 : isIface Try.prog 70 = false := by kernel_rfl
@[simp] theorem isArr_70 : isArr Try.prog 70 = false := by kernel_rfl
@[simp] theorem plainT_70 : plainT Try.prog 70 = false := by kernel_rfl
@[simp] theorem zAV_70 : zAV Try.prog 9 70 = .raw (.nilFunc) := by kernel_rfl
@[simp] theorem zeroIs_70 : zeroIs Try.prog 70 (.raw (.nilFunc)) := ⟨.nilFunc, by kernel_rfl, .inl ⟨rfl, rfl⟩⟩
@[simp] theorem tyI_71 : tyI Try.prog 71 = some (1, false) := by kernel_rfl
@[simp] theorem isSl_71 : isSl Try.prog 71 = false := by kernel_rfl
@[simp] theorem isStr_71 : isStr Try.prog 71 = false := by kernel_rfl
@[simp] theorem isBool_71 : isBool Try.prog 71 = false := by kernel_rfl
@[simp] theorem isPtr_71 : isPtr Try.prog 71 = false := by kernel_rfl
@[simp] theorem isIf_71 : isIf Try.prog 71 = false := by kernel_rfl
@[simp] theorem isIface_71 : isIface Try.prog 71 = false := by kernel_rfl
@[simp] theorem isArr_71 : isArr Try.prog 71 = false := by kernel_rfl
@[simp] theorem plainT_71 : plainT Try.prog 71 = false := by kernel_rfl
@[simp] theorem zAV_71 : zAV Try.prog 9 71 = .raw (.nilFunc) := by kernel_rfl
@[simp] theorem zeroIs_71 : zeroIs Try.prog 71 (.raw (.nilFunc)) := ⟨.nilFunc, by kernel_rfl, .inl ⟨rfl, rfl⟩⟩
@[simp] theorem tyI_72 : tyI Try.prog 72 = some (1, false) := by kernel_rfl
@[simp] theorem isSl_72 : isSl Try.prog 72 = false := by kernel_rfl
@[simp] theorem isStr_72 : isStr Try.prog 72 = false := by kernel_rfl
@[simp] theorem isBool_72 : isBool Try.prog 72 = false := by kernel_rfl
@[simp] theorem isPtr_72 : isPtr Try.prog 72 = false := by kernel_rfl
@[simp] theorem isIf_72 : isIf Try.prog 72 = false := by kernel_rfl
@[simp] theorem isIface_72 : isIface Try.prog 72 = false := by kernel_rfl
@[simp] theorem isArr_72 : isArr Try.prog 72 = false := by kernel_rfl
@[simp] theorem plainT_72 : plainT Try.prog 72 = true := by kernel_rfl
@[simp] theorem und_72 : Try.prog.underlying 72 = some (.int .u64) := by kernel_rfl
@[simp] theorem zAV_72 : zAV Try.prog 9 72 = .raw (.int .u64 0) := by kernel_rfl
@[simp] theorem zeroIs_72 : zeroIs Try.prog 72 (.raw (.int .u64 0)) := ⟨.int .u64 0, by kernel_rfl, .inl ⟨rfl, rfl⟩⟩
@[simp] theorem tyI_73 : tyI Try.prog 73 = some (1, false) := by kernel_rfl
@[simp] theorem isSl_73 : isSl Try.prog 73 = true := by kernel_rfl
@[simp] theorem isStr_73 : isStr Try.prog 73 = false := by kernel_rfl
@[simp] theorem isBool_73 : isBool Try.prog 73 = false := by kernel_rfl
@[simp] theorem isPtr_73 : isPtr Try.prog 73 = false := by kernel_rfl
@[simp] theorem isIf_73 : isIf Try.prog 73 = false := by kernel_rfl
@[simp] theorem isIface_73 : isIface Try.prog 73 = false := by kernel_rfl
@[simp] theorem isArr_73 : isArr Try.prog 73 = false := by kernel_rfl
@[simp] theorem plainT_73 : plainT Try.prog 73 = false := by kernel_rfl
@[simp] theorem rowI_73 : rowI Try.prog 73 = some (9, 1, 16) := by kernel_rfl
@[simp] theorem zAV_73 : zAV Try.prog 9 73 = .raw (.slice none 0 0) := by kernel_rfl
@[simp] theorem zeroIs_73 : zeroIs Try.prog 73 (.raw (.slice none 0 0)) := ⟨.slice none 0 0, by kernel_rfl, .inl ⟨rfl, rfl⟩⟩
@[simp] theorem tyI_74 : tyI Try.prog 74 = some (1, false) := by kernel_rfl
@[simp] theorem isSl_74 : isSl Try.prog 74 = true := by kernel_rfl
@[simp] theorem isStr_74 : isStr Try.prog 74 = false := by kernel_rfl
@[simp] theorem isBool_74 : isBool Try.prog 74 = false := by kernel_rfl
@[simp] theorem isPtr_74 : isPtr Try.prog 74 = false := by kernel_rfl
@[simp] theorem isIf_74 : isIf Try.prog 74 = false := by kernel_rfl
@[simp] theorem isIface_74 : isIface Try.prog 74 = false := by kernel_rfl
@[simp] theorem isArr_74 : isArr Try.prog 74 = false := by kernel_rfl
@[simp] theorem plainT_74 : plainT Try.prog 74 = false := by kernel_rfl
@[simp] theorem rowI_74 : rowI Try.prog 74 = some (28, 1, 24) := by kernel_rfl
@[simp] theorem zAV_74 : zAV Try.prog 9 74 = .raw (.slice none 0 0) := by kernel_rfl
@[simp] theorem zeroIs_74 : zeroIs Try.prog 74 (.raw (.slice none 0 0)) := ⟨.slice none 0 0, by kernel_rfl, .inl ⟨rfl, rfl⟩⟩
@[simp] theorem tyI_75 : tyI Try.prog 75 = some (1, false) := by kernel_rfl
@[simp] theorem isSl_75 : isSl Try.prog 75 = false := by kernel_rfl
@[simp] theorem isStr_75 : isStr Try.prog 75 = false := by kernel_rfl
@[simp] theorem isBool_75 : isBool Try.prog 75 = false := by kernel_rfl
@[simp] theorem isPtr_75 : isPtr Try.prog 75 = true := by kernel_rfl
@[simp] theorem isIf_75 : isIf Try.prog 75 = false := by kernel_rfl
@[simp] theorem isIface_75 : isIface Try.prog 75 = false := by kernel_rfl
@[simp] theorem isArr_75 : isArr Try.prog 75 = false := by kernel_rfl
@[simp] theorem plainT_75 : plainT Try.prog 75 = false := by kernel_rfl
@[simp] theorem zAV_75 : zAV Try.prog 9 75 = .raw (.pointer none) := by kernel_rfl
@[simp] theorem zeroIs_75 : zeroIs Try.prog 75 (.raw (.pointer none)) := ⟨.pointer none, by kernel_rfl, .inl ⟨rfl, rfl⟩⟩
@[simp] theorem tyI_76 : tyI Try.prog 76 = some (2, true) := by kernel_rfl
@[simp] theorem isSl_76 : isSl Try.prog 76 = false := by kernel_rfl
@[simp] theorem isStr_76 : isStr Try.prog 76 = false := by kernel_rfl
@[simp] theorem isBool_76 : isBool Try.prog 76 = false := by kernel_rfl
@[simp] theorem isPtr_76 : isPtr Try.prog 76 = false := by kernel_rfl
@[simp] theorem isIf_76 : isIf Try.prog 76 = false := by kernel_rfl
@[simp] theorem isIface_76 : isIface Try.prog 76 = false := by kernel_rfl
@[simp] theorem isArr_76 : isArr Try.prog 76 = false := by kernel_rfl
@[simp] theorem plainT_76 : plainT Try.prog 76 = false := by kernel_rfl
@[simp] theorem fldI_76_0 : fldI Try.prog 76 0 = some (0, 1, false) := by kernel_rfl
@[simp] theorem fldI_76_1 : fldI Try.prog 76 1 = some (1, 1, false) := by kernel_rfl
@[simp] theorem zAV_76 : zAV Try.prog 9 76 = .agg [.raw (.string ⟨#[]⟩), .raw (.nilIface)] := by kernel_rfl
@[simp] theorem zeroIs_76 : zeroIs Try.prog 76 (.agg [.raw (.string ⟨#[]⟩), .raw (.nilIface)]) := ⟨.agg #[.string ⟨#[]⟩, .nilIface], by kernel_rfl, .inr ⟨_, _, rfl, rfl, by kernel_rfl⟩⟩
@[simp] theorem layIs_76 : layIs Try.prog 76 [.raw (.string ⟨#[]⟩), .raw (.nilIface)] := layIs_of (by kernel_rfl)
@[simp] theorem tyI_77 : tyI Try.prog 77 = some (2, true) := by kernel_rfl
@[simp] theorem isSl_77 : isSl Try.prog 77 = false := by kernel_rfl
@[simp] theorem isStr_77 : isStr Try.prog 77 = false := by kernel_rfl
@[simp] theorem isBool_77 : isBool Try.prog 77 = false := by kernel_rfl
@[simp] theorem isPtr_77 : isPtr Try.prog 77 = false := by kernel_rfl
@[simp] theorem isIf_77 : isIf Try.prog 77 = false := by kernel_rfl
@[simp] theorem isIface_77 : isIface Try.prog 77 = false := by kernel_rfl
@[simp] theorem isArr_77 : isArr Try.prog 77 = false := by kernel_rfl
@[simp] theorem plainT_77 : plainT Try.prog 77 = false := by kernel_rfl
@[simp] theorem fldI_77_0 : fldI Try.prog 77 0 = some (0, 1, false) := by kernel_rfl
@[simp] theorem fldI_77_1 : fldI Try.prog 77 1 = some (1, 1, false) := by kernel_rfl
@[simp] theorem zAV_77 : zAV Try.prog 9 77 = .agg [.raw (.string ⟨#[]⟩), .raw (.nilIface)] := by kernel_rfl
@[simp] theorem zeroIs_77 : zeroIs Try.prog 77 (.agg [.raw (.string ⟨#[]⟩), .raw (.nilIface)]) := ⟨.agg #[.string ⟨#[]⟩, .nilIface], by kernel_rfl, .inr ⟨_, _, rfl, rfl, by kernel_rfl⟩⟩
@[simp] theorem layIs_77 : layIs Try.prog 77 [.raw (.string ⟨#[]⟩), .raw (.nilIface)] := layIs_of (by kernel_rfl)
@[simp] theorem tyI_78 : tyI Try.prog 78 = some (4, true) := by kernel_rfl
@[simp] theorem isSl_78 : isSl Try.prog 78 = false := by kernel_rfl
@[simp] theorem isStr_78 : isStr Try.prog 78 = false := by kernel_rfl
@[simp] theorem isBool_78 : isBool Try.prog 78 = false := by kernel_rfl
@[simp] theorem isPtr_78 : isPtr Try.prog 78 = false := by kernel_rfl
@[simp] theorem isIf_78 : isIf Try.prog 78 = false := by kernel_rfl
@[simp] theorem isIface_78 : isIface Try.prog 78 = false := by kernel_rfl
@[simp] theorem isArr_78 : isArr Try.prog 78 = false := by kernel_rfl
@[simp] theorem plainT_78 : plainT Try.prog 78 = false := by kernel_rfl
@[simp] theorem fldI_78_0 : fldI Try.prog 78 0 = some (0, 1, false) := by kernel_rfl
@[simp] theorem fldI_78_1 : fldI Try.prog 78 1 = some (1, 1, false) := by kernel_rfl
@[simp] theorem fldI_78_2 : fldI Try.prog 78 2 = some (2, 1, false) := by kernel_rfl
@[simp] theorem fldI_78_3 : fldI Try.prog 78 3 = some (3, 1, false) := by kernel_rfl
@[simp] theorem zAV_78 : zAV Try.prog 9 78 = .agg [.raw (.bool false), .raw (.slice none 0 0), .raw (.int .i64 0), .raw (.int .i64 0)] := by kernel_rfl
@[simp] theorem zeroIs_78 : zeroIs Try.prog 78 (.agg [.raw (.bool false), .raw (.slice none 0 0), .raw (.int .i64 0), .raw (.int .i64 0)]) := ⟨.agg #[.bool false, .slice none 0 0, .int .i64 0, .int .i64 0], by kernel_rfl, .inr ⟨_, _, rfl, rfl, by kernel_rfl⟩⟩
@[simp] theorem layIs_78 : layIs Try.prog 78 [.raw (.bool false), .raw (.slice none 0 0), .raw (.int .i64 0), .raw (.int .i64 0)] := layIs_of (by kernel_rfl)
@[simp] theorem tyI_79 : tyI Try.prog 79 = some (4, true) := by kernel_rfl
@[simp] theorem isSl_79 : isSl Try.prog 79 = false := by kernel_rfl
@[simp] theorem isStr_79 : isStr Try.prog 79 = false := by kernel_rfl
@[simp] theorem isBool_79 : isBool Try.prog 79 = false := by kernel_rfl
@[simp] theorem isPtr_79 : isPtr Try.prog 79 = false := by kernel_rfl
@[simp] theorem isIf_79 : isIf Try.prog 79 = false := by kernel_rfl
@[simp] theorem isIface_79 : isIface Try.prog 79 = false := by kernel_rfl
@[simp] theorem isArr_79 : isArr Try.prog 79 = false := by kernel_rfl
@[simp] theorem plainT_79 : plainT Try.prog 79 = false := by kernel_rfl
@[simp] theorem fldI_79_0 : fldI Try.prog 79 0 = some (0, 1, false) := by kernel_rfl
@[simp] theorem fldI_79_1 : fldI Try.prog 79 1 = some (1, 1, false) := by kernel_rfl
@[simp] theorem fldI_79_2 : fldI Try.prog 79 2 = some (2, 1, false) := by kernel_rfl
@[simp] theorem fldI_79_3 : fldI Try.prog 79 3 = some (3, 1, false) := by kernel_rfl
@[simp] theorem zAV_79 : zAV Try.prog 9 79 = .agg [.raw (.bool false), .raw (.slice none 0 0), .raw (.int .i64 0), .raw (.int .i64 0)] := by kernel_rfl
@[simp] theorem zeroIs_79 : zeroIs Try.prog 79 (.agg [.raw (.bool false), .raw (.slice none 0 0), .raw (.int .i64 0), .raw (.int .i64 0)]) := ⟨.agg #[.bool false, .slice none 0 0, .int .i64 0, .int .i64 0], by kernel_rfl, .inr ⟨_, _, rfl, rfl, by kernel_rfl⟩⟩
@[simp] theorem layIs_79 : layIs Try.prog 79 [.raw (.bool false), .raw (.slice none 0 0), .raw (.int .i64 0), .raw (.int .i64 0)] := layIs_of (by kernel_rfl)
@[simp] theorem tyI_80 : tyI Try.prog 80 = some (1, false) := by kernel_rfl
@[simp] theorem isSl_80 : isSl Try.prog 80 = false := by kernel_rfl
@[simp] theorem isStr_80 : isStr Try.prog 80 = false := by kernel_rfl
@[simp] theorem isBool_80 : isBool Try.prog 80 = false := by kernel_rfl
@[simp] theorem isPtr_80 : isPtr Try.prog 80 = false := by kernel_rfl
@[simp] theorem isIf_80 : isIf Try.prog 80 = false := by kernel_rfl
@[simp] theorem isIface_80 : isIface Try.prog 80 = false := by kernel_rfl
@[simp] theorem isArr_80 : isArr Try.prog 80 = false := by kernel_rfl
@[simp] theorem plainT_80 : plainT Try.prog 80 = false := by kernel_rfl
@[simp] theorem zAV_80 : zAV Try.prog 9 80 = .raw (.nilFunc) := by kernel_rfl
@[simp] theorem zeroIs_80 : zeroIs Try.prog 80 (.raw (.nilFunc)) := ⟨.nilFunc, by kernel_rfl, .inl ⟨rfl, rfl⟩⟩
@[simp] theorem tyI_81 : tyI Try.prog 81 = some (1, false) := by kernel_rfl
@[simp] theorem isSl_81 : isSl Try.prog 81 = false := by kernel_rfl
@[simp] theorem isStr_81 : isStr Try.prog 81 = false := by kernel_rfl
@[simp] theorem isBool_81 : isBool Try.prog 81 = false := by kernel_rfl
@[simp] theorem isPtr_81 : isPtr Try.prog 81 = false := by kernel_rfl
@[simp] theorem isIf_81 : isIf Try.prog 81 = false := by kernel_rfl
@[simp] theorem isIface_81 : isIface Try.prog 81 = false := by kernel_rfl
@[simp] theorem isArr_81 : isArr Try.prog 81 = false := by kernel_rfl
@[simp] theorem plainT_81 : plainT Try.prog 81 = false := by kernel_rfl
@[simp] theorem zAV_81 : zAV Try.prog 9 81 = .raw (.nilFunc) := by kernel_rfl
@[simp] theorem zeroIs_81 : zeroIs Try.prog 81 (.raw (.nilFunc)) := ⟨.nilFunc, by kernel_rfl, .inl ⟨rfl, rfl⟩⟩
@[simp] theorem tyI_82 : tyI Try.prog 82 = some (1, false) := by kernel_rfl
@[simp] theorem isSl_82 : isSl Try.prog 82 = false := by kernel_rfl
@[simp] theorem isStr_82 : isStr Try.prog 82 = false := by kernel_rfl
@[simp] theorem isBool_82 : isBool Try.prog 82 = false := by kernel_rfl
@[simp] theorem isPtr_82 : isPtr Try.prog 82 = false := by kernel_rfl
@[simp] theorem isIf_82 : isIf Try.prog 82 = false := by kernel_rfl
@[simp] theorem isIface_82 : isIface Try.prog 82 = false := by kernel_rfl
@[simp] theorem isArr_82 : isArr Try.prog 82 = false := by kernel_rfl
@[simp] theorem plainT_82 : plainT Try.prog 82 = false := by kernel_rfl
@[simp] theorem zAV_82 : zAV Try.prog 9 82 = .raw (.nilFunc) := by kernel_rfl
@[simp] theorem zeroIs_82 : zeroIs Try.prog 82 (.raw (.nilFunc)) := ⟨.nilFunc, by kernel_rfl, .inl ⟨rfl, rfl⟩⟩
@[simp] theorem tyI_83 : tyI Try.prog 83 = some (3, true) := by kernel_rfl
@[simp] theorem isSl_83 : isSl Try.prog 83 = false := by kernel_rfl
@[simp] theorem isStr_83 : isStr Try.prog 83 = false := by kernel_rfl
@[simp] theorem isBool_83 : isBool Try.prog 83 = false := by kernel_rfl
@[simp] theorem isPtr_83 : isPtr Try.prog 83 = false := by kernel_rfl
@[simp] theorem isIf_83 : isIf Try.prog 83 = false := by kernel_rfl
@[simp] theorem isIface_83 : isIface Try.prog 83 = false := by kernel_rfl
@[simp] theorem isArr_83 : isArr Try.prog 83 = false := by kernel_rfl
@[simp] theorem plainT_83 : plainT Try.prog 83 = true := by kernel_rfl
@[simp] theorem fldI_83_0 : fldI Try.prog 83 0 = some (0, 1, false) := by kernel_rfl
@[simp] theorem fldI_83_1 : fldI Try.prog 83 1 = some (1, 1, false) := by kernel_rfl
@[simp] theorem fldI_83_2 : fldI Try.prog 83 2 = some (2, 1, false) := by kernel_rfl
@[simp] theorem zAV_83 : zAV Try.prog 9 83 = .agg [.raw (.int .i64 0), .raw (.int .i64 0), .raw (.string ⟨#[]⟩)] := by kernel_rfl
@[simp] theorem zeroIs_83 : zeroIs Try.prog 83 (.agg [.raw (.int .i64 0), .raw (.int .i64 0), .raw (.string ⟨#[]⟩)]) := ⟨.agg #[.int .i64 0, .int .i64 0, .string ⟨#[]⟩], by kernel_rfl, .inr ⟨_, _, rfl, rfl, by kernel_rfl⟩⟩
@[simp] theorem layIs_83 : layIs Try.prog 83 [.raw (.int .i64 0), .raw (.int .i64 0), .raw (.string ⟨#[]⟩)] := layIs_of (by kernel_rfl)
@[simp] theorem tyI_84 : tyI Try.prog 84 = some (3, true) := by kernel_rfl
@[simp] theorem isSl_84 : isSl Try.prog 84 = false := by kernel_rfl
@[simp] theorem isStr_84 : isStr Try.prog 84 = false := by kernel_rfl
@[simp] theorem isBool_84 : isBool Try.prog 84 = false := by kernel_rfl
@[simp] theorem isPtr_84 : isPtr Try.prog 84 = false := by kernel_rfl
@[simp] theorem isIf_84 : isIf Try.prog 84 = false := by kernel_rfl
@[simp] theorem isIface_84 : isIface Try.prog 84 = false := by kernel_rfl
@[simp] theorem isArr_84 : isArr Try.prog 84 = false := by kernel_rfl
@[simp] theorem plainT_84 : plainT Try.prog 84 = true := by kernel_rfl
@[simp] theorem eqd_84 : eqd Try.prog 9 84 = some (.st [.i, .i, .s]) := by kernel_rfl
@[simp] theorem guardless_84 : guardless Try.prog 84 = true := by kernel_rfl
@[simp] theorem fldI_84_0 : fldI Try.prog 84 0 = some (0, 1, false) := by kernel_rfl
@[simp] theorem fldI_84_1 : fldI Try.prog 84 1 = some (1, 1, false) := by kernel_rfl
@[simp] theorem fldI_84_2 : fldI Try.prog 84 2 = some (2, 1, false) := by kernel_rfl
@[simp] theorem zAV_84 : zAV Try.prog 9 84 = .agg [.raw (.int .i64 0), .raw (.int .i64 0), .raw (.string ⟨#[]⟩)] := by kernel_rfl
@[simp] theorem zeroIs_84 : zeroIs Try.prog 84 (.agg [.raw (.int .i64 0), .raw (.int .i64 0), .raw (.string ⟨#[]⟩)]) := ⟨.agg #[.int .i64 0, .int .i64 0, .string ⟨#[]⟩], by kernel_rfl, .inr ⟨_, _, rfl, rfl, by kernel_rfl⟩⟩
@[simp] theorem layIs_84 : layIs Try.prog 84 [.raw (.int .i64 0), .raw (.int .i64 0), .raw (.string ⟨#[]⟩)] := layIs_of (by kernel_rfl)
@[simp] theorem tyI_85 : tyI Try.prog 85 = some (1, false) := by kernel_rfl
@[simp] theorem isSl_85 : isSl Try.prog 85 = false := by kernel_rfl
@[simp] theorem isStr_85 : isStr Try.prog 85 = false := by kernel_rfl
@[simp] theorem isBool_85 : isBool Try.prog 85 = false := by kernel_rfl
@[simp] theorem isPtr_85 : isPtr Try.prog 85 = false := by kernel_rfl
@[simp] theorem isIf_85 : isIf Try.prog 85 = false := by kernel_rfl
@[simp] theorem isIface_85 : isIface Try.prog 85 = false := by kernel_rfl
@[simp] theorem isArr_85 : isArr Try.prog 85 = false := by kernel_rfl
@[simp] theorem plainT_85 : plainT Try.prog 85 = false := by kernel_rfl
@[simp] theorem zAV_85 : zAV Try.prog 9 85 = .raw (.nilFunc) := by kernel_rfl
@[simp] theorem zeroIs_85 : zeroIs Try.prog 85 (.raw (.nilFunc)) := ⟨.nilFunc, by kernel_rfl, .inl ⟨rfl, rfl⟩⟩
@[simp] theorem tyI_86 : tyI Try.prog 86 = some (1, false) := by kernel_rfl
@[simp] theorem isSl_86 : isSl Try.prog 86 = false := by kernel_rfl
@[simp] theorem isStr_86 : isStr Try.prog 86 = false := by kernel_rfl
@[simp] theorem isBool_86 : isBool Try.prog 86 = false := by kernel_rfl
@[simp] theorem isPtr_86 : isPtr Try.prog 86 = false := by kernel_rfl
@[simp] theorem isIf_86 : isIf Try.prog 86 = false := by kernel_rfl
@[simp] theorem isIface_86 : isIface Try.prog 86 = false := by kernel_rfl
@[simp] theorem isArr_86 : isArr Try.prog 86 = false := by kernel_rfl
@[simp] theorem plainT_86 : plainT Try.prog 86 = false := by kernel_rfl
@[simp] theorem zAV_86 : zAV Try.prog 9 86 = .raw (.nilFunc) := by kernel_rfl
@[simp] theorem zeroIs_86 : zeroIs Try.prog 86 (.raw (.nilFunc)) := ⟨.nilFunc, by kernel_rfl, .inl ⟨rfl, rfl⟩⟩
@[simp] theorem tyI_87 : tyI Try.prog 87 = some (1, false) := by kernel_rfl
@[simp] theorem isSl_87 : isSl Try.prog 87 = false := by kernel_rfl
@[simp] theorem isStr_87 : isStr Try.prog 87 = false := by kernel_rfl
@[simp] theorem isBool_87 : isBool Try.prog 87 = false := by kernel_rfl
@[simp] theorem isPtr_87 : isPtr Try.prog 87 = false := by kernel_rfl
@[simp] theorem isIf_87 : isIf Try.prog 87 = false := by kernel_rfl
@[simp] theorem isIface_87 : isIface Try.prog 87 = false := by kernel_rfl
@[simp] theorem isArr_87 : isArr Try.prog 87 = false := by kernel_rfl
@[simp] theorem plainT_87 : plainT Try.prog 87 = false := by kernel_rfl
@[simp] theorem zAV_87 : zAV Try.prog 9 87 = .raw (.nilFunc) := by kernel_rfl
@[simp] theorem zeroIs_87 : zeroIs Try.prog 87 (.raw (.nilFunc)) := ⟨.nilFunc, by kernel_rfl, .inl ⟨rfl, rfl⟩⟩
@[simp] theorem tyI_88 : tyI Try.prog 88 = some (1, false) := by kernel_rfl
@[simp] theorem isSl_88 : isSl Try.prog 88 = true := by kernel_rfl
@[simp] theorem isStr_88 : isStr Try.prog 88 = false := by kernel_rfl
@[simp] theorem isBool_88 : isBool Try.prog 88 = false := by kernel_rfl
@[simp] theorem isPtr_88 : isPtr Try.prog 88 = false := by kernel_rfl
@[simp] theorem isIf_88 : isIf Try.prog 88 = false := by kernel_rfl
@[simp] theorem isIface_88 : isIface Try.prog 88 = false := by kernel_rfl
@[simp] theorem isArr_88 : isArr Try.prog 88 = false := by kernel_rfl
@[simp] theorem plainT_88 : plainT Try.prog 88 = false := by kernel_rfl
@[simp] theorem rowI_88 : rowI Try.prog 88 = some (34, 1, 16) := by kernel_rfl
@[simp] theorem zAV_88 : zAV Try.prog 9 88 = .raw (.slice none 0 0) := by kernel_rfl
@[simp] theorem zeroIs_88 : zeroIs Try.prog 88 (.raw (.slice none 0 0)) := ⟨.slice none 0 0, by kernel_rfl, .inl ⟨rfl, rfl⟩⟩
@[simp] theorem tyI_89 : tyI Try.prog 89 = some (1, false) := by kernel_rfl
@[simp] theorem isSl_89 : isSl Try.prog 89 = false := by kernel_rfl
@[simp] theorem isStr_89 : isStr Try.prog 89 = false := by kernel_rfl
@[simp] theorem isBool_89 : isBool Try.prog 89 = false := by kernel_rfl
@[simp] theorem isPtr_89 : isPtr Try.prog 89 = false := by kernel_rfl
@[simp] theorem isIf_89 : isIf Try.prog 89 = false := by kernel_rfl
@[simp] theorem isIface_89 : isIface Try.prog 89 = false := by kernel_rfl
@[simp] theorem isArr_89 : isArr Try.prog 89 = false := by kernel_rfl
@[simp] theorem plainT_89 : plainT Try.prog 89 = false := by kernel_rfl
@[simp] theorem zAV_89 : zAV Try.prog 9 89 = .raw (.nilFunc) := by kernel_rfl
@[simp] theorem zeroIs_89 : zeroIs Try.prog 89 (.raw (.nilFunc)) := ⟨.nilFunc, by kernel_rfl, .inl ⟨rfl, rfl⟩⟩
@[simp] theorem tyI_90 : tyI Try.prog 90 = some (1, false) := by kernel_rfl
@[simp] theorem isSl_90 : isSl Try.prog 90 = false := by kernel_rfl
@[simp] theorem isStr_90 : isStr Try.prog 90 = false := by kernel_rfl
@[simp] theorem isBool_90 : isBool Try.prog 90 = false := by kernel_rfl
@[simp] theorem isPtr_90 : isPtr Try.prog 90 = false := by kernel_rfl
@[simp] theorem isIf_90 : isIf Try.prog 90 = true := by kernel_rfl
@[simp] theorem isIface_90 : isIface Try.prog 90 = true := by kernel_rfl
@[simp] theorem isArr_90 : isArr Try.prog 90 = false := by kernel_rfl
@[simp] theorem plainT_90 : plainT Try.prog 90 = false := by kernel_rfl
@[simp] theorem zAV_90 : zAV Try.prog 9 90 = .raw (.nilIface) := by kernel_rfl
@[simp] theorem zeroIs_90 : zeroIs Try.prog 90 (.raw (.nilIface)) := ⟨.nilIface, by kernel_rfl, .inl ⟨rfl, rfl⟩⟩
@[simp] theorem tyI_91 : tyI Try.prog 91 = some (1, false) := by kernel_rfl
@[simp] theorem isSl_91 : isSl Try.prog 91 = false := by kernel_rfl
@[simp] theorem isStr_91 : isStr Try.prog 91 = false := by kernel_rfl
@[simp] theorem isBool_91 : isBool Try.prog 91 = false := by kernel_rfl
@[simp] theorem isPtr_91 : isPtr Try.prog 91 = false := by kernel_rfl
@[simp] theorem isIf_91 : isIf Try.prog 91 = true := by kernel_rfl
@[simp] theorem isIface_91 : isIface Try.prog 91 = true := by kernel_rfl
@[simp] theorem isArr_91 : isArr Try.prog 91 = false := by kernel_rfl
@[simp] theorem plainT_91 : plainT Try.prog 91 = false := by kernel_rfl
@[simp] theorem zAV_91 : zAV Try.prog 9 91 = .raw (.nilIface) := by kernel_rfl
@[simp] theorem zeroIs_91 : zeroIs Try.prog 91 (.raw (.nilIface)) := ⟨.nilIface, by kernel_rfl, .inl ⟨rfl, rfl⟩⟩
@[simp] theorem tyI_92 : tyI Try.prog 92 = some (1, false) := by kernel_rfl
@[simp] theorem isSl_92 : isSl Try.prog 92 = false := by kernel_rfl
@[simp] theorem isStr_92 : isStr Try.prog 92 = false := by kernel_rfl
@[simp] theorem isBool_92 : isBool Try.prog 92 = false := by kernel_rfl
@[simp] theorem isPtr_92 : isPtr Try.prog 92 = false := by kernel_rfl
@[simp] theorem isIf_92 : isIf Try.prog 92 = false := by kernel_rfl
@[simp] theorem isIface_92 : isIface Try.prog 92 = false := by kernel_rfl
@[simp] theorem isArr_92 : isArr Try.prog 92 = false := by kernel_rfl
@[simp] theorem plainT_92 : plainT Try.prog 92 = false := by kernel_rfl
@[simp] theorem zAV_92 : zAV Try.prog 9 92 = .raw (.nilFunc) := by kernel_rfl
@[simp] theorem zeroIs_92 : zeroIs Try.prog 92 (.raw (.nilFunc)) := ⟨.nilFunc, by kernel_rfl, .inl ⟨rfl, rfl⟩⟩
@[simp] theorem tyI_93 : tyI Try.prog 93 = some (1, false) := by kernel_rfl
@[simp] theorem isSl_93 : isSl Try.prog 93 = false := by kernel_rfl
@[simp] theorem isStr_93 : isStr Try.prog 93 = false := by kernel_rfl
@[simp] theorem isBool_93 : isBool Try.prog 93 = false := by kernel_rfl
@[simp] theorem isPtr_93 : isPtr Try.prog 93 = false := by kernel_rfl
@[simp] theorem isIf_93 : isIf Try.prog 93 = false := by kernel_rfl
@[simp] theorem isIface_93 : isIface Try.prog 93 = false := by kernel_rfl
@[simp] theorem isArr_93 : isArr Try.prog 93 = false := by kernel_rfl
@[simp] theorem plainT_93 : plainT Try.prog 93 = false := by kernel_rfl
@[simp] theorem zAV_93 : zAV Try.prog 9 93 = .raw (.nilFunc) := by kernel_rfl
@[simp] theorem zeroIs_93 : zeroIs Try.prog 93 (.raw (.nilFunc)) := ⟨.nilFunc, by kernel_rfl, .inl ⟨rfl, rfl⟩⟩
@[simp] theorem tyI_94 : tyI Try.prog 94 = some (1, false) := by kernel_rfl
@[simp] theorem isSl_94 : isSl Try.prog 94 = false := by kernel_rfl
@[simp] theorem isStr_94 : isStr Try.prog 94 = false := by kernel_rfl
@[simp] theorem isBool_94 : isBool Try.prog 94 = false := by kernel_rfl
@[simp] theorem isPtr_94 : isPtr Try.prog 94 = false := by kernel_rfl
@[simp] theorem isIf_94 : isIf Try.prog 94 = false := by kernel_rfl
@[simp] theorem isIface_94 : isIface Try.prog 94 = false := by kernel_rfl
@[simp] theorem isArr_94 : isArr Try.prog 94 = false := by kernel_rfl
@[simp] theorem plainT_94 : plainT Try.prog 94 = true := by kernel_rfl
@[simp] theorem und_94 : Try.prog.underlying 94 = some (.int .u64) := by kernel_rfl
@[simp] theorem zAV_94 : zAV Try.prog 9 94 = .raw (.int .u64 0) := by kernel_rfl
@[simp] theorem zeroIs_94 : zeroIs Try.prog 94 (.raw (.int .u64 0)) := ⟨.int .u64 0, by kernel_rfl, .inl ⟨rfl, rfl⟩⟩
@[simp] theorem isSl_95 : isSl Try.prog 95 = false := by kernel_rfl
@[simp] theorem tyI_96 : tyI Try.prog 96 = some (1, false) := by kernel_rfl
@[simp] theorem isSl_96 : isSl Try.prog 96 = false := by kernel_rfl
@[simp] theorem isStr_96 : isStr Try.prog 96 = false := by kernel_rfl
@[simp] theorem isBool_96 : isBool Try.prog 96 = false := by kernel_rfl
@[simp] theorem isPtr_96 : isPtr Try.prog 96 = false := by kernel_rfl
@[simp] theorem isIf_96 : isIf Try.prog 96 = false := by kernel_rfl
@[simp] theorem isIface_96 : isIface Try.prog 96 = false := by kernel_rfl
@[simp] theorem isArr_96 : isArr Try.prog 96 = false := by kernel_rfl
@[simp] theorem plainT_96 : plainT Try.prog 96 = false := by kernel_rfl
@[simp] theorem zAV_96 : zAV Try.prog 9 96 = .raw (.nilFunc) := by kernel_rfl
@[simp] theorem zeroIs_96 : zeroIs Try.prog 96 (.raw (.nilFunc)) := ⟨.nilFunc, by kernel_rfl, .inl ⟨rfl, rfl⟩⟩
@[simp] theorem tyI_97 : tyI Try.prog 97 = some (1, false) := by kernel_rfl
@[simp] theorem isSl_97 : isSl Try.prog 97 = false := by kernel_rfl
@[simp] theorem isStr_97 : isStr Try.prog 97 = false := by kernel_rfl
@[simp] theorem isBool_97 : isBool Try.prog 97 = false := by kernel_rfl
@[simp] theorem isPtr_97 : isPtr Try.prog 97 = false := by kernel_rfl
@[simp] theorem isIf_97 : isIf Try.prog 97 = false := by kernel_rfl
@[simp] theorem isIface_97 : isIface Try.prog 97 = false := by kernel_rfl
@[simp] theorem isArr_97 : isArr Try.prog 97 = false := by kernel_rfl
@[simp] theorem plainT_97 : plainT Try.prog 97 = false := by kernel_rfl
@[simp] theorem zAV_97 : zAV Try.prog 9 97 = .raw (.nilFunc) := by kernel_rfl
@[simp] theorem zeroIs_97 : zeroIs Try.prog 97 (.raw (.nilFunc)) := ⟨.nilFunc, by kernel_rfl, .inl ⟨rfl, rfl⟩⟩
@[simp] theorem tyI_98 : tyI Try.prog 98 = some (1, false) := by kernel_rfl
@[simp] theorem isSl_98 : isSl Try.prog 98 = false := by kernel_rfl
@[simp] theorem isStr_98 : isStr Try.prog 98 = false := by kernel_rfl
@[simp] theorem isBool_98 : isBool Try.prog 98 = false := by kernel_rfl
@[simp] theorem isPtr_98 : isPtr Try.prog 98 = false := by kernel_rfl
@[simp] theorem isIf_98 : isIf Try.prog 98 = false := by kernel_rfl
@[simp] theorem isIface_98 : isIface Try.prog 98 = false := by kernel_rfl
@[simp] theorem isArr_98 : isArr Try.prog 98 = false := by kernel_rfl
@[simp] theorem plainT_98 : plainT Try.prog 98 = false := by kernel_rfl
@[simp] theorem zAV_98 : zAV Try.prog 9 98 = .raw (.nilFunc) := by kernel_rfl
@[simp] theorem zeroIs_98 : zeroIs Try.prog 98 (.raw (.nilFunc)) := ⟨.nilFunc, by kernel_rfl, .inl ⟨rfl, rfl⟩⟩
@[simp] theorem tyI_99 : tyI Try.prog 99 = some (1, false) := by kernel_rfl
@[simp] theorem isSl_99 : isSl Try.prog 99 = false := by kernel_rfl
@[simp] theorem isStr_99 : isStr Try.prog 99 = false := by kernel_rfl
@[simp] theorem isBool_99 : isBool Try.prog 99 = false := by kernel_rfl
@[simp] theorem isPtr_99 : isPtr Try.prog 99 = false := by kernel_rfl
@[simp] theorem isIf_99 : isIf Try.prog 99 = false := by kernel_rfl
@[simp] theorem isIface_99 : isIface Try.prog 99 = false := by kernel_rfl
@[simp] theorem isArr_99 : isArr Try.prog 99 = false := by kernel_rfl
@[simp] theorem plainT_99 : plainT Try.prog 99 = false := by kernel_rfl
@[simp] theorem zAV_99 : zAV Try.prog 9 99 = .raw (.nilFunc) := by kernel_rfl
@[simp] theorem zeroIs_99 : zeroIs Try.prog 99 (.raw (.nilFunc)) := ⟨.nilFunc, by kernel_rfl, .inl ⟨rfl, rfl⟩⟩
@[simp] theorem tyI_100 : tyI Try.prog 100 = some (1, true) := by kernel_rfl
@[simp] theorem isSl_100 : isSl Try.prog 100 = false := by kernel_rfl
@[simp] theorem isStr_100 : isStr Try.prog 100 = false := by kernel_rfl
@[simp] theorem isBool_100 : isBool Try.prog 100 = false := by kernel_rfl
@[simp] theorem isPtr_100 : isPtr Try.prog 100 = false := by kernel_rfl
@[simp] theorem isIf_100 : isIf Try.prog 100 = false := by kernel_rfl
@[simp] theorem isIface_100 : isIface Try.prog 100 = false := by kernel_rfl
@[simp] theorem isArr_100 : isArr Try.prog 100 = false := by kernel_rfl
@[simp] theorem plainT_100 : plainT Try.prog 100 = false := by kernel_rfl
@[simp] theorem fldI_100_0 : fldI Try.prog 100 0 = some (0, 1, false) := by kernel_rfl
@[simp] theorem zAV_100 : zAV Try.prog 9 100 = .agg [.raw (.pointer none)] := by kernel_rfl
@[simp] theorem zeroIs_100 : zeroIs Try.prog 100 (.agg [.raw (.pointer none)]) := ⟨.agg #[.pointer none], by kernel_rfl, .inr ⟨_, _, rfl, rfl, by kernel_rfl⟩⟩
@[simp] theorem layIs_100 : layIs Try.prog 100 [.raw (.pointer none)] := layIs_of (by kernel_rfl)
@[simp] theorem tyI_101 : tyI Try.prog 101 = some (1, true) := by kernel_rfl
@[simp] theorem isSl_101 : isSl Try.prog 101 = false := by kernel_rfl
@[simp] theorem isStr_101 : isStr Try.prog 101 = false := by kernel_rfl
@[simp] theorem isBool_101 : isBool Try.prog 101 = false := by kernel_rfl
@[simp] theorem isPtr_101 : isPtr Try.prog 101 = false := by kernel_rfl
@[simp] theorem isIf_101 : isIf Try.prog 101 = false := by kernel_rfl
@[simp] theorem isIface_101 : isIface Try.prog 101 = false := by kernel_rfl
@[simp] theorem isArr_101 : isArr Try.prog 101 = false := by kernel_rfl
@[simp] theorem plainT_101 : plainT Try.prog 101 = false := by kernel_rfl
@[simp] theorem fldI_101_0 : fldI Try.prog 101 0 = some (0, 1, false) := by kernel_rfl
@[simp] theorem zAV_101 : zAV Try.prog 9 101 = .agg [.raw (.pointer none)] := by kernel_rfl
@[simp] theorem zeroIs_101 : zeroIs Try.prog 101 (.agg [.raw (.pointer none)]) := ⟨.agg #[.pointer none], by kernel_rfl, .inr ⟨_, _, rfl, rfl, by kernel_rfl⟩⟩
@[simp] theorem layIs_101 : layIs Try.prog 101 [.raw (.pointer none)] := layIs_of (by kernel_rfl)
@[simp] theorem tyI_102 : tyI Try.prog 102 = some (1, false) := by kernel_rfl
@[simp] theorem isSl_102 : isSl Try.prog 102 = false := by kernel_rfl
@[simp] theorem isStr_102 : isStr Try.prog 102 = false := by kernel_rfl
@[simp] theorem isBool_102 : isBool Try.prog 102 = false := by kernel_rfl
@[simp] theorem isPtr_102 : isPtr Try.prog 102 = true := by kernel_rfl
@[simp] theorem isIf_102 : isIf Try.prog 102 = false := by kernel_rfl
@[simp] theorem isIface_102 : isIface Try.prog 102 = false := by kernel_rfl
@[simp] theorem isArr_102 : isArr Try.prog 102 = false := by kernel_rfl
@[simp] theorem plainT_102 : plainT Try.prog 102 = false := by kernel_rfl
@[simp] theorem zAV_102 : zAV Try.prog 9 102 = .raw (.pointer none) := by kernel_rfl
@[simp] theorem zeroIs_102 : zeroIs Try.prog 102 (.raw (.pointer none)) := ⟨.pointer none, by kernel_rfl, .inl ⟨rfl, rfl⟩⟩
@[simp] theorem tyI_103 : tyI Try.prog 103 = some (1, false) := by kernel_rfl
@[simp] theorem isSl_103 : isSl Try.prog 103 = false := by kernel_rfl
@[simp] theorem isStr_103 : isStr Try.prog 103 = false := by kernel_rfl
@[simp] theorem isBool_103 : isBool Try.prog 103 = false := by kernel_rfl
@[simp] theorem isPtr_103 : isPtr Try.prog 103 = false := by kernel_rfl
@[simp] theorem isIf_103 : isIf Try.prog 103 = true := by kernel_rfl
@[simp] theorem isIface_103 : isIface Try.prog 103 = true := by kernel_rfl
@[simp] theorem isArr_103 : isArr Try.prog 103 = false := by kernel_rfl
@[simp] theorem plainT_103 : plainT Try.prog 103 = false := by kernel_rfl
@[simp] theorem zAV_103 : zAV Try.prog 9 103 = .raw (.nilIface) := by kernel_rfl
@[simp] theorem zeroIs_103 : zeroIs Try.prog 103 (.raw (.nilIface)) := ⟨.nilIface, by kernel_rfl, .inl ⟨rfl, rfl⟩⟩
@[simp] theorem isSl_104 : isSl Try.prog 104 = false := by kernel_rfl
@[simp] theorem tyI_105 : tyI Try.prog 105 = some (1, false) := by kernel_rfl
@[simp] theorem isSl_105 : isSl Try.prog 105 = false := by kernel_rfl
@[simp] theorem isStr_105 : isStr Try.prog 105 = false := by kernel_rfl
@[simp] theorem isBool_105 : isBool Try.prog 105 = false := by kernel_rfl
@[simp] theorem isPtr_105 : isPtr Try.prog 105 = false := by kernel_rfl
@[simp] theorem isIf_105 : isIf Try.prog 105 = false := by kernel_rfl
@[simp] theorem isIface_105 : isIface Try.prog 105 = false := by kernel_rfl
@[simp] theorem isArr_105 : isArr Try.prog 105 = false := by kernel_rfl
@[simp] theorem plainT_105 : plainT Try.prog 105 = false := by kernel_rfl
@[simp] theorem zAV_105 : zAV Try.prog 9 105 = .raw (.nilFunc) := by kernel_rfl
@[simp] theorem zeroIs_105 : zeroIs Try.prog 105 (.raw (.nilFunc)) := ⟨.nilFunc, by kernel_rfl, .inl ⟨rfl, rfl⟩⟩
@[simp] theorem tyI_106 : tyI Try.prog 106 = some (1, false) := by kernel_rfl
@[simp] theorem isSl_106 : isSl Try.prog 106 = false := by kernel_rfl
@[simp] theorem isStr_106 : isStr Try.prog 106 = false := by kernel_rfl
@[simp] theorem isBool_106 : isBool Try.prog 106 = false := by kernel_rfl
@[simp] theorem isPtr_106 : isPtr Try.prog 106 = false := by kernel_rfl
@[simp] theorem isIf_106 : isIf Try.prog 106 = true := by kernel_rfl
@[simp] theorem isIface_106 : isIface Try.prog 106 = true := by kernel_rfl
@[simp] theorem isArr_106 : isArr Try.prog 106 = false := by kernel_rfl
@[simp] theorem plainT_106 : plainT Try.prog 106 = false := by kernel_rfl
@[simp] theorem zAV_106 : zAV Try.prog 9 106 = .raw (.nilIface) := by kernel_rfl
@[simp] theorem zeroIs_106 : zeroIs Try.prog 106 (.raw (.nilIface)) := ⟨.nilIface, by kernel_rfl, .inl ⟨rfl, rfl⟩⟩
@[simp] theorem tyI_107 : tyI Try.prog 107 = some (1, false) := by kernel_rfl
@[simp] theorem isSl_107 : isSl Try.prog 107 = false := by kernel_rfl
@[simp] theorem isStr_107 : isStr Try.prog 107 = false := by kernel_rfl
@[simp] theorem isBool_107 : isBool Try.prog 107 = false := by kernel_rfl
@[simp] theorem isPtr_107 : isPtr Try.prog 107 = false := by kernel_rfl
@[simp] theorem isIf_107 : isIf Try.prog 107 = false := by kernel_rfl
@[simp] theorem isIface_107 : isIface Try.prog 107 = false := by kernel_rfl
@[simp] theorem isArr_107 : isArr Try.prog 107 = false := by kernel_rfl
@[simp] theorem plainT_107 : plainT Try.prog 107 = false := by kernel_rfl
@[simp] theorem zAV_107 : zAV Try.prog 9 107 = .raw (.nilFunc) := by kernel_rfl
@[simp] theorem zeroIs_107 : zeroIs Try.prog 107 (.raw (.nilFunc)) := ⟨.nilFunc, by kernel_rfl, .inl ⟨rfl, rfl⟩⟩
@[simp] theorem tyI_108 : tyI Try.prog 108 = some (1, false) := by kernel_rfl
@[simp] theorem isSl_108 : isSl Try.prog 108 = false := by kernel_rfl
@[simp] theorem isStr_108 : isStr Try.prog 108 = false := by kernel_rfl
@[simp] theorem isBool_108 : isBool Try.prog 108 = false := by kernel_rfl
@[simp] theorem isPtr_108 : isPtr Try.prog 108 = false := by kernel_rfl
@[simp] theorem isIf_108 : isIf Try.prog 108 = true := by kernel_rfl
@[simp] theorem isIface_108 : isIface Try.prog 108 = true := by kernel_rfl
@[simp] theorem isArr_108 : isArr Try.prog 108 = false := by kernel_rfl
@[simp] theorem plainT_108 : plainT Try.prog 108 = false := by kernel_rfl
@[simp] theorem zAV_108 : zAV Try.prog 9 108 = .raw (.nilIface) := by kernel_rfl
@[simp] theorem zeroIs_108 : zeroIs Try.prog 108 (.raw (.nilIface)) := ⟨.nilIface, by kernel_rfl, .inl ⟨rfl, rfl⟩⟩
@[simp] theorem tyI_109 : tyI Try.prog 109 = some (1, false) := by kernel_rfl
@[simp] theorem isSl_109 : isSl Try.prog 109 = false := by kernel_rfl
@[simp] theorem isStr_109 : isStr Try.prog 109 = false := by kernel_rfl
@[simp] theorem isBool_109 : isBool Try.prog 109 = false := by kernel_rfl
@[simp] theorem isPtr_109 : isPtr Try.prog 109 = false := by kernel_rfl
@[simp] theorem isIf_109 : isIf Try.prog 109 = false := by kernel_rfl
@[simp] theorem isIface_109 : isIface Try.prog 109 = false := by kernel_rfl
@[simp] theorem isArr_109 : isArr Try.prog 109 = false := by kernel_rfl
@[simp] theorem plainT_109 : plainT Try.prog 109 = false := by kernel_rfl
@[simp] theorem zAV_109 : zAV Try.prog 9 109 = .raw (.nilFunc) := by kernel_rfl
@[simp] theorem zeroIs_109 : zeroIs Try.prog 109 (.raw (.nilFunc)) := ⟨.nilFunc, by kernel_rfl, .inl ⟨rfl, rfl⟩⟩
@[simp] theorem tyI_110 : tyI Try.prog 110 = some (20, true) := by kernel_rfl
@[simp] theorem isSl_110 : isSl Try.prog 110 = false := by kernel_rfl
@[simp] theorem isStr_110 : isStr Try.prog 110 = false := by kernel_rfl
@[simp] theorem isBool_110 : isBool Try.prog 110 = false := by kernel_rfl
@[simp] theorem isPtr_110 : isPtr Try.prog 110 = false := by kernel_rfl
@[simp] theorem isIf_110 : isIf Try.prog 110 = false := by kernel_rfl
@[simp] theorem isIface_110 : isIface Try.prog 110 = false := by kernel_rfl
@[simp] theorem isArr_110 : isArr Try.prog 110 = true := by kernel_rfl
@[simp] theorem plainT_110 : plainT Try.prog 110 = true := by kernel_rfl
@[simp] theorem arrI_110 : arrI Try.prog 110 = some (20, 1) := by kernel_rfl
@[simp] theorem zAV_110 : zAV Try.prog 9 110 = .agg [.raw (.int .u8 0), .raw (.int .u8 0), .raw (.int .u8 0), .raw (.int .u8 0), .raw (.int .u8 0), .raw (.int .u8 0), .raw (.int .u8 0), .raw (.int .u8 0), .raw (.int .u8 0), .raw (.int .u8 0), .raw (.int .u8 0), .raw (.int .u8 0), .raw (.int .u8 0), .raw (.int .u8 0), .raw (.int .u8 0), .raw (.int .u8 0), .raw (.int .u8 0), .raw (.int .u8 0), .raw (.int .u8 0), .raw (.int .u8 0)] := by kernel_rfl
@[simp] theorem zeroIs_110 : zeroIs Try.prog 110 (.agg [.raw (.int .u8 0), .raw (.int .u8 0), .raw (.int .u8 0), .raw (.int .u8 0), .raw (.int .u8 0), .raw (.int .u8 0), .raw (.int .u8 0), .raw (.int .u8 0), .raw (.int .u8 0), .raw (.int .u8 0), .raw (.int .u8 0), .raw (.int .u8 0), .raw (.int .u8 0), .raw (.int .u8 0), .raw (.int .u8 0), .raw (.int .u8 0), .raw (.int .u8 0), .raw (.int .u8 0), .raw (.int .u8 0), .raw (.int .u8 0)]) := ⟨.agg #[.int .u8 0, .int .u8 0, .int .u8 0, .int .u8 0, .int .u8 0, .int .u8 0, .int .u8 0, .int .u8 0, .int .u8 0, .int .u8 0, .int .u8 0, .int .u8 0, .int .u8 0, .int .u8 0, .int .u8 0, .int .u8 0, .int .u8 0, .int .u8 0, .int .u8 0, .int .u8 0], by kernel_rfl, .inr ⟨_, _, rfl, rfl, by kernel_rfl⟩⟩
@[simp] theorem tyI_111 : tyI Try.prog 111 = some (4, true) := by kernel_rfl
@[simp] theorem isSl_111 : isSl Try.prog 111 = false := by kernel_rfl
@[simp] theorem isStr_111 : isStr Try.prog 111 = false := by kernel_rfl
@[simp] theorem isBool_111 : isBool Try.prog 111 = false := by kernel_rfl
@[simp] theorem isPtr_111 : isPtr Try.prog 111 = false := by kernel_rfl
@[simp] theorem isIf_111 : isIf Try.prog 111 = false := by kernel_rfl
@[simp] theorem isIface_111 : isIface Try.prog 111 = false := by kernel_rfl
@[simp] theorem isArr_111 : isArr Try.prog 111 = false := by kernel_rfl
@[simp] theorem plainT_111 : plainT Try.prog 111 = false := by kernel_rfl
@[simp] theorem fldI_111_0 : fldI Try.prog 111 0 = some (0, 1, false) := by kernel_rfl
@[simp] theorem fldI_111_1 : fldI Try.prog 111 1 = some (1, 1, false) := by kernel_rfl
@[simp] theorem fldI_111_2 : fldI Try.prog 111 2 = some (2, 1, false) := by kernel_rfl
@[simp] theorem fldI_111_3 : fldI Try.prog 111 3 = some (3, 1, false) := by kernel_rfl
@[simp] theorem zAV_111 : zAV Try.prog 9 111 = .agg [.raw (.pointer none), .raw (.pointer none), .raw (.pointer none), .raw (.string ⟨#[]⟩)] := by kernel_rfl
@[simp] theorem zeroIs_111 : zeroIs Try.prog 111 (.agg [.raw (.pointer none), .raw (.pointer none), .raw (.pointer none), .raw (.string ⟨#[]⟩)]) := ⟨.agg #[.pointer none, .pointer none, .pointer none, .string ⟨#[]⟩], by kernel_rfl, .inr ⟨_, _, rfl, rfl, by kernel_rfl⟩⟩
@[simp] theorem layIs_111 : layIs Try.prog 111 [.raw (.pointer none), .raw (.pointer none), .raw (.pointer none), .raw (.string ⟨#[]⟩)] := layIs_of (by kernel_rfl)
@[simp] theorem tyI_112 : tyI Try.prog 112 = some (4, true) := by kernel_rfl
@[simp] theorem isSl_112 : isSl Try.prog 112 = false := by kernel_rfl
@[simp] theorem isStr_112 : isStr Try.prog 112 = false := by kernel_rfl
@[simp] theorem isBool_112 : isBool Try.prog 112 = false := by kernel_rfl
@[simp] theorem isPtr_112 : isPtr Try.prog 112 = false := by kernel_rfl
@[simp] theorem isIf_112 : isIf Try.prog 112 = false := by kernel_rfl
@[simp] theorem isIface_112 : isIface Try.prog 112 = false := by kernel_rfl
@[simp] theorem isArr_112 : isArr Try.prog 112 = false := by kernel_rfl
@[simp] theorem plainT_112 : plainT Try.prog 112 = false := by kernel_rfl
@[simp] theorem fldI_112_0 : fldI Try.prog 112 0 = some (0, 1, false) := by kernel_rfl
@[simp] theorem fldI_112_1 : fldI Try.prog 112 1 = some (1, 1, false) := by kernel_rfl
@[simp] theorem fldI_112_2 : fldI Try.prog 112 2 = some (2, 1, false) := by kernel_rfl
@[simp] theorem fldI_112_3 : fldI Try.prog 112 3 = some (3, 1, false) := by kernel_rfl
@[simp] theorem zAV_112 : zAV Try.prog 9 112 = .agg [.raw (.pointer none), .raw (.pointer none), .raw (.pointer none), .raw (.string ⟨#[]⟩)] := by kernel_rfl
@[simp] theorem zeroIs_112 : zeroIs Try.prog 112 (.agg [.raw (.pointer none), .raw (.pointer none), .raw (.pointer none), .raw (.string ⟨#[]⟩)]) := ⟨.agg #[.pointer none, .pointer none, .pointer none, .string ⟨#[]⟩], by kernel_rfl, .inr ⟨_, _, rfl, rfl, by kernel_rfl⟩⟩
@[simp] theorem layIs_112 : layIs Try.prog 112 [.raw (.pointer none), .raw (.pointer none), .raw (.pointer none), .raw (.string ⟨#[]⟩)] := layIs_of (by kernel_rfl)
@[simp] theorem tyI_113 : tyI Try.prog 113 = some (0, true) := by kernel_rfl
@[simp] theorem isSl_113 : isSl Try.prog 113 = false := by kernel_rfl
@[simp] theorem isStr_113 : isStr Try.prog 113 = false := by kernel_rfl
@[simp] theorem isBool_113 : isBool Try.prog 113 = false := by kernel_rfl
@[simp] theorem isPtr_113 : isPtr Try.prog 113 = false := by kernel_rfl
@[simp] theorem isIf_113 : isIf Try.prog 113 = false := by kernel_rfl
@[simp] theorem isIface_113 : isIface Try.prog 113 = false := by kernel_rfl
@[simp] theorem isArr_113 : isArr Try.prog 113 = true := by kernel_rfl
@[simp] theorem plainT_113 : plainT Try.prog 113 = true := by kernel_rfl
@[simp] theorem zAV_113 : zAV Try.prog 9 113 = .agg [] := by kernel_rfl
@[simp] theorem zeroIs_113 : zeroIs Try.prog 113 (.agg []) := ⟨.agg #[], by kernel_rfl, .inr ⟨_, _, rfl, rfl, by kernel_rfl⟩⟩
@[simp] theorem tyI_114 : tyI Try.prog 114 = some (0, true) := by kernel_rfl
@[simp] theorem isSl_114 : isSl Try.prog 114 = false := by kernel_rfl
@[simp] theorem isStr_114 : isStr Try.prog 114 = false := by kernel_rfl
@[simp] theorem isBool_114 : isBool Try.prog 114 = false := by kernel_rfl
@[simp] theorem isPtr_114 : isPtr Try.prog 114 = false := by kernel_rfl
@[simp] theorem isIf_114 : isIf Try.prog 114 = false := by kernel_rfl
@[simp] theorem isIface_114 : isIface Try.prog 114 = false := by kernel_rfl
@[simp] theorem isArr_114 : isArr Try.prog 114 = false := by kernel_rfl
@[simp] theorem plainT_114 : plainT Try.prog 114 = true := by kernel_rfl
@[simp] theorem zAV_114 : zAV Try.prog 9 114 = .agg [.agg []] := by kernel_rfl
@[simp] theorem zeroIs_114 : zeroIs Try.prog 114 (.agg [.agg []]) := ⟨.agg #[], by kernel_rfl, .inr ⟨_, _, rfl, rfl, by kernel_rfl⟩⟩
@[simp] theorem layIs_114 : layIs Try.prog 114 [.agg []] := layIs_of (by kernel_rfl)
@[simp] theorem tyI_115 : tyI Try.prog 115 = some (0, true) := by kernel_rfl
@[simp] theorem isSl_115 : isSl Try.prog 115 = false := by kernel_rfl
@[simp] theorem isStr_115 : isStr Try.prog 115 = false := by kernel_rfl
@[simp] theorem isBool_115 : isBool Try.prog 115 = false := by kernel_rfl
@[simp] theorem isPtr_115 : isPtr Try.prog 115 = false := by kernel_rfl
@[simp] theorem isIf_115 : isIf Try.prog 115 = false := by kernel_rfl
@[simp] theorem isIface_115 : isIface Try.prog 115 = false := by kernel_rfl
@[simp] theorem isArr_115 : isArr Try.prog 115 = false := by kernel_rfl
@[simp] theorem plainT_115 : plainT Try.prog 115 = true := by kernel_rfl
@[simp] theorem zAV_115 : zAV Try.prog 9 115 = .agg [.agg []] := by kernel_rfl
@[simp] theorem zeroIs_115 : zeroIs Try.prog 115 (.agg [.agg []]) := ⟨.agg #[], by kernel_rfl, .inr ⟨_, _, rfl, rfl, by kernel_rfl⟩⟩
@[simp] theorem layIs_115 : layIs Try.prog 115 [.agg []] := layIs_of (by kernel_rfl)
@[simp] theorem tyI_116 : tyI Try.prog 116 = some (1, false) := by kernel_rfl
@[simp] theorem isSl_116 : isSl Try.prog 116 = false := by kernel_rfl
@[simp] theorem isStr_116 : isStr Try.prog 116 = false := by kernel_rfl
@[simp] theorem isBool_116 : isBool Try.prog 116 = false := by kernel_rfl
@[simp] theorem isPtr_116 : isPtr Try.prog 116 = false := by kernel_rfl
@[simp] theorem isIf_116 : isIf Try.prog 116 = false := by kernel_rfl
@[simp] theorem isIface_116 : isIface Try.prog 116 = false := by kernel_rfl
@[simp] theorem isArr_116 : isArr Try.prog 116 = false := by kernel_rfl
@[simp] theorem plainT_116 : plainT Try.prog 116 = true := by kernel_rfl
@[simp] theorem und_116 : Try.prog.underlying 116 = some (.int .u32) := by kernel_rfl
@[simp] theorem zAV_116 : zAV Try.prog 9 116 = .raw (.int .u32 0) := by kernel_rfl
@[simp] theorem zeroIs_116 : zeroIs Try.prog 116 (.raw (.int .u32 0)) := ⟨.int .u32 0, by kernel_rfl, .inl ⟨rfl, rfl⟩⟩
@[simp] theorem tyI_117 : tyI Try.prog 117 = some (1, false) := by kernel_rfl
@[simp] theorem isSl_117 : isSl Try.prog 117 = false := by kernel_rfl
@[simp] theorem isStr_117 : isStr Try.prog 117 = false := by kernel_rfl
@[simp] theorem isBool_117 : isBool Try.prog 117 = false := by kernel_rfl
@[simp] theorem isPtr_117 : isPtr Try.prog 117 = false := by kernel_rfl
@[simp] theorem isIf_117 : isIf Try.prog 117 = false := by kernel_rfl
@[simp] theorem isIface_117 : isIface Try.prog 117 = false := by kernel_rfl
@[simp] theorem isArr_117 : isArr Try.prog 117 = false := by kernel_rfl
@[simp] theorem plainT_117 : plainT Try.prog 117 = true := by kernel_rfl
@[simp] theorem und_117 : Try.prog.underlying 117 = some (.int .u8) := by kernel_rfl
@[simp] theorem zAV_117 : zAV Try.prog 9 117 = .raw (.int .u8 0) := by kernel_rfl
@[simp] theorem zeroIs_117 : zeroIs Try.prog 117 (.raw (.int .u8 0)) := ⟨.int .u8 0, by kernel_rfl, .inl ⟨rfl, rfl⟩⟩
@[simp] theorem tyI_118 : tyI Try.prog 118 = some (1, false) := by kernel_rfl
@[simp] theorem isSl_118 : isSl Try.prog 118 = false := by kernel_rfl
@[simp] theorem isStr_118 : isStr Try.prog 118 = false := by kernel_rfl
@[simp] theorem isBool_118 : isBool Try.prog 118 = false := by kernel_rfl
@[simp] theorem isPtr_118 : isPtr Try.prog 118 = false := by kernel_rfl
@[simp] theorem isIf_118 : isIf Try.prog 118 = false := by kernel_rfl
@[simp] theorem isIface_118 : isIface Try.prog 118 = false := by kernel_rfl
@[simp] theorem isArr_118 : isArr Try.prog 118 = false := by kernel_rfl
@[simp] theorem plainT_118 : plainT Try.prog 118 = true := by kernel_rfl
@[simp] theorem und_118 : Try.prog.underlying 118 = some (.int .u8) := by kernel_rfl
@[simp] theorem zAV_118 : zAV Try.prog 9 118 = .raw (.int .u8 0) := by kernel_rfl
@[simp] theorem zeroIs_118 : zeroIs Try.prog 118 (.raw (.int .u8 0)) := ⟨.int .u8 0, by kernel_rfl, .inl ⟨rfl, rfl⟩⟩
@[simp] theorem tyI_119 : tyI Try.prog 119 = some (1, false) := by kernel_rfl
@[simp] theorem isSl_119 : isSl Try.prog 119 = false := by kernel_rfl
@[simp] theorem isStr_119 : isStr Try.prog 119 = false := by kernel_rfl
@[simp] theorem isBool_119 : isBool Try.prog 119 = false := by kernel_rfl
@[simp] theorem isPtr_119 : isPtr Try.prog 119 = false := by kernel_rfl
@[simp] theorem isIf_119 : isIf Try.prog 119 = false := by kernel_rfl
@[simp] theorem isIface_119 : isIface Try.prog 119 = false := by kernel_rfl
@[simp] theorem isArr_119 : isArr Try.prog 119 = false := by kernel_rfl
@[simp] theorem plainT_119 : plainT Try.prog 119 = false := by kernel_rfl
@[simp] theorem zAV_119 : zAV Try.prog 9 119 = .raw (.nilFunc) := by kernel_rfl
@[simp] theorem zeroIs_119 : zeroIs Try.prog 119 (.raw (.nilFunc)) := ⟨.nilFunc, by kernel_rfl, .inl ⟨rfl, rfl⟩⟩
@[simp] theorem tyI_120 : tyI Try.prog 120 = some (1, false) := by kernel_rfl
@[simp] theorem isSl_120 : isSl Try.prog 120 = false := by kernel_rfl
@[simp] theorem isStr_120 : isStr Try.prog 120 = false := by kernel_rfl
@[simp] theorem isBool_120 : isBool Try.prog 120 = false := by kernel_rfl
@[simp] theorem isPtr_120 : isPtr Try.prog 120 = true := by kernel_rfl
@[simp] theorem isIf_120 : isIf Try.prog 120 = false := by kernel_rfl
@[simp] theorem isIface_120 : isIface Try.prog 120 = false := by kernel_rfl
@[simp] theorem isArr_120 : isArr Try.prog 120 = false := by kernel_rfl
@[simp] theorem plainT_120 : plainT Try.prog 120 = false := by kernel_rfl
@[simp] theorem zAV_120 : zAV Try.prog 9 120 = .raw (.pointer none) := by kernel_rfl
@[simp] theorem zeroIs_120 : zeroIs Try.prog 120 (.raw (.pointer none)) := ⟨.pointer none, by kernel_rfl, .inl ⟨rfl, rfl⟩⟩
@[simp] theorem tyI_121 : tyI Try.prog 121 = some (1, false) := by kernel_rfl
@[simp] theorem isSl_121 : isSl Try.prog 121 = false := by kernel_rfl
@[simp] theorem isStr_121 : isStr Try.prog 121 = false := by kernel_rfl
@[simp] theorem isBool_121 : isBool Try.prog 121 = false := by kernel_rfl
@[simp] theorem isPtr_121 : isPtr Try.prog 121 = false := by kernel_rfl
@[simp] theorem isIf_121 : isIf Try.prog 121 = false := by kernel_rfl
@[simp] theorem isIface_121 : isIface Try.prog 121 = false := by kernel_rfl
@[simp] theorem isArr_121 : isArr Try.prog 121 = false := by kernel_rfl
@[simp] theorem plainT_121 : plainT Try.prog 121 = true := by kernel_rfl
@[simp] theorem und_121 : Try.prog.underlying 121 = some (.int .i32) := by kernel_rfl
@[simp] theorem zAV_121 : zAV Try.prog 9 121 = .raw (.int .i32 0) := by kernel_rfl
@[simp] theorem zeroIs_121 : zeroIs Try.prog 121 (.raw (.int .i32 0)) := ⟨.int .i32 0, by kernel_rfl, .inl ⟨rfl, rfl⟩⟩
@[simp] theorem tyI_122 : tyI Try.prog 122 = some (1, false) := by kernel_rfl
@[simp] theorem isSl_122 : isSl Try.prog 122 = false := by kernel_rfl
@[simp] theorem isStr_122 : isStr Try.prog 122 = false := by kernel_rfl
@[simp] theorem isBool_122 : isBool Try.prog 122 = false := by kernel_rfl
@[simp] theorem isPtr_122 : isPtr Try.prog 122 = false := by kernel_rfl
@[simp] theorem isIf_122 : isIf Try.prog 122 = false := by kernel_rfl
@[simp] theorem isIface_122 : isIface Try.prog 122 = false := by kernel_rfl
@[simp] theorem isArr_122 : isArr Try.prog 122 = false := by kernel_rfl
@[simp] theorem plainT_122 : plainT Try.prog 122 = true := by kernel_rfl
@[simp] theorem und_122 : Try.prog.underlying 122 = some (.int .i32) := by kernel_rfl
@[simp] theorem zAV_122 : zAV Try.prog 9 122 = .raw (.int .i32 0) := by kernel_rfl
@[simp] theorem zeroIs_122 : zeroIs Try.prog 122 (.raw (.int .i32 0)) := ⟨.int .i32 0, by kernel_rfl, .inl ⟨rfl, rfl⟩⟩
@[simp] theorem tyI_123 : tyI Try.prog 123 = some (11, true) := by kernel_rfl
@[simp] theorem isSl_123 : isSl Try.prog 123 = false := by kernel_rfl
@[simp] theorem isStr_123 : isStr Try.prog 123 = false := by kernel_rfl
@[simp] theorem isBool_123 : isBool Try.prog 123 = false := by kernel_rfl
@[simp] theorem isPtr_123 : isPtr Try.prog 123 = false := by kernel_rfl
@[simp] theorem isIf_123 : isIf Try.prog 123 = false := by kernel_rfl
@[simp] theorem isIface_123 : isIface Try.prog 123 = false := by kernel_rfl
@[simp] theorem isArr_123 : isArr Try.prog 123 = false := by kernel_rfl
@[simp] theorem plainT_123 : plainT Try.prog 123 = false := by kernel_rfl
@[simp] theorem fldI_123_0 : fldI Try.prog 123 0 = some (0, 1, false) := by kernel_rfl
@[simp] theorem fldI_123_1 : fldI Try.prog 123 1 = some (1, 1, false) := by kernel_rfl
@[simp] theorem fldI_123_2 : fldI Try.prog 123 2 = some (2, 1, false) := by kernel_rfl
@[simp] theorem fldI_123_3 : fldI Try.prog 123 3 = some (3, 1, false) := by kernel_rfl
@[simp] theorem fldI_123_4 : fldI Try.prog 123 4 = some (4, 1, false) := by kernel_rfl
@[simp] theorem fldI_123_5 : fldI Try.prog 123 5 = some (5, 1, false) := by kernel_rfl
@[simp] theorem fldI_123_6 : fldI Try.prog 123 6 = some (6, 1, false) := by kernel_rfl
@[simp] theorem fldI_123_7 : fldI Try.prog 123 7 = some (7, 1, false) := by kernel_rfl
@[simp] theorem fldI_123_8 : fldI Try.prog 123 8 = some (8, 1, false) := by kernel_rfl
@[simp] theorem fldI_123_9 : fldI Try.prog 123 9 = some (9, 1, false) := by kernel_rfl
@[simp] theorem fldI_123_10 : fldI Try.prog 123 10 = some (10, 1, false) := by kernel_rfl
@[simp] theorem zAV_123 : zAV Try.prog 9 123 = .agg [.raw (.int .u64 0), .raw (.int .u64 0), .raw (.int .u32 0), .raw (.int .u8 0), .raw (.int .u8 0), .raw (.int .u8 0), .raw (.int .u8 0), .raw (.nilFunc), .raw (.pointer none), .raw (.int .i32 0), .raw (.int .i32 0)] := by kernel_rfl
@[simp] theorem zeroIs_123 : zeroIs Try.prog 123 (.agg [.raw (.int .u64 0), .raw (.int .u64 0), .raw (.int .u32 0), .raw (.int .u8 0), .raw (.int .u8 0), .raw (.int .u8 0), .raw (.int .u8 0), .raw (.nilFunc), .raw (.pointer none), .raw (.int .i32 0), .raw (.int .i32 0)]) := ⟨.agg #[.int .u64 0, .int .u64 0, .int .u32 0, .int .u8 0, .int .u8 0, .int .u8 0, .int .u8 0, .nilFunc, .pointer none, .int .i32 0, .int .i32 0], by kernel_rfl, .inr ⟨_, _, rfl, rfl, by kernel_rfl⟩⟩
@[simp] theorem layIs_123 : layIs Try.prog 123 [.raw (.int .u64 0), .raw (.int .u64 0), .raw (.int .u32 0), .raw (.int .u8 0), .raw (.int .u8 0), .raw (.int .u8 0), .raw (.int .u8 0), .raw (.nilFunc), .raw (.pointer none), .raw (.int .i32 0), .raw (.int .i32 0)] := layIs_of (by kernel_rfl)
@[simp] theorem tyI_124 : tyI Try.prog 124 = some (11, true) := by kernel_rfl
@[simp] theorem isSl_124 : isSl Try.prog 124 = false := by kernel_rfl
@[simp] theorem isStr_124 : isStr Try.prog 124 = false := by kernel_rfl
@[simp] theorem isBool_124 : isBool Try.prog 124 = false := by kernel_rfl
@[simp] theorem isPtr_124 : isPtr Try.prog 124 = false := by kernel_rfl
@[simp] theorem isIf_124 : isIf Try.prog 124 = false := by kernel_rfl
@[simp] theorem isIface_124 : isIface Try.prog 124 = false := by kernel_rfl
@[simp] theorem isArr_124 : isArr Try.prog 124 = false := by kernel_rfl
@[simp] theorem plainT_124 : plainT Try.prog 124 = false := by kernel_rfl
@[simp] theorem fldI_124_0 : fldI Try.prog 124 0 = some (0, 1, false) := by kernel_rfl
@[simp] theorem fldI_124_1 : fldI Try.prog 124 1 = some (1, 1, false) := by kernel_rfl
@[simp] theorem fldI_124_2 : fldI Try.prog 124 2 = some (2, 1, false) := by kernel_rfl
@[simp] theorem fldI_124_3 : fldI Try.prog 124 3 = some (3, 1, false) := by kernel_rfl
@[simp] theorem fldI_124_4 : fldI Try.prog 124 4 = some (4, 1, false) := by kernel_rfl
@[simp] theorem fldI_124_5 : fldI Try.prog 124 5 = some (5, 1, false) := by kernel_rfl
@[simp] theorem fldI_124_6 : fldI Try.prog 124 6 = some (6, 1, false) := by kernel_rfl
@[simp] theorem fldI_124_7 : fldI Try.prog 124 7 = some (7, 1, false) := by kernel_rfl
@[simp] theorem fldI_124_8 : fldI Try.prog 124 8 = some (8, 1, false) := by kernel_rfl
@[simp] theorem fldI_124_9 : fldI Try.prog 124 9 = some (9, 1, false) := by kernel_rfl
@[simp] theorem fldI_124_10 : fldI Try.prog 124 10 = some (10, 1, false) := by kernel_rfl
@[simp] theorem zAV_124 : zAV Try.prog 9 124 = .agg [.raw (.int .u64 0), .raw (.int .u64 0), .raw (.int .u32 0), .raw (.int .u8 0), .raw (.int .u8 0), .raw (.int .u8 0), .raw (.int .u8 0), .raw (.nilFunc), .raw (.pointer none), .raw (.int .i32 0), .raw (.int .i32 0)] := by kernel_rfl
@[simp] theorem zeroIs_124 : zeroIs Try.prog 124 (.agg [.raw (.int .u64 0), .raw (.int .u64 0), .raw (.int .u32 0), .raw (.int .u8 0), .raw (.int .u8 0), .raw (.int .u8 0), .raw (.int .u8 0), .raw (.nilFunc), .raw (.pointer none), .raw (.int .i32 0), .raw (.int .i32 0)]) := ⟨.agg #[.int .u64 0, .int .u64 0, .int .u32 0, .int .u8 0, .int .u8 0, .int .u8 0, .int .u8 0, .nilFunc, .pointer none, .int .i32 0, .int .i32 0], by kernel_rfl, .inr ⟨_, _, rfl, rfl, by kernel_rfl⟩⟩
@[simp] theorem layIs_124 : layIs Try.prog 124 [.raw (.int .u64 0), .raw (.int .u64 0), .raw (.int .u32 0), .raw (.int .u8 0), .raw (.int .u8 0), .raw (.int .u8 0), .raw (.int .u8 0), .raw (.nilFunc), .raw (.pointer none), .raw (.int .i32 0), .raw (.int .i32 0)] := layIs_of (by kernel_rfl)
@[simp] theorem tyI_125 : tyI Try.prog 125 = some (1, false) := by kernel_rfl
@[simp] theorem isSl_125 : isSl Try.prog 125 = false := by kernel_rfl
@[simp] theorem isStr_125 : isStr Try.prog 125 = false := by kernel_rfl
@[simp] theorem isBool_125 : isBool Try.prog 125 = false := by kernel_rfl
@[simp] theorem isPtr_125 : isPtr Try.prog 125 = false := by kernel_rfl
@[simp] theorem isIf_125 : isIf Try.prog 125 = false := by kernel_rfl
@[simp] theorem isIface_125 : isIface Try.prog 125 = false := by kernel_rfl
@[simp] theorem isArr_125 : isArr Try.prog 125 = false := by kernel_rfl
@[simp] theorem plainT_125 : plainT Try.prog 125 = false := by kernel_rfl
@[simp] theorem zAV_125 : zAV Try.prog 9 125 = .raw (.nilFunc) := by kernel_rfl
@[simp] theorem zeroIs_125 : zeroIs Try.prog 125 (.raw (.nilFunc)) := ⟨.nilFunc, by kernel_rfl, .inl ⟨rfl, rfl⟩⟩
@[simp] theorem tyI_126 : tyI Try.prog 126 = some (1, false) := by kernel_rfl
@[simp] theorem isSl_126 : isSl Try.prog 126 = false := by kernel_rfl
@[simp] theorem isStr_126 : isStr Try.prog 126 = false := by kernel_rfl
@[simp] theorem isBool_126 : isBool Try.prog 126 = false := by kernel_rfl
@[simp] theorem isPtr_126 : isPtr Try.prog 126 = false := by kernel_rfl
@[simp] theorem isIf_126 : isIf Try.prog 126 = false := by kernel_rfl
@[simp] theorem isIface_126 : isIface Try.prog 126 = false := by kernel_rfl
@[simp] theorem isArr_126 : isArr Try.prog 126 = false := by kernel_rfl
@[simp] theorem plainT_126 : plainT Try.prog 126 = false := by kernel_rfl
@[simp] theorem zAV_126 : zAV Try.prog 9 126 = .raw (.nilFunc) := by kernel_rfl
@[simp] theorem zeroIs_126 : zeroIs Try.prog 126 (.raw (.nilFunc)) := ⟨.nilFunc, by kernel_rfl, .inl ⟨rfl, rfl⟩⟩
@[simp] theorem tyI_127 : tyI Try.prog 127 = some (1, false) := by kernel_rfl
@[simp] theorem isSl_127 : isSl Try.prog 127 = false := by kernel_rfl
@[simp] theorem isStr_127 : isStr Try.prog 127 = false := by kernel_rfl
@[simp] theorem isBool_127 : isBool Try.prog 127 = false := by kernel_rfl
@[simp] theorem isPtr_127 : isPtr Try.prog 127 = false := by kernel_rfl
@[simp] theorem isIf_127 : isIf Try.prog 127 = false := by kernel_rfl
@[simp] theorem isIface_127 : isIface Try.prog 127 = false := by kernel_rfl
@[simp] theorem isArr_127 : isArr Try.prog 127 = false := by kernel_rfl
@[simp] theorem plainT_127 : plainT Try.prog 127 = false := by kernel_rfl
@[simp] theorem zAV_127 : zAV Try.prog 9 127 = .raw (.nilFunc) := by kernel_rfl
@[simp] theorem zeroIs_127 : zeroIs Try.prog 127 (.raw (.nilFunc)) := ⟨.nilFunc, by kernel_rfl, .inl ⟨rfl, rfl⟩⟩
@[simp] theorem tyI_128 : tyI Try.prog 128 = some (1, false) := by kernel_rfl
@[simp] theorem isSl_128 : isSl Try.prog 128 = false := by kernel_rfl
@[simp] theorem isStr_128 : isStr Try.prog 128 = false := by kernel_rfl
@[simp] theorem isBool_128 : isBool Try.prog 128 = false := by kernel_rfl
@[simp] theorem isPtr_128 : isPtr Try.prog 128 = false := by kernel_rfl
@[simp] theorem isIf_128 : isIf Try.prog 128 = false := by kernel_rfl
@[simp] theorem isIface_128 : isIface Try.prog 128 = false := by kernel_rfl
@[simp] theorem isArr_128 : isArr Try.prog 128 = false := by kernel_rfl
@[simp] theorem plainT_128 : plainT Try.prog 128 = false := by kernel_rfl
@[simp] theorem zAV_128 : zAV Try.prog 9 128 = .raw (.nilFunc) := by kernel_rfl
@[simp] theorem zeroIs_128 : zeroIs Try.prog 128 (.raw (.nilFunc)) := ⟨.nilFunc, by kernel_rfl, .inl ⟨rfl, rfl⟩⟩
@[simp] theorem tyI_129 : tyI Try.prog 129 = some (1, false) := by kernel_rfl
@[simp] theorem isSl_129 : isSl Try.prog 129 = false := by kernel_rfl
@[simp] theorem isStr_129 : isStr Try.prog 129 = false := by kernel_rfl
@[simp] theorem isBool_129 : isBool Try.prog 129 = false := by kernel_rfl
@[simp] theorem isPtr_129 : isPtr Try.prog 129 = false := by kernel_rfl
@[simp] theorem isIf_129 : isIf Try.prog 129 = false := by kernel_rfl
@[simp] theorem isIface_129 : isIface Try.prog 129 = false := by kernel_rfl
@[simp] theorem isArr_129 : isArr Try.prog 129 = false := by kernel_rfl
@[simp] theorem plainT_129 : plainT Try.prog 129 = false := by kernel_rfl
@[simp] theorem zAV_129 : zAV Try.prog 9 129 = .raw (.nilFunc) := by kernel_rfl
@[simp] theorem zeroIs_129 : zeroIs Try.prog 129 (.raw (.nilFunc)) := ⟨.nilFunc, by kernel_rfl, .inl ⟨rfl, rfl⟩⟩
@[simp] theorem tyI_130 : tyI Try.prog 130 = some (1, false) := by kernel_rfl
@[simp] theorem isSl_130 : isSl Try.prog 130 = false := by kernel_rfl
@[simp] theorem isStr_130 : isStr Try.prog 130 = false := by kernel_rfl
@[simp] theorem isBool_130 : isBool Try.prog 130 = false := by kernel_rfl
@[simp] theorem isPtr_130 : isPtr Try.prog 130 = false := by kernel_rfl
@[simp] theorem isIf_130 : isIf Try.prog 130 = false := by kernel_rfl
@[simp] theorem isIface_130 : isIface Try.prog 130 = false := by kernel_rfl
@[simp] theorem isArr_130 : isArr Try.prog 130 = false := by kernel_rfl
@[simp] theorem plainT_130 : plainT Try.prog 130 = false := by kernel_rfl
@[simp] theorem zAV_130 : zAV Try.prog 9 130 = .raw (.nilFunc) := by kernel_rfl
@[simp] theorem zeroIs_130 : zeroIs Try.prog 130 (.raw (.nilFunc)) := ⟨.nilFunc, by kernel_rfl, .inl ⟨rfl, rfl⟩⟩
@[simp] theorem tyI_131 : tyI Try.prog 131 = some (2, true) := by kernel_rfl
@[simp] theorem isSl_131 : isSl Try.prog 131 = false := by kernel_rfl
@[simp] theorem isStr_131 : isStr Try.prog 131 = false := by kernel_rfl
@[simp] theorem isBool_131 : isBool Try.prog 131 = false := by kernel_rfl
@[simp] theorem isPtr_131 : isPtr Try.prog 131 = false := by kernel_rfl
@[simp] theorem isIf_131 : isIf Try.prog 131 = false := by kernel_rfl
@[simp] theorem isIface_131 : isIface Try.prog 131 = false := by kernel_rfl
@[simp] theorem isArr_131 : isArr Try.prog 131 = false := by kernel_rfl
@[simp] theorem plainT_131 : plainT Try.prog 131 = true := by kernel_rfl
@[simp] theorem fldI_131_0 : fldI Try.prog 131 0 = some (0, 1, false) := by kernel_rfl
@[simp] theorem fldI_131_1 : fldI Try.prog 131 1 = some (1, 1, false) := by kernel_rfl
@[simp] theorem zAV_131 : zAV Try.prog 9 131 = .agg [.raw (.string ⟨#[]⟩), .raw (.int .u8 0)] := by kernel_rfl
@[simp] theorem zeroIs_131 : zeroIs Try.prog 131 (.agg [.raw (.string ⟨#[]⟩), .raw (.int .u8 0)]) := ⟨.agg #[.string ⟨#[]⟩, .int .u8 0], by kernel_rfl, .inr ⟨_, _, rfl, rfl, by kernel_rfl⟩⟩
@[simp] theorem layIs_131 : layIs Try.prog 131 [.raw (.string ⟨#[]⟩), .raw (.int .u8 0)] := layIs_of (by kernel_rfl)
@[simp] theorem tyI_132 : tyI Try.prog 132 = some (2, true) := by kernel_rfl
@[simp] theorem isSl_132 : isSl Try.prog 132 = false := by kernel_rfl
@[simp] theorem isStr_132 : isStr Try.prog 132 = false := by kernel_rfl
@[simp] theorem isBool_132 : isBool Try.prog 132 = false := by kernel_rfl
@[simp] theorem isPtr_132 : isPtr Try.prog 132 = false := by kernel_rfl
@[simp] theorem isIf_132 : isIf Try.prog 132 = false := by kernel_rfl
@[simp] theorem isIface_132 : isIface Try.prog 132 = false := by kernel_rfl
@[simp] theorem isArr_132 : isArr Try.prog 132 = false := by kernel_rfl
@[simp] theorem plainT_132 : plainT Try.prog 132 = true := by kernel_rfl
@[simp] theorem fldI_132_0 : fldI Try.prog 132 0 = some (0, 1, false) := by kernel_rfl
@[simp] theorem fldI_132_1 : fldI Try.prog 132 1 = some (1, 1, false) := by kernel_rfl
@[simp] theorem zAV_132 : zAV Try.prog 9 132 = .agg [.raw (.string ⟨#[]⟩), .raw (.int .u8 0)] := by kernel_rfl
@[simp] theorem zeroIs_132 : zeroIs Try.prog 132 (.agg [.raw (.string ⟨#[]⟩), .raw (.int .u8 0)]) := ⟨.agg #[.string ⟨#[]⟩, .int .u8 0], by kernel_rfl, .inr ⟨_, _, rfl, rfl, by kernel_rfl⟩⟩
@[simp] theorem layIs_132 : layIs Try.prog 132 [.raw (.string ⟨#[]⟩), .raw (.int .u8 0)] := layIs_of (by kernel_rfl)
@[simp] theorem tyI_133 : tyI Try.prog 133 = some (1, false) := by kernel_rfl
@[simp] theorem isSl_133 : isSl Try.prog 133 = false := by kernel_rfl
@[simp] theorem isStr_133 : isStr Try.prog 133 = false := by kernel_rfl
@[simp] theorem isBool_133 : isBool Try.prog 133 = false := by kernel_rfl
@[simp] theorem isPtr_133 : isPtr Try.prog 133 = false := by kernel_rfl
@[simp] theorem isIf_133 : isIf Try.prog 133 = false := by kernel_rfl
@[simp] theorem isIface_133 : isIface Try.prog 133 = false := by kernel_rfl
@[simp] theorem isArr_133 : isArr Try.prog 133 = false := by kernel_rfl
@[simp] theorem plainT_133 : plainT Try.prog 133 = true := by kernel_rfl
@[simp] theorem tyI_134 : tyI Try.prog 134 = some (1, false) := by kernel_rfl
@[simp] theorem isSl_134 : isSl Try.prog 134 = false := by kernel_rfl
@[simp] theorem isStr_134 : isStr Try.prog 134 = false := by kernel_rfl
@[simp] theorem isBool_134 : isBool Try.prog 134 = false := by kernel_rfl
@[simp] theorem isPtr_134 : isPtr Try.prog 134 = true := by kernel_rfl
@[simp] theorem isIf_134 : isIf Try.prog 134 = false := by kernel_rfl
@[simp] theorem isIface_134 : isIface Try.prog 134 = false := by kernel_rfl
@[simp] theorem isArr_134 : isArr Try.prog 134 = false := by kernel_rfl
@[simp] theorem plainT_134 : plainT Try.prog 134 = false := by kernel_rfl
@[simp] theorem zAV_134 : zAV Try.prog 9 134 = .raw (.pointer none) := by kernel_rfl
@[simp] theorem zeroIs_134 : zeroIs Try.prog 134 (.raw (.pointer none)) := ⟨.pointer none, by kernel_rfl, .inl ⟨rfl, rfl⟩⟩
@[simp] theorem tyI_135 : tyI Try.prog 135 = some (1, false) := by kernel_rfl
@[simp] theorem isSl_135 : isSl Try.prog 135 = false := by kernel_rfl
@[simp] theorem isStr_135 : isStr Try.prog 135 = false := by kernel_rfl
@[simp] theorem isBool_135 : isBool Try.prog 135 = false := by kernel_rfl
@[simp] theorem isPtr_135 : isPtr Try.prog 135 = false := by kernel_rfl
@[simp] theorem isIf_135 : isIf Try.prog 135 = false := by kernel_rfl
@[simp] theorem isIface_135 : isIface Try.prog 135 = false := by kernel_rfl
@[simp] theorem isArr_135 : isArr Try.prog 135 = false := by kernel_rfl
@[simp] theorem plainT_135 : plainT Try.prog 135 = false := by kernel_rfl
@[simp] theorem zAV_135 : zAV Try.prog 9 135 = .raw (.nilFunc) := by kernel_rfl
@[simp] theorem zeroIs_135 : zeroIs Try.prog 135 (.raw (.nilFunc)) := ⟨.nilFunc, by kernel_rfl, .inl ⟨rfl, rfl⟩⟩
@[simp] theorem tyI_136 : tyI Try.prog 136 = some (1, false) := by kernel_rfl
@[simp] theorem isSl_136 : isSl Try.prog 136 = false := by kernel_rfl
@[simp] theorem isStr_136 : isStr Try.prog 136 = false := by kernel_rfl
@[simp] theorem isBool_136 : isBool Try.prog 136 = false := by kernel_rfl
@[simp] theorem isPtr_136 : isPtr Try.prog 136 = false := by kernel_rfl
@[simp] theorem isIf_136 : isIf Try.prog 136 = false := by kernel_rfl
@[simp] theorem isIface_136 : isIface Try.prog 136 = false := by kernel_rfl
@[simp] theorem isArr_136 : isArr Try.prog 136 = false := by kernel_rfl
@[simp] theorem plainT_136 : plainT Try.prog 136 = true := by kernel_rfl
@[simp] theorem und_136 : Try.prog.underlying 136 = some (.int .u16) := by kernel_rfl
@[simp] theorem zAV_136 : zAV Try.prog 9 136 = .raw (.int .u16 0) := by kernel_rfl
@[simp] theorem zeroIs_136 : zeroIs Try.prog 136 (.raw (.int .u16 0)) := ⟨.int .u16 0, by kernel_rfl, .inl ⟨rfl, rfl⟩⟩
@[simp] theorem tyI_137 : tyI Try.prog 137 = some (5, true) := by kernel_rfl
@[simp] theorem isSl_137 : isSl Try.prog 137 = false := by kernel_rfl
@[simp] theorem isStr_137 : isStr Try.prog 137 = false := by kernel_rfl
@[simp] theorem isBool_137 : isBool Try.prog 137 = false := by kernel_rfl
@[simp] theorem isPtr_137 : isPtr Try.prog 137 = false := by kernel_rfl
@[simp] theorem isIf_137 : isIf Try.prog 137 = false := by kernel_rfl
@[simp] theorem isIface_137 : isIface Try.prog 137 = false := by kernel_rfl
@[simp] theorem isArr_137 : isArr Try.prog 137 = false := by kernel_rfl
@[simp] theorem plainT_137 : plainT Try.prog 137 = true := by kernel_rfl
@[simp] theorem fldI_137_0 : fldI Try.prog 137 0 = some (0, 1, false) := by kernel_rfl
@[simp] theorem fldI_137_1 : fldI Try.prog 137 1 = some (1, 1, false) := by kernel_rfl
@[simp] theorem fldI_137_2 : fldI Try.prog 137 2 = some (2, 1, false) := by kernel_rfl
@[simp] theorem fldI_137_3 : fldI Try.prog 137 3 = some (3, 1, false) := by kernel_rfl
@[simp] theorem fldI_137_4 : fldI Try.prog 137 4 = some (4, 1, false) := by kernel_rfl
@[simp] theorem zAV_137 : zAV Try.prog 9 137 = .agg [.raw (.int .i32 0), .raw (.int .u16 0), .raw (.int .u16 0), .raw (.int .u32 0), .raw (.int .u32 0)] := by kernel_rfl
@[simp] theorem zeroIs_137 : zeroIs Try.prog 137 (.agg [.raw (.int .i32 0), .raw (.int .u16 0), .raw (.int .u16 0), .raw (.int .u32 0), .raw (.int .u32 0)]) := ⟨.agg #[.int .i32 0, .int .u16 0, .int .u16 0, .int .u32 0, .int .u32 0], by kernel_rfl, .inr ⟨_, _, rfl, rfl, by kernel_rfl⟩⟩
@[simp] theorem layIs_137 : layIs Try.prog 137 [.raw (.int .i32 0), .raw (.int .u16 0), .raw (.int .u16 0), .raw (.int .u32 0), .raw (.int .u32 0)] := layIs_of (by kernel_rfl)
@[simp] theorem tyI_138 : tyI Try.prog 138 = some (5, true) := by kernel_rfl
@[simp] theorem isSl_138 : isSl Try.prog 138 = false := by kernel_rfl
@[simp] theorem isStr_138 : isStr Try.prog 138 = false := by kernel_rfl
@[simp] theorem isBool_138 : isBool Try.prog 138 = false := by kernel_rfl
@[simp] theorem isPtr_138 : isPtr Try.prog 138 = false := by kernel_rfl
@[simp] theorem isIf_138 : isIf Try.prog 138 = false := by kernel_rfl
@[simp] theorem isIface_138 : isIface Try.prog 138 = false := by kernel_rfl
@[simp] theorem isArr_138 : isArr Try.prog 138 = false := by kernel_rfl
@[simp] theorem plainT_138 : plainT Try.prog 138 = true := by kernel_rfl
@[simp] theorem fldI_138_0 : fldI Try.prog 138 0 = some (0, 1, false) := by kernel_rfl
@[simp] theorem fldI_138_1 : fldI Try.prog 138 1 = some (1, 1, false) := by kernel_rfl
@[simp] theorem fldI_138_2 : fldI Try.prog 138 2 = some (2, 1, false) := by kernel_rfl
@[simp] theorem fldI_138_3 : fldI Try.prog 138 3 = some (3, 1, false) := by kernel_rfl
@[simp] theorem fldI_138_4 : fldI Try.prog 138 4 = some (4, 1, false) := by kernel_rfl
@[simp] theorem zAV_138 : zAV Try.prog 9 138 = .agg [.raw (.int .i32 0), .raw (.int .u16 0), .raw (.int .u16 0), .raw (.int .u32 0), .raw (.int .u32 0)] := by kernel_rfl
@[simp] theorem zeroIs_138 : zeroIs Try.prog 138 (.agg [.raw (.int .i32 0), .raw (.int .u16 0), .raw (.int .u16 0), .raw (.int .u32 0), .raw (.int .u32 0)]) := ⟨.agg #[.int .i32 0, .int .u16 0, .int .u16 0, .int .u32 0, .int .u32 0], by kernel_rfl, .inr ⟨_, _, rfl, rfl, by kernel_rfl⟩⟩
@[simp] theorem layIs_138 : layIs Try.prog 138 [.raw (.int .i32 0), .raw (.int .u16 0), .raw (.int .u16 0), .raw (.int .u32 0), .raw (.int .u32 0)] := layIs_of (by kernel_rfl)
@[simp] theorem tyI_139 : tyI Try.prog 139 = some (1, false) := by kernel_rfl
@[simp] theorem isSl_139 : isSl Try.prog 139 = true := by kernel_rfl
@[simp] theorem isStr_139 : isStr Try.prog 139 = false := by kernel_rfl
@[simp] theorem isBool_139 : isBool Try.prog 139 = false := by kernel_rfl
@[simp] theorem isPtr_139 : isPtr Try.prog 139 = false := by kernel_rfl
@[simp] theorem isIf_139 : isIf Try.prog 139 = false := by kernel_rfl
@[simp] theorem isIface_139 : isIface Try.prog 139 = false := by kernel_rfl
@[simp] theorem isArr_139 : isArr Try.prog 139 = false := by kernel_rfl
@[simp] theorem plainT_139 : plainT Try.prog 139 = false := by kernel_rfl
@[simp] theorem rowI_139 : rowI Try.prog 139 = some (142, 4, 16) := by kernel_rfl
@[simp] theorem zAV_139 : zAV Try.prog 9 139 = .raw (.slice none 0 0) := by kernel_rfl
@[simp] theorem zeroIs_139 : zeroIs Try.prog 139 (.raw (.slice none 0 0)) := ⟨.slice none 0 0, by kernel_rfl, .inl ⟨rfl, rfl⟩⟩
@[simp] theorem tyI_140 : tyI Try.prog 140 = some (1, false) := by kernel_rfl
@[simp] theorem isSl_140 : isSl Try.prog 140 = false := by kernel_rfl
@[simp] theorem isStr_140 : isStr Try.prog 140 = false := by kernel_rfl
@[simp] theorem isBool_140 : isBool Try.prog 140 = false := by kernel_rfl
@[simp] theorem isPtr_140 : isPtr Try.prog 140 = false := by kernel_rfl
@[simp] theorem isIf_140 : isIf Try.prog 140 = false := by kernel_rfl
@[simp] theorem isIface_140 : isIface Try.prog 140 = false := by kernel_rfl
@[simp] theorem isArr_140 : isArr Try.prog 140 = false := by kernel_rfl
@[simp] theorem plainT_140 : plainT Try.prog 140 = true := by kernel_rfl
@[simp] theorem und_140 : Try.prog.underlying 140 = some (.int .i32) := by kernel_rfl
@[simp] theorem zAV_140 : zAV Try.prog 9 140 = .raw (.int .i32 0) := by kernel_rfl
@[simp] theorem zeroIs_140 : zeroIs Try.prog 140 (.raw (.int .i32 0)) := ⟨.int .i32 0, by kernel_rfl, .inl ⟨rfl, rfl⟩⟩
@[simp] theorem tyI_141 : tyI Try.prog 141 = some (4, true) := by kernel_rfl
@[simp] theorem isSl_141 : isSl Try.prog 141 = false := by kernel_rfl
@[simp] theorem isStr_141 : isStr Try.prog 141 = false := by kernel_rfl
@[simp] theorem isBool_141 : isBool Try.prog 141 = false := by kernel_rfl
@[simp] theorem isPtr_141 : isPtr Try.prog 141 = false := by kernel_rfl
@[simp] theorem isIf_141 : isIf Try.prog 141 = false := by kernel_rfl
@[simp] theorem isIface_141 : isIface Try.prog 141 = false := by kernel_rfl
@[simp] theorem isArr_141 : isArr Try.prog 141 = false := by kernel_rfl
@[simp] theorem plainT_141 : plainT Try.prog 141 = true := by kernel_rfl
@[simp] theorem fldI_141_0 : fldI Try.prog 141 0 = some (0, 1, false) := by kernel_rfl
@[simp] theorem fldI_141_1 : fldI Try.prog 141 1 = some (1, 1, false) := by kernel_rfl
@[simp] theorem fldI_141_2 : fldI Try.prog 141 2 = some (2, 1, false) := by kernel_rfl
@[simp] theorem fldI_141_3 : fldI Try.prog 141 3 = some (3, 1, false) := by kernel_rfl
@[simp] theorem zAV_141 : zAV Try.prog 9 141 = .agg [.raw (.int .i32 0), .raw (.int .i32 0), .raw (.int .i32 0), .raw (.int .i32 0)] := by kernel_rfl
@[simp] theorem zeroIs_141 : zeroIs Try.prog 141 (.agg [.raw (.int .i32 0), .raw (.int .i32 0), .raw (.int .i32 0), .raw (.int .i32 0)]) := ⟨.agg #[.int .i32 0, .int .i32 0, .int .i32 0, .int .i32 0], by kernel_rfl, .inr ⟨_, _, rfl, rfl, by kernel_rfl⟩⟩
@[simp] theorem layIs_141 : layIs Try.prog 141 [.raw (.int .i32 0), .raw (.int .i32 0), .raw (.int .i32 0), .raw (.int .i32 0)] := layIs_of (by kernel_rfl)
@[simp] theorem tyI_142 : tyI Try.prog 142 = some (4, true) := by kernel_rfl
@[simp] theorem isSl_142 : isSl Try.prog 142 = false := by kernel_rfl
@[simp] theorem isStr_142 : isStr Try.prog 142 = false := by kernel_rfl
@[simp] theorem isBool_142 : isBool Try.prog 142 = false := by kernel_rfl
@[simp] theorem isPtr_142 : isPtr Try.prog 142 = false := by kernel_rfl
@[simp] theorem isIf_142 : isIf Try.prog 142 = false := by kernel_rfl
@[simp] theorem isIface_142 : isIface Try.prog 142 = false := by kernel_rfl
@[simp] theorem isArr_142 : isArr Try.prog 142 = false := by kernel_rfl
@[simp] theorem plainT_142 : plainT Try.prog 142 = true := by kernel_rfl
@[simp] theorem fldI_142_0 : fldI Try.prog 142 0 = some (0, 1, false) := by kernel_rfl
@[simp] theorem fldI_142_1 : fldI Try.prog 142 1 = some (1, 1, false) := by kernel_rfl
@[simp] theorem fldI_142_2 : fldI Try.prog 142 2 = some (2, 1, false) := by kernel_rfl
@[simp] theorem fldI_142_3 : fldI Try.prog 142 3 = some (3, 1, false) := by kernel_rfl
@[simp] theorem zAV_142 : zAV Try.prog 9 142 = .agg [.raw (.int .i32 0), .raw (.int .i32 0), .raw (.int .i32 0), .raw (.int .i32 0)] := by kernel_rfl
@[simp] theorem zeroIs_142 : zeroIs Try.prog 142 (.agg [.raw (.int .i32 0), .raw (.int .i32 0), .raw (.int .i32 0), .raw (.int .i32 0)]) := ⟨.agg #[.int .i32 0, .int .i32 0, .int .i32 0, .int .i32 0], by kernel_rfl, .inr ⟨_, _, rfl, rfl, by kernel_rfl⟩⟩
@[simp] theorem layIs_142 : layIs Try.prog 142 [.raw (.int .i32 0), .raw (.int .i32 0), .raw (.int .i32 0), .raw (.int .i32 0)] := layIs_of (by kernel_rfl)
@[simp] theorem isFn_3 : isFn Try.prog 3 = true := by kernel_rfl
@[simp] theorem isFn_4 : isFn Try.prog 4 = true := by kernel_rfl
@[simp] theorem isFn_5 : isFn Try.prog 5 = true := by kernel_rfl
@[simp] theorem isFn_6 : isFn Try.prog 6 = true := by kernel_rfl
@[simp] theorem isFn_7 : isFn Try.prog 7 = true := by kernel_rfl
@[simp] theorem isFn_8 : isFn Try.prog 8 = true := by kernel_rfl
@[simp] theorem isFn_9 : isFn Try.prog 9 = true := by kernel_rfl
@[simp] theorem isFn_10 : isFn Try.prog 10 = true := by kernel_rfl
@[simp] theorem isFn_11 : isFn Try.prog 11 = true := by kernel_rfl
@[simp] theorem isFn_12 : isFn Try.prog 12 = true := by kernel_rfl
@[simp] theorem isFn_13 : isFn Try.prog 13 = true := by kernel_rfl
@[simp] theorem isFn_14 : isFn Try.prog 14 = true := by kernel_rfl
@[simp] theorem isFn_15 : isFn Try.prog 15 = true := by kernel_rfl
@[simp] theorem isFn_16 : isFn Try.prog 16 = true := by kernel_rfl
@[simp] theorem isFn_17 : isFn Try.prog 17 = true := by kernel_rfl
@[simp] theorem isFn_18 : isFn Try.prog 18 = true := by kernel_rfl
@[simp] theorem isFn_19 : isFn Try.prog 19 = true := by kernel_rfl
@[simp] theorem isFn_20 : isFn Try.prog 20 = true := by kernel_rfl
@[simp] theorem isFn_21 : isFn Try.prog 21 = true := by kernel_rfl
@[simp] theorem isFn_22 : isFn Try.prog 22 = true := by kernel_rfl
@[simp] theorem isFn_23 : isFn Try.prog 23 = true := by kernel_rfl
@[simp] theorem isFn_24 : isFn Try.prog 24 = true := by kernel_rfl
@[simp] theorem isFn_25 : isFn Try.prog 25 = true := by kernel_rfl
@[simp] theorem isFn_26 : isFn Try.prog 26 = true := by kernel_rfl
@[simp] theorem isFn_27 : isFn Try.prog 27 = true := by kernel_rfl
@[simp] theorem isFn_28 : isFn Try.prog 28 = true := by kernel_rfl
@[simp] theorem isFn_29 : isFn Try.prog 29 = true := by kernel_rfl
@[simp] theorem isFn_30 : isFn Try.prog 30 = true := by kernel_rfl
@[simp] theorem isFn_31 : isFn Try.prog 31 = true := by kernel_rfl
@[simp] theorem isFn_32 : isFn Try.prog 32 = true := by kernel_rfl
@[simp] theorem isFn_33 : isFn Try.prog 33 = true := by kernel_rfl
@[simp] theorem isFn_34 : isFn Try.prog 34 = true := by kernel_rfl
@[simp] theorem isFn_35 : isFn Try.prog 35 = true := by kernel_rfl
@[simp] theorem isFn_36 : isFn Try.prog 36 = true := by kernel_rfl
@[simp] theorem isFn_37 : isFn Try.prog 37 = true := by kernel_rfl
@[simp] theorem isFn_38 : isFn Try.prog 38 = true := by kernel_rfl
@[simp] theorem isFn_39 : isFn Try.prog 39 = true := by kernel_rfl
@[simp] theorem isFn_40 : isFn Try.prog 40 = true := by kernel_rfl
@[simp] theorem isFn_41 : isFn Try.prog 41 = true := by kernel_rfl
@[simp] theorem isFn_42 : isFn Try.prog 42 = true := by kernel_rfl
@[simp] theorem isFn_43 : isFn Try.prog 43 = true := by kernel_rfl
@[simp] theorem isFn_44 : isFn Try.prog 44 = true := by kernel_rfl
@[simp] theorem isFn_45 : isFn Try.prog 45 = true := by kernel_rfl
@[simp] theorem isFn_47 : isFn Try.prog 47 = true := by kernel_rfl
@[simp] theorem isFn_48 : isFn Try.prog 48 = true := by kernel_rfl
@[simp] theorem isFn_49 : isFn Try.prog 49 = true := by kernel_rfl
@[simp] theorem isFn_50 : isFn Try.prog 50 = true := by kernel_rfl
@[simp] theorem isFn_51 : isFn Try.prog 51 = true := by kernel_rfl
end Go.Proofs.Ytejeemhenoobjaa.Asl

