/- Part 11 of what the row leans on: abstract values and states, their rules, and the contracts of the functions. -/
import Derived.Test.YtjbbnollidcagaaGreatDoorProg
import Derived.Test.YtjbbnollidcagaaGreatDoorZgz10
namespace Go.Proofs.YtjbbnollidcagaaGreatDoor.Asl
open Go
theorem mixed : Tryz.prog.follows .mixedOrders = true := by kernel_rfl
@[simp] theorem isSl_0 : isSl Tryz.prog 0 = false := by kernel_rfl
@[simp] theorem tyI_1 : tyI Tryz.prog 1 = some (1, false) := by kernel_rfl
@[simp] theorem isSl_1 : isSl Tryz.prog 1 = false := by kernel_rfl
@[simp] theorem isStr_1 : isStr Tryz.prog 1 = false := by kernel_rfl
@[simp] theorem isBool_1 : isBool Tryz.prog 1 = false := by kernel_rfl
@[simp] theorem isPtr_1 : isPtr Tryz.prog 1 = false := by kernel_rfl
@[simp] theorem isIf_1 : isIf Tryz.prog 1 = false := by kernel_rfl
@[simp] theorem isIface_1 : isIface Tryz.prog 1 = false := by kernel_rfl
@[simp] theorem isArr_1 : isArr Tryz.prog 1 = false := by kernel_rfl
@[simp] theorem plainT_1 : plainT Tryz.prog 1 = false := by kernel_rfl
@[simp] theorem zAV_1 : zAV Tryz.prog 9 1 = .raw (.nilFunc) := by kernel_rfl
@[simp] theorem zeroIs_1 : zeroIs Tryz.prog 1 (.raw (.nilFunc)) := ⟨.nilFunc, by kernel_rfl, .inl ⟨rfl, rfl⟩⟩
@[simp] theorem tyI_2 : tyI Tryz.prog 2 = some (1, false) := by kernel_rfl
@[simp] theorem isSl_2 : isSl Tryz.prog 2 = false := by kernel_rfl
@[simp] theorem isStr_2 : isStr Tryz.prog 2 = false := by kernel_rfl
@[simp] theorem isBool_2 : isBool Tryz.prog 2 = false := by kernel_rfl
@[simp] theorem isPtr_2 : isPtr Tryz.prog 2 = false := by kernel_rfl
@[simp] theorem isIf_2 : isIf Tryz.prog 2 = false := by kernel_rfl
@[simp] theorem isIface_2 : isIface Tryz.prog 2 = false := by kernel_rfl
@[simp] theorem isArr_2 : isArr Tryz.prog 2 = false := by kernel_rfl
@[simp] theorem plainT_2 : plainT Tryz.prog 2 = true := by kernel_rfl
@[simp] theorem und_2 : Tryz.prog.underlying 2 = some (.int .i64) := by kernel_rfl
@[simp] theorem zAV_2 : zAV Tryz.prog 9 2 = .raw (.int .i64 0) := by kernel_rfl
@[simp] theorem zeroIs_2 : zeroIs Tryz.prog 2 (.raw (.int .i64 0)) := ⟨.int .i64 0, by kernel_rfl, .inl ⟨rfl, rfl⟩⟩
@[simp] theorem tyI_3 : tyI Tryz.prog 3 = some (1, false) := by kernel_rfl
@[simp] theorem isSl_3 : isSl Tryz.prog 3 = false := by kernel_rfl
@[simp] theorem isStr_3 : isStr Tryz.prog 3 = false := by kernel_rfl
@[simp] theorem isBool_3 : isBool Tryz.prog 3 = false := by kernel_rfl
@[simp] theorem isPtr_3 : isPtr Tryz.prog 3 = false := by kernel_rfl
@[simp] theorem isIf_3 : isIf Tryz.prog 3 = false := by kernel_rfl
@[simp] theorem isIface_3 : isIface Tryz.prog 3 = false := by kernel_rfl
@[simp] theorem isArr_3 : isArr Tryz.prog 3 = false := by kernel_rfl
@[simp] theorem plainT_3 : plainT Tryz.prog 3 = true := by kernel_rfl
@[simp] theorem und_3 : Tryz.prog.underlying 3 = some (.int .i64) := by kernel_rfl
@[simp] theorem zAV_3 : zAV Tryz.prog 9 3 = .raw (.int .i64 0) := by kernel_rfl
@[simp] theorem zeroIs_3 : zeroIs Tryz.prog 3 (.raw (.int .i64 0)) := ⟨.int .i64 0, by kernel_rfl, .inl ⟨rfl, rfl⟩⟩
@[simp] theorem tyI_4 : tyI Tryz.prog 4 = some (1, false) := by kernel_rfl
@[simp] theorem isSl_4 : isSl Tryz.prog 4 = false := by kernel_rfl
@[simp] theorem isStr_4 : isStr Tryz.prog 4 = false := by kernel_rfl
@[simp] theorem isBool_4 : isBool Tryz.prog 4 = true := by kernel_rfl
@[simp] theorem isPtr_4 : isPtr Tryz.prog 4 = false := by kernel_rfl
@[simp] theorem isIf_4 : isIf Tryz.prog 4 = false := by kernel_rfl
@[simp] theorem isIface_4 : isIface Tryz.prog 4 = false := by kernel_rfl
@[simp] theorem isArr_4 : isArr Tryz.prog 4 = false := by kernel_rfl
@[simp] theorem plainT_4 : plainT Tryz.prog 4 = true := by kernel_rfl
@[simp] theorem zAV_4 : zAV Tryz.prog 9 4 = .raw (.bool false) := by kernel_rfl
@[simp] theorem zeroIs_4 : zeroIs Tryz.prog 4 (.raw (.bool false)) := ⟨.bool false, by kernel_rfl, .inl ⟨rfl, rfl⟩⟩
@[simp] theorem tyI_5 : tyI Tryz.prog 5 = some (1, false) := by kernel_rfl
@[simp] theorem isSl_5 : isSl Tryz.prog 5 = false := by kernel_rfl
@[simp] theorem isStr_5 : isStr Tryz.prog 5 = false := by kernel_rfl
@[simp] theorem isBool_5 : isBool Tryz.prog 5 = false := by kernel_rfl
@[simp] theorem isPtr_5 : isPtr Tryz.prog 5 = false := by kernel_rfl
@[simp] theorem isIf_5 : isIf Tryz.prog 5 = false := by kernel_rfl
@[simp] theorem isIface_5 : isIface Tryz.prog 5 = false := by kernel_rfl
@[simp] theorem isArr_5 : isArr Tryz.prog 5 = false := by kernel_rfl
@[simp] theorem plainT_5 : plainT Tryz.prog 5 = true := by kernel_rfl
@[simp] theorem und_5 : Tryz.prog.underlying 5 = some (.int .u8) := by kernel_rfl
@[simp] theorem zAV_5 : zAV Tryz.prog 9 5 = .raw (.int .u8 0) := by kernel_rfl
@[simp] theorem zeroIs_5 : zeroIs Tryz.prog 5 (.raw (.int .u8 0)) := ⟨.int .u8 0, by kernel_rfl, .inl ⟨rfl, rfl⟩⟩
@[simp] theorem tyI_6 : tyI Tryz.prog 6 = some (1, false) := by kernel_rfl
@[simp] theorem isSl_6 : isSl Tryz.prog 6 = false := by kernel_rfl
@[simp] theorem isStr_6 : isStr Tryz.prog 6 = false := by kernel_rfl
@[simp] theorem isBool_6 : isBool Tryz.prog 6 = false := by kernel_rfl
@[simp] theorem isPtr_6 : isPtr Tryz.prog 6 = false := by kernel_rfl
@[simp] theorem isIf_6 : isIf Tryz.prog 6 = false := by kernel_rfl
@[simp] theorem isIface_6 : isIface Tryz.prog 6 = false := by kernel_rfl
@[simp] theorem isArr_6 : isArr Tryz.prog 6 = false := by kernel_rfl
@[simp] theorem plainT_6 : plainT Tryz.prog 6 = true := by kernel_rfl
@[simp] theorem und_6 : Tryz.prog.underlying 6 = some (.int .u8) := by kernel_rfl
@[simp] theorem zAV_6 : zAV Tryz.prog 9 6 = .raw (.int .u8 0) := by kernel_rfl
@[simp] theorem zeroIs_6 : zeroIs Tryz.prog 6 (.raw (.int .u8 0)) := ⟨.int .u8 0, by kernel_rfl, .inl ⟨rfl, rfl⟩⟩
@[simp] theorem tyI_7 : tyI Tryz.prog 7 = some (4, true) := by kernel_rfl
@[simp] theorem isSl_7 : isSl Tryz.prog 7 = false := by kernel_rfl
@[simp] theorem isStr_7 : isStr Tryz.prog 7 = false := by kernel_rfl
@[simp] theorem isBool_7 : isBool Tryz.prog 7 = false := by kernel_rfl
@[simp] theorem isPtr_7 : isPtr Tryz.prog 7 = false := by kernel_rfl
@[simp] theorem isIf_7 : isIf Tryz.prog 7 = false := by kernel_rfl
@[simp] theorem isIface_7 : isIface Tryz.prog 7 = false := by kernel_rfl
@[simp] theorem isArr_7 : isArr Tryz.prog 7 = false := by kernel_rfl
@[simp] theorem plainT_7 : plainT Tryz.prog 7 = true := by kernel_rfl
@[simp] theorem fldI_7_0 : fldI Tryz.prog 7 0 = some (0, 1, false) := by kernel_rfl
@[simp] theorem fldI_7_1 : fldI Tryz.prog 7 1 = some (1, 1, false) := by kernel_rfl
@[simp] theorem fldI_7_2 : fldI Tryz.prog 7 2 = some (2, 1, false) := by kernel_rfl
@[simp] theorem fldI_7_3 : fldI Tryz.prog 7 3 = some (3, 1, false) := by kernel_rfl
@[simp] theorem zAV_7 : zAV Tryz.prog 9 7 = .agg [.raw (.int .i64 0), .raw (.int .i64 0), .raw (.bool false), .raw (.int .u8 0)] := by kernel_rfl
@[simp] theorem zeroIs_7 : zeroIs Tryz.prog 7 (.agg [.raw (.int .i64 0), .raw (.int .i64 0), .raw (.bool false), .raw (.int .u8 0)]) := ⟨.agg #[.int .i64 0, .int .i64 0, .bool false, .int .u8 0], by kernel_rfl, .inr ⟨_, _, rfl, rfl, by kernel_rfl⟩⟩
@[simp] theorem layIs_7 : layIs Tryz.prog 7 [.raw (.int .i64 0), .raw (.int .i64 0), .raw (.bool false), .raw (.int .u8 0)] := layIs_of (by kernel_rfl)
@[simp] theorem tyI_8 : tyI Tryz.prog 8 = some (4, true) := by kernel_rfl
@[simp] theorem isSl_8 : isSl Tryz.prog 8 = false := by kernel_rfl
@[simp] theorem isStr_8 : isStr Tryz.prog 8 = false := by kernel_rfl
@[simp] theorem isBool_8 : isBool Tryz.prog 8 = false := by kernel_rfl
@[simp] theorem isPtr_8 : isPtr Tryz.prog 8 = false := by kernel_rfl
@[simp] theorem isIf_8 : isIf Tryz.prog 8 = false := by kernel_rfl
@[simp] theorem isIface_8 : isIface Tryz.prog 8 = false := by kernel_rfl
@[simp] theorem isArr_8 : isArr Tryz.prog 8 = false := by kernel_rfl
@[simp] theorem plainT_8 : plainT Tryz.prog 8 = true := by kernel_rfl
@[simp] theorem fldI_8_0 : fldI Tryz.prog 8 0 = some (0, 1, false) := by kernel_rfl
@[simp] theorem fldI_8_1 : fldI Tryz.prog 8 1 = some (1, 1, false) := by kernel_rfl
@[simp] theorem fldI_8_2 : fldI Tryz.prog 8 2 = some (2, 1, false) := by kernel_rfl
@[simp] theorem fldI_8_3 : fldI Tryz.prog 8 3 = some (3, 1, false) := by kernel_rfl
@[simp] theorem zAV_8 : zAV Tryz.prog 9 8 = .agg [.raw (.int .i64 0), .raw (.int .i64 0), .raw (.bool false), .raw (.int .u8 0)] := by kernel_rfl
@[simp] theorem zeroIs_8 : zeroIs Tryz.prog 8 (.agg [.raw (.int .i64 0), .raw (.int .i64 0), .raw (.bool false), .raw (.int .u8 0)]) := ⟨.agg #[.int .i64 0, .int .i64 0, .bool false, .int .u8 0], by kernel_rfl, .inr ⟨_, _, rfl, rfl, by kernel_rfl⟩⟩
@[simp] theorem layIs_8 : layIs Tryz.prog 8 [.raw (.int .i64 0), .raw (.int .i64 0), .raw (.bool false), .raw (.int .u8 0)] := layIs_of (by kernel_rfl)
@[simp] theorem tyI_9 : tyI Tryz.prog 9 = some (1, false) := by kernel_rfl
@[simp] theorem isSl_9 : isSl Tryz.prog 9 = false := by kernel_rfl
@[simp] theorem isStr_9 : isStr Tryz.prog 9 = true := by kernel_rfl
@[simp] theorem isBool_9 : isBool Tryz.prog 9 = false := by kernel_rfl
@[simp] theorem isPtr_9 : isPtr Tryz.prog 9 = false := by kernel_rfl
@[simp] theorem isIf_9 : isIf Tryz.prog 9 = false := by kernel_rfl
@[simp] theorem isIface_9 : isIface Tryz.prog 9 = false := by kernel_rfl
@[simp] theorem isArr_9 : isArr Tryz.prog 9 = false := by kernel_rfl
@[simp] theorem plainT_9 : plainT Tryz.prog 9 = true := by kernel_rfl
@[simp] theorem und_9 : Tryz.prog.underlying 9 = some .string := by kernel_rfl
@[simp] theorem zAV_9 : zAV Tryz.prog 9 9 = .raw (.string ⟨#[]⟩) := by kernel_rfl
@[simp] theorem zeroIs_9 : zeroIs Tryz.prog 9 (.raw (.string ⟨#[]⟩)) := ⟨.string ⟨#[]⟩, by kernel_rfl, .inl ⟨rfl, rfl⟩⟩
@[simp] theorem tyI_10 : tyI Tryz.prog 10 = some (1, false) := by kernel_rfl
@[simp] theorem isSl_10 : isSl Tryz.prog 10 = false := by kernel_rfl
@[simp] theorem isStr_10 : isStr Tryz.prog 10 = true := by kernel_rfl
@[simp] theorem isBool_10 : isBool Tryz.prog 10 = false := by kernel_rfl
@[simp] theorem isPtr_10 : isPtr Tryz.prog 10 = false := by kernel_rfl
@[simp] theorem isIf_10 : isIf Tryz.prog 10 = false := by kernel_rfl
@[simp] theorem isIface_10 : isIface Tryz.prog 10 = false := by kernel_rfl
@[simp] theorem isArr_10 : isArr Tryz.prog 10 = false := by kernel_rfl
@[simp] theorem plainT_10 : plainT Tryz.prog 10 = true := by kernel_rfl
@[simp] theorem und_10 : Tryz.prog.underlying 10 = some .string := by kernel_rfl
@[simp] theorem zAV_10 : zAV Tryz.prog 9 10 = .raw (.string ⟨#[]⟩) := by kernel_rfl
@[simp] theorem zeroIs_10 : zeroIs Tryz.prog 10 (.raw (.string ⟨#[]⟩)) := ⟨.string ⟨#[]⟩, by kernel_rfl, .inl ⟨rfl, rfl⟩⟩
@[simp] theorem tyI_11 : tyI Tryz.prog 11 = some (1, false) := by kernel_rfl
@[simp] theorem isSl_11 : isSl Tryz.prog 11 = false := by kernel_rfl
@[simp] theorem isStr_11 : isStr Tryz.prog 11 = true := by kernel_rfl
@[simp] theorem isBool_11 : isBool Tryz.prog 11 = false := by kernel_rfl
@[simp] theorem isPtr_11 : isPtr Tryz.prog 11 = false := by kernel_rfl
@[simp] theorem isIf_11 : isIf Tryz.prog 11 = false := by kernel_rfl
@[simp] theorem isIface_11 : isIface Tryz.prog 11 = false := by kernel_rfl
@[simp] theorem isArr_11 : isArr Tryz.prog 11 = false := by kernel_rfl
@[simp] theorem plainT_11 : plainT Tryz.prog 11 = true := by kernel_rfl
@[simp] theorem und_11 : Tryz.prog.underlying 11 = some .string := by kernel_rfl
@[simp] theorem zAV_11 : zAV Tryz.prog 9 11 = .raw (.string ⟨#[]⟩) := by kernel_rfl
@[simp] theorem zeroIs_11 : zeroIs Tryz.prog 11 (.raw (.string ⟨#[]⟩)) := ⟨.string ⟨#[]⟩, by kernel_rfl, .inl ⟨rfl, rfl⟩⟩
@[simp] theorem tyI_12 : tyI Tryz.prog 12 = some (1, false) := by kernel_rfl
@[simp] theorem isSl_12 : isSl Tryz.prog 12 = false := by kernel_rfl
@[simp] theorem isStr_12 : isStr Tryz.prog 12 = false := by kernel_rfl
@[simp] theorem isBool_12 : isBool Tryz.prog 12 = false := by kernel_rfl
@[simp] theorem isPtr_12 : isPtr Tryz.prog 12 = false := by kernel_rfl
@[simp] theorem isIf_12 : isIf Tryz.prog 12 = false := by kernel_rfl
@[simp] theorem isIface_12 : isIface Tryz.prog 12 = false := by kernel_rfl
@[simp] theorem isArr_12 : isArr Tryz.prog 12 = false := by kernel_rfl
@[simp] theorem plainT_12 : plainT Tryz.prog 12 = true := by kernel_rfl
@[simp] theorem und_12 : Tryz.prog.underlying 12 = some (.int .u64) := by kernel_rfl
@[simp] theorem zAV_12 : zAV Tryz.prog 9 12 = .raw (.int .u64 0) := by kernel_rfl
@[simp] theorem zeroIs_12 : zeroIs Tryz.prog 12 (.raw (.int .u64 0)) := ⟨.int .u64 0, by kernel_rfl, .inl ⟨rfl, rfl⟩⟩
@[simp] theorem tyI_13 : tyI Tryz.prog 13 = some (2, true) := by kernel_rfl
@[simp] theorem isSl_13 : isSl Tryz.prog 13 = false := by kernel_rfl
@[simp] theorem isStr_13 : isStr Tryz.prog 13 = false := by kernel_rfl
@[simp] theorem isBool_13 : isBool Tryz.prog 13 = false := by kernel_rfl
@[simp] theorem isPtr_13 : isPtr Tryz.prog 13 = false := by kernel_rfl
@[simp] theorem isIf_13 : isIf Tryz.prog 13 = false := by kernel_rfl
@[simp] theorem isIface_13 : isIface Tryz.prog 13 = false := by kernel_rfl
@[simp] theorem isArr_13 : isArr Tryz.prog 13 = false := by kernel_rfl
@[simp] theorem plainT_13 : plainT Tryz.prog 13 = true := by kernel_rfl
@[simp] theorem fldI_13_0 : fldI Tryz.prog 13 0 = some (0, 1, false) := by kernel_rfl
@[simp] theorem fldI_13_1 : fldI Tryz.prog 13 1 = some (1, 1, false) := by kernel_rfl
@[simp] theorem zAV_13 : zAV Tryz.prog 9 13 = .agg [.raw (.string ⟨#[]⟩), .raw (.int .u64 0)] := by kernel_rfl
@[simp] theorem zeroIs_13 : zeroIs Tryz.prog 13 (.agg [.raw (.string ⟨#[]⟩), .raw (.int .u64 0)]) := ⟨.agg #[.string ⟨#[]⟩, .int .u64 0], by kernel_rfl, .inr ⟨_, _, rfl, rfl, by kernel_rfl⟩⟩
@[simp] theorem layIs_13 : layIs Tryz.prog 13 [.raw (.string ⟨#[]⟩), .raw (.int .u64 0)] := layIs_of (by kernel_rfl)
@[simp] theorem tyI_14 : tyI Tryz.prog 14 = some (2, true) := by kernel_rfl
@[simp] theorem isSl_14 : isSl Tryz.prog 14 = false := by kernel_rfl
@[simp] theorem isStr_14 : isStr Tryz.prog 14 = false := by kernel_rfl
@[simp] theorem isBool_14 : isBool Tryz.prog 14 = false := by kernel_rfl
@[simp] theorem isPtr_14 : isPtr Tryz.prog 14 = false := by kernel_rfl
@[simp] theorem isIf_14 : isIf Tryz.prog 14 = false := by kernel_rfl
@[simp] theorem isIface_14 : isIface Tryz.prog 14 = false := by kernel_rfl
@[simp] theorem isArr_14 : isArr Tryz.prog 14 = false := by kernel_rfl
@[simp] theorem plainT_14 : plainT Tryz.prog 14 = true := by kernel_rfl
@[simp] theorem fldI_14_0 : fldI Tryz.prog 14 0 = some (0, 1, false) := by kernel_rfl
@[simp] theorem fldI_14_1 : fldI Tryz.prog 14 1 = some (1, 1, false) := by kernel_rfl
@[simp] theorem zAV_14 : zAV Tryz.prog 9 14 = .agg [.raw (.string ⟨#[]⟩), .raw (.int .u64 0)] := by kernel_rfl
@[simp] theorem zeroIs_14 : zeroIs Tryz.prog 14 (.agg [.raw (.string ⟨#[]⟩), .raw (.int .u64 0)]) := ⟨.agg #[.string ⟨#[]⟩, .int .u64 0], by kernel_rfl, .inr ⟨_, _, rfl, rfl, by kernel_rfl⟩⟩
@[simp] theorem layIs_14 : layIs Tryz.prog 14 [.raw (.string ⟨#[]⟩), .raw (.int .u64 0)] := layIs_of (by kernel_rfl)
@[simp] theorem tyI_15 : tyI Tryz.prog 15 = some (1, false) := by kernel_rfl
@[simp] theorem isSl_15 : isSl Tryz.prog 15 = false := by kernel_rfl
@[simp] theorem isStr_15 : isStr Tryz.prog 15 = false := by kernel_rfl
@[simp] theorem isBool_15 : isBool Tryz.prog 15 = false := by kernel_rfl
@[simp] theorem isPtr_15 : isPtr Tryz.prog 15 = true := by kernel_rfl
@[simp] theorem isIf_15 : isIf Tryz.prog 15 = false := by kernel_rfl
@[simp] theorem isIface_15 : isIface Tryz.prog 15 = false := by kernel_rfl
@[simp] theorem isArr_15 : isArr Tryz.prog 15 = false := by kernel_rfl
@[simp] theorem plainT_15 : plainT Tryz.prog 15 = false := by kernel_rfl
@[simp] theorem zAV_15 : zAV Tryz.prog 9 15 = .raw (.pointer none) := by kernel_rfl
@[simp] theorem zeroIs_15 : zeroIs Tryz.prog 15 (.raw (.pointer none)) := ⟨.pointer none, by kernel_rfl, .inl ⟨rfl, rfl⟩⟩
@[simp] theorem tyI_16 : tyI Tryz.prog 16 = some (1, false) := by kernel_rfl
@[simp] theorem isSl_16 : isSl Tryz.prog 16 = false := by kernel_rfl
@[simp] theorem isStr_16 : isStr Tryz.prog 16 = false := by kernel_rfl
@[simp] theorem isBool_16 : isBool Tryz.prog 16 = false := by kernel_rfl
@[simp] theorem isPtr_16 : isPtr Tryz.prog 16 = true := by kernel_rfl
@[simp] theorem isIf_16 : isIf Tryz.prog 16 = false := by kernel_rfl
@[simp] theorem isIface_16 : isIface Tryz.prog 16 = false := by kernel_rfl
@[simp] theorem isArr_16 : isArr Tryz.prog 16 = false := by kernel_rfl
@[simp] theorem plainT_16 : plainT Tryz.prog 16 = false := by kernel_rfl
@[simp] theorem zAV_16 : zAV Tryz.prog 9 16 = .raw (.pointer none) := by kernel_rfl
@[simp] theorem zeroIs_16 : zeroIs Tryz.prog 16 (.raw (.pointer none)) := ⟨.pointer none, by kernel_rfl, .inl ⟨rfl, rfl⟩⟩
@[simp] theorem tyI_17 : tyI Tryz.prog 17 = some (1, false) := by kernel_rfl
@[simp] theorem isSl_17 : isSl Tryz.prog 17 = false := by kernel_rfl
@[simp] theorem isStr_17 : isStr Tryz.prog 17 = false := by kernel_rfl
@[simp] theorem isBool_17 : isBool Tryz.prog 17 = false := by kernel_rfl
@[simp] theorem isPtr_17 : isPtr Tryz.prog 17 = true := by kernel_rfl
@[simp] theorem isIf_17 : isIf Tryz.prog 17 = false := by kernel_rfl
@[simp] theorem isIface_17 : isIface Tryz.prog 17 = false := by kernel_rfl
@[simp] theorem isArr_17 : isArr Tryz.prog 17 = false := by kernel_rfl
@[simp] theorem plainT_17 : plainT Tryz.prog 17 = false := by kernel_rfl
@[simp] theorem zAV_17 : zAV Tryz.prog 9 17 = .raw (.pointer none) := by kernel_rfl
@[simp] theorem zeroIs_17 : zeroIs Tryz.prog 17 (.raw (.pointer none)) := ⟨.pointer none, by kernel_rfl, .inl ⟨rfl, rfl⟩⟩
@[simp] theorem tyI_18 : tyI Tryz.prog 18 = some (1, true) := by kernel_rfl
@[simp] theorem isSl_18 : isSl Tryz.prog 18 = false := by kernel_rfl
@[simp] theorem isStr_18 : isStr Tryz.prog 18 = false := by kernel_rfl
@[simp] theorem isBool_18 : isBool Tryz.prog 18 = false := by kernel_rfl
@[simp] theorem isPtr_18 : isPtr Tryz.prog 18 = false := by kernel_rfl
@[simp] theorem isIf_18 : isIf Tryz.prog 18 = false := by kernel_rfl
@[simp] theorem isIface_18 : isIface Tryz.prog 18 = false := by kernel_rfl
@[simp] theorem isArr_18 : isArr Tryz.prog 18 = false := by kernel_rfl
@[simp] theorem plainT_18 : plainT Tryz.prog 18 = false := by kernel_rfl
@[simp] theorem fldI_18_0 : fldI Tryz.prog 18 0 = some (0, 1, false) := by kernel_rfl
@[simp] theorem zAV_18 : zAV Tryz.prog 9 18 = .agg [.raw (.pointer none)] := by kernel_rfl
@[simp] theorem zeroIs_18 : zeroIs Tryz.prog 18 (.agg [.raw (.pointer none)]) := ⟨.agg #[.pointer none], by kernel_rfl, .inr ⟨_, _, rfl, rfl, by kernel_rfl⟩⟩
@[simp] theorem layIs_18 : layIs Tryz.prog 18 [.raw (.pointer none)] := layIs_of (by kernel_rfl)
@[simp] theorem tyI_19 : tyI Tryz.prog 19 = some (1, true) := by kernel_rfl
@[simp] theorem isSl_19 : isSl Tryz.prog 19 = false := by kernel_rfl
@[simp] theorem isStr_19 : isStr Tryz.prog 19 = false := by kernel_rfl
@[simp] theorem isBool_19 : isBool Tryz.prog 19 = false := by kernel_rfl
@[simp] theorem isPtr_19 : isPtr Tryz.prog 19 = false := by kernel_rfl
@[simp] theorem isIf_19 : isIf Tryz.prog 19 = false := by kernel_rfl
@[simp] theorem isIface_19 : isIface Tryz.prog 19 = false := by kernel_rfl
@[simp] theorem isArr_19 : isArr Tryz.prog 19 = false := by kernel_rfl
@[simp] theorem plainT_19 : plainT Tryz.prog 19 = false := by kernel_rfl
@[simp] theorem fldI_19_0 : fldI Tryz.prog 19 0 = some (0, 1, false) := by kernel_rfl
@[simp] theorem zAV_19 : zAV Tryz.prog 9 19 = .agg [.raw (.pointer none)] := by kernel_rfl
@[simp] theorem zeroIs_19 : zeroIs Tryz.prog 19 (.agg [.raw (.pointer none)]) := ⟨.agg #[.pointer none], by kernel_rfl, .inr ⟨_, _, rfl, rfl, by kernel_rfl⟩⟩
@[simp] theorem layIs_19 : layIs Tryz.prog 19 [.raw (.pointer none)] := layIs_of (by kernel_rfl)
@[simp] theorem tyI_20 : tyI Tryz.prog 20 = some (1, false) := by kernel_rfl
@[simp] theorem isSl_20 : isSl Tryz.prog 20 = false := by kernel_rfl
@[simp] theorem isStr_20 : isStr Tryz.prog 20 = false := by kernel_rfl
@[simp] theorem isBool_20 : isBool Tryz.prog 20 = false := by kernel_rfl
@[simp] theorem isPtr_20 : isPtr Tryz.prog 20 = false := by kernel_rfl
@[simp] theorem isIf_20 : isIf Tryz.prog 20 = true := by kernel_rfl
@[simp] theorem isIface_20 : isIface Tryz.prog 20 = true := by kernel_rfl
@[simp] theorem isArr_20 : isArr Tryz.prog 20 = false := by kernel_rfl
@[simp] theorem plainT_20 : plainT Tryz.prog 20 = false := by kernel_rfl
@[simp] theorem zAV_20 : zAV Tryz.prog 9 20 = .raw (.nilIface) := by kernel_rfl
@[simp] theorem zeroIs_20 : zeroIs Tryz.prog 20 (.raw (.nilIface)) := ⟨.nilIface, by kernel_rfl, .inl ⟨rfl, rfl⟩⟩
@[simp] theorem tyI_21 : tyI Tryz.prog 21 = some (1, false) := by kernel_rfl
@[simp] theorem isSl_21 : isSl Tryz.prog 21 = false := by kernel_rfl
@[simp] theorem isStr_21 : isStr Tryz.prog 21 = false := by kernel_rfl
@[simp] theorem isBool_21 : isBool Tryz.prog 21 = false := by kernel_rfl
@[simp] theorem isPtr_21 : isPtr Tryz.prog 21 = false := by kernel_rfl
@[simp] theorem isIf_21 : isIf Tryz.prog 21 = false := by kernel_rfl
@[simp] theorem isIface_21 : isIface Tryz.prog 21 = false := by kernel_rfl
@[simp] theorem isArr_21 : isArr Tryz.prog 21 = false := by kernel_rfl
@[simp] theorem plainT_21 : plainT Tryz.prog 21 = true := by kernel_rfl
@[simp] theorem und_21 : Tryz.prog.underlying 21 = some (.int .i32) := by kernel_rfl
@[simp] theorem zAV_21 : zAV Tryz.prog 9 21 = .raw (.int .i32 0) := by kernel_rfl
@[simp] theorem zeroIs_21 : zeroIs Tryz.prog 21 (.raw (.int .i32 0)) := ⟨.int .i32 0, by kernel_rfl, .inl ⟨rfl, rfl⟩⟩
@[simp] theorem tyI_22 : tyI Tryz.prog 22 = some (1, false) := by kernel_rfl
@[simp] theorem isSl_22 : isSl Tryz.prog 22 = true := by kernel_rfl
@[simp] theorem isStr_22 : isStr Tryz.prog 22 = false := by kernel_rfl
@[simp] theorem isBool_22 : isBool Tryz.prog 22 = false := by kernel_rfl
@[simp] theorem isPtr_22 : isPtr Tryz.prog 22 = false := by kernel_rfl
@[simp] theorem isIf_22 : isIf Tryz.prog 22 = false := by kernel_rfl
@[simp] theorem isIface_22 : isIface Tryz.prog 22 = false := by kernel_rfl
@[simp] theorem isArr_22 : isArr Tryz.prog 22 = false := by kernel_rfl
@[simp] theorem plainT_22 : plainT Tryz.prog 22 = false := by kernel_rfl
@[simp] theorem rowI_22 : rowI Tryz.prog 22 = some (33, 5, 56) := by kernel_rfl
@[simp] theorem zAV_22 : zAV Tryz.prog 9 22 = .raw (.slice none 0 0) := by kernel_rfl
@[simp] theorem zeroIs_22 : zeroIs Tryz.prog 22 (.raw (.slice none 0 0)) := ⟨.slice none 0 0, by kernel_rfl, .inl ⟨rfl, rfl⟩⟩
@[simp] theorem tyI_23 : tyI Tryz.prog 23 = some (1, false) := by kernel_rfl
@[simp] theorem isSl_23 : isSl Tryz.prog 23 = true := by kernel_rfl
@[simp] theorem isStr_23 : isStr Tryz.prog 23 = false := by kernel_rfl
@[simp] theorem isBool_23 : isBool Tryz.prog 23 = false := by kernel_rfl
@[simp] theorem isPtr_23 : isPtr Tryz.prog 23 = false := by kernel_rfl
@[simp] theorem isIf_23 : isIf Tryz.prog 23 = false := by kernel_rfl
@[simp] theorem isIface_23 : isIface Tryz.prog 23 = false := by kernel_rfl
@[simp] theorem isArr_23 : isArr Tryz.prog 23 = false := by kernel_rfl
@[simp] theorem plainT_23 : plainT Tryz.prog 23 = false := by kernel_rfl
@[simp] theorem rowI_23 : rowI Tryz.prog 23 = some (51, 4, 48) := by kernel_rfl
@[simp] theorem zAV_23 : zAV Tryz.prog 9 23 = .raw (.slice none 0 0) := by kernel_rfl
@[simp] theorem zeroIs_23 : zeroIs Tryz.prog 23 (.raw (.slice none 0 0)) := ⟨.slice none 0 0, by kernel_rfl, .inl ⟨rfl, rfl⟩⟩
@[simp] theorem tyI_24 : tyI Tryz.prog 24 = some (1, false) := by kernel_rfl
@[simp] theorem isSl_24 : isSl Tryz.prog 24 = false := by kernel_rfl
@[simp] theorem isStr_24 : isStr Tryz.prog 24 = false := by kernel_rfl
@[simp] theorem isBool_24 : isBool Tryz.prog 24 = false := by kernel_rfl
@[simp] theorem isPtr_24 : isPtr Tryz.prog 24 = false := by kernel_rfl
@[simp] theorem isIf_24 : isIf Tryz.prog 24 = false := by kernel_rfl
@[simp] theorem isIface_24 : isIface Tryz.prog 24 = false := by kernel_rfl
@[simp] theorem isArr_24 : isArr Tryz.prog 24 = false := by kernel_rfl
@[simp] theorem plainT_24 : plainT Tryz.prog 24 = false := by kernel_rfl
@[simp] theorem zAV_24 : zAV Tryz.prog 9 24 = .raw (.nilFunc) := by kernel_rfl
@[simp] theorem zeroIs_24 : zeroIs Tryz.prog 24 (.raw (.nilFunc)) := ⟨.nilFunc, by kernel_rfl, .inl ⟨rfl, rfl⟩⟩
@[simp] theorem tyI_25 : tyI Tryz.prog 25 = some (1, false) := by kernel_rfl
@[simp] theorem isSl_25 : isSl Tryz.prog 25 = false := by kernel_rfl
@[simp] theorem isStr_25 : isStr Tryz.prog 25 = false := by kernel_rfl
@[simp] theorem isBool_25 : isBool Tryz.prog 25 = false := by kernel_rfl
@[simp] theorem isPtr_25 : isPtr Tryz.prog 25 = false := by kernel_rfl
@[simp] theorem isIf_25 : isIf Tryz.prog 25 = false := by kernel_rfl
@[simp] theorem isIface_25 : isIface Tryz.prog 25 = false := by kernel_rfl
@[simp] theorem isArr_25 : isArr Tryz.prog 25 = false := by kernel_rfl
@[simp] theorem plainT_25 : plainT Tryz.prog 25 = false := by kernel_rfl
@[simp] theorem zAV_25 : zAV Tryz.prog 9 25 = .raw (.nilFunc) := by kernel_rfl
@[simp] theorem zeroIs_25 : zeroIs Tryz.prog 25 (.raw (.nilFunc)) := ⟨.nilFunc, by kernel_rfl, .inl ⟨rfl, rfl⟩⟩
@[simp] theorem tyI_26 : tyI Tryz.prog 26 = some (1, false) := by kernel_rfl
@[simp] theorem isSl_26 : isSl Tryz.prog 26 = false := by kernel_rfl
@[simp] theorem isStr_26 : isStr Tryz.prog 26 = false := by kernel_rfl
@[simp] theorem isBool_26 : isBool Tryz.prog 26 = false := by kernel_rfl
@[simp] theorem isPtr_26 : isPtr Tryz.prog 26 = false := by kernel_rfl
@[simp] theorem isIf_26 : isIf Tryz.prog 26 = true := by kernel_rfl
@[simp] theorem isIface_26 : isIface Tryz.prog 26 = true := by kernel_rfl
@[simp] theorem isArr_26 : isArr Tryz.prog 26 = false := by kernel_rfl
@[simp] theorem plainT_26 : plainT Tryz.prog 26 = false := by kernel_rfl
@[simp] theorem zAV_26 : zAV Tryz.prog 9 26 = .raw (.nilIface) := by kernel_rfl
@[simp] theorem zeroIs_26 : zeroIs Tryz.prog 26 (.raw (.nilIface)) := ⟨.nilIface, by kernel_rfl, .inl ⟨rfl, rfl⟩⟩
@[simp] theorem tyI_27 : tyI Tryz.prog 27 = some (1, false) := by kernel_rfl
@[simp] theorem isSl_27 : isSl Tryz.prog 27 = false := by kernel_rfl
@[simp] theorem isStr_27 : isStr Tryz.prog 27 = false := by kernel_rfl
@[simp] theorem isBool_27 : isBool Tryz.prog 27 = false := by kernel_rfl
@[simp] theorem isPtr_27 : isPtr Tryz.prog 27 = false := by kernel_rfl
@[simp] theorem isIf_27 : isIf Tryz.prog 27 = true := by kernel_rfl
@[simp] theorem isIface_27 : isIface Tryz.prog 27 = true := by kernel_rfl
@[simp] theorem isArr_27 : isArr Tryz.prog 27 = false := by kernel_rfl
@[simp] theorem plainT_27 : plainT Tryz.prog 27 = false := by kernel_rfl
@[simp] theorem zAV_27 : zAV Tryz.prog 9 27 = .raw (.nilIface) := by kernel_rfl
@[simp] theorem zeroIs_27 : zeroIs Tryz.prog 27 (.raw (.nilIface)) := ⟨.nilIface, by kernel_rfl, .inl ⟨rfl, rfl⟩⟩
@[simp] theorem isSl_28 : isSl Tryz.prog 28 = false := by kernel_rfl
@[simp] theorem tyI_29 : tyI Tryz.prog 29 = some (1, false) := by kernel_rfl
@[simp] theorem isSl_29 : isSl Tryz.prog 29 = false := by kernel_rfl
@[simp] theorem isStr_29 : isStr Tryz.prog 29 = false := by kernel_rfl
@[simp] theorem isBool_29 : isBool Tryz.prog 29 = false := by kernel_rfl
@[simp] theorem isPtr_29 : isPtr Tryz.prog 29 = false := by kernel_rfl
@[simp] theorem isIf_29 : isIf Tryz.prog 29 = false := by kernel_rfl
@[simp] theorem isIface_29 : isIface Tryz.prog 29 = false := by kernel_rfl
@[simp] theorem isArr_29 : isArr Tryz.prog 29 = false := by kernel_rfl
@[simp] theorem plainT_29 : plainT Tryz.prog 29 = false := by kernel_rfl
@[simp] theorem zAV_29 : zAV Tryz.prog 9 29 = .raw (.nilFunc) := by kernel_rfl
@[simp] theorem zeroIs_29 : zeroIs Tryz.prog 29 (.raw (.nilFunc)) := ⟨.nilFunc, by kernel_rfl, .inl ⟨rfl, rfl⟩⟩
@[simp] theorem tyI_30 : tyI Tryz.prog 30 = some (3, true) := by kernel_rfl
@[simp] theorem isSl_30 : isSl Tryz.prog 30 = false := by kernel_rfl
@[simp] theorem isStr_30 : isStr Tryz.prog 30 = false := by kernel_rfl
@[simp] theorem isBool_30 : isBool Tryz.prog 30 = false := by kernel_rfl
@[simp] theorem isPtr_30 : isPtr Tryz.prog 30 = false := by kernel_rfl
@[simp] theorem isIf_30 : isIf Tryz.prog 30 = false := by kernel_rfl
@[simp] theorem isIface_30 : isIface Tryz.prog 30 = false := by kernel_rfl
@[simp] theorem isArr_30 : isArr Tryz.prog 30 = false := by kernel_rfl
@[simp] theorem plainT_30 : plainT Tryz.prog 30 = true := by kernel_rfl
@[simp] theorem fldI_30_0 : fldI Tryz.prog 30 0 = some (0, 1, false) := by kernel_rfl
@[simp] theorem fldI_30_1 : fldI Tryz.prog 30 1 = some (1, 1, false) := by kernel_rfl
@[simp] theorem fldI_30_2 : fldI Tryz.prog 30 2 = some (2, 1, false) := by kernel_rfl
@[simp] theorem zAV_30 : zAV Tryz.prog 9 30 = .agg [.raw (.int .i64 0), .raw (.int .i64 0), .raw (.string ⟨#[]⟩)] := by kernel_rfl
@[simp] theorem zeroIs_30 : zeroIs Tryz.prog 30 (.agg [.raw (.int .i64 0), .raw (.int .i64 0), .raw (.string ⟨#[]⟩)]) := ⟨.agg #[.int .i64 0, .int .i64 0, .string ⟨#[]⟩], by kernel_rfl, .inr ⟨_, _, rfl, rfl, by kernel_rfl⟩⟩
@[simp] theorem layIs_30 : layIs Tryz.prog 30 [.raw (.int .i64 0), .raw (.int .i64 0), .raw (.string ⟨#[]⟩)] := layIs_of (by kernel_rfl)
@[simp] theorem tyI_31 : tyI Tryz.prog 31 = some (3, true) := by kernel_rfl
@[simp] theorem isSl_31 : isSl Tryz.prog 31 = false := by kernel_rfl
@[simp] theorem isStr_31 : isStr Tryz.prog 31 = false := by kernel_rfl
@[simp] theorem isBool_31 : isBool Tryz.prog 31 = false := by kernel_rfl
@[simp] theorem isPtr_31 : isPtr Tryz.prog 31 = false := by kernel_rfl
@[simp] theorem isIf_31 : isIf Tryz.prog 31 = false := by kernel_rfl
@[simp] theorem isIface_31 : isIface Tryz.prog 31 = false := by kernel_rfl
@[simp] theorem isArr_31 : isArr Tryz.prog 31 = false := by kernel_rfl
@[simp] theorem plainT_31 : plainT Tryz.prog 31 = true := by kernel_rfl
@[simp] theorem eqd_31 : eqd Tryz.prog 9 31 = some (.st [.i, .i, .s]) := by kernel_rfl
@[simp] theorem guardless_31 : guardless Tryz.prog 31 = true := by kernel_rfl
@[simp] theorem fldI_31_0 : fldI Tryz.prog 31 0 = some (0, 1, false) := by kernel_rfl
@[simp] theorem fldI_31_1 : fldI Tryz.prog 31 1 = some (1, 1, false) := by kernel_rfl
@[simp] theorem fldI_31_2 : fldI Tryz.prog 31 2 = some (2, 1, false) := by kernel_rfl
@[simp] theorem zAV_31 : zAV Tryz.prog 9 31 = .agg [.raw (.int .i64 0), .raw (.int .i64 0), .raw (.string ⟨#[]⟩)] := by kernel_rfl
@[simp] theorem zeroIs_31 : zeroIs Tryz.prog 31 (.agg [.raw (.int .i64 0), .raw (.int .i64 0), .raw (.string ⟨#[]⟩)]) := ⟨.agg #[.int .i64 0, .int .i64 0, .string ⟨#[]⟩], by kernel_rfl, .inr ⟨_, _, rfl, rfl, by kernel_rfl⟩⟩
@[simp] theorem layIs_31 : layIs Tryz.prog 31 [.raw (.int .i64 0), .raw (.int .i64 0), .raw (.string ⟨#[]⟩)] := layIs_of (by kernel_rfl)
@[simp] theorem tyI_32 : tyI Tryz.prog 32 = some (5, true) := by kernel_rfl
@[simp] theorem isSl_32 : isSl Tryz.prog 32 = false := by kernel_rfl
@[simp] theorem isStr_32 : isStr Tryz.prog 32 = false := by kernel_rfl
@[simp] theorem isBool_32 : isBool Tryz.prog 32 = false := by kernel_rfl
@[simp] theorem isPtr_32 : isPtr Tryz.prog 32 = false := by kernel_rfl
@[simp] theorem isIf_32 : isIf Tryz.prog 32 = false := by kernel_rfl
@[simp] theorem isIface_32 : isIface Tryz.prog 32 = false := by kernel_rfl
@[simp] theorem isArr_32 : isArr Tryz.prog 32 = false := by kernel_rfl
@[simp] theorem plainT_32 : plainT Tryz.prog 32 = true := by kernel_rfl
@[simp] theorem fldI_32_0 : fldI Tryz.prog 32 0 = some (0, 1, false) := by kernel_rfl
@[simp] theorem fldI_32_1 : fldI Tryz.prog 32 1 = some (1, 3, true) := by kernel_rfl
@[simp] theorem fldI_32_2 : fldI Tryz.prog 32 2 = some (4, 1, false) := by kernel_rfl
@[simp] theorem zAV_32 : zAV Tryz.prog 9 32 = .agg [.raw (.int .i64 0), .agg [.raw (.int .i64 0), .raw (.int .i64 0), .raw (.string ⟨#[]⟩)], .raw (.string ⟨#[]⟩)] := by kernel_rfl
@[simp] theorem zeroIs_32 : zeroIs Tryz.prog 32 (.agg [.raw (.int .i64 0), .agg [.raw (.int .i64 0), .raw (.int .i64 0), .raw (.string ⟨#[]⟩)], .raw (.string ⟨#[]⟩)]) := ⟨.agg #[.int .i64 0, .int .i64 0, .int .i64 0, .string ⟨#[]⟩, .string ⟨#[]⟩], by kernel_rfl, .inr ⟨_, _, rfl, rfl, by kernel_rfl⟩⟩
@[simp] theorem layIs_32 : layIs Tryz.prog 32 [.raw (.int .i64 0), .agg [.raw (.int .i64 0), .raw (.int .i64 0), .raw (.string ⟨#[]⟩)], .raw (.string ⟨#[]⟩)] := layIs_of (by kernel_rfl)
@[simp] theorem tyI_33 : tyI Tryz.prog 33 = some (5, true) := by kernel_rfl
@[simp] theorem isSl_33 : isSl Tryz.prog 33 = false := by kernel_rfl
@[simp] theorem isStr_33 : isStr Tryz.prog 33 = false := by kernel_rfl
@[simp] theorem isBool_33 : isBool Tryz.prog 33 = false := by kernel_rfl
@[simp] theorem isPtr_33 : isPtr Tryz.prog 33 = false := by kernel_rfl
@[simp] theorem isIf_33 : isIf Tryz.prog 33 = false := by kernel_rfl
@[simp] theorem isIface_33 : isIface Tryz.prog 33 = false := by kernel_rfl
@[simp] theorem isArr_33 : isArr Tryz.prog 33 = false := by kernel_rfl
@[simp] theorem plainT_33 : plainT Tryz.prog 33 = true := by kernel_rfl
@[simp] theorem eqd_33 : eqd Tryz.prog 9 33 = some (.st [.i, .st [.i, .i, .s], .s]) := by kernel_rfl
@[simp] theorem guardless_33 : guardless Tryz.prog 33 = true := by kernel_rfl
@[simp] theorem fldI_33_0 : fldI Tryz.prog 33 0 = some (0, 1, false) := by kernel_rfl
@[simp] theorem fldI_33_1 : fldI Tryz.prog 33 1 = some (1, 3, true) := by kernel_rfl
@[simp] theorem fldI_33_2 : fldI Tryz.prog 33 2 = some (4, 1, false) := by kernel_rfl
@[simp] theorem zAV_33 : zAV Tryz.prog 9 33 = .agg [.raw (.int .i64 0), .agg [.raw (.int .i64 0), .raw (.int .i64 0), .raw (.string ⟨#[]⟩)], .raw (.string ⟨#[]⟩)] := by kernel_rfl
@[simp] theorem zeroIs_33 : zeroIs Tryz.prog 33 (.agg [.raw (.int .i64 0), .agg [.raw (.int .i64 0), .raw (.int .i64 0), .raw (.string ⟨#[]⟩)], .raw (.string ⟨#[]⟩)]) := ⟨.agg #[.int .i64 0, .int .i64 0, .int .i64 0, .string ⟨#[]⟩, .string ⟨#[]⟩], by kernel_rfl, .inr ⟨_, _, rfl, rfl, by kernel_rfl⟩⟩
@[simp] theorem layIs_33 : layIs Tryz.prog 33 [.raw (.int .i64 0), .agg [.raw (.int .i64 0), .raw (.int .i64 0), .raw (.string ⟨#[]⟩)], .raw (.string ⟨#[]⟩)] := layIs_of (by kernel_rfl)
@[simp] theorem isSl_34 : isSl Tryz.prog 34 = false := by kernel_rfl
@[simp] theorem tyI_35 : tyI Tryz.prog 35 = some (1, false) := by kernel_rfl
@[simp] theorem isSl_35 : isSl Tryz.prog 35 = false := by kernel_rfl
@[simp] theorem isStr_35 : isStr Tryz.prog 35 = false := by kernel_rfl
@[simp] theorem isBool_35 : isBool Tryz.prog 35 = false := by kernel_rfl
@[simp] theorem isPtr_35 : isPtr Tryz.prog 35 = false := by kernel_rfl
@[simp] theorem isIf_35 : isIf Tryz.prog 35 = false := by kernel_rfl
@[simp] theorem isIface_35 : isIface Tryz.prog 35 = false := by kernel_rfl
@[simp] theorem isArr_35 : isArr Tryz.prog 35 = false := by kernel_rfl
@[simp] theorem plainT_35 : plainT Tryz.prog 35 = false := by kernel_rfl
@[simp] theorem zAV_35 : zAV Tryz.prog 9 35 = .raw (.nilFunc) := by kernel_rfl
@[simp] theorem zeroIs_35 : zeroIs Tryz.prog 35 (.raw (.nilFunc)) := ⟨.nilFunc, by kernel_rfl, .inl ⟨rfl, rfl⟩⟩
@[simp] theorem tyI_36 : tyI Tryz.prog 36 = some (1, false) := by kernel_rfl
@[simp] theorem isSl_36 : isSl Tryz.prog 36 = false := by kernel_rfl
@[simp] theorem isStr_36 : isStr Tryz.prog 36 = false := by kernel_rfl
@[simp] theorem isBool_36 : isBool Tryz.prog 36 = false := by kernel_rfl
@[simp] theorem isPtr_36 : isPtr Tryz.prog 36 = false := by kernel_rfl
@[simp] theorem isIf_36 : isIf Tryz.prog 36 = false := by kernel_rfl
@[simp] theorem isIface_36 : isIface Tryz.prog 36 = false := by kernel_rfl
@[simp] theorem isArr_36 : isArr Tryz.prog 36 = false := by kernel_rfl
@[simp] theorem plainT_36 : plainT Tryz.prog 36 = false := by kernel_rfl
@[simp] theorem zAV_36 : zAV Tryz.prog 9 36 = .raw (.nilFunc) := by kernel_rfl
@[simp] theorem zeroIs_36 : zeroIs Tryz.prog 36 (.raw (.nilFunc)) := ⟨.nilFunc, by kernel_rfl, .inl ⟨rfl, rfl⟩⟩
@[simp] theorem tyI_37 : tyI Tryz.prog 37 = some (1, false) := by kernel_rfl
@[simp] theorem isSl_37 : isSl Tryz.prog 37 = true := by kernel_rfl
@[simp] theorem isStr_37 : isStr Tryz.prog 37 = false := by kernel_rfl
@[simp] theorem isBool_37 : isBool Tryz.prog 37 = false := by kernel_rfl
@[simp] theorem isPtr_37 : isPtr Tryz.prog 37 = false := by kernel_rfl
@[simp] theorem isIf_37 : isIf Tryz.prog 37 = false := by kernel_rfl
@[simp] theorem isIface_37 : isIface Tryz.prog 37 = false := by kernel_rfl
@[simp] theorem isArr_37 : isArr Tryz.prog 37 = false := by kernel_rfl
@[simp] theorem plainT_37 : plainT Tryz.prog 37 = false := by kernel_rfl
@[simp] theorem rowI_37 : rowI Tryz.prog 37 = some (9, 1, 16) := by kernel_rfl
@[simp] theorem zAV_37 : zAV Tryz.prog 9 37 = .raw (.slice none 0 0) := by kernel_rfl
@[simp] theorem zeroIs_37 : zeroIs Tryz.prog 37 (.raw (.slice none 0 0)) := ⟨.slice none 0 0, by kernel_rfl, .inl ⟨rfl, rfl⟩⟩
@[simp] theorem tyI_38 : tyI Tryz.prog 38 = some (1, false) := by kernel_rfl
@[simp] theorem isSl_38 : isSl Tryz.prog 38 = false := by kernel_rfl
@[simp] theorem isStr_38 : isStr Tryz.prog 38 = false := by kernel_rfl
@[simp] theorem isBool_38 : isBool Tryz.prog 38 = false := by kernel_rfl
@[simp] theorem isPtr_38 : isPtr Tryz.prog 38 = false := by kernel_rfl
@[simp] theorem isIf_38 : isIf Tryz.prog 38 = false := by kernel_rfl
@[simp] theorem isIface_38 : isIface Tryz.prog 38 = false := by kernel_rfl
@[simp] theorem isArr_38 : isArr Tryz.prog 38 = false := by kernel_rfl
@[simp] theorem plainT_38 : plainT Tryz.prog 38 = true := by kernel_rfl
@[simp] theorem und_38 : Tryz.prog.underlying 38 = some (.int .i64) := by kernel_rfl
@[simp] theorem zAV_38 : zAV Tryz.prog 9 38 = .raw (.int .i64 0) := by kernel_rfl
@[simp] theorem zeroIs_38 : zeroIs Tryz.prog 38 (.raw (.int .i64 0)) := ⟨.int .i64 0, by kernel_rfl, .inl ⟨rfl, rfl⟩⟩
@[simp] theorem tyI_39 : tyI Tryz.prog 39 = some (2, true) := by kernel_rfl
@[simp] theorem isSl_39 : isSl Tryz.prog 39 = false := by kernel_rfl
@[simp] theorem isStr_39 : isStr Tryz.prog 39 = false := by kernel_rfl
@[simp] theorem isBool_39 : isBool Tryz.prog 39 = false := by kernel_rfl
@[simp] theorem isPtr_39 : isPtr Tryz.prog 39 = false := by kernel_rfl
@[simp] theorem isIf_39 : isIf Tryz.prog 39 = false := by kernel_rfl
@[simp] theorem isIface_39 : isIface Tryz.prog 39 = false := by kernel_rfl
@[simp] theorem isArr_39 : isArr Tryz.prog 39 = false := by kernel_rfl
@[simp] theorem plainT_39 : plainT Tryz.prog 39 = true := by kernel_rfl
@[simp] theorem fldI_39_0 : fldI Tryz.prog 39 0 = some (0, 1, false) := by kernel_rfl
@[simp] theorem fldI_39_1 : fldI Tryz.prog 39 1 = some (1, 1, false) := by kernel_rfl
@[simp] theorem zAV_39 : zAV Tryz.prog 9 39 = .agg [.raw (.string ⟨#[]⟩), .raw (.string ⟨#[]⟩)] := by kernel_rfl
@[simp] theorem zeroIs_39 : zeroIs Tryz.prog 39 (.agg [.raw (.string ⟨#[]⟩), .raw (.string ⟨#[]⟩)]) := ⟨.agg #[.string ⟨#[]⟩, .string ⟨#[]⟩], by kernel_rfl, .inr ⟨_, _, rfl, rfl, by kernel_rfl⟩⟩
@[simp] theorem layIs_39 : layIs Tryz.prog 39 [.raw (.string ⟨#[]⟩), .raw (.string ⟨#[]⟩)] := layIs_of (by kernel_rfl)
@[simp] theorem tyI_40 : tyI Tryz.prog 40 = some (2, true) := by kernel_rfl
@[simp] theorem isSl_40 : isSl Tryz.prog 40 = false := by kernel_rfl
@[simp] theorem isStr_40 : isStr Tryz.prog 40 = false := by kernel_rfl
@[simp] theorem isBool_40 : isBool Tryz.prog 40 = false := by kernel_rfl
@[simp] theorem isPtr_40 : isPtr Tryz.prog 40 = false := by kernel_rfl
@[simp] theorem isIf_40 : isIf Tryz.prog 40 = false := by kernel_rfl
@[simp] theorem isIface_40 : isIface Tryz.prog 40 = false := by kernel_rfl
@[simp] theorem isArr_40 : isArr Tryz.prog 40 = false := by kernel_rfl
@[simp] theorem plainT_40 : plainT Tryz.prog 40 = true := by kernel_rfl
@[simp] theorem eqd_40 : eqd Tryz.prog 9 40 = some (.st [.s, .s]) := by kernel_rfl
@[simp] theorem guardless_40 : guardless Tryz.prog 40 = true := by kernel_rfl
@[simp] theorem fldI_40_0 : fldI Tryz.prog 40 0 = some (0, 1, false) := by kernel_rfl
@[simp] theorem fldI_40_1 : fldI Tryz.prog 40 1 = some (1, 1, false) := by kernel_rfl
@[simp] theorem zAV_40 : zAV Tryz.prog 9 40 = .agg [.raw (.string ⟨#[]⟩), .raw (.string ⟨#[]⟩)] := by kernel_rfl
@[simp] theorem zeroIs_40 : zeroIs Tryz.prog 40 (.agg [.raw (.string ⟨#[]⟩), .raw (.string ⟨#[]⟩)]) := ⟨.agg #[.string ⟨#[]⟩, .string ⟨#[]⟩], by kernel_rfl, .inr ⟨_, _, rfl, rfl, by kernel_rfl⟩⟩
@[simp] theorem layIs_40 : layIs Tryz.prog 40 [.raw (.string ⟨#[]⟩), .raw (.string ⟨#[]⟩)] := layIs_of (by kernel_rfl)
@[simp] theorem tyI_41 : tyI Tryz.prog 41 = some (6, true) := by kernel_rfl
@[simp] theorem isSl_41 : isSl Tryz.prog 41 = false := by kernel_rfl
@[simp] theorem isStr_41 : isStr Tryz.prog 41 = false := by kernel_rfl
@[simp] theorem isBool_41 : isBool Tryz.prog 41 = false := by kernel_rfl
@[simp] theorem isPtr_41 : isPtr Tryz.prog 41 = false := by kernel_rfl
@[simp] theorem isIf_41 : isIf Tryz.prog 41 = false := by kernel_rfl
@[simp] theorem isIface_41 : isIface Tryz.prog 41 = false := by kernel_rfl
@[simp] theorem isArr_41 : isArr Tryz.prog 41 = false := by kernel_rfl
@[simp] theorem plainT_41 : plainT Tryz.prog 41 = false := by kernel_rfl
@[simp] theorem fldI_41_0 : fldI Tryz.prog 41 0 = some (0, 1, false) := by kernel_rfl
@[simp] theorem fldI_41_1 : fldI Tryz.prog 41 1 = some (1, 1, false) := by kernel_rfl
@[simp] theorem fldI_41_2 : fldI Tryz.prog 41 2 = some (2, 1, false) := by kernel_rfl
@[simp] theorem fldI_41_3 : fldI Tryz.prog 41 3 = some (3, 1, false) := by kernel_rfl
@[simp] theorem fldI_41_4 : fldI Tryz.prog 41 4 = some (4, 2, true) := by kernel_rfl
@[simp] theorem zAV_41 : zAV Tryz.prog 9 41 = .agg [.raw (.bool false), .raw (.slice none 0 0), .raw (.int .i64 0), .raw (.bool false), .agg [.raw (.string ⟨#[]⟩), .raw (.string ⟨#[]⟩)]] := by kernel_rfl
@[simp] theorem zeroIs_41 : zeroIs Tryz.prog 41 (.agg [.raw (.bool false), .raw (.slice none 0 0), .raw (.int .i64 0), .raw (.bool false), .agg [.raw (.string ⟨#[]⟩), .raw (.string ⟨#[]⟩)]]) := ⟨.agg #[.bool false, .slice none 0 0, .int .i64 0, .bool false, .string ⟨#[]⟩, .string ⟨#[]⟩], by kernel_rfl, .inr ⟨_, _, rfl, rfl, by kernel_rfl⟩⟩
@[simp] theorem layIs_41 : layIs Tryz.prog 41 [.raw (.bool false), .raw (.slice none 0 0), .raw (.int .i64 0), .raw (.bool false), .agg [.raw (.string ⟨#[]⟩), .raw (.string ⟨#[]⟩)]] := layIs_of (by kernel_rfl)
@[simp] theorem tyI_42 : tyI Tryz.prog 42 = some (6, true) := by kernel_rfl
@[simp] theorem isSl_42 : isSl Tryz.prog 42 = false := by kernel_rfl
@[simp] theorem isStr_42 : isStr Tryz.prog 42 = false := by kernel_rfl
@[simp] theorem isBool_42 : isBool Tryz.prog 42 = false := by kernel_rfl
@[simp] theorem isPtr_42 : isPtr Tryz.prog 42 = false := by kernel_rfl
@[simp] theorem isIf_42 : isIf Tryz.prog 42 = false := by kernel_rfl
@[simp] theorem isIface_42 : isIface Tryz.prog 42 = false := by kernel_rfl
@[simp] theorem isArr_42 : isArr Tryz.prog 42 = false := by kernel_rfl
@[simp] theorem plainT_42 : plainT Tryz.prog 42 = false := by kernel_rfl
@[simp] theorem fldI_42_0 : fldI Tryz.prog 42 0 = some (0, 1, false) := by kernel_rfl
@[simp] theorem fldI_42_1 : fldI Tryz.prog 42 1 = some (1, 1, false) := by kernel_rfl
@[simp] theorem fldI_42_2 : fldI Tryz.prog 42 2 = some (2, 1, false) := by kernel_rfl
@[simp] theorem fldI_42_3 : fldI Tryz.prog 42 3 = some (3, 1, false) := by kernel_rfl
@[simp] theorem fldI_42_4 : fldI Tryz.prog 42 4 = some (4, 2, true) := by kernel_rfl
@[simp] theorem zAV_42 : zAV Tryz.prog 9 42 = .agg [.raw (.bool false), .raw (.slice none 0 0), .raw (.int .i64 0), .raw (.bool false), .agg [.raw (.string ⟨#[]⟩), .raw (.string ⟨#[]⟩)]] := by kernel_rfl
@[simp] theorem zeroIs_42 : zeroIs Tryz.prog 42 (.agg [.raw (.bool false), .raw (.slice none 0 0), .raw (.int .i64 0), .raw (.bool false), .agg [.raw (.string ⟨#[]⟩), .raw (.string ⟨#[]⟩)]]) := ⟨.agg #[.bool false, .slice none 0 0, .int .i64 0, .bool false, .string ⟨#[]⟩, .string ⟨#[]⟩], by kernel_rfl, .inr ⟨_, _, rfl, rfl, by kernel_rfl⟩⟩
@[simp] theorem layIs_42 : layIs Tryz.prog 42 [.raw (.bool false), .raw (.slice none 0 0), .raw (.int .i64 0), .raw (.bool false), .agg [.raw (.string ⟨#[]⟩), .raw (.string ⟨#[]⟩)]] := layIs_of (by kernel_rfl)
@[simp] theorem isSl_43 : isSl Tryz.prog 43 = false := by kernel_rfl
@[simp] theorem tyI_44 : tyI Tryz.prog 44 = some (1, false) := by kernel_rfl
@[simp] theorem isSl_44 : isSl Tryz.prog 44 = false := by kernel_rfl
@[simp] theorem isStr_44 : isStr Tryz.prog 44 = false := by kernel_rfl
@[simp] theorem isBool_44 : isBool Tryz.prog 44 = false := by kernel_rfl
@[simp] theorem isPtr_44 : isPtr Tryz.prog 44 = false := by kernel_rfl
@[simp] theorem isIf_44 : isIf Tryz.prog 44 = false := by kernel_rfl
@[simp] theorem isIface_44 : isIface Tryz.prog 44 = false := by kernel_rfl
@[simp] theorem isArr_44 : isArr Tryz.prog 44 = false := by kernel_rfl
@[simp] theorem plainT_44 : plainT Tryz.prog 44 = false := by kernel_rfl
@[simp] theorem zAV_44 : zAV Tryz.prog 9 44 = .raw (.nilFunc) := by kernel_rfl
@[simp] theorem zeroIs_44 : zeroIs Tryz.prog 44 (.raw (.nilFunc)) := ⟨.nilFunc, by kernel_rfl, .inl ⟨rfl, rfl⟩⟩
@[simp] theorem tyI_45 : tyI Tryz.prog 45 = some (1, false) := by kernel_rfl
@[simp] theorem isSl_45 : isSl Tryz.prog 45 = false := by kernel_rfl
@[simp] theorem isStr_45 : isStr Tryz.prog 45 = false := by kernel_rfl
@[simp] theorem isBool_45 : isBool Tryz.prog 45 = false := by kernel_rfl
@[simp] theorem isPtr_45 : isPtr Tryz.prog 45 = false := by kernel_rfl
@[simp] theorem isIf_45 : isIf Tryz.prog 45 = false := by kernel_rfl
@[simp] theorem isIface_45 : isIface Tryz.prog 45 = false := by kernel_rfl
@[simp] theorem isArr_45 : isArr Tryz.prog 45 = false := by kernel_rfl
@[simp] theorem plainT_45 : plainT Tryz.prog 45 = false := by kernel_rfl
@[simp] theorem zAV_45 : zAV Tryz.prog 9 45 = .raw (.nilFunc) := by kernel_rfl
@[simp] theorem zeroIs_45 : zeroIs Tryz.prog 45 (.raw (.nilFunc)) := ⟨.nilFunc, by kernel_rfl, .inl ⟨rfl, rfl⟩⟩
@[simp] theorem tyI_46 : tyI Tryz.prog 46 = some (1, false) := by kernel_rfl
@[simp] theorem isSl_46 : isSl Tryz.prog 46 = false := by kernel_rfl
@[simp] theorem isStr_46 : isStr Tryz.prog 46 = false := by kernel_rfl
@[simp] theorem isBool_46 : isBool Tryz.prog 46 = false := by kernel_rfl
@[simp] theorem isPtr_46 : isPtr Tryz.prog 46 = false := by kernel_rfl
@[simp] theorem isIf_46 : isIf Tryz.prog 46 = false := by kernel_rfl
@[simp] theorem isIface_46 : isIface Tryz.prog 46 = false := by kernel_rfl
@[simp] theorem isArr_46 : isArr Tryz.prog 46 = false := by kernel_rfl
@[simp] theorem plainT_46 : plainT Tryz.prog 46 = false := by kernel_rfl
@[simp] theorem zAV_46 : zAV Tryz.prog 9 46 = .raw (.nilFunc) := by kernel_rfl
@[simp] theorem zeroIs_46 : zeroIs Tryz.prog 46 (.raw (.nilFunc)) := ⟨.nilFunc, by kernel_rfl, .inl ⟨rfl, rfl⟩⟩
@[simp] theorem tyI_47 : tyI Tryz.prog 47 = some (1, false) := by kernel_rfl
@[simp] theorem isSl_47 : isSl Tryz.prog 47 = false := by kernel_rfl
@[simp] theorem isStr_47 : isStr Tryz.prog 47 = false := by kernel_rfl
@[simp] theorem isBool_47 : isBool Tryz.prog 47 = false := by kernel_rfl
@[simp] theorem isPtr_47 : isPtr Tryz.prog 47 = false := by kernel_rfl
@[simp] theorem isIf_47 : isIf Tryz.prog 47 = false := by kernel_rfl
@[simp] theorem isIface_47 : isIface Tryz.prog 47 = false := by kernel_rfl
@[simp] theorem isArr_47 : isArr Tryz.prog 47 = false := by kernel_rfl
@[simp] theorem plainT_47 : plainT Tryz.prog 47 = false := by kernel_rfl
@[simp] theorem zAV_47 : zAV Tryz.prog 9 47 = .raw (.nilFunc) := by kernel_rfl
@[simp] theorem zeroIs_47 : zeroIs Tryz.prog 47 (.raw (.nilFunc)) := ⟨.nilFunc, by kernel_rfl, .inl ⟨rfl, rfl⟩⟩
@[simp] theorem isSl_48 : isSl Tryz.prog 48 = false := by kernel_rfl
@[simp] theorem tyI_49 : tyI Tryz.prog 49 = some (1, false) := by kernel_rfl
@[simp] theorem isSl_49 : isSl Tryz.prog 49 = false := by kernel_rfl
@[simp] theorem isStr_49 : isStr Tryz.prog 49 = false := by kernel_rfl
@[simp] theorem isBool_49 : isBool Tryz.prog 49 = false := by kernel_rfl
@[simp] theorem isPtr_49 : isPtr Tryz.prog 49 = false := by kernel_rfl
@[simp] theorem isIf_49 : isIf Tryz.prog 49 = false := by kernel_rfl
@[simp] theorem isIface_49 : isIface Tryz.prog 49 = false := by kernel_rfl
@[simp] theorem isArr_49 : isArr Tryz.prog 49 = false := by kernel_rfl
@[simp] theorem plainT_49 : plainT Tryz.prog 49 = false := by kernel_rfl
@[simp] theorem zAV_49 : zAV Tryz.prog 9 49 = .raw (.nilFunc) := by kernel_rfl
@[simp] theorem zeroIs_49 : zeroIs Tryz.prog 49 (.raw (.nilFunc)) := ⟨.nilFunc, by kernel_rfl, .inl ⟨rfl, rfl⟩⟩
@[simp] theorem tyI_50 : tyI Tryz.prog 50 = some (4, true) := by kernel_rfl
@[simp] theorem isSl_50 : isSl Tryz.prog 50 = false := by kernel_rfl
@[simp] theorem isStr_50 : isStr Tryz.prog 50 = false := by kernel_rfl
@[simp] theorem isBool_50 : isBool Tryz.prog 50 = false := by kernel_rfl
@[simp] theorem isPtr_50 : isPtr Tryz.prog 50 = false := by kernel_rfl
@[simp] theorem isIf_50 : isIf Tryz.prog 50 = false := by kernel_rfl
@[simp] theorem isIface_50 : isIface Tryz.prog 50 = false := by kernel_rfl
@[simp] theorem isArr_50 : isArr Tryz.prog 50 = false := by kernel_rfl
@[simp] theorem plainT_50 : plainT Tryz.prog 50 = true := by kernel_rfl
@[simp] theorem fldI_50_0 : fldI Tryz.prog 50 0 = some (0, 1, false) := by kernel_rfl
@[simp] theorem fldI_50_1 : fldI Tryz.prog 50 1 = some (1, 3, true) := by kernel_rfl
@[simp] theorem zAV_50 : zAV Tryz.prog 9 50 = .agg [.raw (.string ⟨#[]⟩), .agg [.raw (.int .i64 0), .raw (.int .i64 0), .raw (.string ⟨#[]⟩)]] := by kernel_rfl
@[simp] theorem zeroIs_50 : zeroIs Tryz.prog 50 (.agg [.raw (.string ⟨#[]⟩), .agg [.raw (.int .i64 0), .raw (.int .i64 0), .raw (.string ⟨#[]⟩)]]) := ⟨.agg #[.string ⟨#[]⟩, .int .i64 0, .int .i64 0, .string ⟨#[]⟩], by kernel_rfl, .inr ⟨_, _, rfl, rfl, by kernel_rfl⟩⟩
@[simp] theorem layIs_50 : layIs Tryz.prog 50 [.raw (.string ⟨#[]⟩), .agg [.raw (.int .i64 0), .raw (.int .i64 0), .raw (.string ⟨#[]⟩)]] := layIs_of (by kernel_rfl)
@[simp] theorem tyI_51 : tyI Tryz.prog 51 = some (4, true) := by kernel_rfl
@[simp] theorem isSl_51 : isSl Tryz.prog 51 = false := by kernel_rfl
@[simp] theorem isStr_51 : isStr Tryz.prog 51 = false := by kernel_rfl
@[simp] theorem isBool_51 : isBool Tryz.prog 51 = false := by kernel_rfl
@[simp] theorem isPtr_51 : isPtr Tryz.prog 51 = false := by kernel_rfl
@[simp] theorem isIf_51 : isIf Tryz.prog 51 = false := by kernel_rfl
@[simp] theorem isIface_51 : isIface Tryz.prog 51 = false := by kernel_rfl
@[simp] theorem isArr_51 : isArr Tryz.prog 51 = false := by kernel_rfl
@[simp] theorem plainT_51 : plainT Tryz.prog 51 = true := by kernel_rfl
@[simp] theorem eqd_51 : eqd Tryz.prog 9 51 = some (.st [.s, .st [.i, .i, .s]]) := by kernel_rfl
@[simp] theorem guardless_51 : guardless Tryz.prog 51 = true := by kernel_rfl
@[simp] theorem fldI_51_0 : fldI Tryz.prog 51 0 = some (0, 1, false) := by kernel_rfl
@[simp] theorem fldI_51_1 : fldI Tryz.prog 51 1 = some (1, 3, true) := by kernel_rfl
@[simp] theorem zAV_51 : zAV Tryz.prog 9 51 = .agg [.raw (.string ⟨#[]⟩), .agg [.raw (.int .i64 0), .raw (.int .i64 0), .raw (.string ⟨#[]⟩)]] := by kernel_rfl
@[simp] theorem zeroIs_51 : zeroIs Tryz.prog 51 (.agg [.raw (.string ⟨#[]⟩), .agg [.raw (.int .i64 0), .raw (.int .i64 0), .raw (.string ⟨#[]⟩)]]) := ⟨.agg #[.string ⟨#[]⟩, .int .i64 0, .int .i64 0, .string ⟨#[]⟩], by kernel_rfl, .inr ⟨_, _, rfl, rfl, by kernel_rfl⟩⟩
@[simp] theorem layIs_51 : layIs Tryz.prog 51 [.raw (.string ⟨#[]⟩), .agg [.raw (.int .i64 0), .raw (.int .i64 0), .raw (.string ⟨#[]⟩)]] := layIs_of (by kernel_rfl)
@[simp] theorem isSl_52 : isSl Tryz.prog 52 = false := by kernel_rfl
@[simp] theorem tyI_53 : tyI Tryz.prog 53 = some (1, false) := by kernel_rfl
@[simp] theorem isSl_53 : isSl Tryz.prog 53 = false := by kernel_rfl
@[simp] theorem isStr_53 : isStr Tryz.prog 53 = false := by kernel_rfl
@[simp] theorem isBool_53 : isBool Tryz.prog 53 = false := by kernel_rfl
@[simp] theorem isPtr_53 : isPtr Tryz.prog 53 = false := by kernel_rfl
@[simp] theorem isIf_53 : isIf Tryz.prog 53 = false := by kernel_rfl
@[simp] theorem isIface_53 : isIface Tryz.prog 53 = false := by kernel_rfl
@[simp] theorem isArr_53 : isArr Tryz.prog 53 = false := by kernel_rfl
@[simp] theorem plainT_53 : plainT Tryz.prog 53 = false := by kernel_rfl
@[simp] theorem zAV_53 : zAV Tryz.prog 9 53 = .raw (.nilFunc) := by kernel_rfl
@[simp] theorem zeroIs_53 : zeroIs Tryz.prog 53 (.raw (.nilFunc)) := ⟨.nilFunc, by kernel_rfl, .inl ⟨rfl, rfl⟩⟩
@[simp] theorem tyI_54 : tyI Tryz.prog 54 = some (1, false) := by kernel_rfl
@[simp] theorem isSl_54 : isSl Tryz.prog 54 = false := by kernel_rfl
@[simp] theorem isStr_54 : isStr Tryz.prog 54 = false := by kernel_rfl
@[simp] theorem isBool_54 : isBool Tryz.prog 54 = false := by kernel_rfl
@[simp] theorem isPtr_54 : isPtr Tryz.prog 54 = false := by kernel_rfl
@[simp] theorem isIf_54 : isIf Tryz.prog 54 = false := by kernel_rfl
@[simp] theorem isIface_54 : isIface Tryz.prog 54 = false := by kernel_rfl
@[simp] theorem isArr_54 : isArr Tryz.prog 54 = false := by kernel_rfl
@[simp] theorem plainT_54 : plainT Tryz.prog 54 = false := by kernel_rfl
@[simp] theorem zAV_54 : zAV Tryz.prog 9 54 = .raw (.nilFunc) := by kernel_rfl
@[simp] theorem zeroIs_54 : zeroIs Tryz.prog 54 (.raw (.nilFunc)) := ⟨.nilFunc, by kernel_rfl, .inl ⟨rfl, rfl⟩⟩
@[simp] theorem tyI_55 : tyI Tryz.prog 55 = some (1, false) := by kernel_rfl
@[simp] theorem isSl_55 : isSl Tryz.prog 55 = false := by kernel_rfl
@[simp] theorem isStr_55 : isStr Tryz.prog 55 = false := by kernel_rfl
@[simp] theorem isBool_55 : isBool Tryz.prog 55 = false := by kernel_rfl
@[simp] theorem isPtr_55 : isPtr Tryz.prog 55 = false := by kernel_rfl
@[simp] theorem isIf_55 : isIf Tryz.prog 55 = false := by kernel_rfl
@[simp] theorem isIface_55 : isIface Tryz.prog 55 = false := by kernel_rfl
@[simp] theorem isArr_55 : isArr Tryz.prog 55 = false := by kernel_rfl
@[simp] theorem plainT_55 : plainT Tryz.prog 55 = false := by kernel_rfl
@[simp] theorem zAV_55 : zAV Tryz.prog 9 55 = .raw (.nilFunc) := by kernel_rfl
@[simp] theorem zeroIs_55 : zeroIs Tryz.prog 55 (.raw (.nilFunc)) := ⟨.nilFunc, by kernel_rfl, .inl ⟨rfl, rfl⟩⟩
@[simp] theorem tyI_56 : tyI Tryz.prog 56 = some (1, false) := by kernel_rfl
@[simp] theorem isSl_56 : isSl Tryz.prog 56 = false := by kernel_rfl
@[simp] theorem isStr_56 : isStr Tryz.prog 56 = false := by kernel_rfl
@[simp] theorem isBool_56 : isBool Tryz.prog 56 = false := by kernel_rfl
@[simp] theorem isPtr_56 : isPtr Tryz.prog 56 = false := by kernel_rfl
@[simp] theorem isIf_56 : isIf Tryz.prog 56 = false := by kernel_rfl
@[simp] theorem isIface_56 : isIface Tryz.prog 56 = false := by kernel_rfl
@[simp] theorem isArr_56 : isArr Tryz.prog 56 = false := by kernel_rfl
@[simp] theorem plainT_56 : plainT Tryz.prog 56 = false := by kernel_rfl
@[simp] theorem zAV_56 : zAV Tryz.prog 9 56 = .raw (.nilFunc) := by kernel_rfl
@[simp] theorem zeroIs_56 : zeroIs Tryz.prog 56 (.raw (.nilFunc)) := ⟨.nilFunc, by kernel_rfl, .inl ⟨rfl, rfl⟩⟩
@[simp] theorem isSl_57 : isSl Tryz.prog 57 = false := by kernel_rfl
@[simp] theorem tyI_58 : tyI Tryz.prog 58 = some (1, false) := by kernel_rfl
@[simp] theorem isSl_58 : isSl Tryz.prog 58 = false := by kernel_rfl
@[simp] theorem isStr_58 : isStr Tryz.prog 58 = false := by kernel_rfl
@[simp] theorem isBool_58 : isBool Tryz.prog 58 = false := by kernel_rfl
@[simp] theorem isPtr_58 : isPtr Tryz.prog 58 = false := by kernel_rfl
@[simp] theorem isIf_58 : isIf Tryz.prog 58 = false := by kernel_rfl
@[simp] theorem isIface_58 : isIface Tryz.prog 58 = false := by kernel_rfl
@[simp] theorem isArr_58 : isArr Tryz.prog 58 = false := by kernel_rfl
@[simp] theorem plainT_58 : plainT Tryz.prog 58 = false := by kernel_rfl
@[simp] theorem zAV_58 : zAV Tryz.prog 9 58 = .raw (.nilFunc) := by kernel_rfl
@[simp] theorem zeroIs_58 : zeroIs Tryz.prog 58 (.raw (.nilFunc)) := ⟨.nilFunc, by kernel_rfl, .inl ⟨rfl, rfl⟩⟩
@[simp] theorem tyI_59 : tyI Tryz.prog 59 = some (1, false) := by kernel_rfl
@[simp] theorem isSl_59 : isSl Tryz.prog 59 = false := by kernel_rfl
@[simp] theorem isStr_59 : isStr Tryz.prog 59 = false := by kernel_rfl
@[simp] theorem isBool_59 : isBool Tryz.prog 59 = false := by kernel_rfl
@[simp] theorem isPtr_59 : isPtr Tryz.prog 59 = false := by kernel_rfl
@[simp] theorem isIf_59 : isIf Tryz.prog 59 = false := by kernel_rfl
@[simp] theorem isIface_59 : isIface Tryz.prog 59 = false := by kernel_rfl
@[simp] theorem isArr_59 : isArr Tryz.prog 59 = false := by kernel_rfl
@[simp] theorem plainT_59 : plainT Tryz.prog 59 = false := by kernel_rfl
@[simp] theorem zAV_59 : zAV Tryz.prog 9 59 = .raw (.nilFunc) := by kernel_rfl
@[simp] theorem zeroIs_59 : zeroIs Tryz.prog 59 (.raw (.nilFunc)) := ⟨.nilFunc, by kernel_rfl, .inl ⟨rfl, rfl⟩⟩
@[simp] theorem tyI_60 : tyI Tryz.prog 60 = some (1, false) := by kernel_rfl
@[simp] theorem isSl_60 : isSl Tryz.prog 60 = false := by kernel_rfl
@[simp] theorem isStr_60 : isStr Tryz.prog 60 = false := by kernel_rfl
@[simp] theorem isBool_60 : isBool Tryz.prog 60 = false := by kernel_rfl
@[simp] theorem isPtr_60 : isPtr Tryz.prog 60 = false := by kernel_rfl
@[simp] theorem isIf_60 : isIf Tryz.prog 60 = false := by kernel_rfl
@[simp] theorem isIface_60 : isIface Tryz.prog 60 = false := by kernel_rfl
@[simp] theorem isArr_60 : isArr Tryz.prog 60 = false := by kernel_rfl
@[simp] theorem plainT_60 : plainT Tryz.prog 60 = false := by kernel_rfl
@[simp] theorem zAV_60 : zAV Tryz.prog 9 60 = .raw (.nilFunc) := by kernel_rfl
@[simp] theorem zeroIs_60 : zeroIs Tryz.prog 60 (.raw (.nilFunc)) := ⟨.nilFunc, by kernel_rfl, .inl ⟨rfl, rfl⟩⟩
@[simp] theorem tyI_61 : tyI Tryz.prog 61 = some (1, false) := by kernel_rfl
@[simp] theorem isSl_61 : isSl Tryz.prog 61 = false := by kernel_rfl
@[simp] theorem isStr_61 : isStr Tryz.prog 61 = false := by kernel_rfl
@[simp] theorem isBool_61 : isBool Tryz.prog 61 = false := by kernel_rfl
@[simp] theorem isPtr_61 : isPtr Tryz.prog 61 = true := by kernel_rfl
@[simp] theorem isIf_61 : isIf Tryz.prog 61 = false := by kernel_rfl
@[simp] theorem isIface_61 : isIface Tryz.prog 61 = false := by kernel_rfl
@[simp] theorem isArr_61 : isArr Tryz.prog 61 = false := by kernel_rfl
@[simp] theorem plainT_61 : plainT Tryz.prog 61 = false := by kernel_rfl
@[simp] theorem zAV_61 : zAV Tryz.prog 9 61 = .raw (.pointer none) := by kernel_rfl
@[simp] theorem zeroIs_61 : zeroIs Tryz.prog 61 (.raw (.pointer none)) := ⟨.pointer none, by kernel_rfl, .inl ⟨rfl, rfl⟩⟩
@[simp] theorem tyI_62 : tyI Tryz.prog 62 = some (1, false) := by kernel_rfl
@[simp] theorem isSl_62 : isSl Tryz.prog 62 = false := by kernel_rfl
@[simp] theorem isStr_62 : isStr Tryz.prog 62 = false := by kernel_rfl
@[simp] theorem isBool_62 : isBool Tryz.prog 62 = false := by kernel_rfl
@[simp] theorem isPtr_62 : isPtr Tryz.prog 62 = false := by kernel_rfl
@[simp] theorem isIf_62 : isIf Tryz.prog 62 = false := by kernel_rfl
@[simp] theorem isIface_62 : isIface Tryz.prog 62 = false := by kernel_rfl
@[simp] theorem isArr_62 : isArr Tryz.prog 62 = false := by kernel_rfl
@[simp] theorem plainT_62 : plainT Tryz.prog 62 = false := by kernel_rfl
@[simp] theorem zAV_62 : zAV Tryz.prog 9 62 = .raw (.nilFunc) := by kernel_rfl
@[simp] theorem zeroIs_62 : zeroIs Tryz.prog 62 (.raw (.nilFunc)) := ⟨.nilFunc, by kernel_rfl, .inl ⟨rfl, rfl⟩⟩
@[simp] theorem tyI_63 : tyI Tryz.prog 63 = some (1, false) := by kernel_rfl
@[simp] theorem isSl_63 : isSl Tryz.prog 63 = false := by kernel_rfl
@[simp] theorem isStr_63 : isStr Tryz.prog 63 = false := by kernel_rfl
@[simp] theorem isBool_63 : isBool Tryz.prog 63 = false := by kernel_rfl
@[simp] theorem isPtr_63 : isPtr Tryz.prog 63 = false := by kernel_rfl
@[simp] theorem isIf_63 : isIf Tryz.prog 63 = false := by kernel_rfl
@[simp] theorem isIface_63 : isIface Tryz.prog 63 = false := by kernel_rfl
@[simp] theorem isArr_63 : isArr Tryz.prog 63 = false := by kernel_rfl
@[simp] theorem plainT_63 : plainT Tryz.prog 63 = false := by kernel_rfl
@[simp] theorem zAV_63 : zAV Tryz.prog 9 63 = .raw (.nilFunc) := by kernel_rfl
@[simp] theorem zeroIs_63 : zeroIs Tryz.prog 63 (.raw (.nilFunc)) := ⟨.nilFunc, by kernel_rfl, .inl ⟨rfl, rfl⟩⟩
@[simp] theorem tyI_64 : tyI Tryz.prog 64 = some (1, false) := by kernel_rfl
@[simp] theorem isSl_64 : isSl Tryz.prog 64 = false := by kernel_rfl
@[simp] theorem isStr_64 : isStr Tryz.prog 64 = false := by kernel_rfl
@[simp] theorem isBool_64 : isBool Tryz.prog 64 = false := by kernel_rfl
@[simp] theorem isPtr_64 : isPtr Tryz.prog 64 = false := by kernel_rfl
@[simp] theorem isIf_64 : isIf Tryz.prog 64 = false := by kernel_rfl
@[simp] theorem isIface_64 : isIface Tryz.prog 64 = false := by kernel_rfl
@[simp] theorem isArr_64 : isArr Tryz.prog 64 = false := by kernel_rfl
@[simp] theorem plainT_64 : plainT Tryz.prog 64 = false := by kernel_rfl
@[simp] theorem zAV_64 : zAV Tryz.prog 9 64 = .raw (.nilFunc) := by kernel_rfl
@[simp] theorem zeroIs_64 : zeroIs Tryz.prog 64 (.raw (.nilFunc)) := ⟨.nilFunc, by kernel_rfl, .inl ⟨rfl, rfl⟩⟩
@[simp] theorem tyI_65 : tyI Tryz.prog 65 = some (1, false) := by kernel_rfl
@[simp] theorem isSl_65 : isSl Tryz.prog 65 = false := by kernel_rfl
@[simp] theorem isStr_65 : isStr Tryz.prog 65 = false := by kernel_rfl
@[simp] theorem isBool_65 : isBool Tryz.prog 65 = false := by kernel_rfl
@[simp] theorem isPtr_65 : isPtr Tryz.prog 65 = false := by kernel_rfl
@[simp] theorem isIf_65 : isIf Tryz.prog 65 = false := by kernel_rfl
@[simp] theorem isIface_65 : isIface Tryz.prog 65 = false := by kernel_rfl
@[simp] theorem isArr_65 : isArr Tryz.prog 65 = false := by kernel_rfl
@[simp] theorem plainT_65 : plainT Tryz.prog 65 = false := by kernel_rfl
@[simp] theorem zAV_65 : zAV Tryz.prog 9 65 = .raw (.nilFunc) := by kernel_rfl
@[simp] theorem zeroIs_65 : zeroIs Tryz.prog 65 (.raw (.nilFunc)) := ⟨.nilFunc, by kernel_rfl, .inl ⟨rfl, rfl⟩⟩
@[simp] theorem tyI_66 : tyI Tryz.prog 66 = some (1, false) := by kernel_rfl
@[simp] theorem isSl_66 : isSl Tryz.prog 66 = false := by kernel_rfl
@[simp] theorem isStr_66 : isStr Tryz.prog 66 = false := by kernel_rfl
@[simp] theorem isBool_66 : isBool Tryz.prog 66 = false := by kernel_rfl
@[simp] theorem isPtr_66 : isPtr Tryz.prog 66 = false := by kernel_rfl
@[simp] theorem isIf_66 : isIf Tryz.prog 66 = false := by kernel_rfl
@[simp] theorem isIface_66 : isIface Tryz.prog 66 = false := by kernel_rfl
@[simp] theorem isArr_66 : isArr Tryz.prog 66 = false := by kernel_rfl
@[simp] theorem plainT_66 : plainT Tryz.prog 66 = false := by kernel_rfl
@[simp] theorem zAV_66 : zAV Tryz.prog 9 66 = .raw (.nilFunc) := by kernel_rfl
@[simp] theorem zeroIs_66 : zeroIs Tryz.prog 66 (.raw (.nilFunc)) := ⟨.nilFunc, by kernel_rfl, .inl ⟨rfl, rfl⟩⟩
@[simp] theorem tyI_67 : tyI Tryz.prog 67 = some (1, false) := by kernel_rfl
@[simp] theorem isSl_67 : isSl Tryz.prog 67 = true := by kernel_rfl
@[simp] theorem isStr_67 : isStr Tryz.prog 67 = false := by kernel_rfl
@[simp] theorem isBool_67 : isBool Tryz.prog 67 = false := by kernel_rfl
@[simp] theorem isPtr_67 : isPtr Tryz.prog 67 = false := by kernel_rfl
@[simp] theorem isIf_67 : isIf Tryz.prog 67 = false := by kernel_rfl
@[simp] theorem isIface_67 : isIface Tryz.prog 67 = false := by kernel_rfl
@[simp] theorem isArr_67 : isArr Tryz.prog 67 = false := by kernel_rfl
@[simp] theorem plainT_67 : plainT Tryz.prog 67 = false := by kernel_rfl
@[simp] theorem rowI_67 : rowI Tryz.prog 67 = some (31, 3, 32) := by kernel_rfl
@[simp] theorem zAV_67 : zAV Tryz.prog 9 67 = .raw (.slice none 0 0) := by kernel_rfl
@[simp] theorem zeroIs_67 : zeroIs Tryz.prog 67 (.raw (.slice none 0 0)) := ⟨.slice none 0 0, by kernel_rfl, .inl ⟨rfl, rfl⟩⟩
@[simp] theorem isSl_68 : isSl Tryz.prog 68 = false := by kernel_rfl
@[simp] theorem tyI_69 : tyI Tryz.prog 69 = some (1, false) := by kernel_rfl
@[simp] theorem isSl_69 : isSl Tryz.prog 69 = false := by kernel_rfl
@[simp] theorem isStr_69 : isStr Tryz.prog 69 = false := by kernel_rfl
@[simp] theorem isBool_69 : isBool Tryz.prog 69 = false := by kernel_rfl
@[simp] theorem isPtr_69 : isPtr Tryz.prog 69 = false := by kernel_rfl
@[simp] theorem isIf_69 : isIf Tryz.prog 69 = false := by kernel_rfl
@[simp] theorem isIface_69 : isIface Tryz.prog 69 = false := by kernel_rfl
@[simp] theorem isArr_69 : isArr Tryz.prog 69 = false := by kernel_rfl
@[simp] theorem plainT_69 : plainT Tryz.prog 69 = false := by kernel_rfl
@[simp] theorem zAV_69 : zAV Tryz.prog 9 69 = .raw (.nilFunc) := by kernel_rfl
@[simp] theorem zeroIs_69 : zeroIs Tryz.prog 69 (.raw (.nilFunc)) := ⟨.nilFunc, by kernel_rfl, .inl ⟨rfl, rfl⟩⟩
@[simp] theorem tyI_70 : tyI Tryz.prog 70 = some (1, false) := by kernel_rfl
@[simp] theorem isSl_70 : isSl Tryz.prog 70 = false := by kernel_rfl
@[simp] theorem isStr_70 : isStr Tryz.prog 70 = false := by kernel_rfl
@[simp] theorem isBool_70 : isBool Tryz.prog 70 = false := by kernel_rfl
@[simp] theorem isPtr_70 : isPtr Tryz.prog 70 = false := by kernel_rfl
@[simp] theorem isIf_70 : isIf Tryz.prog 70 = false := by kernel_rfl
@[simp] theorem isIface_70 : isIface Tryz.prog 70 = false := by kernel_rfl
@[simp] theorem isArr_70 : isArr Tryz.prog 70 = false := by kernel_rfl
@[simp] theorem plainT_70 : plainT Tryz.prog 70 = false := by kernel_rfl
@[simp] theorem zAV_70 : zAV Tryz.prog 9 70 = .raw (.nilFunc) := by kernel_rfl
@[simp] theorem zeroIs_70 : zeroIs Tryz.prog 70 (.raw (.nilFunc)) := ⟨.nilFunc, by kernel_rfl, .inl ⟨rfl, rfl⟩⟩
@[simp] theorem tyI_71 : tyI Tryz.prog 71 = some (1, false) := by kernel_rfl
@[simp] theorem isSl_71 : isSl Tryz.prog 71 = false := by kernel_rfl
@[simp] theorem isStr_71 : isStr Tryz.prog 71 = false := by kernel_rfl
@[simp] theorem isBool_71 : isBool Tryz.prog 71 = false := by kernel_rfl
@[simp] theorem isPtr_71 : isPtr Tryz.prog 71 = false := by kernel_rfl
@[simp] theorem isIf_71 : isIf Tryz.prog 71 = false := by kernel_rfl
@[simp] theorem isIface_71 : isIface Tryz.prog 71 = false := by kernel_rfl
@[simp] theorem isArr_71 : isArr Tryz.prog 71 = false := by kernel_rfl
@[simp] theorem plainT_71 : plainT Tryz.prog 71 = false := by kernel_rfl
@[simp] theorem zAV_71 : zAV Tryz.prog 9 71 = .raw (.nilFunc) := by kernel_rfl
@[simp] theorem zeroIs_71 : zeroIs Tryz.prog 71 (.raw (.nilFunc)) := ⟨.nilFunc, by kernel_rfl, .inl ⟨rfl, rfl⟩⟩
@[simp] theorem tyI_72 : tyI Tryz.prog 72 = some (1, false) := by kernel_rfl
@[simp] theorem isSl_72 : isSl Tryz.prog 72 = false := by kernel_rfl
@[simp] theorem isStr_72 : isStr Tryz.prog 72 = false := by kernel_rfl
@[simp] theorem isBool_72 : isBool Tryz.prog 72 = false := by kernel_rfl
@[simp] theorem isPtr_72 : isPtr Tryz.prog 72 = false := by kernel_rfl
@[simp] theorem isIf_72 : isIf Tryz.prog 72 = true := by kernel_rfl
@[simp] theorem isIface_72 : isIface Tryz.prog 72 = true := by kernel_rfl
@[simp] theorem isArr_72 : isArr Tryz.prog 72 = false := by kernel_rfl
@[simp] theorem plainT_72 : plainT Tryz.prog 72 = false := by kernel_rfl
@[simp] theorem zAV_72 : zAV Tryz.prog 9 72 = .raw (.nilIface) := by kernel_rfl
@[simp] theorem zeroIs_72 : zeroIs Tryz.prog 72 (.raw (.nilIface)) := ⟨.nilIface, by kernel_rfl, .inl ⟨rfl, rfl⟩⟩
@[simp] theorem tyI_73 : tyI Tryz.prog 73 = some (1, false) := by kernel_rfl
@[simp] theorem isSl_73 : isSl Tryz.prog 73 = false := by kernel_rfl
@[simp] theorem isStr_73 : isStr Tryz.prog 73 = false := by kernel_rfl
@[simp] theorem isBool_73 : isBool Tryz.prog 73 = false := by kernel_rfl
@[simp] theorem isPtr_73 : isPtr Tryz.prog 73 = false := by kernel_rfl
@[simp] theorem isIf_73 : isIf Tryz.prog 73 = true := by kernel_rfl
@[simp] theorem isIface_73 : isIface Tryz.prog 73 = true := by kernel_rfl
@[simp] theorem isArr_73 : isArr Tryz.prog 73 = false := by kernel_rfl
@[simp] theorem plainT_73 : plainT Tryz.prog 73 = false := by kernel_rfl
@[simp] theorem zAV_73 : zAV Tryz.prog 9 73 = .raw (.nilIface) := by kernel_rfl
@[simp] theorem zeroIs_73 : zeroIs Tryz.prog 73 (.raw (.nilIface)) := ⟨.nilIface, by kernel_rfl, .inl ⟨rfl, rfl⟩⟩
@[simp] theorem tyI_74 : tyI Tryz.prog 74 = some (1, false) := by kernel_rfl
@[simp] theorem isSl_74 : isSl Tryz.prog 74 = false := by kernel_rfl
@[simp] theorem isStr_74 : isStr Tryz.prog 74 = false := by kernel_rfl
@[simp] theorem isBool_74 : isBool Tryz.prog 74 = false := by kernel_rfl
@[simp] theorem isPtr_74 : isPtr Tryz.prog 74 = false := by kernel_rfl
@[simp] theorem isIf_74 : isIf Tryz.prog 74 = false := by kernel_rfl
@[simp] theorem isIface_74 : isIface Tryz.prog 74 = false := by kernel_rfl
@[simp] theorem isArr_74 : isArr Tryz.prog 74 = false := by kernel_rfl
@[simp] theorem plainT_74 : plainT Tryz.prog 74 = false := by kernel_rfl
@[simp] theorem zAV_74 : zAV Tryz.prog 9 74 = .raw (.nilFunc) := by kernel_rfl
@[simp] theorem zeroIs_74 : zeroIs Tryz.prog 74 (.raw (.nilFunc)) := ⟨.nilFunc, by kernel_rfl, .inl ⟨rfl, rfl⟩⟩
@[simp] theorem tyI_75 : tyI Tryz.prog 75 = some (1, false) := by kernel_rfl
@[simp] theorem isSl_75 : isSl Tryz.prog 75 = false := by kernel_rfl
@[simp] theorem isStr_75 : isStr Tryz.prog 75 = false := by kernel_rfl
@[simp] theorem isBool_75 : isBool Tryz.prog 75 = false := by kernel_rfl
@[simp] theorem isPtr_75 : isPtr Tryz.prog 75 = false := by kernel_rfl
@[simp] theorem isIf_75 : isIf Tryz.prog 75 = false := by kernel_rfl
@[simp] theorem isIface_75 : isIface Tryz.prog 75 = false := by kernel_rfl
@[simp] theorem isArr_75 : isArr Tryz.prog 75 = false := by kernel_rfl
@[simp] theorem plainT_75 : plainT Tryz.prog 75 = false := by kernel_rfl
@[simp] theorem zAV_75 : zAV Tryz.prog 9 75 = .raw (.nilFunc) := by kernel_rfl
@[simp] theorem zeroIs_75 : zeroIs Tryz.prog 75 (.raw (.nilFunc)) := ⟨.nilFunc, by kernel_rfl, .inl ⟨rfl, rfl⟩⟩
@[simp] theorem tyI_76 : tyI Tryz.prog 76 = some (1, false) := by kernel_rfl
@[simp] theorem isSl_76 : isSl Tryz.prog 76 = false := by kernel_rfl
@[simp] theorem isStr_76 : isStr Tryz.prog 76 = false := by kernel_rfl
@[simp] theorem isBool_76 : isBool Tryz.prog 76 = false := by kernel_rfl
@[simp] theorem isPtr_76 : isPtr Tryz.prog 76 = false := by kernel_rfl
@[simp] theorem isIf_76 : isIf Tryz.prog 76 = false := by kernel_rfl
@[simp] theorem isIface_76 : isIface Tryz.prog 76 = false := by kernel_rfl
@[simp] theorem isArr_76 : isArr Tryz.prog 76 = false := by kernel_rfl
@[simp] theorem plainT_76 : plainT Tryz.prog 76 = false := by kernel_rfl
@[simp] theorem zAV_76 : zAV Tryz.prog 9 76 = .raw (.nilFunc) := by kernel_rfl
@[simp] theorem zeroIs_76 : zeroIs Tryz.prog 76 (.raw (.nilFunc)) := ⟨.nilFunc, by kernel_rfl, .inl ⟨rfl, rfl⟩⟩
@[simp] theorem tyI_77 : tyI Tryz.prog 77 = some (1, false) := by kernel_rfl
@[simp] theorem isSl_77 : isSl Tryz.prog 77 = false := by kernel_rfl
@[simp] theorem isStr_77 : isStr Tryz.prog 77 = false := by kernel_rfl
@[simp] theorem isBool_77 : isBool Tryz.prog 77 = false := by kernel_rfl
@[simp] theorem isPtr_77 : isPtr Tryz.prog 77 = false := by kernel_rfl
@[simp] theorem isIf_77 : isIf Tryz.prog 77 = false := by kernel_rfl
@[simp] theorem isIface_77 : isIface Tryz.prog 77 = false := by kernel_rfl
@[simp] theorem isArr_77 : isArr Tryz.prog 77 = false := by kernel_rfl
@[simp] theorem plainT_77 : plainT Tryz.prog 77 = true := by kernel_rfl
@[simp] theorem tyI_78 : tyI Tryz.prog 78 = some (1, false) := by kernel_rfl
@[simp] theorem isSl_78 : isSl Tryz.prog 78 = false := by kernel_rfl
@[simp] theorem isStr_78 : isStr Tryz.prog 78 = false := by kernel_rfl
@[simp] theorem isBool_78 : isBool Tryz.prog 78 = false := by kernel_rfl
@[simp] theorem isPtr_78 : isPtr Tryz.prog 78 = false := by kernel_rfl
@[simp] theorem isIf_78 : isIf Tryz.prog 78 = false := by kernel_rfl
@[simp] theorem isIface_78 : isIface Tryz.prog 78 = false := by kernel_rfl
@[simp] theorem isArr_78 : isArr Tryz.prog 78 = false := by kernel_rfl
@[simp] theorem plainT_78 : plainT Tryz.prog 78 = true := by kernel_rfl
@[simp] theorem und_78 : Tryz.prog.underlying 78 = some (.int .u64) := by kernel_rfl
@[simp] theorem zAV_78 : zAV Tryz.prog 9 78 = .raw (.int .u64 0) := by kernel_rfl
@[simp] theorem zeroIs_78 : zeroIs Tryz.prog 78 (.raw (.int .u64 0)) := ⟨.int .u64 0, by kernel_rfl, .inl ⟨rfl, rfl⟩⟩
@[simp] theorem tyI_81 : tyI Tryz.prog 81 = some (1, false) := by kernel_rfl
@[simp] theorem isSl_81 : isSl Tryz.prog 81 = false := by kernel_rfl
@[simp] theorem isStr_81 : isStr Tryz.prog 81 = false := by kernel_rfl
@[simp] theorem isBool_81 : isBool Tryz.prog 81 = false := by kernel_rfl
@[simp] theorem isPtr_81 : isPtr Tryz.prog 81 = false := by kernel_rfl
@[simp] theorem isIf_81 : isIf Tryz.prog 81 = false := by kernel_rfl
@[simp] theorem isIface_81 : isIface Tryz.prog 81 = false := by kernel_rfl
@[simp] theorem isArr_81 : isArr Tryz.prog 81 = false := by kernel_rfl
@[simp] theorem plainT_81 : plainT Tryz.prog 81 = false := by kernel_rfl
@[simp] theorem zAV_81 : zAV Tryz.prog 9 81 = .raw (.nilFunc) := by kernel_rfl
@[simp] theorem zeroIs_81 : zeroIs Tryz.prog 81 (.raw (.nilFunc)) := ⟨.nilFunc, by kernel_rfl, .inl ⟨rfl, rfl⟩⟩
@[simp] theorem tyI_82 : tyI Tryz.prog 82 = some (1, false) := by kernel_rfl
@[simp] theorem isSl_82 : isSl Tryz.prog 82 = false := by kernel_rfl
@[simp] theorem isStr_82 : isStr Tryz.prog 82 = false := by kernel_rfl
@[simp] theorem isBool_82 : isBool Tryz.prog 82 = false := by kernel_rfl
@[simp] theorem isPtr_82 : isPtr Tryz.prog 82 = false := by kernel_rfl
@[simp] theorem isIf_82 : isIf Tryz.prog 82 = false := by kernel_rfl
@[simp] theorem isIface_82 : isIface Tryz.prog 82 = false := by kernel_rfl
@[simp] theorem isArr_82 : isArr Tryz.prog 82 = false := by kernel_rfl
@[simp] theorem plainT_82 : plainT Tryz.prog 82 = false := by kernel_rfl
@[simp] theorem zAV_82 : zAV Tryz.prog 9 82 = .raw (.nilFunc) := by kernel_rfl
@[simp] theorem zeroIs_82 : zeroIs Tryz.prog 82 (.raw (.nilFunc)) := ⟨.nilFunc, by kernel_rfl, .inl ⟨rfl, rfl⟩⟩
@[simp] theorem tyI_83 : tyI Tryz.prog 83 = some (1, false) := by kernel_rfl
@[simp] theorem isSl_83 : isSl Tryz.prog 83 = false := by kernel_rfl
@[simp] theorem isStr_83 : isStr Tryz.prog 83 = false := by kernel_rfl
@[simp] theorem isBool_83 : isBool Tryz.prog 83 = false := by kernel_rfl
@[simp] theorem isPtr_83 : isPtr Tryz.prog 83 = false := by kernel_rfl
@[simp] theorem isIf_83 : isIf Tryz.prog 83 = false := by kernel_rfl
@[simp] theorem isIface_83 : isIface Tryz.prog 83 = false := by kernel_rfl
@[simp] theorem isArr_83 : isArr Tryz.prog 83 = false := by kernel_rfl
@[simp] theorem plainT_83 : plainT Tryz.prog 83 = true := by kernel_rfl
@[simp] theorem und_83 : Tryz.prog.underlying 83 = some (.int .u8) := by kernel_rfl
@[simp] theorem zAV_83 : zAV Tryz.prog 9 83 = .raw (.int .u8 0) := by kernel_rfl
@[simp] theorem zeroIs_83 : zeroIs Tryz.prog 83 (.raw (.int .u8 0)) := ⟨.int .u8 0, by kernel_rfl, .inl ⟨rfl, rfl⟩⟩
@[simp] theorem tyI_84 : tyI Tryz.prog 84 = some (1, false) := by kernel_rfl
@[simp] theorem isSl_84 : isSl Tryz.prog 84 = false := by kernel_rfl
@[simp] theorem isStr_84 : isStr Tryz.prog 84 = false := by kernel_rfl
@[simp] theorem isBool_84 : isBool Tryz.prog 84 = false := by kernel_rfl
@[simp] theorem isPtr_84 : isPtr Tryz.prog 84 = false := by kernel_rfl
@[simp] theorem isIf_84 : isIf Tryz.prog 84 = false := by kernel_rfl
@[simp] theorem isIface_84 : isIface Tryz.prog 84 = false := by kernel_rfl
@[simp] theorem isArr_84 : isArr Tryz.prog 84 = false := by kernel_rfl
@[simp] theorem plainT_84 : plainT Tryz.prog 84 = false := by kernel_rfl
@[simp] theorem zAV_84 : zAV Tryz.prog 9 84 = .raw (.nilFunc) := by kernel_rfl
@[simp] theorem zeroIs_84 : zeroIs Tryz.prog 84 (.raw (.nilFunc)) := ⟨.nilFunc, by kernel_rfl, .inl ⟨rfl, rfl⟩⟩
@[simp] theorem tyI_85 : tyI Tryz.prog 85 = some (1, false) := by kernel_rfl
@[simp] theorem isSl_85 : isSl Tryz.prog 85 = false := by kernel_rfl
@[simp] theorem isStr_85 : isStr Tryz.prog 85 = false := by kernel_rfl
@[simp] theorem isBool_85 : isBool Tryz.prog 85 = false := by kernel_rfl
@[simp] theorem isPtr_85 : isPtr Tryz.prog 85 = false := by kernel_rfl
@[simp] theorem isIf_85 : isIf Tryz.prog 85 = false := by kernel_rfl
@[simp] theorem isIface_85 : isIface Tryz.prog 85 = false := by kernel_rfl
@[simp] theorem isArr_85 : isArr Tryz.prog 85 = false := by kernel_rfl
@[simp] theorem plainT_85 : plainT Tryz.prog 85 = false := by kernel_rfl
@[simp] theorem zAV_85 : zAV Tryz.prog 9 85 = .raw (.nilFunc) := by kernel_rfl
@[simp] theorem zeroIs_85 : zeroIs Tryz.prog 85 (.raw (.nilFunc)) := ⟨.nilFunc, by kernel_rfl, .inl ⟨rfl, rfl⟩⟩
@[simp] theorem tyI_86 : tyI Tryz.prog 86 = some (1, false) := by kernel_rfl
@[simp] theorem isSl_86 : isSl Tryz.prog 86 = false := by kernel_rfl
@[simp] theorem isStr_86 : isStr Tryz.prog 86 = false := by kernel_rfl
@[simp] theorem isBool_86 : isBool Tryz.prog 86 = false := by kernel_rfl
@[simp] theorem isPtr_86 : isPtr Tryz.prog 86 = false := by kernel_rfl
@[simp] theorem isIf_86 : isIf Tryz.prog 86 = false := by kernel_rfl
@[simp] theorem isIface_86 : isIface Tryz.prog 86 = false := by kernel_rfl
@[simp] theorem isArr_86 : isArr Tryz.prog 86 = false := by kernel_rfl
@[simp] theorem plainT_86 : plainT Tryz.prog 86 = false := by kernel_rfl
@[simp] theorem zAV_86 : zAV Tryz.prog 9 86 = .raw (.nilFunc) := by kernel_rfl
@[simp] theorem zeroIs_86 : zeroIs Tryz.prog 86 (.raw (.nilFunc)) := ⟨.nilFunc, by kernel_rfl, .inl ⟨rfl, rfl⟩⟩
@[simp] theorem isSl_87 : isSl Tryz.prog 87 = false := by kernel_rfl
@[simp] theorem tyI_88 : tyI Tryz.prog 88 = some (1, false) := by kernel_rfl
@[simp] theorem isSl_88 : isSl Tryz.prog 88 = false := by kernel_rfl
@[simp] theorem isStr_88 : isStr Tryz.prog 88 = false := by kernel_rfl
@[simp] theorem isBool_88 : isBool Tryz.prog 88 = false := by kernel_rfl
@[simp] theorem isPtr_88 : isPtr Tryz.prog 88 = false := by kernel_rfl
@[simp] theorem isIf_88 : isIf Tryz.prog 88 = false := by kernel_rfl
@[simp] theorem isIface_88 : isIface Tryz.prog 88 = false := by kernel_rfl
@[simp] theorem isArr_88 : isArr Tryz.prog 88 = false := by kernel_rfl
@[simp] theorem plainT_88 : plainT Tryz.prog 88 = false := by kernel_rfl
@[simp] theorem zAV_88 : zAV Tryz.prog 9 88 = .raw (.nilFunc) := by kernel_rfl
@[simp] theorem zeroIs_88 : zeroIs Tryz.prog 88 (.raw (.nilFunc)) := ⟨.nilFunc, by kernel_rfl, .inl ⟨rfl, rfl⟩⟩
@[simp] theorem tyI_89 : tyI Tryz.prog 89 = some (3, true) := by kernel_rfl
@[simp] theorem isSl_89 : isSl Tryz.prog 89 = false := by kernel_rfl
@[simp] theorem isStr_89 : isStr Tryz.prog 89 = false := by kernel_rfl
@[simp] theorem isBool_89 : isBool Tryz.prog 89 = false := by kernel_rfl
@[simp] theorem isPtr_89 : isPtr Tryz.prog 89 = false := by kernel_rfl
@[simp] theorem isIf_89 : isIf Tryz.prog 89 = false := by kernel_rfl
@[simp] theorem isIface_89 : isIface Tryz.prog 89 = false := by kernel_rfl
@[simp] theorem isArr_89 : isArr Tryz.prog 89 = false := by kernel_rfl
@[simp] theorem plainT_89 : plainT Tryz.prog 89 = true := by kernel_rfl
@[simp] theorem fldI_89_0 : fldI Tryz.prog 89 0 = some (0, 1, false) := by kernel_rfl
@[simp] theorem fldI_89_1 : fldI Tryz.prog 89 1 = some (1, 1, false) := by kernel_rfl
@[simp] theorem fldI_89_2 : fldI Tryz.prog 89 2 = some (2, 1, false) := by kernel_rfl
@[simp] theorem zAV_89 : zAV Tryz.prog 9 89 = .agg [.raw (.string ⟨#[]⟩), .raw (.int .i64 0), .raw (.int .i64 0)] := by kernel_rfl
@[simp] theorem zeroIs_89 : zeroIs Tryz.prog 89 (.agg [.raw (.string ⟨#[]⟩), .raw (.int .i64 0), .raw (.int .i64 0)]) := ⟨.agg #[.string ⟨#[]⟩, .int .i64 0, .int .i64 0], by kernel_rfl, .inr ⟨_, _, rfl, rfl, by kernel_rfl⟩⟩
@[simp] theorem layIs_89 : layIs Tryz.prog 89 [.raw (.string ⟨#[]⟩), .raw (.int .i64 0), .raw (.int .i64 0)] := layIs_of (by kernel_rfl)
@[simp] theorem tyI_90 : tyI Tryz.prog 90 = some (3, true) := by kernel_rfl
@[simp] theorem isSl_90 : isSl Tryz.prog 90 = false := by kernel_rfl
@[simp] theorem isStr_90 : isStr Tryz.prog 90 = false := by kernel_rfl
@[simp] theorem isBool_90 : isBool Tryz.prog 90 = false := by kernel_rfl
@[simp] theorem isPtr_90 : isPtr Tryz.prog 90 = false := by kernel_rfl
@[simp] theorem isIf_90 : isIf Tryz.prog 90 = false := by kernel_rfl
@[simp] theorem isIface_90 : isIface Tryz.prog 90 = false := by kernel_rfl
@[simp] theorem isArr_90 : isArr Tryz.prog 90 = false := by kernel_rfl
@[simp] theorem plainT_90 : plainT Tryz.prog 90 = true := by kernel_rfl
@[simp] theorem eqd_90 : eqd Tryz.prog 9 90 = some (.st [.s, .i, .i]) := by kernel_rfl
@[simp] theorem guardless_90 : guardless Tryz.prog 90 = true := by kernel_rfl
@[simp] theorem fldI_90_0 : fldI Tryz.prog 90 0 = some (0, 1, false) := by kernel_rfl
@[simp] theorem fldI_90_1 : fldI Tryz.prog 90 1 = some (1, 1, false) := by kernel_rfl
@[simp] theorem fldI_90_2 : fldI Tryz.prog 90 2 = some (2, 1, false) := by kernel_rfl
@[simp] theorem zAV_90 : zAV Tryz.prog 9 90 = .agg [.raw (.string ⟨#[]⟩), .raw (.int .i64 0), .raw (.int .i64 0)] := by kernel_rfl
@[simp] theorem zeroIs_90 : zeroIs Tryz.prog 90 (.agg [.raw (.string ⟨#[]⟩), .raw (.int .i64 0), .raw (.int .i64 0)]) := ⟨.agg #[.string ⟨#[]⟩, .int .i64 0, .int .i64 0], by kernel_rfl, .inr ⟨_, _, rfl, rfl, by kernel_rfl⟩⟩
@[simp] theorem layIs_90 : layIs Tryz.prog 90 [.raw (.string ⟨#[]⟩), .raw (.int .i64 0), .raw (.int .i64 0)] := layIs_of (by kernel_rfl)
@[simp] theorem isSl_91 : isSl Tryz.prog 91 = false := by kernel_rfl
@[simp] theorem tyI_92 : tyI Tryz.prog 92 = some (1, false) := by kernel_rfl
@[simp] theorem isSl_92 : isSl Tryz.prog 92 = false := by kernel_rfl
@[simp] theorem isStr_92 : isStr Tryz.prog 92 = false := by kernel_rfl
@[simp] theorem isBool_92 : isBool Tryz.prog 92 = false := by kernel_rfl
@[simp] theorem isPtr_92 : isPtr Tryz.prog 92 = false := by kernel_rfl
@[simp] theorem isIf_92 : isIf Tryz.prog 92 = false := by kernel_rfl
@[simp] theorem isIface_92 : isIface Tryz.prog 92 = false := by kernel_rfl
@[simp] theorem isArr_92 : isArr Tryz.prog 92 = false := by kernel_rfl
@[simp] theorem plainT_92 : plainT Tryz.prog 92 = false := by kernel_rfl
@[simp] theorem zAV_92 : zAV Tryz.prog 9 92 = .raw (.nilFunc) := by kernel_rfl
@[simp] theorem zeroIs_92 : zeroIs Tryz.prog 92 (.raw (.nilFunc)) := ⟨.nilFunc, by kernel_rfl, .inl ⟨rfl, rfl⟩⟩
@[simp] theorem isSl_93 : isSl Tryz.prog 93 = false := by kernel_rfl
@[simp] theorem tyI_94 : tyI Tryz.prog 94 = some (1, false) := by kernel_rfl
@[simp] theorem isSl_94 : isSl Tryz.prog 94 = false := by kernel_rfl
@[simp] theorem isStr_94 : isStr Tryz.prog 94 = false := by kernel_rfl
@[simp] theorem isBool_94 : isBool Tryz.prog 94 = false := by kernel_rfl
@[simp] theorem isPtr_94 : isPtr Tryz.prog 94 = false := by kernel_rfl
@[simp] theorem isIf_94 : isIf Tryz.prog 94 = false := by kernel_rfl
@[simp] theorem isIface_94 : isIface Tryz.prog 94 = false := by kernel_rfl
@[simp] theorem isArr_94 : isArr Tryz.prog 94 = false := by kernel_rfl
@[simp] theorem plainT_94 : plainT Tryz.prog 94 = false := by kernel_rfl
@[simp] theorem zAV_94 : zAV Tryz.prog 9 94 = .raw (.nilFunc) := by kernel_rfl
@[simp] theorem zeroIs_94 : zeroIs Tryz.prog 94 (.raw (.nilFunc)) := ⟨.nilFunc, by kernel_rfl, .inl ⟨rfl, rfl⟩⟩
@[simp] theorem tyI_95 : tyI Tryz.prog 95 = some (1, true) := by kernel_rfl
@[simp] theorem isSl_95 : isSl Tryz.prog 95 = false := by kernel_rfl
@[simp] theorem isStr_95 : isStr Tryz.prog 95 = false := by kernel_rfl
@[simp] theorem isBool_95 : isBool Tryz.prog 95 = false := by kernel_rfl
@[simp] theorem isPtr_95 : isPtr Tryz.prog 95 = false := by kernel_rfl
@[simp] theorem isIf_95 : isIf Tryz.prog 95 = false := by kernel_rfl
@[simp] theorem isIface_95 : isIface Tryz.prog 95 = false := by kernel_rfl
@[simp] theorem isArr_95 : isArr Tryz.prog 95 = false := by kernel_rfl
@[simp] theorem plainT_95 : plainT Tryz.prog 95 = false := by kernel_rfl
@[simp] theorem fldI_95_0 : fldI Tryz.prog 95 0 = some (0, 1, false) := by kernel_rfl
@[simp] theorem zAV_95 : zAV Tryz.prog 9 95 = .agg [.raw (.pointer none)] := by kernel_rfl
@[simp] theorem zeroIs_95 : zeroIs Tryz.prog 95 (.agg [.raw (.pointer none)]) := ⟨.agg #[.pointer none], by kernel_rfl, .inr ⟨_, _, rfl, rfl, by kernel_rfl⟩⟩
@[simp] theorem layIs_95 : layIs Tryz.prog 95 [.raw (.pointer none)] := layIs_of (by kernel_rfl)
@[simp] theorem tyI_96 : tyI Tryz.prog 96 = some (1, true) := by kernel_rfl
@[simp] theorem isSl_96 : isSl Tryz.prog 96 = false := by kernel_rfl
@[simp] theorem isStr_96 : isStr Tryz.prog 96 = false := by kernel_rfl
@[simp] theorem isBool_96 : isBool Tryz.prog 96 = false := by kernel_rfl
@[simp] theorem isPtr_96 : isPtr Tryz.prog 96 = false := by kernel_rfl
@[simp] theorem isIf_96 : isIf Tryz.prog 96 = false := by kernel_rfl
@[simp] theorem isIface_96 : isIface Tryz.prog 96 = false := by kernel_rfl
@[simp] theorem isArr_96 : isArr Tryz.prog 96 = false := by kernel_rfl
@[simp] theorem plainT_96 : plainT Tryz.prog 96 = false := by kernel_rfl
@[simp] theorem fldI_96_0 : fldI Tryz.prog 96 0 = some (0, 1, false) := by kernel_rfl
@[simp] theorem zAV_96 : zAV Tryz.prog 9 96 = .agg [.raw (.pointer none)] := by kernel_rfl
@[simp] theorem zeroIs_96 : zeroIs Tryz.prog 96 (.agg [.raw (.pointer none)]) := ⟨.agg #[.pointer none], by kernel_rfl, .inr ⟨_, _, rfl, rfl, by kernel_rfl⟩⟩
@[simp] theorem layIs_96 : layIs Tryz.prog 96 [.raw (.pointer none)] := layIs_of (by kernel_rfl)
@[simp] theorem tyI_97 : tyI Tryz.prog 97 = some (1, false) := by kernel_rfl
@[simp] theorem isSl_97 : isSl Tryz.prog 97 = false := by kernel_rfl
@[simp] theorem isStr_97 : isStr Tryz.prog 97 = false := by kernel_rfl
@[simp] theorem isBool_97 : isBool Tryz.prog 97 = false := by kernel_rfl
@[simp] theorem isPtr_97 : isPtr Tryz.prog 97 = true := by kernel_rfl
@[simp] theorem isIf_97 : isIf Tryz.prog 97 = false := by kernel_rfl
@[simp] theorem isIface_97 : isIface Tryz.prog 97 = false := by kernel_rfl
@[simp] theorem isArr_97 : isArr Tryz.prog 97 = false := by kernel_rfl
@[simp] theorem plainT_97 : plainT Tryz.prog 97 = false := by kernel_rfl
@[simp] theorem zAV_97 : zAV Tryz.prog 9 97 = .raw (.pointer none) := by kernel_rfl
@[simp] theorem zeroIs_97 : zeroIs Tryz.prog 97 (.raw (.pointer none)) := ⟨.pointer none, by kernel_rfl, .inl ⟨rfl, rfl⟩⟩
@[simp] theorem tyI_98 : tyI Tryz.prog 98 = some (1, false) := by kernel_rfl
@[simp] theorem isSl_98 : isSl Tryz.prog 98 = false := by kernel_rfl
@[simp] theorem isStr_98 : isStr Tryz.prog 98 = false := by kernel_rfl
@[simp] theorem isBool_98 : isBool Tryz.prog 98 = false := by kernel_rfl
@[simp] theorem isPtr_98 : isPtr Tryz.prog 98 = false := by kernel_rfl
@[simp] theorem isIf_98 : isIf Tryz.prog 98 = true := by kernel_rfl
@[simp] theorem isIface_98 : isIface Tryz.prog 98 = true := by kernel_rfl
@[simp] theorem isArr_98 : isArr Tryz.prog 98 = false := by kernel_rfl
@[simp] theorem plainT_98 : plainT Tryz.prog 98 = false := by kernel_rfl
@[simp] theorem zAV_98 : zAV Tryz.prog 9 98 = .raw (.nilIface) := by kernel_rfl
@[simp] theorem zeroIs_98 : zeroIs Tryz.prog 98 (.raw (.nilIface)) := ⟨.nilIface, by kernel_rfl, .inl ⟨rfl, rfl⟩⟩
@[simp] theorem isSl_99 : isSl Tryz.prog 99 = false := by kernel_rfl
@[simp] theorem tyI_100 : tyI Tryz.prog 100 = some (1, false) := by kernel_rfl
@[simp] theorem isSl_100 : isSl Tryz.prog 100 = false := by kernel_rfl
@[simp] theorem isStr_100 : isStr Tryz.prog 100 = false := by kernel_rfl
@[simp] theorem isBool_100 : isBool Tryz.prog 100 = false := by kernel_rfl
@[simp] theorem isPtr_100 : isPtr Tryz.prog 100 = false := by kernel_rfl
@[simp] theorem isIf_100 : isIf Tryz.prog 100 = false := by kernel_rfl
@[simp] theorem isIface_100 : isIface Tryz.prog 100 = false := by kernel_rfl
@[simp] theorem isArr_100 : isArr Tryz.prog 100 = false := by kernel_rfl
@[simp] theorem plainT_100 : plainT Tryz.prog 100 = false := by kernel_rfl
@[simp] theorem zAV_100 : zAV Tryz.prog 9 100 = .raw (.nilFunc) := by kernel_rfl
@[simp] theorem zeroIs_100 : zeroIs Tryz.prog 100 (.raw (.nilFunc)) := ⟨.nilFunc, by kernel_rfl, .inl ⟨rfl, rfl⟩⟩
@[simp] theorem tyI_101 : tyI Tryz.prog 101 = some (1, false) := by kernel_rfl
@[simp] theorem isSl_101 : isSl Tryz.prog 101 = false := by kernel_rfl
@[simp] theorem isStr_101 : isStr Tryz.prog 101 = false := by kernel_rfl
@[simp] theorem isBool_101 : isBool Tryz.prog 101 = false := by kernel_rfl
@[simp] theorem isPtr_101 : isPtr Tryz.prog 101 = false := by kernel_rfl
@[simp] theorem isIf_101 : isIf Tryz.prog 101 = true := by kernel_rfl
@[simp] theorem isIface_101 : isIface Tryz.prog 101 = true := by kernel_rfl
@[simp] theorem isArr_101 : isArr Tryz.prog 101 = false := by kernel_rfl
@[simp] theorem plainT_101 : plainT Tryz.prog 101 = false := by kernel_rfl
@[simp] theorem zAV_101 : zAV Tryz.prog 9 101 = .raw (.nilIface) := by kernel_rfl
@[simp] theorem zeroIs_101 : zeroIs Tryz.prog 101 (.raw (.nilIface)) := ⟨.nilIface, by kernel_rfl, .inl ⟨rfl, rfl⟩⟩
@[simp] theorem tyI_102 : tyI Tryz.prog 102 = some (1, false) := by kernel_rfl
@[simp] theorem isSl_102 : isSl Tryz.prog 102 = false := by kernel_rfl
@[simp] theorem isStr_102 : isStr Tryz.prog 102 = false := by kernel_rfl
@[simp] theorem isBool_102 : isBool Tryz.prog 102 = false := by kernel_rfl
@[simp] theorem isPtr_102 : isPtr Tryz.prog 102 = false := by kernel_rfl
@[simp] theorem isIf_102 : isIf Tryz.prog 102 = false := by kernel_rfl
@[simp] theorem isIface_102 : isIface Tryz.prog 102 = false := by kernel_rfl
@[simp] theorem isArr_102 : isArr Tryz.prog 102 = false := by kernel_rfl
@[simp] theorem plainT_102 : plainT Tryz.prog 102 = false := by kernel_rfl
@[simp] theorem zAV_102 : zAV Tryz.prog 9 102 = .raw (.nilFunc) := by kernel_rfl
@[simp] theorem zeroIs_102 : zeroIs Tryz.prog 102 (.raw (.nilFunc)) := ⟨.nilFunc, by kernel_rfl, .inl ⟨rfl, rfl⟩⟩
@[simp] theorem tyI_103 : tyI Tryz.prog 103 = some (1, false) := by kernel_rfl
@[simp] theorem isSl_103 : isSl Tryz.prog 103 = false := by kernel_rfl
@[simp] theorem isStr_103 : isStr Tryz.prog 103 = false := by kernel_rfl
@[simp] theorem isBool_103 : isBool Tryz.prog 103 = false := by kernel_rfl
@[simp] theorem isPtr_103 : isPtr Tryz.prog 103 = false := by kernel_rfl
@[simp] theorem isIf_103 : isIf Tryz.prog 103 = true := by kernel_rfl
@[simp] theorem isIface_103 : isIface Tryz.prog 103 = true := by kernel_rfl
@[simp] theorem isArr_103 : isArr Tryz.prog 103 = false := by kernel_rfl
@[simp] theorem plainT_103 : plainT Tryz.prog 103 = false := by kernel_rfl
@[simp] theorem zAV_103 : zAV Tryz.prog 9 103 = .raw (.nilIface) := by kernel_rfl
@[simp] theorem zeroIs_103 : zeroIs Tryz.prog 103 (.raw (.nilIface)) := ⟨.nilIface, by kernel_rfl, .inl ⟨rfl, rfl⟩⟩
@[simp] theorem tyI_104 : tyI Tryz.prog 104 = some (1, false) := by kernel_rfl
@[simp] theorem isSl_104 : isSl Tryz.prog 104 = true := by kernel_rfl
@[simp] theorem isStr_104 : isStr Tryz.prog 104 = false := by kernel_rfl
@[simp] theorem isBool_104 : isBool Tryz.prog 104 = false := by kernel_rfl
@[simp] theorem isPtr_104 : isPtr Tryz.prog 104 = false := by kernel_rfl
@[simp] theorem isIf_104 : isIf Tryz.prog 104 = false := by kernel_rfl
@[simp] theorem isIface_104 : isIface Tryz.prog 104 = false := by kernel_rfl
@[simp] theorem isArr_104 : isArr Tryz.prog 104 = false := by kernel_rfl
@[simp] theorem plainT_104 : plainT Tryz.prog 104 = false := by kernel_rfl
@[simp] theorem rowI_104 : rowI Tryz.prog 104 = some (27, 1, 16) := by kernel_rfl
@[simp] theorem zAV_104 : zAV Tryz.prog 9 104 = .raw (.slice none 0 0) := by kernel_rfl
@[simp] theorem zeroIs_104 : zeroIs Tryz.prog 104 (.raw (.slice none 0 0)) := ⟨.slice none 0 0, by kernel_rfl, .inl ⟨rfl, rfl⟩⟩
@[simp] theorem tyI_105 : tyI Tryz.prog 105 = some (1, false) := by kernel_rfl
@[simp] theorem isSl_105 : isSl Tryz.prog 105 = false := by kernel_rfl
@[simp] theorem isStr_105 : isStr Tryz.prog 105 = false := by kernel_rfl
@[simp] theorem isBool_105 : isBool Tryz.prog 105 = false := by kernel_rfl
@[simp] theorem isPtr_105 : isPtr Tryz.prog 105 = false := by kernel_rfl
@[simp] theorem isIf_105 : isIf Tryz.prog 105 = false := by kernel_rfl
@[simp] theorem isIface_105 : isIface Tryz.prog 105 = false := by kernel_rfl
@[simp] theorem isArr_105 : isArr Tryz.prog 105 = false := by kernel_rfl
@[simp] theorem plainT_105 : plainT Tryz.prog 105 = false := by kernel_rfl
@[simp] theorem zAV_105 : zAV Tryz.prog 9 105 = .raw (.nilFunc) := by kernel_rfl
@[simp] theorem zeroIs_105 : zeroIs Tryz.prog 105 (.raw (.nilFunc)) := ⟨.nilFunc, by kernel_rfl, .inl ⟨rfl, rfl⟩⟩
@[simp] theorem tyI_106 : tyI Tryz.prog 106 = some (1, false) := by kernel_rfl
@[simp] theorem isSl_106 : isSl Tryz.prog 106 = false := by kernel_rfl
@[simp] theorem isStr_106 : isStr Tryz.prog 106 = false := by kernel_rfl
@[simp] theorem isBool_106 : isBool Tryz.prog 106 = false := by kernel_rfl
@[simp] theorem isPtr_106 : isPtr Tryz.prog 106 = false := by kernel_rfl
@[simp] theorem isIf_106 : isIf Tryz.prog 106 = false := by kernel_rfl
@[simp] theorem isIface_106 : isIface Tryz.prog 106 = false := by kernel_rfl
@[simp] theorem isArr_106 : isArr Tryz.prog 106 = false := by kernel_rfl
@[simp] theorem plainT_106 : plainT Tryz.prog 106 = false := by kernel_rfl
@[simp] theorem zAV_106 : zAV Tryz.prog 9 106 = .raw (.nilFunc) := by kernel_rfl
@[simp] theorem zeroIs_106 : zeroIs Tryz.prog 106 (.raw (.nilFunc)) := ⟨.nilFunc, by kernel_rfl, .inl ⟨rfl, rfl⟩⟩
@[simp] theorem tyI_107 : tyI Tryz.prog 107 = some (1, false) := by kernel_rfl
@[simp] theorem isSl_107 : isSl Tryz.prog 107 = false := by kernel_rfl
@[simp] theorem isStr_107 : isStr Tryz.prog 107 = false := by kernel_rfl
@[simp] theorem isBool_107 : isBool Tryz.prog 107 = false := by kernel_rfl
@[simp] theorem isPtr_107 : isPtr Tryz.prog 107 = false := by kernel_rfl
@[simp] theorem isIf_107 : isIf Tryz.prog 107 = false := by kernel_rfl
@[simp] theorem isIface_107 : isIface Tryz.prog 107 = false := by kernel_rfl
@[simp] theorem isArr_107 : isArr Tryz.prog 107 = false := by kernel_rfl
@[simp] theorem plainT_107 : plainT Tryz.prog 107 = false := by kernel_rfl
@[simp] theorem zAV_107 : zAV Tryz.prog 9 107 = .raw (.nilFunc) := by kernel_rfl
@[simp] theorem zeroIs_107 : zeroIs Tryz.prog 107 (.raw (.nilFunc)) := ⟨.nilFunc, by kernel_rfl, .inl ⟨rfl, rfl⟩⟩
@[simp] theorem isSl_108 : isSl Tryz.prog 108 = false := by kernel_rfl
@[simp] theorem tyI_109 : tyI Tryz.prog 109 = some (1, false) := by kernel_rfl
@[simp] theorem isSl_109 : isSl Tryz.prog 109 = false := by kernel_rfl
@[simp] theorem isStr_109 : isStr Tryz.prog 109 = false := by kernel_rfl
@[simp] theorem isBool_109 : isBool Tryz.prog 109 = false := by kernel_rfl
@[simp] theorem isPtr_109 : isPtr Tryz.prog 109 = false := by kernel_rfl
@[simp] theorem isIf_109 : isIf Tryz.prog 109 = false := by kernel_rfl
@[simp] theorem isIface_109 : isIface Tryz.prog 109 = false := by kernel_rfl
@[simp] theorem isArr_109 : isArr Tryz.prog 109 = false := by kernel_rfl
@[simp] theorem plainT_109 : plainT Tryz.prog 109 = false := by kernel_rfl
@[simp] theorem zAV_109 : zAV Tryz.prog 9 109 = .raw (.nilFunc) := by kernel_rfl
@[simp] theorem zeroIs_109 : zeroIs Tryz.prog 109 (.raw (.nilFunc)) := ⟨.nilFunc, by kernel_rfl, .inl ⟨rfl, rfl⟩⟩
@[simp] theorem tyI_110 : tyI Tryz.prog 110 = some (1, false) := by kernel_rfl
@[simp] theorem isSl_110 : isSl Tryz.prog 110 = false := by kernel_rfl
@[simp] theorem isStr_110 : isStr Tryz.prog 110 = false := by kernel_rfl
@[simp] theorem isBool_110 : isBool Tryz.prog 110 = false := by kernel_rfl
@[simp] theorem isPtr_110 : isPtr Tryz.prog 110 = false := by kernel_rfl
@[simp] theorem isIf_110 : isIf Tryz.prog 110 = false := by kernel_rfl
@[simp] theorem isIface_110 : isIface Tryz.prog 110 = false := by kernel_rfl
@[simp] theorem isArr_110 : isArr Tryz.prog 110 = false := by kernel_rfl
@[simp] theorem plainT_110 : plainT Tryz.prog 110 = false := by kernel_rfl
@[simp] theorem zAV_110 : zAV Tryz.prog 9 110 = .raw (.nilFunc) := by kernel_rfl
@[simp] theorem zeroIs_110 : zeroIs Tryz.prog 110 (.raw (.nilFunc)) := ⟨.nilFunc, by kernel_rfl, .inl ⟨rfl, rfl⟩⟩
@[simp] theorem tyI_111 : tyI Tryz.prog 111 = some (1, false) := by kernel_rfl
@[simp] theorem isSl_111 : isSl Tryz.prog 111 = false := by kernel_rfl
@[simp] theorem isStr_111 : isStr Tryz.prog 111 = false := by kernel_rfl
@[simp] theorem isBool_111 : isBool Tryz.prog 111 = false := by kernel_rfl
@[simp] theorem isPtr_111 : isPtr Tryz.prog 111 = false := by kernel_rfl
@[simp] theorem isIf_111 : isIf Tryz.prog 111 = false := by kernel_rfl
@[simp] theorem isIface_111 : isIface Tryz.prog 111 = false := by kernel_rfl
@[simp] theorem isArr_111 : isArr Tryz.prog 111 = false := by kernel_rfl
@[simp] theorem plainT_111 : plainT Tryz.prog 111 = false := by kernel_rfl
@[simp] theorem zAV_111 : zAV Tryz.prog 9 111 = .raw (.nilFunc) := by kernel_rfl
@[simp] theorem zeroIs_111 : zeroIs Tryz.prog 111 (.raw (.nilFunc)) := ⟨.nilFunc, by kernel_rfl, .inl ⟨rfl, rfl⟩⟩
@[simp] theorem tyI_112 : tyI Tryz.prog 112 = some (1, false) := by kernel_rfl
@[simp] theorem isSl_112 : isSl Tryz.prog 112 = false := by kernel_rfl
@[simp] theorem isStr_112 : isStr Tryz.prog 112 = false := by kernel_rfl
@[simp] theorem isBool_112 : isBool Tryz.prog 112 = false := by kernel_rfl
@[simp] theorem isPtr_112 : isPtr Tryz.prog 112 = false := by kernel_rfl
@[simp] theorem isIf_112 : isIf Tryz.prog 112 = false := by kernel_rfl
@[simp] theorem isIface_112 : isIface Tryz.prog 112 = false := by kernel_rfl
@[simp] theorem isArr_112 : isArr Tryz.prog 112 = false := by kernel_rfl
@[simp] theorem plainT_112 : plainT Tryz.prog 112 = false := by kernel_rfl
@[simp] theorem zAV_112 : zAV Tryz.prog 9 112 = .raw (.nilFunc) := by kernel_rfl
@[simp] theorem zeroIs_112 : zeroIs Tryz.prog 112 (.raw (.nilFunc)) := ⟨.nilFunc, by kernel_rfl, .inl ⟨rfl, rfl⟩⟩
@[simp] theorem tyI_113 : tyI Tryz.prog 113 = some (1, false) := by kernel_rfl
@[simp] theorem isSl_113 : isSl Tryz.prog 113 = false := by kernel_rfl
@[simp] theorem isStr_113 : isStr Tryz.prog 113 = false := by kernel_rfl
@[simp] theorem isBool_113 : isBool Tryz.prog 113 = false := by kernel_rfl
@[simp] theorem isPtr_113 : isPtr Tryz.prog 113 = false := by kernel_rfl
@[simp] theorem isIf_113 : isIf Tryz.prog 113 = true := by kernel_rfl
@[simp] theorem isIface_113 : isIface Tryz.prog 113 = true := by kernel_rfl
@[simp] theorem isArr_113 : isArr Tryz.prog 113 = false := by kernel_rfl
@[simp] theorem plainT_113 : plainT Tryz.prog 113 = false := by kernel_rfl
@[simp] theorem zAV_113 : zAV Tryz.prog 9 113 = .raw (.nilIface) := by kernel_rfl
@[simp] theorem zeroIs_113 : zeroIs Tryz.prog 113 (.raw (.nilIface)) := ⟨.nilIface, by kernel_rfl, .inl ⟨rfl, rfl⟩⟩
@[simp] theorem isSl_114 : isSl Tryz.prog 114 = false := by kernel_rfl
@[simp] theorem tyI_115 : tyI Tryz.prog 115 = some (1, false) := by kernel_rfl
@[simp] theorem isSl_115 : isSl Tryz.prog 115 = false := by kernel_rfl
@[simp] theorem isStr_115 : isStr Tryz.prog 115 = false := by kernel_rfl
@[simp] theorem isBool_115 : isBool Tryz.prog 115 = false := by kernel_rfl
@[simp] theorem isPtr_115 : isPtr Tryz.prog 115 = false := by kernel_rfl
@[simp] theorem isIf_115 : isIf Tryz.prog 115 = false := by kernel_rfl
@[simp] theorem isIface_115 : isIface Tryz.prog 115 = false := by kernel_rfl
@[simp] theorem isArr_115 : isArr Tryz.prog 115 = false := by kernel_rfl
@[simp] theorem plainT_115 : plainT Tryz.prog 115 = false := by kernel_rfl
@[simp] theorem zAV_115 : zAV Tryz.prog 9 115 = .raw (.nilFunc) := by kernel_rfl
@[simp] theorem zeroIs_115 : zeroIs Tryz.prog 115 (.raw (.nilFunc)) := ⟨.nilFunc, by kernel_rfl, .inl ⟨rfl, rfl⟩⟩
@[simp] theorem tyI_116 : tyI Tryz.prog 116 = some (1, false) := by kernel_rfl
@[simp] theorem isSl_116 : isSl Tryz.prog 116 = false := by kernel_rfl
@[simp] theorem isStr_116 : isStr Tryz.prog 116 = false := by kernel_rfl
@[simp] theorem isBool_116 : isBool Tryz.prog 116 = false := by kernel_rfl
@[simp] theorem isPtr_116 : isPtr Tryz.prog 116 = false := by kernel_rfl
@[simp] theorem isIf_116 : isIf Tryz.prog 116 = false := by kernel_rfl
@[simp] theorem isIface_116 : isIface Tryz.prog 116 = false := by kernel_rfl
@[simp] theorem isArr_116 : isArr Tryz.prog 116 = false := by kernel_rfl
@[simp] theorem plainT_116 : plainT Tryz.prog 116 = true := by kernel_rfl
@[simp] theorem und_116 : Tryz.prog.underlying 116 = some (.int .u64) := by kernel_rfl
@[simp] theorem zAV_116 : zAV Tryz.prog 9 116 = .raw (.int .u64 0) := by kernel_rfl
@[simp] theorem zeroIs_116 : zeroIs Tryz.prog 116 (.raw (.int .u64 0)) := ⟨.int .u64 0, by kernel_rfl, .inl ⟨rfl, rfl⟩⟩
@[simp] theorem isSl_117 : isSl Tryz.prog 117 = false := by kernel_rfl
@[simp] theorem tyI_118 : tyI Tryz.prog 118 = some (1, false) := by kernel_rfl
@[simp] theorem isSl_118 : isSl Tryz.prog 118 = false := by kernel_rfl
@[simp] theorem isStr_118 : isStr Tryz.prog 118 = false := by kernel_rfl
@[simp] theorem isBool_118 : isBool Tryz.prog 118 = false := by kernel_rfl
@[simp] theorem isPtr_118 : isPtr Tryz.prog 118 = false := by kernel_rfl
@[simp] theorem isIf_118 : isIf Tryz.prog 118 = false := by kernel_rfl
@[simp] theorem isIface_118 : isIface Tryz.prog 118 = false := by kernel_rfl
@[simp] theorem isArr_118 : isArr Tryz.prog 118 = false := by kernel_rfl
@[simp] theorem plainT_118 : plainT Tryz.prog 118 = false := by kernel_rfl
@[simp] theorem zAV_118 : zAV Tryz.prog 9 118 = .raw (.nilFunc) := by kernel_rfl
@[simp] theorem zeroIs_118 : zeroIs Tryz.prog 118 (.raw (.nilFunc)) := ⟨.nilFunc, by kernel_rfl, .inl ⟨rfl, rfl⟩⟩
@[simp] theorem tyI_119 : tyI Tryz.prog 119 = some (1, false) := by kernel_rfl
@[simp] theorem isSl_119 : isSl Tryz.prog 119 = true := by kernel_rfl
@[simp] theorem isStr_119 : isStr Tryz.prog 119 = false := by kernel_rfl
@[simp] theorem isBool_119 : isBool Tryz.prog 119 = false := by kernel_rfl
@[simp] theorem isPtr_119 : isPtr Tryz.prog 119 = false := by kernel_rfl
@[simp] theorem isIf_119 : isIf Tryz.prog 119 = false := by kernel_rfl
@[simp] theorem isIface_119 : isIface Tryz.prog 119 = false := by kernel_rfl
@[simp] theorem isArr_119 : isArr Tryz.prog 119 = false := by kernel_rfl
@[simp] theorem plainT_119 : plainT Tryz.prog 119 = false := by kernel_rfl
@[simp] theorem rowI_119 : rowI Tryz.prog 119 = some (90, 3, 32) := by kernel_rfl
@[simp] theorem zAV_119 : zAV Tryz.prog 9 119 = .raw (.slice none 0 0) := by kernel_rfl
@[simp] theorem zeroIs_119 : zeroIs Tryz.prog 119 (.raw (.slice none 0 0)) := ⟨.slice none 0 0, by kernel_rfl, .inl ⟨rfl, rfl⟩⟩
@[simp] theorem tyI_120 : tyI Tryz.prog 120 = some (1, false) := by kernel_rfl
@[simp] theorem isSl_120 : isSl Tryz.prog 120 = false := by kernel_rfl
@[simp] theorem isStr_120 : isStr Tryz.prog 120 = false := by kernel_rfl
@[simp] theorem isBool_120 : isBool Tryz.prog 120 = false := by kernel_rfl
@[simp] theorem isPtr_120 : isPtr Tryz.prog 120 = false := by kernel_rfl
@[simp] theorem isIf_120 : isIf Tryz.prog 120 = false := by kernel_rfl
@[simp] theorem isIface_120 : isIface Tryz.prog 120 = false := by kernel_rfl
@[simp] theorem isArr_120 : isArr Tryz.prog 120 = false := by kernel_rfl
@[simp] theorem plainT_120 : plainT Tryz.prog 120 = false := by kernel_rfl
@[simp] theorem zAV_120 : zAV Tryz.prog 9 120 = .raw (.nilFunc) := by kernel_rfl
@[simp] theorem zeroIs_120 : zeroIs Tryz.prog 120 (.raw (.nilFunc)) := ⟨.nilFunc, by kernel_rfl, .inl ⟨rfl, rfl⟩⟩
@[simp] theorem tyI_121 : tyI Tryz.prog 121 = some (1, false) := by kernel_rfl
@[simp] theorem isSl_121 : isSl Tryz.prog 121 = false := by kernel_rfl
@[simp] theorem isStr_121 : isStr Tryz.prog 121 = false := by kernel_rfl
@[simp] theorem isBool_121 : isBool Tryz.prog 121 = false := by kernel_rfl
@[simp] theorem isPtr_121 : isPtr Tryz.prog 121 = true := by kernel_rfl
@[simp] theorem isIf_121 : isIf Tryz.prog 121 = false := by kernel_rfl
@[simp] theorem isIface_121 : isIface Tryz.prog 121 = false := by kernel_rfl
@[simp] theorem isArr_121 : isArr Tryz.prog 121 = false := by kernel_rfl
@[simp] theorem plainT_121 : plainT Tryz.prog 121 = false := by kernel_rfl
@[simp] theorem zAV_121 : zAV Tryz.prog 9 121 = .raw (.pointer none) := by kernel_rfl
@[simp] theorem zeroIs_121 : zeroIs Tryz.prog 121 (.raw (.pointer none)) := ⟨.pointer none, by kernel_rfl, .inl ⟨rfl, rfl⟩⟩
@[simp] theorem tyI_122 : tyI Tryz.prog 122 = some (2, true) := by kernel_rfl
@[simp] theorem isSl_122 : isSl Tryz.prog 122 = false := by kernel_rfl
@[simp] theorem isStr_122 : isStr Tryz.prog 122 = false := by kernel_rfl
@[simp] theorem isBool_122 : isBool Tryz.prog 122 = false := by kernel_rfl
@[simp] theorem isPtr_122 : isPtr Tryz.prog 122 = false := by kernel_rfl
@[simp] theorem isIf_122 : isIf Tryz.prog 122 = false := by kernel_rfl
@[simp] theorem isIface_122 : isIface Tryz.prog 122 = false := by kernel_rfl
@[simp] theorem isArr_122 : isArr Tryz.prog 122 = false := by kernel_rfl
@[simp] theorem plainT_122 : plainT Tryz.prog 122 = false := by kernel_rfl
@[simp] theorem fldI_122_0 : fldI Tryz.prog 122 0 = some (0, 1, false) := by kernel_rfl
@[simp] theorem fldI_122_1 : fldI Tryz.prog 122 1 = some (1, 1, false) := by kernel_rfl
@[simp] theorem zAV_122 : zAV Tryz.prog 9 122 = .agg [.raw (.string ⟨#[]⟩), .raw (.nilIface)] := by kernel_rfl
@[simp] theorem zeroIs_122 : zeroIs Tryz.prog 122 (.agg [.raw (.string ⟨#[]⟩), .raw (.nilIface)]) := ⟨.agg #[.string ⟨#[]⟩, .nilIface], by kernel_rfl, .inr ⟨_, _, rfl, rfl, by kernel_rfl⟩⟩
@[simp] theorem layIs_122 : layIs Tryz.prog 122 [.raw (.string ⟨#[]⟩), .raw (.nilIface)] := layIs_of (by kernel_rfl)
@[simp] theorem tyI_123 : tyI Tryz.prog 123 = some (2, true) := by kernel_rfl
@[simp] theorem isSl_123 : isSl Tryz.prog 123 = false := by kernel_rfl
@[simp] theorem isStr_123 : isStr Tryz.prog 123 = false := by kernel_rfl
@[simp] theorem isBool_123 : isBool Tryz.prog 123 = false := by kernel_rfl
@[simp] theorem isPtr_123 : isPtr Tryz.prog 123 = false := by kernel_rfl
@[simp] theorem isIf_123 : isIf Tryz.prog 123 = false := by kernel_rfl
@[simp] theorem isIface_123 : isIface Tryz.prog 123 = false := by kernel_rfl
@[simp] theorem isArr_123 : isArr Tryz.prog 123 = false := by kernel_rfl
@[simp] theorem plainT_123 : plainT Tryz.prog 123 = false := by kernel_rfl
@[simp] theorem fldI_123_0 : fldI Tryz.prog 123 0 = some (0, 1, false) := by kernel_rfl
@[simp] theorem fldI_123_1 : fldI Tryz.prog 123 1 = some (1, 1, false) := by kernel_rfl
@[simp] theorem zAV_123 : zAV Tryz.prog 9 123 = .agg [.raw (.string ⟨#[]⟩), .raw (.nilIface)] := by kernel_rfl
@[simp] theorem zeroIs_123 : zeroIs Tryz.prog 123 (.agg [.raw (.string ⟨#[]⟩), .raw (.nilIface)]) := ⟨.agg #[.string ⟨#[]⟩, .nilIface], by kernel_rfl, .inr ⟨_, _, rfl, rfl, by kernel_rfl⟩⟩
@[simp] theorem layIs_123 : layIs Tryz.prog 123 [.raw (.string ⟨#[]⟩), .raw (.nilIface)] := layIs_of (by kernel_rfl)
@[simp] theorem tyI_124 : tyI Tryz.prog 124 = some (1, false) := by kernel_rfl
@[simp] theorem isSl_124 : isSl Tryz.prog 124 = false := by kernel_rfl
@[simp] theorem isStr_124 : isStr Tryz.prog 124 = false := by kernel_rfl
@[simp] theorem isBool_124 : isBool Tryz.prog 124 = false := by kernel_rfl
@[simp] theorem isPtr_124 : isPtr Tryz.prog 124 = false := by kernel_rfl
@[simp] theorem isIf_124 : isIf Tryz.prog 124 = false := by kernel_rfl
@[simp] theorem isIface_124 : isIface Tryz.prog 124 = false := by kernel_rfl
@[simp] theorem isArr_124 : isArr Tryz.prog 124 = false := by kernel_rfl
@[simp] theorem plainT_124 : plainT Tryz.prog 124 = false := by kernel_rfl
@[simp] theorem zAV_124 : zAV Tryz.prog 9 124 = .raw (.nilFunc) := by kernel_rfl
@[simp] theorem zeroIs_124 : zeroIs Tryz.prog 124 (.raw (.nilFunc)) := ⟨.nilFunc, by kernel_rfl, .inl ⟨rfl, rfl⟩⟩
@[simp] theorem tyI_125 : tyI Tryz.prog 125 = some (1, false) := by kernel_rfl
@[simp] theorem isSl_125 : isSl Tryz.prog 125 = false := by kernel_rfl
@[simp] theorem isStr_125 : isStr Tryz.prog 125 = false := by kernel_rfl
@[simp] theorem isBool_125 : isBool Tryz.prog 125 = false := by kernel_rfl
@[simp] theorem isPtr_125 : isPtr Tryz.prog 125 = false := by kernel_rfl
@[simp] theorem isIf_125 : isIf Tryz.prog 125 = false := by kernel_rfl
@[simp] theorem isIface_125 : isIface Tryz.prog 125 = false := by kernel_rfl
@[simp] theorem isArr_125 : isArr Tryz.prog 125 = false := by kernel_rfl
@[simp] theorem plainT_125 : plainT Tryz.prog 125 = false := by kernel_rfl
@[simp] theorem zAV_125 : zAV Tryz.prog 9 125 = .raw (.nilFunc) := by kernel_rfl
@[simp] theorem zeroIs_125 : zeroIs Tryz.prog 125 (.raw (.nilFunc)) := ⟨.nilFunc, by kernel_rfl, .inl ⟨rfl, rfl⟩⟩
@[simp] theorem tyI_126 : tyI Tryz.prog 126 = some (1, false) := by kernel_rfl
@[simp] theorem isSl_126 : isSl Tryz.prog 126 = false := by kernel_rfl
@[simp] theorem isStr_126 : isStr Tryz.prog 126 = false := by kernel_rfl
@[simp] theorem isBool_126 : isBool Tryz.prog 126 = false := by kernel_rfl
@[simp] theorem isPtr_126 : isPtr Tryz.prog 126 = false := by kernel_rfl
@[simp] theorem isIf_126 : isIf Tryz.prog 126 = false := by kernel_rfl
@[simp] theorem isIface_126 : isIface Tryz.prog 126 = false := by kernel_rfl
@[simp] theorem isArr_126 : isArr Tryz.prog 126 = false := by kernel_rfl
@[simp] theorem plainT_126 : plainT Tryz.prog 126 = false := by kernel_rfl
@[simp] theorem zAV_126 : zAV Tryz.prog 9 126 = .raw (.nilFunc) := by kernel_rfl
@[simp] theorem zeroIs_126 : zeroIs Tryz.prog 126 (.raw (.nilFunc)) := ⟨.nilFunc, by kernel_rfl, .inl ⟨rfl, rfl⟩⟩
@[simp] theorem tyI_127 : tyI Tryz.prog 127 = some (1, false) := by kernel_rfl
@[simp] theorem isSl_127 : isSl Tryz.prog 127 = false := by kernel_rfl
@[simp] theorem isStr_127 : isStr Tryz.prog 127 = false := by kernel_rfl
@[simp] theorem isBool_127 : isBool Tryz.prog 127 = false := by kernel_rfl
@[simp] theorem isPtr_127 : isPtr Tryz.prog 127 = false := by kernel_rfl
@[simp] theorem isIf_127 : isIf Tryz.prog 127 = false := by kernel_rfl
@[simp] theorem isIface_127 : isIface Tryz.prog 127 = false := by kernel_rfl
@[simp] theorem isArr_127 : isArr Tryz.prog 127 = false := by kernel_rfl
@[simp] theorem plainT_127 : plainT Tryz.prog 127 = false := by kernel_rfl
@[simp] theorem zAV_127 : zAV Tryz.prog 9 127 = .raw (.nilFunc) := by kernel_rfl
@[simp] theorem zeroIs_127 : zeroIs Tryz.prog 127 (.raw (.nilFunc)) := ⟨.nilFunc, by kernel_rfl, .inl ⟨rfl, rfl⟩⟩
@[simp] theorem tyI_128 : tyI Tryz.prog 128 = some (1, false) := by kernel_rfl
@[simp] theorem isSl_128 : isSl Tryz.prog 128 = false := by kernel_rfl
@[simp] theorem isStr_128 : isStr Tryz.prog 128 = false := by kernel_rfl
@[simp] theorem isBool_128 : isBool Tryz.prog 128 = false := by kernel_rfl
@[simp] theorem isPtr_128 : isPtr Tryz.prog 128 = false := by kernel_rfl
@[simp] theorem isIf_128 : isIf Tryz.prog 128 = false := by kernel_rfl
@[simp] theorem isIface_128 : isIface Tryz.prog 128 = false := by kernel_rfl
@[simp] theorem isArr_128 : isArr Tryz.prog 128 = false := by kernel_rfl
@[simp] theorem plainT_128 : plainT Tryz.prog 128 = false := by kernel_rfl
@[simp] theorem zAV_128 : zAV Tryz.prog 9 128 = .raw (.nilFunc) := by kernel_rfl
@[simp] theorem zeroIs_128 : zeroIs Tryz.prog 128 (.raw (.nilFunc)) := ⟨.nilFunc, by kernel_rfl, .inl ⟨rfl, rfl⟩⟩
@[simp] theorem tyI_129 : tyI Tryz.prog 129 = some (1, false) := by kernel_rfl
@[simp] theorem isSl_129 : isSl Tryz.prog 129 = false := by kernel_rfl
@[simp] theorem isStr_129 : isStr Tryz.prog 129 = false := by kernel_rfl
@[simp] theorem isBool_129 : isBool Tryz.prog 129 = false := by kernel_rfl
@[simp] theorem isPtr_129 : isPtr Tryz.prog 129 = false := by kernel_rfl
@[simp] theorem isIf_129 : isIf Tryz.prog 129 = false := by kernel_rfl
@[simp] theorem isIface_129 : isIface Tryz.prog 129 = false := by kernel_rfl
@[simp] theorem isArr_129 : isArr Tryz.prog 129 = false := by kernel_rfl
@[simp] theorem plainT_129 : plainT Tryz.prog 129 = false := by kernel_rfl
@[simp] theorem zAV_129 : zAV Tryz.prog 9 129 = .raw (.nilFunc) := by kernel_rfl
@[simp] theorem zeroIs_129 : zeroIs Tryz.prog 129 (.raw (.nilFunc)) := ⟨.nilFunc, by kernel_rfl, .inl ⟨rfl, rfl⟩⟩
@[simp] theorem tyI_130 : tyI Tryz.prog 130 = some (1, false) := by kernel_rfl
@[simp] theorem isSl_130 : isSl Tryz.prog 130 = false := by kernel_rfl
@[simp] theorem isStr_130 : isStr Tryz.prog 130 = false := by kernel_rfl
@[simp] theorem isBool_130 : isBool Tryz.prog 130 = false := by kernel_rfl
@[simp] theorem isPtr_130 : isPtr Tryz.prog 130 = false := by kernel_rfl
@[simp] theorem isIf_130 : isIf Tryz.prog 130 = false := by kernel_rfl
@[simp] theorem isIface_130 : isIface Tryz.prog 130 = false := by kernel_rfl
@[simp] theorem isArr_130 : isArr Tryz.prog 130 = false := by kernel_rfl
@[simp] theorem plainT_130 : plainT Tryz.prog 130 = false := by kernel_rfl
@[simp] theorem zAV_130 : zAV Tryz.prog 9 130 = .raw (.nilFunc) := by kernel_rfl
@[simp] theorem zeroIs_130 : zeroIs Tryz.prog 130 (.raw (.nilFunc)) := ⟨.nilFunc, by kernel_rfl, .inl ⟨rfl, rfl⟩⟩
@[simp] theorem tyI_131 : tyI Tryz.prog 131 = some (1, false) := by kernel_rfl
@[simp] theorem isSl_131 : isSl Tryz.prog 131 = false := by kernel_rfl
@[simp] theorem isStr_131 : isStr Tryz.prog 131 = false := by kernel_rfl
@[simp] theorem isBool_131 : isBool Tryz.prog 131 = false := by kernel_rfl
@[simp] theorem isPtr_131 : isPtr Tryz.prog 131 = false := by kernel_rfl
@[simp] theorem isIf_131 : isIf Tryz.prog 131 = false := by kernel_rfl
@[simp] theorem isIface_131 : isIface Tryz.prog 131 = false := by kernel_rfl
@[simp] theorem isArr_131 : isArr Tryz.prog 131 = false := by kernel_rfl
@[simp] theorem plainT_131 : plainT Tryz.prog 131 = false := by kernel_rfl
@[simp] theorem zAV_131 : zAV Tryz.prog 9 131 = .raw (.nilFunc) := by kernel_rfl
@[simp] theorem zeroIs_131 : zeroIs Tryz.prog 131 (.raw (.nilFunc)) := ⟨.nilFunc, by kernel_rfl, .inl ⟨rfl, rfl⟩⟩
@[simp] theorem tyI_132 : tyI Tryz.prog 132 = some (1, false) := by kernel_rfl
@[simp] theorem isSl_132 : isSl Tryz.prog 132 = false := by kernel_rfl
@[simp] theorem isStr_132 : isStr Tryz.prog 132 = false := by kernel_rfl
@[simp] theorem isBool_132 : isBool Tryz.prog 132 = false := by kernel_rfl
@[simp] theorem isPtr_132 : isPtr Tryz.prog 132 = false := by kernel_rfl
@[simp] theorem isIf_132 : isIf Tryz.prog 132 = false := by kernel_rfl
@[simp] theorem isIface_132 : isIface Tryz.prog 132 = false := by kernel_rfl
@[simp] theorem isArr_132 : isArr Tryz.prog 132 = false := by kernel_rfl
@[simp] theorem plainT_132 : plainT Tryz.prog 132 = true := by kernel_rfl
@[simp] theorem und_132 : Tryz.prog.underlying 132 = some (.int .u64) := by kernel_rfl
@[simp] theorem zAV_132 : zAV Tryz.prog 9 132 = .raw (.int .u64 0) := by kernel_rfl
@[simp] theorem zeroIs_132 : zeroIs Tryz.prog 132 (.raw (.int .u64 0)) := ⟨.int .u64 0, by kernel_rfl, .inl ⟨rfl, rfl⟩⟩
@[simp] theorem tyI_133 : tyI Tryz.prog 133 = some (1, false) := by kernel_rfl
@[simp] theorem isSl_133 : isSl Tryz.prog 133 = false := by kernel_rfl
@[simp] theorem isStr_133 : isStr Tryz.prog 133 = false := by kernel_rfl
@[simp] theorem isBool_133 : isBool Tryz.prog 133 = false := by kernel_rfl
@[simp] theorem isPtr_133 : isPtr Tryz.prog 133 = false := by kernel_rfl
@[simp] theorem isIf_133 : isIf Tryz.prog 133 = false := by kernel_rfl
@[simp] theorem isIface_133 : isIface Tryz.prog 133 = false := by kernel_rfl
@[simp] theorem isArr_133 : isArr Tryz.prog 133 = false := by kernel_rfl
@[simp] theorem plainT_133 : plainT Tryz.prog 133 = false := by kernel_rfl
@[simp] theorem zAV_133 : zAV Tryz.prog 9 133 = .raw (.nilFunc) := by kernel_rfl
@[simp] theorem zeroIs_133 : zeroIs Tryz.prog 133 (.raw (.nilFunc)) := ⟨.nilFunc, by kernel_rfl, .inl ⟨rfl, rfl⟩⟩
@[simp] theorem tyI_134 : tyI Tryz.prog 134 = some (1, false) := by kernel_rfl
@[simp] theorem isSl_134 : isSl Tryz.prog 134 = false := by kernel_rfl
@[simp] theorem isStr_134 : isStr Tryz.prog 134 = false := by kernel_rfl
@[simp] theorem isBool_134 : isBool Tryz.prog 134 = false := by kernel_rfl
@[simp] theorem isPtr_134 : isPtr Tryz.prog 134 = false := by kernel_rfl
@[simp] theorem isIf_134 : isIf Tryz.prog 134 = false := by kernel_rfl
@[simp] theorem isIface_134 : isIface Tryz.prog 134 = false := by kernel_rfl
@[simp] theorem isArr_134 : isArr Tryz.prog 134 = false := by kernel_rfl
@[simp] theorem plainT_134 : plainT Tryz.prog 134 = false := by kernel_rfl
@[simp] theorem zAV_134 : zAV Tryz.prog 9 134 = .raw (.nilFunc) := by kernel_rfl
@[simp] theorem zeroIs_134 : zeroIs Tryz.prog 134 (.raw (.nilFunc)) := ⟨.nilFunc, by kernel_rfl, .inl ⟨rfl, rfl⟩⟩
@[simp] theorem tyI_135 : tyI Tryz.prog 135 = some (1, false) := by kernel_rfl
@[simp] theorem isSl_135 : isSl Tryz.prog 135 = false := by kernel_rfl
@[simp] theorem isStr_135 : isStr Tryz.prog 135 = false := by kernel_rfl
@[simp] theorem isBool_135 : isBool Tryz.prog 135 = false := by kernel_rfl
@[simp] theorem isPtr_135 : isPtr Tryz.prog 135 = false := by kernel_rfl
@[simp] theorem isIf_135 : isIf Tryz.prog 135 = false := by kernel_rfl
@[simp] theorem isIface_135 : isIface Tryz.prog 135 = false := by kernel_rfl
@[simp] theorem isArr_135 : isArr Tryz.prog 135 = false := by kernel_rfl
@[simp] theorem plainT_135 : plainT Tryz.prog 135 = false := by kernel_rfl
@[simp] theorem zAV_135 : zAV Tryz.prog 9 135 = .raw (.nilFunc) := by kernel_rfl
@[simp] theorem zeroIs_135 : zeroIs Tryz.prog 135 (.raw (.nilFunc)) := ⟨.nilFunc, by kernel_rfl, .inl ⟨rfl, rfl⟩⟩
@[simp] theorem tyI_136 : tyI Tryz.prog 136 = some (1, false) := by kernel_rfl
@[simp] theorem isSl_136 : isSl Tryz.prog 136 = false := by kernel_rfl
@[simp] theorem isStr_136 : isStr Tryz.prog 136 = false := by kernel_rfl
@[simp] theorem isBool_136 : isBool Tryz.prog 136 = false := by kernel_rfl
@[simp] theorem isPtr_136 : isPtr Tryz.prog 136 = false := by kernel_rfl
@[simp] theorem isIf_136 : isIf Tryz.prog 136 = false := by kernel_rfl
@[simp] theorem isIface_136 : isIface Tryz.prog 136 = false := by kernel_rfl
@[simp] theorem isArr_136 : isArr Tryz.prog 136 = false := by kernel_rfl
@[simp] theorem plainT_136 : plainT Tryz.prog 136 = false := by kernel_rfl
@[simp] theorem zAV_136 : zAV Tryz.prog 9 136 = .raw (.nilFunc) := by kernel_rfl
@[simp] theorem zeroIs_136 : zeroIs Tryz.prog 136 (.raw (.nilFunc)) := ⟨.nilFunc, by kernel_rfl, .inl ⟨rfl, rfl⟩⟩
@[simp] theorem tyI_137 : tyI Tryz.prog 137 = some (1, false) := by kernel_rfl
@[simp] theorem isSl_137 : isSl Tryz.prog 137 = false := by kernel_rfl
@[simp] theorem isStr_137 : isStr Tryz.prog 137 = false := by kernel_rfl
@[simp] theorem isBool_137 : isBool Tryz.prog 137 = false := by kernel_rfl
@[simp] theorem isPtr_137 : isPtr Tryz.prog 137 = false := by kernel_rfl
@[simp] theorem isIf_137 : isIf Tryz.prog 137 = false := by kernel_rfl
@[simp] theorem isIface_137 : isIface Tryz.prog 137 = false := by kernel_rfl
@[simp] theorem isArr_137 : isArr Tryz.prog 137 = false := by kernel_rfl
@[simp] theorem plainT_137 : plainT Tryz.prog 137 = false := by kernel_rfl
@[simp] theorem zAV_137 : zAV Tryz.prog 9 137 = .raw (.nilFunc) := by kernel_rfl
@[simp] theorem zeroIs_137 : zeroIs Tryz.prog 137 (.raw (.nilFunc)) := ⟨.nilFunc, by kernel_rfl, .inl ⟨rfl, rfl⟩⟩
@[simp] theorem tyI_138 : tyI Tryz.prog 138 = some (1, false) := by kernel_rfl
@[simp] theorem isSl_138 : isSl Tryz.prog 138 = false := by kernel_rfl
@[simp] theorem isStr_138 : isStr Tryz.prog 138 = false := by kernel_rfl
@[simp] theorem isBool_138 : isBool Tryz.prog 138 = false := by kernel_rfl
@[simp] theorem isPtr_138 : isPtr Tryz.prog 138 = false := by kernel_rfl
@[simp] theorem isIf_138 : isIf Tryz.prog 138 = false := by kernel_rfl
@[simp] theorem isIface_138 : isIface Tryz.prog 138 = false := by kernel_rfl
@[simp] theorem isArr_138 : isArr Tryz.prog 138 = false := by kernel_rfl
@[simp] theorem plainT_138 : plainT Tryz.prog 138 = false := by kernel_rfl
@[simp] theorem zAV_138 : zAV Tryz.prog 9 138 = .raw (.nilFunc) := by kernel_rfl
@[simp] theorem zeroIs_138 : zeroIs Tryz.prog 138 (.raw (.nilFunc)) := ⟨.nilFunc, by kernel_rfl, .inl ⟨rfl, rfl⟩⟩
@[simp] theorem tyI_139 : tyI Tryz.prog 139 = some (1, false) := by kernel_rfl
@[simp] theorem isSl_139 : isSl Tryz.prog 139 = false := by kernel_rfl
@[simp] theorem isStr_139 : isStr Tryz.prog 139 = false := by kernel_rfl
@[simp] theorem isBool_139 : isBool Tryz.prog 139 = false := by kernel_rfl
@[simp] theorem isPtr_139 : isPtr Tryz.prog 139 = false := by kernel_rfl
@[simp] theorem isIf_139 : isIf Tryz.prog 139 = false := by kernel_rfl
@[simp] theorem isIface_139 : isIface Tryz.prog 139 = false := by kernel_rfl
@[simp] theorem isArr_139 : isArr Tryz.prog 139 = false := by kernel_rfl
@[simp] theorem plainT_139 : plainT Tryz.prog 139 = false := by kernel_rfl
@[simp] theorem zAV_139 : zAV Tryz.prog 9 139 = .raw (.nilFunc) := by kernel_rfl
@[simp] theorem zeroIs_139 : zeroIs Tryz.prog 139 (.raw (.nilFunc)) := ⟨.nilFunc, by kernel_rfl, .inl ⟨rfl, rfl⟩⟩
@[simp] theorem tyI_140 : tyI Tryz.prog 140 = some (1, false) := by kernel_rfl
@[simp] theorem isSl_140 : isSl Tryz.prog 140 = true := by kernel_rfl
@[simp] theorem isStr_140 : isStr Tryz.prog 140 = false := by kernel_rfl
@[simp] theorem isBool_140 : isBool Tryz.prog 140 = false := by kernel_rfl
@[simp] theorem isPtr_140 : isPtr Tryz.prog 140 = false := by kernel_rfl
@[simp] theorem isIf_140 : isIf Tryz.prog 140 = false := by kernel_rfl
@[simp] theorem isIface_140 : isIface Tryz.prog 140 = false := by kernel_rfl
@[simp] theorem isArr_140 : isArr Tryz.prog 140 = false := by kernel_rfl
@[simp] theorem plainT_140 : plainT Tryz.prog 140 = false := by kernel_rfl
@[simp] theorem rowI_140 : rowI Tryz.prog 140 = some (5, 1, 1) := by kernel_rfl
@[simp] theorem zAV_140 : zAV Tryz.prog 9 140 = .raw (.slice none 0 0) := by kernel_rfl
@[simp] theorem zeroIs_140 : zeroIs Tryz.prog 140 (.raw (.slice none 0 0)) := ⟨.slice none 0 0, by kernel_rfl, .inl ⟨rfl, rfl⟩⟩
@[simp] theorem tyI_141 : tyI Tryz.prog 141 = some (20, true) := by kernel_rfl
@[simp] theorem isSl_141 : isSl Tryz.prog 141 = false := by kernel_rfl
@[simp] theorem isStr_141 : isStr Tryz.prog 141 = false := by kernel_rfl
@[simp] theorem isBool_141 : isBool Tryz.prog 141 = false := by kernel_rfl
@[simp] theorem isPtr_141 : isPtr Tryz.prog 141 = false := by kernel_rfl
@[simp] theorem isIf_141 : isIf Tryz.prog 141 = false := by kernel_rfl
@[simp] theorem isIface_141 : isIface Tryz.prog 141 = false := by kernel_rfl
@[simp] theorem isArr_141 : isArr Tryz.prog 141 = true := by kernel_rfl
@[simp] theorem plainT_141 : plainT Tryz.prog 141 = true := by kernel_rfl
@[simp] theorem arrI_141 : arrI Tryz.prog 141 = some (20, 1) := by kernel_rfl
@[simp] theorem zAV_141 : zAV Tryz.prog 9 141 = .agg [.raw (.int .u8 0), .raw (.int .u8 0), .raw (.int .u8 0), .raw (.int .u8 0), .raw (.int .u8 0), .raw (.int .u8 0), .raw (.int .u8 0), .raw (.int .u8 0), .raw (.int .u8 0), .raw (.int .u8 0), .raw (.int .u8 0), .raw (.int .u8 0), .raw (.int .u8 0), .raw (.int .u8 0), .raw (.int .u8 0), .raw (.int .u8 0), .raw (.int .u8 0), .raw (.int .u8 0), .raw (.int .u8 0), .raw (.int .u8 0)] := by kernel_rfl
@[simp] theorem zeroIs_141 : zeroIs Tryz.prog 141 (.agg [.raw (.int .u8 0), .raw (.int .u8 0), .raw (.int .u8 0), .raw (.int .u8 0), .raw (.int .u8 0), .raw (.int .u8 0), .raw (.int .u8 0), .raw (.int .u8 0), .raw (.int .u8 0), .raw (.int .u8 0), .raw (.int .u8 0), .raw (.int .u8 0), .raw (.int .u8 0), .raw (.int .u8 0), .raw (.int .u8 0), .raw (.int .u8 0), .raw (.int .u8 0), .raw (.int .u8 0), .raw (.int .u8 0), .raw (.int .u8 0)]) := ⟨.agg #[.int .u8 0, .int .u8 0, .int .u8 0, .int .u8 0, .int .u8 0, .int .u8 0, .int .u8 0, .int .u8 0, .int .u8 0, .int .u8 0, .int .u8 0, .int .u8 0, .int .u8 0, .int .u8 0, .int .u8 0, .int .u8 0, .int .u8 0, .int .u8 0, .int .u8 0, .int .u8 0], by kernel_rfl, .inr ⟨_, _, rfl, rfl, by kernel_rfl⟩⟩
@[simp] theorem tyI_142 : tyI Tryz.prog 142 = some (1, false) := by kernel_rfl
@[simp] theorem isSl_142 : isSl Tryz.prog 142 = false := by kernel_rfl
@[simp] theorem isStr_142 : isStr Tryz.prog 142 = false := by kernel_rfl
@[simp] theorem isBool_142 : isBool Tryz.prog 142 = false := by kernel_rfl
@[simp] theorem isPtr_142 : isPtr Tryz.prog 142 = false := by kernel_rfl
@[simp] theorem isIf_142 : isIf Tryz.prog 142 = false := by kernel_rfl
@[simp] theorem isIface_142 : isIface Tryz.prog 142 = false := by kernel_rfl
@[simp] theorem isArr_142 : isArr Tryz.prog 142 = false := by kernel_rfl
@[simp] theorem plainT_142 : plainT Tryz.prog 142 = false := by kernel_rfl
@[simp] theorem zAV_142 : zAV Tryz.prog 9 142 = .raw (.nilFunc) := by kernel_rfl
@[simp] theorem zeroIs_142 : zeroIs Tryz.prog 142 (.raw (.nilFunc)) := ⟨.nilFunc, by kernel_rfl, .inl ⟨rfl, rfl⟩⟩
@[simp] theorem tyI_145 : tyI Tryz.prog 145 = some (0, true) := by kernel_rfl
@[simp] theorem isSl_145 : isSl Tryz.prog 145 = false := by kernel_rfl
@[simp] theorem isStr_145 : isStr Tryz.prog 145 = false := by kernel_rfl
@[simp] theorem isBool_145 : isBool Tryz.prog 145 = false := by kernel_rfl
@[simp] theorem isPtr_145 : isPtr Tryz.prog 145 = false := by kernel_rfl
@[simp] theorem isIf_145 : isIf Tryz.prog 145 = false := by kernel_rfl
@[simp] theorem isIface_145 : isIface Tryz.prog 145 = false := by kernel_rfl
@[simp] theorem isArr_145 : isArr Tryz.prog 145 = true := by kernel_rfl
@[simp] theorem plainT_145 : plainT Tryz.prog 145 = true := by kernel_rfl
@[simp] theorem zAV_145 : zAV Tryz.prog 9 145 = .agg [] := by kernel_rfl
@[simp] theorem zeroIs_145 : zeroIs Tryz.prog 145 (.agg []) := ⟨.agg #[], by kernel_rfl, .inr ⟨_, _, rfl, rfl, by kernel_rfl⟩⟩
@[simp] theorem tyI_146 : tyI Tryz.prog 146 = some (0, true) := by kernel_rfl
@[simp] theorem isSl_146 : isSl Tryz.prog 146 = false := by kernel_rfl
@[simp] theorem isStr_146 : isStr Tryz.prog 146 = false := by kernel_rfl
@[simp] theorem isBool_146 : isBool Tryz.prog 146 = false := by kernel_rfl
@[simp] theorem isPtr_146 : isPtr Tryz.prog 146 = false := by kernel_rfl
@[simp] theorem isIf_146 : isIf Tryz.prog 146 = false := by kernel_rfl
@[simp] theorem isIface_146 : isIface Tryz.prog 146 = false := by kernel_rfl
@[simp] theorem isArr_146 : isArr Tryz.prog 146 = false := by kernel_rfl
@[simp] theorem plainT_146 : plainT Tryz.prog 146 = true := by kernel_rfl
@[simp] theorem zAV_146 : zAV Tryz.prog 9 146 = .agg [.agg []] := by kernel_rfl
@[simp] theorem zeroIs_146 : zeroIs Tryz.prog 146 (.agg [.agg []]) := ⟨.agg #[], by kernel_rfl, .inr ⟨_, _, rfl, rfl, by kernel_rfl⟩⟩
@[simp] theorem layIs_146 : layIs Tryz.prog 146 [.agg []] := layIs_of (by kernel_rfl)
@[simp] theorem tyI_147 : tyI Tryz.prog 147 = some (0, true) := by kernel_rfl
@[simp] theorem isSl_147 : isSl Tryz.prog 147 = false := by kernel_rfl
@[simp] theorem isStr_147 : isStr Tryz.prog 147 = false := by kernel_rfl
@[simp] theorem isBool_147 : isBool Tryz.prog 147 = false := by kernel_rfl
@[simp] theorem isPtr_147 : isPtr Tryz.prog 147 = false := by kernel_rfl
@[simp] theorem isIf_147 : isIf Tryz.prog 147 = false := by kernel_rfl
@[simp] theorem isIface_147 : isIface Tryz.prog 147 = false := by kernel_rfl
@[simp] theorem isArr_147 : isArr Tryz.prog 147 = false := by kernel_rfl
@[simp] theorem plainT_147 : plainT Tryz.prog 147 = true := by kernel_rfl
@[simp] theorem zAV_147 : zAV Tryz.prog 9 147 = .agg [.agg []] := by kernel_rfl
@[simp] theorem zeroIs_147 : zeroIs Tryz.prog 147 (.agg [.agg []]) := ⟨.agg #[], by kernel_rfl, .inr ⟨_, _, rfl, rfl, by kernel_rfl⟩⟩
@[simp] theorem layIs_147 : layIs Tryz.prog 147 [.agg []] := layIs_of (by kernel_rfl)
@[simp] theorem tyI_148 : tyI Tryz.prog 148 = some (1, false) := by kernel_rfl
@[simp] theorem isSl_148 : isSl Tryz.prog 148 = false := by kernel_rfl
@[simp] theorem isStr_148 : isStr Tryz.prog 148 = false := by kernel_rfl
@[simp] theorem isBool_148 : isBool Tryz.prog 148 = false := by kernel_rfl
@[simp] theorem isPtr_148 : isPtr Tryz.prog 148 = false := by kernel_rfl
@[simp] theorem isIf_148 : isIf Tryz.prog 148 = false := by kernel_rfl
@[simp] theorem isIface_148 : isIface Tryz.prog 148 = false := by kernel_rfl
@[simp] theorem isArr_148 : isArr Tryz.prog 148 = false := by kernel_rfl
@[simp] theorem plainT_148 : plainT Tryz.prog 148 = false := by kernel_rfl
@[simp] theorem zAV_148 : zAV Tryz.prog 9 148 = .raw (.nilFunc) := by kernel_rfl
@[simp] theorem zeroIs_148 : zeroIs Tryz.prog 148 (.raw (.nilFunc)) := ⟨.nilFunc, by kernel_rfl, .inl ⟨rfl, rfl⟩⟩
@[simp] theorem tyI_149 : tyI Tryz.prog 149 = some (1, false) := by kernel_rfl
@[simp] theorem isSl_149 : isSl Tryz.prog 149 = false := by kernel_rfl
@[simp] theorem isStr_149 : isStr Tryz.prog 149 = false := by kernel_rfl
@[simp] theorem isBool_149 : isBool Tryz.prog 149 = false := by kernel_rfl
@[simp] theorem isPtr_149 : isPtr Tryz.prog 149 = false := by kernel_rfl
@[simp] theorem isIf_149 : isIf Tryz.prog 149 = false := by kernel_rfl
@[simp] theorem isIface_149 : isIface Tryz.prog 149 = false := by kernel_rfl
@[simp] theorem isArr_149 : isArr Tryz.prog 149 = false := by kernel_rfl
@[simp] theorem plainT_149 : plainT Tryz.prog 149 = false := by kernel_rfl
@[simp] theorem zAV_149 : zAV Tryz.prog 9 149 = .raw (.nilFunc) := by kernel_rfl
@[simp] theorem zeroIs_149 : zeroIs Tryz.prog 149 (.raw (.nilFunc)) := ⟨.nilFunc, by kernel_rfl, .inl ⟨rfl, rfl⟩⟩
@[simp] theorem tyI_150 : tyI Tryz.prog 150 = some (1, false) := by kernel_rfl
@[simp] theorem isSl_150 : isSl Tryz.prog 150 = false := by kernel_rfl
@[simp] theorem isStr_150 : isStr Tryz.prog 150 = false := by kernel_rfl
@[simp] theorem isBool_150 : isBool Tryz.prog 150 = false := by kernel_rfl
@[simp] theorem isPtr_150 : isPtr Tryz.prog 150 = false := by kernel_rfl
@[simp] theorem isIf_150 : isIf Tryz.prog 150 = false := by kernel_rfl
@[simp] theorem isIface_150 : isIface Tryz.prog 150 = false := by kernel_rfl
@[simp] theorem isArr_150 : isArr Tryz.prog 150 = false := by kernel_rfl
@[simp] theorem plainT_150 : plainT Tryz.prog 150 = true := by kernel_rfl
@[simp] theorem und_150 : Tryz.prog.underlying 150 = some (.int .u32) := by kernel_rfl
@[simp] theorem zAV_150 : zAV Tryz.prog 9 150 = .raw (.int .u32 0) := by kernel_rfl
@[simp] theorem zeroIs_150 : zeroIs Tryz.prog 150 (.raw (.int .u32 0)) := ⟨.int .u32 0, by kernel_rfl, .inl ⟨rfl, rfl⟩⟩
@[simp] theorem tyI_151 : tyI Tryz.prog 151 = some (1, false) := by kernel_rfl
@[simp] theorem isSl_151 : isSl Tryz.prog 151 = false := by kernel_rfl
@[simp] theorem isStr_151 : isStr Tryz.prog 151 = false := by kernel_rfl
@[simp] theorem isBool_151 : isBool Tryz.prog 151 = false := by kernel_rfl
@[simp] theorem isPtr_151 : isPtr Tryz.prog 151 = false := by kernel_rfl
@[simp] theorem isIf_151 : isIf Tryz.prog 151 = false := by kernel_rfl
@[simp] theorem isIface_151 : isIface Tryz.prog 151 = false := by kernel_rfl
@[simp] theorem isArr_151 : isArr Tryz.prog 151 = false := by kernel_rfl
@[simp] theorem plainT_151 : plainT Tryz.prog 151 = true := by kernel_rfl
@[simp] theorem und_151 : Tryz.prog.underlying 151 = some (.int .u8) := by kernel_rfl
@[simp] theorem zAV_151 : zAV Tryz.prog 9 151 = .raw (.int .u8 0) := by kernel_rfl
@[simp] theorem zeroIs_151 : zeroIs Tryz.prog 151 (.raw (.int .u8 0)) := ⟨.int .u8 0, by kernel_rfl, .inl ⟨rfl, rfl⟩⟩
@[simp] theorem tyI_152 : tyI Tryz.prog 152 = some (1, false) := by kernel_rfl
@[simp] theorem isSl_152 : isSl Tryz.prog 152 = false := by kernel_rfl
@[simp] theorem isStr_152 : isStr Tryz.prog 152 = false := by kernel_rfl
@[simp] theorem isBool_152 : isBool Tryz.prog 152 = false := by kernel_rfl
@[simp] theorem isPtr_152 : isPtr Tryz.prog 152 = false := by kernel_rfl
@[simp] theorem isIf_152 : isIf Tryz.prog 152 = false := by kernel_rfl
@[simp] theorem isIface_152 : isIface Tryz.prog 152 = false := by kernel_rfl
@[simp] theorem isArr_152 : isArr Tryz.prog 152 = false := by kernel_rfl
@[simp] theorem plainT_152 : plainT Tryz.prog 152 = false := by kernel_rfl
@[simp] theorem zAV_152 : zAV Tryz.prog 9 152 = .raw (.nilFunc) := by kernel_rfl
@[simp] theorem zeroIs_152 : zeroIs Tryz.prog 152 (.raw (.nilFunc)) := ⟨.nilFunc, by kernel_rfl, .inl ⟨rfl, rfl⟩⟩
@[simp] theorem tyI_153 : tyI Tryz.prog 153 = some (1, false) := by kernel_rfl
@[simp] theorem isSl_153 : isSl Tryz.prog 153 = false := by kernel_rfl
@[simp] theorem isStr_153 : isStr Tryz.prog 153 = false := by kernel_rfl
@[simp] theorem isBool_153 : isBool Tryz.prog 153 = false := by kernel_rfl
@[simp] theorem isPtr_153 : isPtr Tryz.prog 153 = true := by kernel_rfl
@[simp] theorem isIf_153 : isIf Tryz.prog 153 = false := by kernel_rfl
@[simp] theorem isIface_153 : isIface Tryz.prog 153 = false := by kernel_rfl
@[simp] theorem isArr_153 : isArr Tryz.prog 153 = false := by kernel_rfl
@[simp] theorem plainT_153 : plainT Tryz.prog 153 = false := by kernel_rfl
@[simp] theorem zAV_153 : zAV Tryz.prog 9 153 = .raw (.pointer none) := by kernel_rfl
@[simp] theorem zeroIs_153 : zeroIs Tryz.prog 153 (.raw (.pointer none)) := ⟨.pointer none, by kernel_rfl, .inl ⟨rfl, rfl⟩⟩
@[simp] theorem tyI_154 : tyI Tryz.prog 154 = some (1, false) := by kernel_rfl
@[simp] theorem isSl_154 : isSl Tryz.prog 154 = false := by kernel_rfl
@[simp] theorem isStr_154 : isStr Tryz.prog 154 = false := by kernel_rfl
@[simp] theorem isBool_154 : isBool Tryz.prog 154 = false := by kernel_rfl
@[simp] theorem isPtr_154 : isPtr Tryz.prog 154 = false := by kernel_rfl
@[simp] theorem isIf_154 : isIf Tryz.prog 154 = false := by kernel_rfl
@[simp] theorem isIface_154 : isIface Tryz.prog 154 = false := by kernel_rfl
@[simp] theorem isArr_154 : isArr Tryz.prog 154 = false := by kernel_rfl
@[simp] theorem plainT_154 : plainT Tryz.prog 154 = true := by kernel_rfl
@[simp] theorem und_154 : Tryz.prog.underlying 154 = some (.int .i32) := by kernel_rfl
@[simp] theorem zAV_154 : zAV Tryz.prog 9 154 = .raw (.int .i32 0) := by kernel_rfl
@[simp] theorem zeroIs_154 : zeroIs Tryz.prog 154 (.raw (.int .i32 0)) := ⟨.int .i32 0, by kernel_rfl, .inl ⟨rfl, rfl⟩⟩
@[simp] theorem tyI_155 : tyI Tryz.prog 155 = some (1, false) := by kernel_rfl
@[simp] theorem isSl_155 : isSl Tryz.prog 155 = false := by kernel_rfl
@[simp] theorem isStr_155 : isStr Tryz.prog 155 = false := by kernel_rfl
@[simp] theorem isBool_155 : isBool Tryz.prog 155 = false := by kernel_rfl
@[simp] theorem isPtr_155 : isPtr Tryz.prog 155 = false := by kernel_rfl
@[simp] theorem isIf_155 : isIf Tryz.prog 155 = false := by kernel_rfl
@[simp] theorem isIface_155 : isIface Tryz.prog 155 = false := by kernel_rfl
@[simp] theorem isArr_155 : isArr Tryz.prog 155 = false := by kernel_rfl
@[simp] theorem plainT_155 : plainT Tryz.prog 155 = true := by kernel_rfl
@[simp] theorem und_155 : Tryz.prog.underlying 155 = some (.int .i32) := by kernel_rfl
@[simp] theorem zAV_155 : zAV Tryz.prog 9 155 = .raw (.int .i32 0) := by kernel_rfl
@[simp] theorem zeroIs_155 : zeroIs Tryz.prog 155 (.raw (.int .i32 0)) := ⟨.int .i32 0, by kernel_rfl, .inl ⟨rfl, rfl⟩⟩
@[simp] theorem tyI_158 : tyI Tryz.prog 158 = some (1, false) := by kernel_rfl
@[simp] theorem isSl_158 : isSl Tryz.prog 158 = false := by kernel_rfl
@[simp] theorem isStr_158 : isStr Tryz.prog 158 = false := by kernel_rfl
@[simp] theorem isBool_158 : isBool Tryz.prog 158 = false := by kernel_rfl
@[simp] theorem isPtr_158 : isPtr Tryz.prog 158 = false := by kernel_rfl
@[simp] theorem isIf_158 : isIf Tryz.prog 158 = false := by kernel_rfl
@[simp] theorem isIface_158 : isIface Tryz.prog 158 = false := by kernel_rfl
@[simp] theorem isArr_158 : isArr Tryz.prog 158 = false := by kernel_rfl
@[simp] theorem plainT_158 : plainT Tryz.prog 158 = false := by kernel_rfl
@[simp] theorem zAV_158 : zAV Tryz.prog 9 158 = .raw (.nilFunc) := by kernel_rfl
@[simp] theorem zeroIs_158 : zeroIs Tryz.prog 158 (.raw (.nilFunc)) := ⟨.nilFunc, by kernel_rfl, .inl ⟨rfl, rfl⟩⟩
@[simp] theorem tyI_159 : tyI Tryz.prog 159 = some (1, false) := by kernel_rfl
@[simp] theorem isSl_159 : isSl Tryz.prog 159 = false := by kernel_rfl
@[simp] theorem isStr_159 : isStr Tryz.prog 159 = false := by kernel_rfl
@[simp] theorem isBool_159 : isBool Tryz.prog 159 = false := by kernel_rfl
@[simp] theorem isPtr_159 : isPtr Tryz.prog 159 = false := by kernel_rfl
@[simp] theorem isIf_159 : isIf Tryz.prog 159 = false := by kernel_rfl
@[simp] theorem isIface_159 : isIface Tryz.prog 159 = false := by kernel_rfl
@[simp] theorem isArr_159 : isArr Tryz.prog 159 = false := by kernel_rfl
@[simp] theorem plainT_159 : plainT Tryz.prog 159 = false := by kernel_rfl
@[simp] theorem zAV_159 : zAV Tryz.prog 9 159 = .raw (.nilFunc) := by kernel_rfl
@[simp] theorem zeroIs_159 : zeroIs Tryz.prog 159 (.raw (.nilFunc)) := ⟨.nilFunc, by kernel_rfl, .inl ⟨rfl, rfl⟩⟩
@[simp] theorem tyI_160 : tyI Tryz.prog 160 = some (2, true) := by kernel_rfl
@[simp] theorem isSl_160 : isSl Tryz.prog 160 = false := by kernel_rfl
@[simp] theorem isStr_160 : isStr Tryz.prog 160 = false := by kernel_rfl
@[simp] theorem isBool_160 : isBool Tryz.prog 160 = false := by kernel_rfl
@[simp] theorem isPtr_160 : isPtr Tryz.prog 160 = false := by kernel_rfl
@[simp] theorem isIf_160 : isIf Tryz.prog 160 = false := by kernel_rfl
@[simp] theorem isIface_160 : isIface Tryz.prog 160 = false := by kernel_rfl
@[simp] theorem isArr_160 : isArr Tryz.prog 160 = false := by kernel_rfl
@[simp] theorem plainT_160 : plainT Tryz.prog 160 = true := by kernel_rfl
@[simp] theorem fldI_160_0 : fldI Tryz.prog 160 0 = some (0, 1, false) := by kernel_rfl
@[simp] theorem fldI_160_1 : fldI Tryz.prog 160 1 = some (1, 1, false) := by kernel_rfl
@[simp] theorem zAV_160 : zAV Tryz.prog 9 160 = .agg [.raw (.string ⟨#[]⟩), .raw (.int .u8 0)] := by kernel_rfl
@[simp] theorem zeroIs_160 : zeroIs Tryz.prog 160 (.agg [.raw (.string ⟨#[]⟩), .raw (.int .u8 0)]) := ⟨.agg #[.string ⟨#[]⟩, .int .u8 0], by kernel_rfl, .inr ⟨_, _, rfl, rfl, by kernel_rfl⟩⟩
@[simp] theorem layIs_160 : layIs Tryz.prog 160 [.raw (.string ⟨#[]⟩), .raw (.int .u8 0)] := layIs_of (by kernel_rfl)
@[simp] theorem tyI_161 : tyI Tryz.prog 161 = some (2, true) := by kernel_rfl
@[simp] theorem isSl_161 : isSl Tryz.prog 161 = false := by kernel_rfl
@[simp] theorem isStr_161 : isStr Tryz.prog 161 = false := by kernel_rfl
@[simp] theorem isBool_161 : isBool Tryz.prog 161 = false := by kernel_rfl
@[simp] theorem isPtr_161 : isPtr Tryz.prog 161 = false := by kernel_rfl
@[simp] theorem isIf_161 : isIf Tryz.prog 161 = false := by kernel_rfl
@[simp] theorem isIface_161 : isIface Tryz.prog 161 = false := by kernel_rfl
@[simp] theorem isArr_161 : isArr Tryz.prog 161 = false := by kernel_rfl
@[simp] theorem plainT_161 : plainT Tryz.prog 161 = true := by kernel_rfl
@[simp] theorem fldI_161_0 : fldI Tryz.prog 161 0 = some (0, 1, false) := by kernel_rfl
@[simp] theorem fldI_161_1 : fldI Tryz.prog 161 1 = some (1, 1, false) := by kernel_rfl
@[simp] theorem zAV_161 : zAV Tryz.prog 9 161 = .agg [.raw (.string ⟨#[]⟩), .raw (.int .u8 0)] := by kernel_rfl
@[simp] theorem zeroIs_161 : zeroIs Tryz.prog 161 (.agg [.raw (.string ⟨#[]⟩), .raw (.int .u8 0)]) := ⟨.agg #[.string ⟨#[]⟩, .int .u8 0], by kernel_rfl, .inr ⟨_, _, rfl, rfl, by kernel_rfl⟩⟩
@[simp] theorem layIs_161 : layIs Tryz.prog 161 [.raw (.string ⟨#[]⟩), .raw (.int .u8 0)] := layIs_of (by kernel_rfl)
@[simp] theorem tyI_162 : tyI Tryz.prog 162 = some (1, false) := by kernel_rfl
@[simp] theorem isSl_162 : isSl Tryz.prog 162 = false := by kernel_rfl
@[simp] theorem isStr_162 : isStr Tryz.prog 162 = false := by kernel_rfl
@[simp] theorem isBool_162 : isBool Tryz.prog 162 = false := by kernel_rfl
@[simp] theorem isPtr_162 : isPtr Tryz.prog 162 = true := by kernel_rfl
@[simp] theorem isIf_162 : isIf Tryz.prog 162 = false := by kernel_rfl
@[simp] theorem isIface_162 : isIface Tryz.prog 162 = false := by kernel_rfl
@[simp] theorem isArr_162 : isArr Tryz.prog 162 = false := by kernel_rfl
@[simp] theorem plainT_162 : plainT Tryz.prog 162 = false := by kernel_rfl
@[simp] theorem zAV_162 : zAV Tryz.prog 9 162 = .raw (.pointer none) := by kernel_rfl
@[simp] theorem zeroIs_162 : zeroIs Tryz.prog 162 (.raw (.pointer none)) := ⟨.pointer none, by kernel_rfl, .inl ⟨rfl, rfl⟩⟩
@[simp] theorem tyI_163 : tyI Tryz.prog 163 = some (1, false) := by kernel_rfl
@[simp] theorem isSl_163 : isSl Tryz.prog 163 = false := by kernel_rfl
@[simp] theorem isStr_163 : isStr Tryz.prog 163 = false := by kernel_rfl
@[simp] theorem isBool_163 : isBool Tryz.prog 163 = false := by kernel_rfl
@[simp] theorem isPtr_163 : isPtr Tryz.prog 163 = false := by kernel_rfl
@[simp] theorem isIf_163 : isIf Tryz.prog 163 = false := by kernel_rfl
@[simp] theorem isIface_163 : isIface Tryz.prog 163 = false := by kernel_rfl
@[simp] theorem isArr_163 : isArr Tryz.prog 163 = false := by kernel_rfl
@[simp] theorem plainT_163 : plainT Tryz.prog 163 = false := by kernel_rfl
@[simp] theorem zAV_163 : zAV Tryz.prog 9 163 = .raw (.nilFunc) := by kernel_rfl
@[simp] theorem zeroIs_163 : zeroIs Tryz.prog 163 (.raw (.nilFunc)) := ⟨.nilFunc, by kernel_rfl, .inl ⟨rfl, rfl⟩⟩
@[simp] theorem tyI_164 : tyI Tryz.prog 164 = some (1, false) := by kernel_rfl
@[simp] theorem isSl_164 : isSl Tryz.prog 164 = false := by kernel_rfl
@[simp] theorem isStr_164 : isStr Tryz.prog 164 = false := by kernel_rfl
@[simp] theorem isBool_164 : isBool Tryz.prog 164 = false := by kernel_rfl
@[simp] theorem isPtr_164 : isPtr Tryz.prog 164 = false := by kernel_rfl
@[simp] theorem isIf_164 : isIf Tryz.prog 164 = false := by kernel_rfl
@[simp] theorem isIface_164 : isIface Tryz.prog 164 = false := by kernel_rfl
@[simp] theorem isArr_164 : isArr Tryz.prog 164 = false := by kernel_rfl
@[simp] theorem plainT_164 : plainT Tryz.prog 164 = true := by kernel_rfl
@[simp] theorem und_164 : Tryz.prog.underlying 164 = some (.int .u16) := by kernel_rfl
@[simp] theorem zAV_164 : zAV Tryz.prog 9 164 = .raw (.int .u16 0) := by kernel_rfl
@[simp] theorem zeroIs_164 : zeroIs Tryz.prog 164 (.raw (.int .u16 0)) := ⟨.int .u16 0, by kernel_rfl, .inl ⟨rfl, rfl⟩⟩
@[simp] theorem tyI_165 : tyI Tryz.prog 165 = some (5, true) := by kernel_rfl
@[simp] theorem isSl_165 : isSl Tryz.prog 165 = false := by kernel_rfl
@[simp] theorem isStr_165 : isStr Tryz.prog 165 = false := by kernel_rfl
@[simp] theorem isBool_165 : isBool Tryz.prog 165 = false := by kernel_rfl
@[simp] theorem isPtr_165 : isPtr Tryz.prog 165 = false := by kernel_rfl
@[simp] theorem isIf_165 : isIf Tryz.prog 165 = false := by kernel_rfl
@[simp] theorem isIface_165 : isIface Tryz.prog 165 = false := by kernel_rfl
@[simp] theorem isArr_165 : isArr Tryz.prog 165 = false := by kernel_rfl
@[simp] theorem plainT_165 : plainT Tryz.prog 165 = true := by kernel_rfl
@[simp] theorem fldI_165_0 : fldI Tryz.prog 165 0 = some (0, 1, false) := by kernel_rfl
@[simp] theorem fldI_165_1 : fldI Tryz.prog 165 1 = some (1, 1, false) := by kernel_rfl
@[simp] theorem fldI_165_2 : fldI Tryz.prog 165 2 = some (2, 1, false) := by kernel_rfl
@[simp] theorem fldI_165_3 : fldI Tryz.prog 165 3 = some (3, 1, false) := by kernel_rfl
@[simp] theorem fldI_165_4 : fldI Tryz.prog 165 4 = some (4, 1, false) := by kernel_rfl
@[simp] theorem zAV_165 : zAV Tryz.prog 9 165 = .agg [.raw (.int .i32 0), .raw (.int .u16 0), .raw (.int .u16 0), .raw (.int .u32 0), .raw (.int .u32 0)] := by kernel_rfl
@[simp] theorem zeroIs_165 : zeroIs Tryz.prog 165 (.agg [.raw (.int .i32 0), .raw (.int .u16 0), .raw (.int .u16 0), .raw (.int .u32 0), .raw (.int .u32 0)]) := ⟨.agg #[.int .i32 0, .int .u16 0, .int .u16 0, .int .u32 0, .int .u32 0], by kernel_rfl, .inr ⟨_, _, rfl, rfl, by kernel_rfl⟩⟩
@[simp] theorem layIs_165 : layIs Tryz.prog 165 [.raw (.int .i32 0), .raw (.int .u16 0), .raw (.int .u16 0), .raw (.int .u32 0), .raw (.int .u32 0)] := layIs_of (by kernel_rfl)
@[simp] theorem tyI_166 : tyI Tryz.prog 166 = some (5, true) := by kernel_rfl
@[simp] theorem isSl_166 : isSl Tryz.prog 166 = false := by kernel_rfl
@[simp] theorem isStr_166 : isStr Tryz.prog 166 = false := by kernel_rfl
@[simp] theorem isBool_166 : isBool Tryz.prog 166 = false := by kernel_rfl
@[simp] theorem isPtr_166 : isPtr Tryz.prog 166 = false := by kernel_rfl
@[simp] theorem isIf_166 : isIf Tryz.prog 166 = false := by kernel_rfl
@[simp] theorem isIface_166 : isIface Tryz.prog 166 = false := by kernel_rfl
@[simp] theorem isArr_166 : isArr Tryz.prog 166 = false := by kernel_rfl
@[simp] theorem plainT_166 : plainT Tryz.prog 166 = true := by kernel_rfl
@[simp] theorem fldI_166_0 : fldI Tryz.prog 166 0 = some (0, 1, false) := by kernel_rfl
@[simp] theorem fldI_166_1 : fldI Tryz.prog 166 1 = some (1, 1, false) := by kernel_rfl
@[simp] theorem fldI_166_2 : fldI Tryz.prog 166 2 = some (2, 1, false) := by kernel_rfl
@[simp] theorem fldI_166_3 : fldI Tryz.prog 166 3 = some (3, 1, false) := by kernel_rfl
@[simp] theorem fldI_166_4 : fldI Tryz.prog 166 4 = some (4, 1, false) := by kernel_rfl
@[simp] theorem zAV_166 : zAV Tryz.prog 9 166 = .agg [.raw (.int .i32 0), .raw (.int .u16 0), .raw (.int .u16 0), .raw (.int .u32 0), .raw (.int .u32 0)] := by kernel_rfl
@[simp] theorem zeroIs_166 : zeroIs Tryz.prog 166 (.agg [.raw (.int .i32 0), .raw (.int .u16 0), .raw (.int .u16 0), .raw (.int .u32 0), .raw (.int .u32 0)]) := ⟨.agg #[.int .i32 0, .int .u16 0, .int .u16 0, .int .u32 0, .int .u32 0], by kernel_rfl, .inr ⟨_, _, rfl, rfl, by kernel_rfl⟩⟩
@[simp] theorem layIs_166 : layIs Tryz.prog 166 [.raw (.int .i32 0), .raw (.int .u16 0), .raw (.int .u16 0), .raw (.int .u32 0), .raw (.int .u32 0)] := layIs_of (by kernel_rfl)
@[simp] theorem tyI_167 : tyI Tryz.prog 167 = some (1, false) := by kernel_rfl
@[simp] theorem isSl_167 : isSl Tryz.prog 167 = true := by kernel_rfl
@[simp] theorem isStr_167 : isStr Tryz.prog 167 = false := by kernel_rfl
@[simp] theorem isBool_167 : isBool Tryz.prog 167 = false := by kernel_rfl
@[simp] theorem isPtr_167 : isPtr Tryz.prog 167 = false := by kernel_rfl
@[simp] theorem isIf_167 : isIf Tryz.prog 167 = false := by kernel_rfl
@[simp] theorem isIface_167 : isIface Tryz.prog 167 = false := by kernel_rfl
@[simp] theorem isArr_167 : isArr Tryz.prog 167 = false := by kernel_rfl
@[simp] theorem plainT_167 : plainT Tryz.prog 167 = false := by kernel_rfl
@[simp] theorem rowI_167 : rowI Tryz.prog 167 = some (170, 4, 16) := by kernel_rfl
@[simp] theorem zAV_167 : zAV Tryz.prog 9 167 = .raw (.slice none 0 0) := by kernel_rfl
@[simp] theorem zeroIs_167 : zeroIs Tryz.prog 167 (.raw (.slice none 0 0)) := ⟨.slice none 0 0, by kernel_rfl, .inl ⟨rfl, rfl⟩⟩
@[simp] theorem tyI_168 : tyI Tryz.prog 168 = some (1, false) := by kernel_rfl
@[simp] theorem isSl_168 : isSl Tryz.prog 168 = false := by kernel_rfl
@[simp] theorem isStr_168 : isStr Tryz.prog 168 = false := by kernel_rfl
@[simp] theorem isBool_168 : isBool Tryz.prog 168 = false := by kernel_rfl
@[simp] theorem isPtr_168 : isPtr Tryz.prog 168 = false := by kernel_rfl
@[simp] theorem isIf_168 : isIf Tryz.prog 168 = false := by kernel_rfl
@[simp] theorem isIface_168 : isIface Tryz.prog 168 = false := by kernel_rfl
@[simp] theorem isArr_168 : isArr Tryz.prog 168 = false := by kernel_rfl
@[simp] theorem plainT_168 : plainT Tryz.prog 168 = true := by kernel_rfl
@[simp] theorem und_168 : Tryz.prog.underlying 168 = some (.int .i32) := by kernel_rfl
@[simp] theorem zAV_168 : zAV Tryz.prog 9 168 = .raw (.int .i32 0) := by kernel_rfl
@[simp] theorem zeroIs_168 : zeroIs Tryz.prog 168 (.raw (.int .i32 0)) := ⟨.int .i32 0, by kernel_rfl, .inl ⟨rfl, rfl⟩⟩
@[simp] theorem tyI_169 : tyI Tryz.prog 169 = some (4, true) := by kernel_rfl
@[simp] theorem isSl_169 : isSl Tryz.prog 169 = false := by kernel_rfl
@[simp] theorem isStr_169 : isStr Tryz.prog 169 = false := by kernel_rfl
@[simp] theorem isBool_169 : isBool Tryz.prog 169 = false := by kernel_rfl
@[simp] theorem isPtr_169 : isPtr Tryz.prog 169 = false := by kernel_rfl
@[simp] theorem isIf_169 : isIf Tryz.prog 169 = false := by kernel_rfl
@[simp] theorem isIface_169 : isIface Tryz.prog 169 = false := by kernel_rfl
@[simp] theorem isArr_169 : isArr Tryz.prog 169 = false := by kernel_rfl
@[simp] theorem plainT_169 : plainT Tryz.prog 169 = true := by kernel_rfl
@[simp] theorem fldI_169_0 : fldI Tryz.prog 169 0 = some (0, 1, false) := by kernel_rfl
@[simp] theorem fldI_169_1 : fldI Tryz.prog 169 1 = some (1, 1, false) := by kernel_rfl
@[simp] theorem fldI_169_2 : fldI Tryz.prog 169 2 = some (2, 1, false) := by kernel_rfl
@[simp] theorem fldI_169_3 : fldI Tryz.prog 169 3 = some (3, 1, false) := by kernel_rfl
@[simp] theorem zAV_169 : zAV Tryz.prog 9 169 = .agg [.raw (.int .i32 0), .raw (.int .i32 0), .raw (.int .i32 0), .raw (.int .i32 0)] := by kernel_rfl
@[simp] theorem zeroIs_169 : zeroIs Tryz.prog 169 (.agg [.raw (.int .i32 0), .raw (.int .i32 0), .raw (.int .i32 0), .raw (.int .i32 0)]) := ⟨.agg #[.int .i32 0, .int .i32 0, .int .i32 0, .int .i32 0], by kernel_rfl, .inr ⟨_, _, rfl, rfl, by kernel_rfl⟩⟩
@[simp] theorem layIs_169 : layIs Tryz.prog 169 [.raw (.int .i32 0), .raw (.int .i32 0), .raw (.int .i32 0), .raw (.int .i32 0)] := layIs_of (by kernel_rfl)
@[simp] theorem tyI_170 : tyI Tryz.prog 170 = some (4, true) := by kernel_rfl
@[simp] theorem isSl_170 : isSl Tryz.prog 170 = false := by kernel_rfl
@[simp] theorem isStr_170 : isStr Tryz.prog 170 = false := by kernel_rfl
@[simp] theorem isBool_170 : isBool Tryz.prog 170 = false := by kernel_rfl
@[simp] theorem isPtr_170 : isPtr Tryz.prog 170 = false := by kernel_rfl
@[simp] theorem isIf_170 : isIf Tryz.prog 170 = false := by kernel_rfl
@[simp] theorem isIface_170 : isIface Tryz.prog 170 = false := by kernel_rfl
@[simp] theorem isArr_170 : isArr Tryz.prog 170 = false := by kernel_rfl
@[simp] theorem plainT_170 : plainT Tryz.prog 170 = true := by kernel_rfl
@[simp] theorem fldI_170_0 : fldI Tryz.prog 170 0 = some (0, 1, false) := by kernel_rfl
@[simp] theorem fldI_170_1 : fldI Tryz.prog 170 1 = some (1, 1, false) := by kernel_rfl
@[simp] theorem fldI_170_2 : fldI Tryz.prog 170 2 = some (2, 1, false) := by kernel_rfl
@[simp] theorem fldI_170_3 : fldI Tryz.prog 170 3 = some (3, 1, false) := by kernel_rfl
@[simp] theorem zAV_170 : zAV Tryz.prog 9 170 = .agg [.raw (.int .i32 0), .raw (.int .i32 0), .raw (.int .i32 0), .raw (.int .i32 0)] := by kernel_rfl
@[simp] theorem zeroIs_170 : zeroIs Tryz.prog 170 (.agg [.raw (.int .i32 0), .raw (.int .i32 0), .raw (.int .i32 0), .raw (.int .i32 0)]) := ⟨.agg #[.int .i32 0, .int .i32 0, .int .i32 0, .int .i32 0], by kernel_rfl, .inr ⟨_, _, rfl, rfl, by kernel_rfl⟩⟩
@[simp] theorem layIs_170 : layIs Tryz.prog 170 [.raw (.int .i32 0), .raw (.int .i32 0), .raw (.int .i32 0), .raw (.int .i32 0)] := layIs_of (by kernel_rfl)
@[simp] theorem tyI_171 : tyI Tryz.prog 171 = some (1, false) := by kernel_rfl
@[simp] theorem isSl_171 : isSl Tryz.prog 171 = false := by kernel_rfl
@[simp] theorem isStr_171 : isStr Tryz.prog 171 = false := by kernel_rfl
@[simp] theorem isBool_171 : isBool Tryz.prog 171 = false := by kernel_rfl
@[simp] theorem isPtr_171 : isPtr Tryz.prog 171 = true := by kernel_rfl
@[simp] theorem isIf_171 : isIf Tryz.prog 171 = false := by kernel_rfl
@[simp] theorem isIface_171 : isIface Tryz.prog 171 = false := by kernel_rfl
@[simp] theorem isArr_171 : isArr Tryz.prog 171 = false := by kernel_rfl
@[simp] theorem plainT_171 : plainT Tryz.prog 171 = false := by kernel_rfl
@[simp] theorem zAV_171 : zAV Tryz.prog 9 171 = .raw (.pointer none) := by kernel_rfl
@[simp] theorem zeroIs_171 : zeroIs Tryz.prog 171 (.raw (.pointer none)) := ⟨.pointer none, by kernel_rfl, .inl ⟨rfl, rfl⟩⟩
@[simp] theorem isFn_3 : isFn Tryz.prog 3 = true := by kernel_rfl
@[simp] theorem isFn_4 : isFn Tryz.prog 4 = true := by kernel_rfl
@[simp] theorem isFn_5 : isFn Tryz.prog 5 = true := by kernel_rfl
@[simp] theorem isFn_6 : isFn Tryz.prog 6 = true := by kernel_rfl
@[simp] theorem isFn_7 : isFn Tryz.prog 7 = true := by kernel_rfl
@[simp] theorem isFn_8 : isFn Tryz.prog 8 = true := by kernel_rfl
@[simp] theorem isFn_9 : isFn Tryz.prog 9 = true := by kernel_rfl
@[simp] theorem isFn_10 : isFn Tryz.prog 10 = true := by kernel_rfl
@[simp] theorem isFn_11 : isFn Tryz.prog 11 = true := by kernel_rfl
@[simp] theorem isFn_12 : isFn Tryz.prog 12 = true := by kernel_rfl
@[simp] theorem isFn_13 : isFn Tryz.prog 13 = true := by kernel_rfl
@[simp] theorem isFn_14 : isFn Tryz.prog 14 = true := by kernel_rfl
@[simp] theorem isFn_15 : isFn Tryz.prog 15 = true := by kernel_rfl
@[simp] theorem isFn_16 : isFn Tryz.prog 16 = true := by kernel_rfl
@[simp] theorem isFn_17 : isFn Tryz.prog 17 = true := by kernel_rfl
@[simp] theorem isFn_18 : isFn Tryz.prog 18 = true := by kernel_rfl
@[simp] theorem isFn_19 : isFn Tryz.prog 19 = true := by kernel_rfl
@[simp] theorem isFn_20 : isFn Tryz.prog 20 = true := by kernel_rfl
@[simp] theorem isFn_21 : isFn Tryz.prog 21 = true := by kernel_rfl
@[simp] theorem isFn_22 : isFn Tryz.prog 22 = true := by kernel_rfl
@[simp] theorem isFn_23 : isFn Tryz.prog 23 = true := by kernel_rfl
@[simp] theorem isFn_24 : isFn Tryz.prog 24 = true := by kernel_rfl
@[simp] theorem isFn_25 : isFn Tryz.prog 25 = true := by kernel_rfl
@[simp] theorem isFn_26 : isFn Tryz.prog 26 = true := by kernel_rfl
@[simp] theorem isFn_27 : isFn Tryz.prog 27 = true := by kernel_rfl
@[simp] theorem isFn_28 : isFn Tryz.prog 28 = true := by kernel_rfl
@[simp] theorem isFn_29 : isFn Tryz.prog 29 = true := by kernel_rfl
@[simp] theorem isFn_31 : isFn Tryz.prog 31 = true := by kernel_rfl
@[simp] theorem isFn_32 : isFn Tryz.prog 32 = true := by kernel_rfl
@[simp] theorem isFn_33 : isFn Tryz.prog 33 = true := by kernel_rfl
@[simp] theorem isFn_34 : isFn Tryz.prog 34 = true := by kernel_rfl
@[simp] theorem isFn_35 : isFn Tryz.prog 35 = true := by kernel_rfl
@[simp] theorem isFn_36 : isFn Tryz.prog 36 = true := by kernel_rfl
@[simp] theorem isFn_40 : isFn Tryz.prog 40 = true := by kernel_rfl
@[simp] theorem isFn_41 : isFn Tryz.prog 41 = true := by kernel_rfl
@[simp] theorem isFn_42 : isFn Tryz.prog 42 = true := by kernel_rfl
@[simp] theorem isFn_43 : isFn Tryz.prog 43 = true := by kernel_rfl
@[simp] theorem isFn_44 : isFn Tryz.prog 44 = true := by kernel_rfl
@[simp] theorem isFn_45 : isFn Tryz.prog 45 = true := by kernel_rfl
@[simp] theorem isFn_46 : isFn Tryz.prog 46 = true := by kernel_rfl
@[simp] theorem isFn_47 : isFn Tryz.prog 47 = true := by kernel_rfl
@[simp] theorem isFn_48 : isFn Tryz.prog 48 = true := by kernel_rfl
@[simp] theorem isFn_49 : isFn Tryz.prog 49 = true := by kernel_rfl
@[simp] theorem isFn_50 : isFn Tryz.prog 50 = true := by kernel_rfl
@[simp] theorem isFn_51 : isFn Tryz.prog 51 = true := by kernel_rfl
@[simp] theorem isFn_52 : isFn Tryz.prog 52 = true := by kernel_rfl
@[simp] theorem isFn_56 : isFn Tryz.prog 56 = true := by kernel_rfl
@[simp] theorem isFn_57 : isFn Tryz.prog 57 = true := by kernel_rfl
@[simp] theorem isFn_58 : isFn Tryz.prog 58 = true := by kernel_rfl
@[simp] theorem isFn_59 : isFn Tryz.prog 59 = true := by kernel_rfl
@[simp] theorem isFn_60 : isFn Tryz.prog 60 = true := by kernel_rfl
@[simp] theorem isFn_61 : isFn Tryz.prog 61 = true := by kernel_rfl
@[simp] theorem isFn_62 : isFn Tryz.prog 62 = true := by kernel_rfl
@[simp] theorem isFn_63 : isFn Tryz.prog 63 = true := by kernel_rfl
@[simp] theorem isFn_64 : isFn Tryz.prog 64 = true := by kernel_rfl
@[simp] theorem isFn_65 : isFn Tryz.prog 65 = true := by kernel_rfl
@[simp] theorem isFn_66 : isFn Tryz.prog 66 = true := by kernel_rfl
@[simp] theorem isFn_67 : isFn Tryz.prog 67 = true := by kernel_rfl
@[simp] theorem isFn_68 : isFn Tryz.prog 68 = true := by kernel_rfl
@[simp] theorem isFn_69 : isFn Tryz.prog 69 = true := by kernel_rfl
@[simp] theorem isFn_70 : isFn Tryz.prog 70 = true := by kernel_rfl
@[simp] theorem isFn_71 : isFn Tryz.prog 71 = true := by kernel_rfl
@[simp] theorem isFn_72 : isFn Tryz.prog 72 = true := by kernel_rfl
@[simp] theorem isFn_73 : isFn Tryz.prog 73 = true := by kernel_rfl
@[simp] theorem isFn_74 : isFn Tryz.prog 74 = true := by kernel_rfl
@[simp] theorem isFn_75 : isFn Tryz.prog 75 = true := by kernel_rfl
@[simp] theorem isFn_76 : isFn Tryz.prog 76 = true := by kernel_rfl
@[simp] theorem isFn_77 : isFn Tryz.prog 77 = true := by kernel_rfl
@[simp] theorem isFn_78 : isFn Tryz.prog 78 = true := by kernel_rfl
@[simp] theorem isFn_79 : isFn Tryz.prog 79 = true := by kernel_rfl
@[simp] theorem isFn_80 : isFn Tryz.prog 80 = true := by kernel_rfl
@[simp] theorem isFn_81 : isFn Tryz.prog 81 = true := by kernel_rfl
@[simp] theorem isFn_82 : isFn Tryz.prog 82 = true := by kernel_rfl
@[simp] theorem isFn_83 : isFn Tryz.prog 83 = true := by kernel_rfl
@[simp] theorem isFn_84 : isFn Tryz.prog 84 = true := by kernel_rfl
@[simp] theorem isFn_85 : isFn Tryz.prog 85 = true := by kernel_rfl
@[simp] theorem isFn_86 : isFn Tryz.prog 86 = true := by kernel_rfl
end Go.Proofs.YtjbbnollidcagaaGreatDoor.Asl

