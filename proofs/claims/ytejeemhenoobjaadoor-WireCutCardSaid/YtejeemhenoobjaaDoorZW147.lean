/- Part 7 of what the row leans on: abstract values and states, their rules, and the contracts of the functions. -/
import Derived.Test.YtejeemhenoobjaaDoorProg
import Derived.Test.YtejeemhenoobjaaDoorZW146
namespace Go.Proofs.YtejeemhenoobjaaDoor.Asl
open Go
theorem mixed : Tryd.prog.follows .mixedOrders = true := by kernel_rfl
@[simp] theorem isSl_0 : isSl Tryd.prog 0 = false := by kernel_rfl
@[simp] theorem tyI_1 : tyI Tryd.prog 1 = some (1, false) := by kernel_rfl
@[simp] theorem isSl_1 : isSl Tryd.prog 1 = false := by kernel_rfl
@[simp] theorem isStr_1 : isStr Tryd.prog 1 = false := by kernel_rfl
@[simp] theorem isBool_1 : isBool Tryd.prog 1 = false := by kernel_rfl
@[simp] theorem isPtr_1 : isPtr Tryd.prog 1 = false := by kernel_rfl
@[simp] theorem isIf_1 : isIf Tryd.prog 1 = false := by kernel_rfl
@[simp] theorem isIface_1 : isIface Tryd.prog 1 = false := by kernel_rfl
@[simp] theorem isArr_1 : isArr Tryd.prog 1 = false := by kernel_rfl
@[simp] theorem plainT_1 : plainT Tryd.prog 1 = false := by kernel_rfl
@[simp] theorem zAV_1 : zAV Tryd.prog 9 1 = .raw (.nilFunc) := by kernel_rfl
@[simp] theorem zeroIs_1 : zeroIs Tryd.prog 1 (.raw (.nilFunc)) := ⟨.nilFunc, by kernel_rfl, .inl ⟨rfl, rfl⟩⟩
@[simp] theorem tyI_2 : tyI Tryd.prog 2 = some (1, false) := by kernel_rfl
@[simp] theorem isSl_2 : isSl Tryd.prog 2 = false := by kernel_rfl
@[simp] theorem isStr_2 : isStr Tryd.prog 2 = false := by kernel_rfl
@[simp] theorem isBool_2 : isBool Tryd.prog 2 = false := by kernel_rfl
@[simp] theorem isPtr_2 : isPtr Tryd.prog 2 = false := by kernel_rfl
@[simp] theorem isIf_2 : isIf Tryd.prog 2 = false := by kernel_rfl
@[simp] theorem isIface_2 : isIface Tryd.prog 2 = false := by kernel_rfl
@[simp] theorem isArr_2 : isArr Tryd.prog 2 = false := by kernel_rfl
@[simp] theorem plainT_2 : plainT Tryd.prog 2 = true := by kernel_rfl
@[simp] theorem und_2 : Tryd.prog.underlying 2 = some (.int .i64) := by kernel_rfl
@[simp] theorem zAV_2 : zAV Tryd.prog 9 2 = .raw (.int .i64 0) := by kernel_rfl
@[simp] theorem zeroIs_2 : zeroIs Tryd.prog 2 (.raw (.int .i64 0)) := ⟨.int .i64 0, by kernel_rfl, .inl ⟨rfl, rfl⟩⟩
@[simp] theorem tyI_3 : tyI Tryd.prog 3 = some (1, false) := by kernel_rfl
@[simp] theorem isSl_3 : isSl Tryd.prog 3 = false := by kernel_rfl
@[simp] theorem isStr_3 : isStr Tryd.prog 3 = false := by kernel_rfl
@[simp] theorem isBool_3 : isBool Tryd.prog 3 = false := by kernel_rfl
@[simp] theorem isPtr_3 : isPtr Tryd.prog 3 = false := by kernel_rfl
@[simp] theorem isIf_3 : isIf Tryd.prog 3 = false := by kernel_rfl
@[simp] theorem isIface_3 : isIface Tryd.prog 3 = false := by kernel_rfl
@[simp] theorem isArr_3 : isArr Tryd.prog 3 = false := by kernel_rfl
@[simp] theorem plainT_3 : plainT Tryd.prog 3 = true := by kernel_rfl
@[simp] theorem und_3 : Tryd.prog.underlying 3 = some (.int .i64) := by kernel_rfl
@[simp] theorem zAV_3 : zAV Tryd.prog 9 3 = .raw (.int .i64 0) := by kernel_rfl
@[simp] theorem zeroIs_3 : zeroIs Tryd.prog 3 (.raw (.int .i64 0)) := ⟨.int .i64 0, by kernel_rfl, .inl ⟨rfl, rfl⟩⟩
@[simp] theorem tyI_4 : tyI Tryd.prog 4 = some (1, false) := by kernel_rfl
@[simp] theorem isSl_4 : isSl Tryd.prog 4 = false := by kernel_rfl
@[simp] theorem isStr_4 : isStr Tryd.prog 4 = false := by kernel_rfl
@[simp] theorem isBool_4 : isBool Tryd.prog 4 = true := by kernel_rfl
@[simp] theorem isPtr_4 : isPtr Tryd.prog 4 = false := by kernel_rfl
@[simp] theorem isIf_4 : isIf Tryd.prog 4 = false := by kernel_rfl
@[simp] theorem isIface_4 : isIface Tryd.prog 4 = false := by kernel_rfl
@[simp] theorem isArr_4 : isArr Tryd.prog 4 = false := by kernel_rfl
@[simp] theorem plainT_4 : plainT Tryd.prog 4 = true := by kernel_rfl
@[simp] theorem zAV_4 : zAV Tryd.prog 9 4 = .raw (.bool false) := by kernel_rfl
@[simp] theorem zeroIs_4 : zeroIs Tryd.prog 4 (.raw (.bool false)) := ⟨.bool false, by kernel_rfl, .inl ⟨rfl, rfl⟩⟩
@[simp] theorem tyI_5 : tyI Tryd.prog 5 = some (1, false) := by kernel_rfl
@[simp] theorem isSl_5 : isSl Tryd.prog 5 = false := by kernel_rfl
@[simp] theorem isStr_5 : isStr Tryd.prog 5 = false := by kernel_rfl
@[simp] theorem isBool_5 : isBool Tryd.prog 5 = false := by kernel_rfl
@[simp] theorem isPtr_5 : isPtr Tryd.prog 5 = false := by kernel_rfl
@[simp] theorem isIf_5 : isIf Tryd.prog 5 = false := by kernel_rfl
@[simp] theorem isIface_5 : isIface Tryd.prog 5 = false := by kernel_rfl
@[simp] theorem isArr_5 : isArr Tryd.prog 5 = false := by kernel_rfl
@[simp] theorem plainT_5 : plainT Tryd.prog 5 = true := by kernel_rfl
@[simp] theorem und_5 : Tryd.prog.underlying 5 = some (.int .u8) := by kernel_rfl
@[simp] theorem zAV_5 : zAV Tryd.prog 9 5 = .raw (.int .u8 0) := by kernel_rfl
@[simp] theorem zeroIs_5 : zeroIs Tryd.prog 5 (.raw (.int .u8 0)) := ⟨.int .u8 0, by kernel_rfl, .inl ⟨rfl, rfl⟩⟩
@[simp] theorem tyI_6 : tyI Tryd.prog 6 = some (1, false) := by kernel_rfl
@[simp] theorem isSl_6 : isSl Tryd.prog 6 = false := by kernel_rfl
@[simp] theorem isStr_6 : isStr Tryd.prog 6 = false := by kernel_rfl
@[simp] theorem isBool_6 : isBool Tryd.prog 6 = false := by kernel_rfl
@[simp] theorem isPtr_6 : isPtr Tryd.prog 6 = false := by kernel_rfl
@[simp] theorem isIf_6 : isIf Tryd.prog 6 = false := by kernel_rfl
@[simp] theorem isIface_6 : isIface Tryd.prog 6 = false := by kernel_rfl
@[simp] theorem isArr_6 : isArr Tryd.prog 6 = false := by kernel_rfl
@[simp] theorem plainT_6 : plainT Tryd.prog 6 = true := by kernel_rfl
@[simp] theorem und_6 : Tryd.prog.underlying 6 = some (.int .u8) := by kernel_rfl
@[simp] theorem zAV_6 : zAV Tryd.prog 9 6 = .raw (.int .u8 0) := by kernel_rfl
@[simp] theorem zeroIs_6 : zeroIs Tryd.prog 6 (.raw (.int .u8 0)) := ⟨.int .u8 0, by kernel_rfl, .inl ⟨rfl, rfl⟩⟩
@[simp] theorem tyI_7 : tyI Tryd.prog 7 = some (4, true) := by kernel_rfl
@[simp] theorem isSl_7 : isSl Tryd.prog 7 = false := by kernel_rfl
@[simp] theorem isStr_7 : isStr Tryd.prog 7 = false := by kernel_rfl
@[simp] theorem isBool_7 : isBool Tryd.prog 7 = false := by kernel_rfl
@[simp] theorem isPtr_7 : isPtr Tryd.prog 7 = false := by kernel_rfl
@[simp] theorem isIf_7 : isIf Tryd.prog 7 = false := by kernel_rfl
@[simp] theorem isIface_7 : isIface Tryd.prog 7 = false := by kernel_rfl
@[simp] theorem isArr_7 : isArr Tryd.prog 7 = false := by kernel_rfl
@[simp] theorem plainT_7 : plainT Tryd.prog 7 = true := by kernel_rfl
@[simp] theorem fldI_7_0 : fldI Tryd.prog 7 0 = some (0, 1, false) := by kernel_rfl
@[simp] theorem fldI_7_1 : fldI Tryd.prog 7 1 = some (1, 1, false) := by kernel_rfl
@[simp] theorem fldI_7_2 : fldI Tryd.prog 7 2 = some (2, 1, false) := by kernel_rfl
@[simp] theorem fldI_7_3 : fldI Tryd.prog 7 3 = some (3, 1, false) := by kernel_rfl
@[simp] theorem zAV_7 : zAV Tryd.prog 9 7 = .agg [.raw (.int .i64 0), .raw (.int .i64 0), .raw (.bool false), .raw (.int .u8 0)] := by kernel_rfl
@[simp] theorem zeroIs_7 : zeroIs Tryd.prog 7 (.agg [.raw (.int .i64 0), .raw (.int .i64 0), .raw (.bool false), .raw (.int .u8 0)]) := ⟨.agg #[.int .i64 0, .int .i64 0, .bool false, .int .u8 0], by kernel_rfl, .inr ⟨_, _, rfl, rfl, by kernel_rfl⟩⟩
@[simp] theorem layIs_7 : layIs Tryd.prog 7 [.raw (.int .i64 0), .raw (.int .i64 0), .raw (.bool false), .raw (.int .u8 0)] := layIs_of (by kernel_rfl)
@[simp] theorem tyI_8 : tyI Tryd.prog 8 = some (4, true) := by kernel_rfl
@[simp] theorem isSl_8 : isSl Tryd.prog 8 = false := by kernel_rfl
@[simp] theorem isStr_8 : isStr Tryd.prog 8 = false := by kernel_rfl
@[simp] theorem isBool_8 : isBool Tryd.prog 8 = false := by kernel_rfl
@[simp] theorem isPtr_8 : isPtr Tryd.prog 8 = false := by kernel_rfl
@[simp] theorem isIf_8 : isIf Tryd.prog 8 = false := by kernel_rfl
@[simp] theorem isIface_8 : isIface Tryd.prog 8 = false := by kernel_rfl
@[simp] theorem isArr_8 : isArr Tryd.prog 8 = false := by kernel_rfl
@[simp] theorem plainT_8 : plainT Tryd.prog 8 = true := by kernel_rfl
@[simp] theorem fldI_8_0 : fldI Tryd.prog 8 0 = some (0, 1, false) := by kernel_rfl
@[simp] theorem fldI_8_1 : fldI Tryd.prog 8 1 = some (1, 1, false) := by kernel_rfl
@[simp] theorem fldI_8_2 : fldI Tryd.prog 8 2 = some (2, 1, false) := by kernel_rfl
@[simp] theorem fldI_8_3 : fldI Tryd.prog 8 3 = some (3, 1, false) := by kernel_rfl
@[simp] theorem zAV_8 : zAV Tryd.prog 9 8 = .agg [.raw (.int .i64 0), .raw (.int .i64 0), .raw (.bool false), .raw (.int .u8 0)] := by kernel_rfl
@[simp] theorem zeroIs_8 : zeroIs Tryd.prog 8 (.agg [.raw (.int .i64 0), .raw (.int .i64 0), .raw (.bool false), .raw (.int .u8 0)]) := ⟨.agg #[.int .i64 0, .int .i64 0, .bool false, .int .u8 0], by kernel_rfl, .inr ⟨_, _, rfl, rfl, by kernel_rfl⟩⟩
@[simp] theorem layIs_8 : layIs Tryd.prog 8 [.raw (.int .i64 0), .raw (.int .i64 0), .raw (.bool false), .raw (.int .u8 0)] := layIs_of (by kernel_rfl)
@[simp] theorem tyI_9 : tyI Tryd.prog 9 = some (1, false) := by kernel_rfl
@[simp] theorem isSl_9 : isSl Tryd.prog 9 = false := by kernel_rfl
@[simp] theorem isStr_9 : isStr Tryd.prog 9 = true := by kernel_rfl
@[simp] theorem isBool_9 : isBool Tryd.prog 9 = false := by kernel_rfl
@[simp] theorem isPtr_9 : isPtr Tryd.prog 9 = false := by kernel_rfl
@[simp] theorem isIf_9 : isIf Tryd.prog 9 = false := by kernel_rfl
@[simp] theorem isIface_9 : isIface Tryd.prog 9 = false := by kernel_rfl
@[simp] theorem isArr_9 : isArr Tryd.prog 9 = false := by kernel_rfl
@[simp] theorem plainT_9 : plainT Tryd.prog 9 = true := by kernel_rfl
@[simp] theorem und_9 : Tryd.prog.underlying 9 = some .string := by kernel_rfl
@[simp] theorem zAV_9 : zAV Tryd.prog 9 9 = .raw (.string ⟨#[]⟩) := by kernel_rfl
@[simp] theorem zeroIs_9 : zeroIs Tryd.prog 9 (.raw (.string ⟨#[]⟩)) := ⟨.string ⟨#[]⟩, by kernel_rfl, .inl ⟨rfl, rfl⟩⟩
@[simp] theorem tyI_10 : tyI Tryd.prog 10 = some (1, false) := by kernel_rfl
@[simp] theorem isSl_10 : isSl Tryd.prog 10 = false := by kernel_rfl
@[simp] theorem isStr_10 : isStr Tryd.prog 10 = true := by kernel_rfl
@[simp] theorem isBool_10 : isBool Tryd.prog 10 = false := by kernel_rfl
@[simp] theorem isPtr_10 : isPtr Tryd.prog 10 = false := by kernel_rfl
@[simp] theorem isIf_10 : isIf Tryd.prog 10 = false := by kernel_rfl
@[simp] theorem isIface_10 : isIface Tryd.prog 10 = false := by kernel_rfl
@[simp] theorem isArr_10 : isArr Tryd.prog 10 = false := by kernel_rfl
@[simp] theorem plainT_10 : plainT Tryd.prog 10 = true := by kernel_rfl
@[simp] theorem und_10 : Tryd.prog.underlying 10 = some .string := by kernel_rfl
@[simp] theorem zAV_10 : zAV Tryd.prog 9 10 = .raw (.string ⟨#[]⟩) := by kernel_rfl
@[simp] theorem zeroIs_10 : zeroIs Tryd.prog 10 (.raw (.string ⟨#[]⟩)) := ⟨.string ⟨#[]⟩, by kernel_rfl, .inl ⟨rfl, rfl⟩⟩
@[simp] theorem tyI_11 : tyI Tryd.prog 11 = some (1, false) := by kernel_rfl
@[simp] theorem isSl_11 : isSl Tryd.prog 11 = false := by kernel_rfl
@[simp] theorem isStr_11 : isStr Tryd.prog 11 = true := by kernel_rfl
@[simp] theorem isBool_11 : isBool Tryd.prog 11 = false := by kernel_rfl
@[simp] theorem isPtr_11 : isPtr Tryd.prog 11 = false := by kernel_rfl
@[simp] theorem isIf_11 : isIf Tryd.prog 11 = false := by kernel_rfl
@[simp] theorem isIface_11 : isIface Tryd.prog 11 = false := by kernel_rfl
@[simp] theorem isArr_11 : isArr Tryd.prog 11 = false := by kernel_rfl
@[simp] theorem plainT_11 : plainT Tryd.prog 11 = true := by kernel_rfl
@[simp] theorem und_11 : Tryd.prog.underlying 11 = some .string := by kernel_rfl
@[simp] theorem zAV_11 : zAV Tryd.prog 9 11 = .raw (.string ⟨#[]⟩) := by kernel_rfl
@[simp] theorem zeroIs_11 : zeroIs Tryd.prog 11 (.raw (.string ⟨#[]⟩)) := ⟨.string ⟨#[]⟩, by kernel_rfl, .inl ⟨rfl, rfl⟩⟩
@[simp] theorem tyI_12 : tyI Tryd.prog 12 = some (1, false) := by kernel_rfl
@[simp] theorem isSl_12 : isSl Tryd.prog 12 = false := by kernel_rfl
@[simp] theorem isStr_12 : isStr Tryd.prog 12 = false := by kernel_rfl
@[simp] theorem isBool_12 : isBool Tryd.prog 12 = false := by kernel_rfl
@[simp] theorem isPtr_12 : isPtr Tryd.prog 12 = false := by kernel_rfl
@[simp] theorem isIf_12 : isIf Tryd.prog 12 = false := by kernel_rfl
@[simp] theorem isIface_12 : isIface Tryd.prog 12 = false := by kernel_rfl
@[simp] theorem isArr_12 : isArr Tryd.prog 12 = false := by kernel_rfl
@[simp] theorem plainT_12 : plainT Tryd.prog 12 = true := by kernel_rfl
@[simp] theorem und_12 : Tryd.prog.underlying 12 = some (.int .u64) := by kernel_rfl
@[simp] theorem zAV_12 : zAV Tryd.prog 9 12 = .raw (.int .u64 0) := by kernel_rfl
@[simp] theorem zeroIs_12 : zeroIs Tryd.prog 12 (.raw (.int .u64 0)) := ⟨.int .u64 0, by kernel_rfl, .inl ⟨rfl, rfl⟩⟩
@[simp] theorem tyI_13 : tyI Tryd.prog 13 = some (2, true) := by kernel_rfl
@[simp] theorem isSl_13 : isSl Tryd.prog 13 = false := by kernel_rfl
@[simp] theorem isStr_13 : isStr Tryd.prog 13 = false := by kernel_rfl
@[simp] theorem isBool_13 : isBool Tryd.prog 13 = false := by kernel_rfl
@[simp] theorem isPtr_13 : isPtr Tryd.prog 13 = false := by kernel_rfl
@[simp] theorem isIf_13 : isIf Tryd.prog 13 = false := by kernel_rfl
@[simp] theorem isIface_13 : isIface Tryd.prog 13 = false := by kernel_rfl
@[simp] theorem isArr_13 : isArr Tryd.prog 13 = false := by kernel_rfl
@[simp] theorem plainT_13 : plainT Tryd.prog 13 = true := by kernel_rfl
@[simp] theorem fldI_13_0 : fldI Tryd.prog 13 0 = some (0, 1, false) := by kernel_rfl
@[simp] theorem fldI_13_1 : fldI Tryd.prog 13 1 = some (1, 1, false) := by kernel_rfl
@[simp] theorem zAV_13 : zAV Tryd.prog 9 13 = .agg [.raw (.string ⟨#[]⟩), .raw (.int .u64 0)] := by kernel_rfl
@[simp] theorem zeroIs_13 : zeroIs Tryd.prog 13 (.agg [.raw (.string ⟨#[]⟩), .raw (.int .u64 0)]) := ⟨.agg #[.string ⟨#[]⟩, .int .u64 0], by kernel_rfl, .inr ⟨_, _, rfl, rfl, by kernel_rfl⟩⟩
@[simp] theorem layIs_13 : layIs Tryd.prog 13 [.raw (.string ⟨#[]⟩), .raw (.int .u64 0)] := layIs_of (by kernel_rfl)
@[simp] theorem tyI_14 : tyI Tryd.prog 14 = some (2, true) := by kernel_rfl
@[simp] theorem isSl_14 : isSl Tryd.prog 14 = false := by kernel_rfl
@[simp] theorem isStr_14 : isStr Tryd.prog 14 = false := by kernel_rfl
@[simp] theorem isBool_14 : isBool Tryd.prog 14 = false := by kernel_rfl
@[simp] theorem isPtr_14 : isPtr Tryd.prog 14 = false := by kernel_rfl
@[simp] theorem isIf_14 : isIf Tryd.prog 14 = false := by kernel_rfl
@[simp] theorem isIface_14 : isIface Tryd.prog 14 = false := by kernel_rfl
@[simp] theorem isArr_14 : isArr Tryd.prog 14 = false := by kernel_rfl
@[simp] theorem plainT_14 : plainT Tryd.prog 14 = true := by kernel_rfl
@[simp] theorem fldI_14_0 : fldI Tryd.prog 14 0 = some (0, 1, false) := by kernel_rfl
@[simp] theorem fldI_14_1 : fldI Tryd.prog 14 1 = some (1, 1, false) := by kernel_rfl
@[simp] theorem zAV_14 : zAV Tryd.prog 9 14 = .agg [.raw (.string ⟨#[]⟩), .raw (.int .u64 0)] := by kernel_rfl
@[simp] theorem zeroIs_14 : zeroIs Tryd.prog 14 (.agg [.raw (.string ⟨#[]⟩), .raw (.int .u64 0)]) := ⟨.agg #[.string ⟨#[]⟩, .int .u64 0], by kernel_rfl, .inr ⟨_, _, rfl, rfl, by kernel_rfl⟩⟩
@[simp] theorem layIs_14 : layIs Tryd.prog 14 [.raw (.string ⟨#[]⟩), .raw (.int .u64 0)] := layIs_of (by kernel_rfl)
@[simp] theorem tyI_15 : tyI Tryd.prog 15 = some (1, false) := by kernel_rfl
@[simp] theorem isSl_15 : isSl Tryd.prog 15 = false := by kernel_rfl
@[simp] theorem isStr_15 : isStr Tryd.prog 15 = false := by kernel_rfl
@[simp] theorem isBool_15 : isBool Tryd.prog 15 = false := by kernel_rfl
@[simp] theorem isPtr_15 : isPtr Tryd.prog 15 = true := by kernel_rfl
@[simp] theorem isIf_15 : isIf Tryd.prog 15 = false := by kernel_rfl
@[simp] theorem isIface_15 : isIface Tryd.prog 15 = false := by kernel_rfl
@[simp] theorem isArr_15 : isArr Tryd.prog 15 = false := by kernel_rfl
@[simp] theorem plainT_15 : plainT Tryd.prog 15 = false := by kernel_rfl
@[simp] theorem zAV_15 : zAV Tryd.prog 9 15 = .raw (.pointer none) := by kernel_rfl
@[simp] theorem zeroIs_15 : zeroIs Tryd.prog 15 (.raw (.pointer none)) := ⟨.pointer none, by kernel_rfl, .inl ⟨rfl, rfl⟩⟩
@[simp] theorem tyI_16 : tyI Tryd.prog 16 = some (1, false) := by kernel_rfl
@[simp] theorem isSl_16 : isSl Tryd.prog 16 = false := by kernel_rfl
@[simp] theorem isStr_16 : isStr Tryd.prog 16 = false := by kernel_rfl
@[simp] theorem isBool_16 : isBool Tryd.prog 16 = false := by kernel_rfl
@[simp] theorem isPtr_16 : isPtr Tryd.prog 16 = true := by kernel_rfl
@[simp] theorem isIf_16 : isIf Tryd.prog 16 = false := by kernel_rfl
@[simp] theorem isIface_16 : isIface Tryd.prog 16 = false := by kernel_rfl
@[simp] theorem isArr_16 : isArr Tryd.prog 16 = false := by kernel_rfl
@[simp] theorem plainT_16 : plainT Tryd.prog 16 = false := by kernel_rfl
@[simp] theorem zAV_16 : zAV Tryd.prog 9 16 = .raw (.pointer none) := by kernel_rfl
@[simp] theorem zeroIs_16 : zeroIs Tryd.prog 16 (.raw (.pointer none)) := ⟨.pointer none, by kernel_rfl, .inl ⟨rfl, rfl⟩⟩
@[simp] theorem tyI_17 : tyI Tryd.prog 17 = some (1, false) := by kernel_rfl
@[simp] theorem isSl_17 : isSl Tryd.prog 17 = false := by kernel_rfl
@[simp] theorem isStr_17 : isStr Tryd.prog 17 = false := by kernel_rfl
@[simp] theorem isBool_17 : isBool Tryd.prog 17 = false := by kernel_rfl
@[simp] theorem isPtr_17 : isPtr Tryd.prog 17 = true := by kernel_rfl
@[simp] theorem isIf_17 : isIf Tryd.prog 17 = false := by kernel_rfl
@[simp] theorem isIface_17 : isIface Tryd.prog 17 = false := by kernel_rfl
@[simp] theorem isArr_17 : isArr Tryd.prog 17 = false := by kernel_rfl
@[simp] theorem plainT_17 : plainT Tryd.prog 17 = false := by kernel_rfl
@[simp] theorem zAV_17 : zAV Tryd.prog 9 17 = .raw (.pointer none) := by kernel_rfl
@[simp] theorem zeroIs_17 : zeroIs Tryd.prog 17 (.raw (.pointer none)) := ⟨.pointer none, by kernel_rfl, .inl ⟨rfl, rfl⟩⟩
@[simp] theorem tyI_18 : tyI Tryd.prog 18 = some (1, true) := by kernel_rfl
@[simp] theorem isSl_18 : isSl Tryd.prog 18 = false := by kernel_rfl
@[simp] theorem isStr_18 : isStr Tryd.prog 18 = false := by kernel_rfl
@[simp] theorem isBool_18 : isBool Tryd.prog 18 = false := by kernel_rfl
@[simp] theorem isPtr_18 : isPtr Tryd.prog 18 = false := by kernel_rfl
@[simp] theorem isIf_18 : isIf Tryd.prog 18 = false := by kernel_rfl
@[simp] theorem isIface_18 : isIface Tryd.prog 18 = false := by kernel_rfl
@[simp] theorem isArr_18 : isArr Tryd.prog 18 = false := by kernel_rfl
@[simp] theorem plainT_18 : plainT Tryd.prog 18 = false := by kernel_rfl
@[simp] theorem fldI_18_0 : fldI Tryd.prog 18 0 = some (0, 1, false) := by kernel_rfl
@[simp] theorem zAV_18 : zAV Tryd.prog 9 18 = .agg [.raw (.pointer none)] := by kernel_rfl
@[simp] theorem zeroIs_18 : zeroIs Tryd.prog 18 (.agg [.raw (.pointer none)]) := ⟨.agg #[.pointer none], by kernel_rfl, .inr ⟨_, _, rfl, rfl, by kernel_rfl⟩⟩
@[simp] theorem layIs_18 : layIs Tryd.prog 18 [.raw (.pointer none)] := layIs_of (by kernel_rfl)
@[simp] theorem tyI_19 : tyI Tryd.prog 19 = some (1, true) := by kernel_rfl
@[simp] theorem isSl_19 : isSl Tryd.prog 19 = false := by kernel_rfl
@[simp] theorem isStr_19 : isStr Tryd.prog 19 = false := by kernel_rfl
@[simp] theorem isBool_19 : isBool Tryd.prog 19 = false := by kernel_rfl
@[simp] theorem isPtr_19 : isPtr Tryd.prog 19 = false := by kernel_rfl
@[simp] theorem isIf_19 : isIf Tryd.prog 19 = false := by kernel_rfl
@[simp] theorem isIface_19 : isIface Tryd.prog 19 = false := by kernel_rfl
@[simp] theorem isArr_19 : isArr Tryd.prog 19 = false := by kernel_rfl
@[simp] theorem plainT_19 : plainT Tryd.prog 19 = false := by kernel_rfl
@[simp] theorem fldI_19_0 : fldI Tryd.prog 19 0 = some (0, 1, false) := by kernel_rfl
@[simp] theorem zAV_19 : zAV Tryd.prog 9 19 = .agg [.raw (.pointer none)] := by kernel_rfl
@[simp] theorem zeroIs_19 : zeroIs Tryd.prog 19 (.agg [.raw (.pointer none)]) := ⟨.agg #[.pointer none], by kernel_rfl, .inr ⟨_, _, rfl, rfl, by kernel_rfl⟩⟩
@[simp] theorem layIs_19 : layIs Tryd.prog 19 [.raw (.pointer none)] := layIs_of (by kernel_rfl)
@[simp] theorem tyI_20 : tyI Tryd.prog 20 = some (1, false) := by kernel_rfl
@[simp] theorem isSl_20 : isSl Tryd.prog 20 = false := by kernel_rfl
@[simp] theorem isStr_20 : isStr Tryd.prog 20 = false := by kernel_rfl
@[simp] theorem isBool_20 : isBool Tryd.prog 20 = false := by kernel_rfl
@[simp] theorem isPtr_20 : isPtr Tryd.prog 20 = false := by kernel_rfl
@[simp] theorem isIf_20 : isIf Tryd.prog 20 = true := by kernel_rfl
@[simp] theorem isIface_20 : isIface Tryd.prog 20 = true := by kernel_rfl
@[simp] theorem isArr_20 : isArr Tryd.prog 20 = false := by kernel_rfl
@[simp] theorem plainT_20 : plainT Tryd.prog 20 = false := by kernel_rfl
@[simp] theorem zAV_20 : zAV Tryd.prog 9 20 = .raw (.nilIface) := by kernel_rfl
@[simp] theorem zeroIs_20 : zeroIs Tryd.prog 20 (.raw (.nilIface)) := ⟨.nilIface, by kernel_rfl, .inl ⟨rfl, rfl⟩⟩
@[simp] theorem tyI_21 : tyI Tryd.prog 21 = some (1, false) := by kernel_rfl
@[simp] theorem isSl_21 : isSl Tryd.prog 21 = false := by kernel_rfl
@[simp] theorem isStr_21 : isStr Tryd.prog 21 = false := by kernel_rfl
@[simp] theorem isBool_21 : isBool Tryd.prog 21 = false := by kernel_rfl
@[simp] theorem isPtr_21 : isPtr Tryd.prog 21 = false := by kernel_rfl
@[simp] theorem isIf_21 : isIf Tryd.prog 21 = false := by kernel_rfl
@[simp] theorem isIface_21 : isIface Tryd.prog 21 = false := by kernel_rfl
@[simp] theorem isArr_21 : isArr Tryd.prog 21 = false := by kernel_rfl
@[simp] theorem plainT_21 : plainT Tryd.prog 21 = true := by kernel_rfl
@[simp] theorem und_21 : Tryd.prog.underlying 21 = some (.int .i32) := by kernel_rfl
@[simp] theorem zAV_21 : zAV Tryd.prog 9 21 = .raw (.int .i32 0) := by kernel_rfl
@[simp] theorem zeroIs_21 : zeroIs Tryd.prog 21 (.raw (.int .i32 0)) := ⟨.int .i32 0, by kernel_rfl, .inl ⟨rfl, rfl⟩⟩
@[simp] theorem tyI_22 : tyI Tryd.prog 22 = some (1, false) := by kernel_rfl
@[simp] theorem isSl_22 : isSl Tryd.prog 22 = true := by kernel_rfl
@[simp] theorem isStr_22 : isStr Tryd.prog 22 = false := by kernel_rfl
@[simp] theorem isBool_22 : isBool Tryd.prog 22 = false := by kernel_rfl
@[simp] theorem isPtr_22 : isPtr Tryd.prog 22 = false := by kernel_rfl
@[simp] theorem isIf_22 : isIf Tryd.prog 22 = false := by kernel_rfl
@[simp] theorem isIface_22 : isIface Tryd.prog 22 = false := by kernel_rfl
@[simp] theorem isArr_22 : isArr Tryd.prog 22 = false := by kernel_rfl
@[simp] theorem plainT_22 : plainT Tryd.prog 22 = false := by kernel_rfl
@[simp] theorem rowI_22 : rowI Tryd.prog 22 = some (52, 8, 96) := by kernel_rfl
@[simp] theorem zAV_22 : zAV Tryd.prog 9 22 = .raw (.slice none 0 0) := by kernel_rfl
@[simp] theorem zeroIs_22 : zeroIs Tryd.prog 22 (.raw (.slice none 0 0)) := ⟨.slice none 0 0, by kernel_rfl, .inl ⟨rfl, rfl⟩⟩
@[simp] theorem tyI_23 : tyI Tryd.prog 23 = some (1, false) := by kernel_rfl
@[simp] theorem isSl_23 : isSl Tryd.prog 23 = true := by kernel_rfl
@[simp] theorem isStr_23 : isStr Tryd.prog 23 = false := by kernel_rfl
@[simp] theorem isBool_23 : isBool Tryd.prog 23 = false := by kernel_rfl
@[simp] theorem isPtr_23 : isPtr Tryd.prog 23 = false := by kernel_rfl
@[simp] theorem isIf_23 : isIf Tryd.prog 23 = false := by kernel_rfl
@[simp] theorem isIface_23 : isIface Tryd.prog 23 = false := by kernel_rfl
@[simp] theorem isArr_23 : isArr Tryd.prog 23 = false := by kernel_rfl
@[simp] theorem plainT_23 : plainT Tryd.prog 23 = false := by kernel_rfl
@[simp] theorem rowI_23 : rowI Tryd.prog 23 = some (54, 4, 40) := by kernel_rfl
@[simp] theorem zAV_23 : zAV Tryd.prog 9 23 = .raw (.slice none 0 0) := by kernel_rfl
@[simp] theorem zeroIs_23 : zeroIs Tryd.prog 23 (.raw (.slice none 0 0)) := ⟨.slice none 0 0, by kernel_rfl, .inl ⟨rfl, rfl⟩⟩
@[simp] theorem tyI_24 : tyI Tryd.prog 24 = some (3, true) := by kernel_rfl
@[simp] theorem isSl_24 : isSl Tryd.prog 24 = false := by kernel_rfl
@[simp] theorem isStr_24 : isStr Tryd.prog 24 = false := by kernel_rfl
@[simp] theorem isBool_24 : isBool Tryd.prog 24 = false := by kernel_rfl
@[simp] theorem isPtr_24 : isPtr Tryd.prog 24 = false := by kernel_rfl
@[simp] theorem isIf_24 : isIf Tryd.prog 24 = false := by kernel_rfl
@[simp] theorem isIface_24 : isIface Tryd.prog 24 = false := by kernel_rfl
@[simp] theorem isArr_24 : isArr Tryd.prog 24 = false := by kernel_rfl
@[simp] theorem plainT_24 : plainT Tryd.prog 24 = false := by kernel_rfl
@[simp] theorem fldI_24_0 : fldI Tryd.prog 24 0 = some (0, 1, false) := by kernel_rfl
@[simp] theorem fldI_24_1 : fldI Tryd.prog 24 1 = some (1, 1, false) := by kernel_rfl
@[simp] theorem fldI_24_2 : fldI Tryd.prog 24 2 = some (2, 1, false) := by kernel_rfl
@[simp] theorem zAV_24 : zAV Tryd.prog 9 24 = .agg [.raw (.string ⟨#[]⟩), .raw (.slice none 0 0), .raw (.slice none 0 0)] := by kernel_rfl
@[simp] theorem zeroIs_24 : zeroIs Tryd.prog 24 (.agg [.raw (.string ⟨#[]⟩), .raw (.slice none 0 0), .raw (.slice none 0 0)]) := ⟨.agg #[.string ⟨#[]⟩, .slice none 0 0, .slice none 0 0], by kernel_rfl, .inr ⟨_, _, rfl, rfl, by kernel_rfl⟩⟩
@[simp] theorem layIs_24 : layIs Tryd.prog 24 [.raw (.string ⟨#[]⟩), .raw (.slice none 0 0), .raw (.slice none 0 0)] := layIs_of (by kernel_rfl)
@[simp] theorem tyI_25 : tyI Tryd.prog 25 = some (3, true) := by kernel_rfl
@[simp] theorem isSl_25 : isSl Tryd.prog 25 = false := by kernel_rfl
@[simp] theorem isStr_25 : isStr Tryd.prog 25 = false := by kernel_rfl
@[simp] theorem isBool_25 : isBool Tryd.prog 25 = false := by kernel_rfl
@[simp] theorem isPtr_25 : isPtr Tryd.prog 25 = false := by kernel_rfl
@[simp] theorem isIf_25 : isIf Tryd.prog 25 = false := by kernel_rfl
@[simp] theorem isIface_25 : isIface Tryd.prog 25 = false := by kernel_rfl
@[simp] theorem isArr_25 : isArr Tryd.prog 25 = false := by kernel_rfl
@[simp] theorem plainT_25 : plainT Tryd.prog 25 = false := by kernel_rfl
@[simp] theorem fldI_25_0 : fldI Tryd.prog 25 0 = some (0, 1, false) := by kernel_rfl
@[simp] theorem fldI_25_1 : fldI Tryd.prog 25 1 = some (1, 1, false) := by kernel_rfl
@[simp] theorem fldI_25_2 : fldI Tryd.prog 25 2 = some (2, 1, false) := by kernel_rfl
@[simp] theorem zAV_25 : zAV Tryd.prog 9 25 = .agg [.raw (.string ⟨#[]⟩), .raw (.slice none 0 0), .raw (.slice none 0 0)] := by kernel_rfl
@[simp] theorem zeroIs_25 : zeroIs Tryd.prog 25 (.agg [.raw (.string ⟨#[]⟩), .raw (.slice none 0 0), .raw (.slice none 0 0)]) := ⟨.agg #[.string ⟨#[]⟩, .slice none 0 0, .slice none 0 0], by kernel_rfl, .inr ⟨_, _, rfl, rfl, by kernel_rfl⟩⟩
@[simp] theorem layIs_25 : layIs Tryd.prog 25 [.raw (.string ⟨#[]⟩), .raw (.slice none 0 0), .raw (.slice none 0 0)] := layIs_of (by kernel_rfl)
@[simp] theorem tyI_26 : tyI Tryd.prog 26 = some (1, false) := by kernel_rfl
@[simp] theorem isSl_26 : isSl Tryd.prog 26 = true := by kernel_rfl
@[simp] theorem isStr_26 : isStr Tryd.prog 26 = false := by kernel_rfl
@[simp] theorem isBool_26 : isBool Tryd.prog 26 = false := by kernel_rfl
@[simp] theorem isPtr_26 : isPtr Tryd.prog 26 = false := by kernel_rfl
@[simp] theorem isIf_26 : isIf Tryd.prog 26 = false := by kernel_rfl
@[simp] theorem isIface_26 : isIface Tryd.prog 26 = false := by kernel_rfl
@[simp] theorem isArr_26 : isArr Tryd.prog 26 = false := by kernel_rfl
@[simp] theorem plainT_26 : plainT Tryd.prog 26 = false := by kernel_rfl
@[simp] theorem rowI_26 : rowI Tryd.prog 26 = some (5, 1, 1) := by kernel_rfl
@[simp] theorem zAV_26 : zAV Tryd.prog 9 26 = .raw (.slice none 0 0) := by kernel_rfl
@[simp] theorem zeroIs_26 : zeroIs Tryd.prog 26 (.raw (.slice none 0 0)) := ⟨.slice none 0 0, by kernel_rfl, .inl ⟨rfl, rfl⟩⟩
@[simp] theorem tyI_27 : tyI Tryd.prog 27 = some (1, false) := by kernel_rfl
@[simp] theorem isSl_27 : isSl Tryd.prog 27 = false := by kernel_rfl
@[simp] theorem isStr_27 : isStr Tryd.prog 27 = false := by kernel_rfl
@[simp] theorem isBool_27 : isBool Tryd.prog 27 = false := by kernel_rfl
@[simp] theorem isPtr_27 : isPtr Tryd.prog 27 = false := by kernel_rfl
@[simp] theorem isIf_27 : isIf Tryd.prog 27 = false := by kernel_rfl
@[simp] theorem isIface_27 : isIface Tryd.prog 27 = false := by kernel_rfl
@[simp] theorem isArr_27 : isArr Tryd.prog 27 = false := by kernel_rfl
@[simp] theorem plainT_27 : plainT Tryd.prog 27 = false := by kernel_rfl
@[simp] theorem zAV_27 : zAV Tryd.prog 9 27 = .raw (.nilFunc) := by kernel_rfl
@[simp] theorem zeroIs_27 : zeroIs Tryd.prog 27 (.raw (.nilFunc)) := ⟨.nilFunc, by kernel_rfl, .inl ⟨rfl, rfl⟩⟩
@[simp] theorem tyI_28 : tyI Tryd.prog 28 = some (1, false) := by kernel_rfl
@[simp] theorem isSl_28 : isSl Tryd.prog 28 = false := by kernel_rfl
@[simp] theorem isStr_28 : isStr Tryd.prog 28 = false := by kernel_rfl
@[simp] theorem isBool_28 : isBool Tryd.prog 28 = false := by kernel_rfl
@[simp] theorem isPtr_28 : isPtr Tryd.prog 28 = false := by kernel_rfl
@[simp] theorem isIf_28 : isIf Tryd.prog 28 = false := by kernel_rfl
@[simp] theorem isIface_28 : isIface Tryd.prog 28 = false := by kernel_rfl
@[simp] theorem isArr_28 : isArr Tryd.prog 28 = false := by kernel_rfl
@[simp] theorem plainT_28 : plainT Tryd.prog 28 = false := by kernel_rfl
@[simp] theorem zAV_28 : zAV Tryd.prog 9 28 = .raw (.nilFunc) := by kernel_rfl
@[simp] theorem zeroIs_28 : zeroIs Tryd.prog 28 (.raw (.nilFunc)) := ⟨.nilFunc, by kernel_rfl, .inl ⟨rfl, rfl⟩⟩
@[simp] theorem tyI_29 : tyI Tryd.prog 29 = some (1, false) := by kernel_rfl
@[simp] theorem isSl_29 : isSl Tryd.prog 29 = false := by kernel_rfl
@[simp] theorem isStr_29 : isStr Tryd.prog 29 = false := by kernel_rfl
@[simp] theorem isBool_29 : isBool Tryd.prog 29 = false := by kernel_rfl
@[simp] theorem isPtr_29 : isPtr Tryd.prog 29 = false := by kernel_rfl
@[simp] theorem isIf_29 : isIf Tryd.prog 29 = false := by kernel_rfl
@[simp] theorem isIface_29 : isIface Tryd.prog 29 = false := by kernel_rfl
@[simp] theorem isArr_29 : isArr Tryd.prog 29 = false := by kernel_rfl
@[simp] theorem plainT_29 : plainT Tryd.prog 29 = true := by kernel_rfl
@[simp] theorem und_29 : Tryd.prog.underlying 29 = some (.int .i64) := by kernel_rfl
@[simp] theorem zAV_29 : zAV Tryd.prog 9 29 = .raw (.int .i64 0) := by kernel_rfl
@[simp] theorem zeroIs_29 : zeroIs Tryd.prog 29 (.raw (.int .i64 0)) := ⟨.int .i64 0, by kernel_rfl, .inl ⟨rfl, rfl⟩⟩
@[simp] theorem isSl_30 : isSl Tryd.prog 30 = false := by kernel_rfl
@[simp] theorem tyI_31 : tyI Tryd.prog 31 = some (1, false) := by kernel_rfl
@[simp] theorem isSl_31 : isSl Tryd.prog 31 = false := by kernel_rfl
@[simp] theorem isStr_31 : isStr Tryd.prog 31 = false := by kernel_rfl
@[simp] theorem isBool_31 : isBool Tryd.prog 31 = false := by kernel_rfl
@[simp] theorem isPtr_31 : isPtr Tryd.prog 31 = false := by kernel_rfl
@[simp] theorem isIf_31 : isIf Tryd.prog 31 = false := by kernel_rfl
@[simp] theorem isIface_31 : isIface Tryd.prog 31 = false := by kernel_rfl
@[simp] theorem isArr_31 : isArr Tryd.prog 31 = false := by kernel_rfl
@[simp] theorem plainT_31 : plainT Tryd.prog 31 = false := by kernel_rfl
@[simp] theorem zAV_31 : zAV Tryd.prog 9 31 = .raw (.nilFunc) := by kernel_rfl
@[simp] theorem zeroIs_31 : zeroIs Tryd.prog 31 (.raw (.nilFunc)) := ⟨.nilFunc, by kernel_rfl, .inl ⟨rfl, rfl⟩⟩
@[simp] theorem tyI_32 : tyI Tryd.prog 32 = some (1, false) := by kernel_rfl
@[simp] theorem isSl_32 : isSl Tryd.prog 32 = false := by kernel_rfl
@[simp] theorem isStr_32 : isStr Tryd.prog 32 = false := by kernel_rfl
@[simp] theorem isBool_32 : isBool Tryd.prog 32 = false := by kernel_rfl
@[simp] theorem isPtr_32 : isPtr Tryd.prog 32 = false := by kernel_rfl
@[simp] theorem isIf_32 : isIf Tryd.prog 32 = true := by kernel_rfl
@[simp] theorem isIface_32 : isIface Tryd.prog 32 = true := by kernel_rfl
@[simp] theorem isArr_32 : isArr Tryd.prog 32 = false := by kernel_rfl
@[simp] theorem plainT_32 : plainT Tryd.prog 32 = false := by kernel_rfl
@[simp] theorem zAV_32 : zAV Tryd.prog 9 32 = .raw (.nilIface) := by kernel_rfl
@[simp] theorem zeroIs_32 : zeroIs Tryd.prog 32 (.raw (.nilIface)) := ⟨.nilIface, by kernel_rfl, .inl ⟨rfl, rfl⟩⟩
@[simp] theorem tyI_33 : tyI Tryd.prog 33 = some (1, false) := by kernel_rfl
@[simp] theorem isSl_33 : isSl Tryd.prog 33 = false := by kernel_rfl
@[simp] theorem isStr_33 : isStr Tryd.prog 33 = false := by kernel_rfl
@[simp] theorem isBool_33 : isBool Tryd.prog 33 = false := by kernel_rfl
@[simp] theorem isPtr_33 : isPtr Tryd.prog 33 = false := by kernel_rfl
@[simp] theorem isIf_33 : isIf Tryd.prog 33 = true := by kernel_rfl
@[simp] theorem isIface_33 : isIface Tryd.prog 33 = true := by kernel_rfl
@[simp] theorem isArr_33 : isArr Tryd.prog 33 = false := by kernel_rfl
@[simp] theorem plainT_33 : plainT Tryd.prog 33 = false := by kernel_rfl
@[simp] theorem zAV_33 : zAV Tryd.prog 9 33 = .raw (.nilIface) := by kernel_rfl
@[simp] theorem zeroIs_33 : zeroIs Tryd.prog 33 (.raw (.nilIface)) := ⟨.nilIface, by kernel_rfl, .inl ⟨rfl, rfl⟩⟩
@[simp] theorem isSl_34 : isSl Tryd.prog 34 = false := by kernel_rfl
@[simp] theorem tyI_35 : tyI Tryd.prog 35 = some (1, false) := by kernel_rfl
@[simp] theorem isSl_35 : isSl Tryd.prog 35 = false := by kernel_rfl
@[simp] theorem isStr_35 : isStr Tryd.prog 35 = false := by kernel_rfl
@[simp] theorem isBool_35 : isBool Tryd.prog 35 = false := by kernel_rfl
@[simp] theorem isPtr_35 : isPtr Tryd.prog 35 = false := by kernel_rfl
@[simp] theorem isIf_35 : isIf Tryd.prog 35 = false := by kernel_rfl
@[simp] theorem isIface_35 : isIface Tryd.prog 35 = false := by kernel_rfl
@[simp] theorem isArr_35 : isArr Tryd.prog 35 = false := by kernel_rfl
@[simp] theorem plainT_35 : plainT Tryd.prog 35 = false := by kernel_rfl
@[simp] theorem zAV_35 : zAV Tryd.prog 9 35 = .raw (.nilFunc) := by kernel_rfl
@[simp] theorem zeroIs_35 : zeroIs Tryd.prog 35 (.raw (.nilFunc)) := ⟨.nilFunc, by kernel_rfl, .inl ⟨rfl, rfl⟩⟩
@[simp] theorem tyI_36 : tyI Tryd.prog 36 = some (1, false) := by kernel_rfl
@[simp] theorem isSl_36 : isSl Tryd.prog 36 = false := by kernel_rfl
@[simp] theorem isStr_36 : isStr Tryd.prog 36 = false := by kernel_rfl
@[simp] theorem isBool_36 : isBool Tryd.prog 36 = false := by kernel_rfl
@[simp] theorem isPtr_36 : isPtr Tryd.prog 36 = false := by kernel_rfl
@[simp] theorem isIf_36 : isIf Tryd.prog 36 = false := by kernel_rfl
@[simp] theorem isIface_36 : isIface Tryd.prog 36 = false := by kernel_rfl
@[simp] theorem isArr_36 : isArr Tryd.prog 36 = false := by kernel_rfl
@[simp] theorem plainT_36 : plainT Tryd.prog 36 = false := by kernel_rfl
@[simp] theorem zAV_36 : zAV Tryd.prog 9 36 = .raw (.nilFunc) := by kernel_rfl
@[simp] theorem zeroIs_36 : zeroIs Tryd.prog 36 (.raw (.nilFunc)) := ⟨.nilFunc, by kernel_rfl, .inl ⟨rfl, rfl⟩⟩
@[simp] theorem tyI_37 : tyI Tryd.prog 37 = some (1, false) := by kernel_rfl
@[simp] theorem isSl_37 : isSl Tryd.prog 37 = false := by kernel_rfl
@[simp] theorem isStr_37 : isStr Tryd.prog 37 = false := by kernel_rfl
@[simp] theorem isBool_37 : isBool Tryd.prog 37 = false := by kernel_rfl
@[simp] theorem isPtr_37 : isPtr Tryd.prog 37 = false := by kernel_rfl
@[simp] theorem isIf_37 : isIf Tryd.prog 37 = false := by kernel_rfl
@[simp] theorem isIface_37 : isIface Tryd.prog 37 = false := by kernel_rfl
@[simp] theorem isArr_37 : isArr Tryd.prog 37 = false := by kernel_rfl
@[simp] theorem plainT_37 : plainT Tryd.prog 37 = false := by kernel_rfl
@[simp] theorem zAV_37 : zAV Tryd.prog 9 37 = .raw (.nilFunc) := by kernel_rfl
@[simp] theorem zeroIs_37 : zeroIs Tryd.prog 37 (.raw (.nilFunc)) := ⟨.nilFunc, by kernel_rfl, .inl ⟨rfl, rfl⟩⟩
@[simp] theorem tyI_38 : tyI Tryd.prog 38 = some (1, false) := by kernel_rfl
@[simp] theorem isSl_38 : isSl Tryd.prog 38 = false := by kernel_rfl
@[simp] theorem isStr_38 : isStr Tryd.prog 38 = false := by kernel_rfl
@[simp] theorem isBool_38 : isBool Tryd.prog 38 = false := by kernel_rfl
@[simp] theorem isPtr_38 : isPtr Tryd.prog 38 = false := by kernel_rfl
@[simp] theorem isIf_38 : isIf Tryd.prog 38 = false := by kernel_rfl
@[simp] theorem isIface_38 : isIface Tryd.prog 38 = false := by kernel_rfl
@[simp] theorem isArr_38 : isArr Tryd.prog 38 = false := by kernel_rfl
@[simp] theorem plainT_38 : plainT Tryd.prog 38 = false := by kernel_rfl
@[simp] theorem zAV_38 : zAV Tryd.prog 9 38 = .raw (.nilFunc) := by kernel_rfl
@[simp] theorem zeroIs_38 : zeroIs Tryd.prog 38 (.raw (.nilFunc)) := ⟨.nilFunc, by kernel_rfl, .inl ⟨rfl, rfl⟩⟩
@[simp] theorem tyI_39 : tyI Tryd.prog 39 = some (1, false) := by kernel_rfl
@[simp] theorem isSl_39 : isSl Tryd.prog 39 = true := by kernel_rfl
@[simp] theorem isStr_39 : isStr Tryd.prog 39 = false := by kernel_rfl
@[simp] theorem isBool_39 : isBool Tryd.prog 39 = false := by kernel_rfl
@[simp] theorem isPtr_39 : isPtr Tryd.prog 39 = false := by kernel_rfl
@[simp] theorem isIf_39 : isIf Tryd.prog 39 = false := by kernel_rfl
@[simp] theorem isIface_39 : isIface Tryd.prog 39 = false := by kernel_rfl
@[simp] theorem isArr_39 : isArr Tryd.prog 39 = false := by kernel_rfl
@[simp] theorem plainT_39 : plainT Tryd.prog 39 = false := by kernel_rfl
@[simp] theorem rowI_39 : rowI Tryd.prog 39 = some (9, 1, 16) := by kernel_rfl
@[simp] theorem zAV_39 : zAV Tryd.prog 9 39 = .raw (.slice none 0 0) := by kernel_rfl
@[simp] theorem zeroIs_39 : zeroIs Tryd.prog 39 (.raw (.slice none 0 0)) := ⟨.slice none 0 0, by kernel_rfl, .inl ⟨rfl, rfl⟩⟩
@[simp] theorem tyI_40 : tyI Tryd.prog 40 = some (2, true) := by kernel_rfl
@[simp] theorem isSl_40 : isSl Tryd.prog 40 = false := by kernel_rfl
@[simp] theorem isStr_40 : isStr Tryd.prog 40 = false := by kernel_rfl
@[simp] theorem isBool_40 : isBool Tryd.prog 40 = false := by kernel_rfl
@[simp] theorem isPtr_40 : isPtr Tryd.prog 40 = false := by kernel_rfl
@[simp] theorem isIf_40 : isIf Tryd.prog 40 = false := by kernel_rfl
@[simp] theorem isIface_40 : isIface Tryd.prog 40 = false := by kernel_rfl
@[simp] theorem isArr_40 : isArr Tryd.prog 40 = false := by kernel_rfl
@[simp] theorem plainT_40 : plainT Tryd.prog 40 = true := by kernel_rfl
@[simp] theorem fldI_40_0 : fldI Tryd.prog 40 0 = some (0, 1, false) := by kernel_rfl
@[simp] theorem fldI_40_1 : fldI Tryd.prog 40 1 = some (1, 1, false) := by kernel_rfl
@[simp] theorem zAV_40 : zAV Tryd.prog 9 40 = .agg [.raw (.string ⟨#[]⟩), .raw (.string ⟨#[]⟩)] := by kernel_rfl
@[simp] theorem zeroIs_40 : zeroIs Tryd.prog 40 (.agg [.raw (.string ⟨#[]⟩), .raw (.string ⟨#[]⟩)]) := ⟨.agg #[.string ⟨#[]⟩, .string ⟨#[]⟩], by kernel_rfl, .inr ⟨_, _, rfl, rfl, by kernel_rfl⟩⟩
@[simp] theorem layIs_40 : layIs Tryd.prog 40 [.raw (.string ⟨#[]⟩), .raw (.string ⟨#[]⟩)] := layIs_of (by kernel_rfl)
@[simp] theorem tyI_41 : tyI Tryd.prog 41 = some (2, true) := by kernel_rfl
@[simp] theorem isSl_41 : isSl Tryd.prog 41 = false := by kernel_rfl
@[simp] theorem isStr_41 : isStr Tryd.prog 41 = false := by kernel_rfl
@[simp] theorem isBool_41 : isBool Tryd.prog 41 = false := by kernel_rfl
@[simp] theorem isPtr_41 : isPtr Tryd.prog 41 = false := by kernel_rfl
@[simp] theorem isIf_41 : isIf Tryd.prog 41 = false := by kernel_rfl
@[simp] theorem isIface_41 : isIface Tryd.prog 41 = false := by kernel_rfl
@[simp] theorem isArr_41 : isArr Tryd.prog 41 = false := by kernel_rfl
@[simp] theorem plainT_41 : plainT Tryd.prog 41 = true := by kernel_rfl
@[simp] theorem eqd_41 : eqd Tryd.prog 9 41 = some (.st [.s, .s]) := by kernel_rfl
@[simp] theorem guardless_41 : guardless Tryd.prog 41 = true := by kernel_rfl
@[simp] theorem fldI_41_0 : fldI Tryd.prog 41 0 = some (0, 1, false) := by kernel_rfl
@[simp] theorem fldI_41_1 : fldI Tryd.prog 41 1 = some (1, 1, false) := by kernel_rfl
@[simp] theorem zAV_41 : zAV Tryd.prog 9 41 = .agg [.raw (.string ⟨#[]⟩), .raw (.string ⟨#[]⟩)] := by kernel_rfl
@[simp] theorem zeroIs_41 : zeroIs Tryd.prog 41 (.agg [.raw (.string ⟨#[]⟩), .raw (.string ⟨#[]⟩)]) := ⟨.agg #[.string ⟨#[]⟩, .string ⟨#[]⟩], by kernel_rfl, .inr ⟨_, _, rfl, rfl, by kernel_rfl⟩⟩
@[simp] theorem layIs_41 : layIs Tryd.prog 41 [.raw (.string ⟨#[]⟩), .raw (.string ⟨#[]⟩)] := layIs_of (by kernel_rfl)
@[simp] theorem tyI_42 : tyI Tryd.prog 42 = some (6, true) := by kernel_rfl
@[simp] theorem isSl_42 : isSl Tryd.prog 42 = false := by kernel_rfl
@[simp] theorem isStr_42 : isStr Tryd.prog 42 = false := by kernel_rfl
@[simp] theorem isBool_42 : isBool Tryd.prog 42 = false := by kernel_rfl
@[simp] theorem isPtr_42 : isPtr Tryd.prog 42 = false := by kernel_rfl
@[simp] theorem isIf_42 : isIf Tryd.prog 42 = false := by kernel_rfl
@[simp] theorem isIface_42 : isIface Tryd.prog 42 = false := by kernel_rfl
@[simp] theorem isArr_42 : isArr Tryd.prog 42 = false := by kernel_rfl
@[simp] theorem plainT_42 : plainT Tryd.prog 42 = false := by kernel_rfl
@[simp] theorem fldI_42_0 : fldI Tryd.prog 42 0 = some (0, 1, false) := by kernel_rfl
@[simp] theorem fldI_42_1 : fldI Tryd.prog 42 1 = some (1, 1, false) := by kernel_rfl
@[simp] theorem fldI_42_2 : fldI Tryd.prog 42 2 = some (2, 1, false) := by kernel_rfl
@[simp] theorem fldI_42_3 : fldI Tryd.prog 42 3 = some (3, 1, false) := by kernel_rfl
@[simp] theorem fldI_42_4 : fldI Tryd.prog 42 4 = some (4, 2, true) := by kernel_rfl
@[simp] theorem zAV_42 : zAV Tryd.prog 9 42 = .agg [.raw (.bool false), .raw (.slice none 0 0), .raw (.int .i64 0), .raw (.bool false), .agg [.raw (.string ⟨#[]⟩), .raw (.string ⟨#[]⟩)]] := by kernel_rfl
@[simp] theorem zeroIs_42 : zeroIs Tryd.prog 42 (.agg [.raw (.bool false), .raw (.slice none 0 0), .raw (.int .i64 0), .raw (.bool false), .agg [.raw (.string ⟨#[]⟩), .raw (.string ⟨#[]⟩)]]) := ⟨.agg #[.bool false, .slice none 0 0, .int .i64 0, .bool false, .string ⟨#[]⟩, .string ⟨#[]⟩], by kernel_rfl, .inr ⟨_, _, rfl, rfl, by kernel_rfl⟩⟩
@[simp] theorem layIs_42 : layIs Tryd.prog 42 [.raw (.bool false), .raw (.slice none 0 0), .raw (.int .i64 0), .raw (.bool false), .agg [.raw (.string ⟨#[]⟩), .raw (.string ⟨#[]⟩)]] := layIs_of (by kernel_rfl)
@[simp] theorem tyI_43 : tyI Tryd.prog 43 = some (6, true) := by kernel_rfl
@[simp] theorem isSl_43 : isSl Tryd.prog 43 = false := by kernel_rfl
@[simp] theorem isStr_43 : isStr Tryd.prog 43 = false := by kernel_rfl
@[simp] theorem isBool_43 : isBool Tryd.prog 43 = false := by kernel_rfl
@[simp] theorem isPtr_43 : isPtr Tryd.prog 43 = false := by kernel_rfl
@[simp] theorem isIf_43 : isIf Tryd.prog 43 = false := by kernel_rfl
@[simp] theorem isIface_43 : isIface Tryd.prog 43 = false := by kernel_rfl
@[simp] theorem isArr_43 : isArr Tryd.prog 43 = false := by kernel_rfl
@[simp] theorem plainT_43 : plainT Tryd.prog 43 = false := by kernel_rfl
@[simp] theorem fldI_43_0 : fldI Tryd.prog 43 0 = some (0, 1, false) := by kernel_rfl
@[simp] theorem fldI_43_1 : fldI Tryd.prog 43 1 = some (1, 1, false) := by kernel_rfl
@[simp] theorem fldI_43_2 : fldI Tryd.prog 43 2 = some (2, 1, false) := by kernel_rfl
@[simp] theorem fldI_43_3 : fldI Tryd.prog 43 3 = some (3, 1, false) := by kernel_rfl
@[simp] theorem fldI_43_4 : fldI Tryd.prog 43 4 = some (4, 2, true) := by kernel_rfl
@[simp] theorem zAV_43 : zAV Tryd.prog 9 43 = .agg [.raw (.bool false), .raw (.slice none 0 0), .raw (.int .i64 0), .raw (.bool false), .agg [.raw (.string ⟨#[]⟩), .raw (.string ⟨#[]⟩)]] := by kernel_rfl
@[simp] theorem zeroIs_43 : zeroIs Tryd.prog 43 (.agg [.raw (.bool false), .raw (.slice none 0 0), .raw (.int .i64 0), .raw (.bool false), .agg [.raw (.string ⟨#[]⟩), .raw (.string ⟨#[]⟩)]]) := ⟨.agg #[.bool false, .slice none 0 0, .int .i64 0, .bool false, .string ⟨#[]⟩, .string ⟨#[]⟩], by kernel_rfl, .inr ⟨_, _, rfl, rfl, by kernel_rfl⟩⟩
@[simp] theorem layIs_43 : layIs Tryd.prog 43 [.raw (.bool false), .raw (.slice none 0 0), .raw (.int .i64 0), .raw (.bool false), .agg [.raw (.string ⟨#[]⟩), .raw (.string ⟨#[]⟩)]] := layIs_of (by kernel_rfl)
@[simp] theorem isSl_44 : isSl Tryd.prog 44 = false := by kernel_rfl
@[simp] theorem tyI_45 : tyI Tryd.prog 45 = some (1, false) := by kernel_rfl
@[simp] theorem isSl_45 : isSl Tryd.prog 45 = false := by kernel_rfl
@[simp] theorem isStr_45 : isStr Tryd.prog 45 = false := by kernel_rfl
@[simp] theorem isBool_45 : isBool Tryd.prog 45 = false := by kernel_rfl
@[simp] theorem isPtr_45 : isPtr Tryd.prog 45 = false := by kernel_rfl
@[simp] theorem isIf_45 : isIf Tryd.prog 45 = false := by kernel_rfl
@[simp] theorem isIface_45 : isIface Tryd.prog 45 = false := by kernel_rfl
@[simp] theorem isArr_45 : isArr Tryd.prog 45 = false := by kernel_rfl
@[simp] theorem plainT_45 : plainT Tryd.prog 45 = false := by kernel_rfl
@[simp] theorem zAV_45 : zAV Tryd.prog 9 45 = .raw (.nilFunc) := by kernel_rfl
@[simp] theorem zeroIs_45 : zeroIs Tryd.prog 45 (.raw (.nilFunc)) := ⟨.nilFunc, by kernel_rfl, .inl ⟨rfl, rfl⟩⟩
@[simp] theorem tyI_46 : tyI Tryd.prog 46 = some (1, false) := by kernel_rfl
@[simp] theorem isSl_46 : isSl Tryd.prog 46 = false := by kernel_rfl
@[simp] theorem isStr_46 : isStr Tryd.prog 46 = false := by kernel_rfl
@[simp] theorem isBool_46 : isBool Tryd.prog 46 = false := by kernel_rfl
@[simp] theorem isPtr_46 : isPtr Tryd.prog 46 = false := by kernel_rfl
@[simp] theorem isIf_46 : isIf Tryd.prog 46 = false := by kernel_rfl
@[simp] theorem isIface_46 : isIface Tryd.prog 46 = false := by kernel_rfl
@[simp] theorem isArr_46 : isArr Tryd.prog 46 = false := by kernel_rfl
@[simp] theorem plainT_46 : plainT Tryd.prog 46 = false := by kernel_rfl
@[simp] theorem zAV_46 : zAV Tryd.prog 9 46 = .raw (.nilFunc) := by kernel_rfl
@[simp] theorem zeroIs_46 : zeroIs Tryd.prog 46 (.raw (.nilFunc)) := ⟨.nilFunc, by kernel_rfl, .inl ⟨rfl, rfl⟩⟩
@[simp] theorem tyI_47 : tyI Tryd.prog 47 = some (1, false) := by kernel_rfl
@[simp] theorem isSl_47 : isSl Tryd.prog 47 = false := by kernel_rfl
@[simp] theorem isStr_47 : isStr Tryd.prog 47 = false := by kernel_rfl
@[simp] theorem isBool_47 : isBool Tryd.prog 47 = false := by kernel_rfl
@[simp] theorem isPtr_47 : isPtr Tryd.prog 47 = false := by kernel_rfl
@[simp] theorem isIf_47 : isIf Tryd.prog 47 = false := by kernel_rfl
@[simp] theorem isIface_47 : isIface Tryd.prog 47 = false := by kernel_rfl
@[simp] theorem isArr_47 : isArr Tryd.prog 47 = false := by kernel_rfl
@[simp] theorem plainT_47 : plainT Tryd.prog 47 = false := by kernel_rfl
@[simp] theorem zAV_47 : zAV Tryd.prog 9 47 = .raw (.nilFunc) := by kernel_rfl
@[simp] theorem zeroIs_47 : zeroIs Tryd.prog 47 (.raw (.nilFunc)) := ⟨.nilFunc, by kernel_rfl, .inl ⟨rfl, rfl⟩⟩
@[simp] theorem tyI_48 : tyI Tryd.prog 48 = some (1, false) := by kernel_rfl
@[simp] theorem isSl_48 : isSl Tryd.prog 48 = false := by kernel_rfl
@[simp] theorem isStr_48 : isStr Tryd.prog 48 = false := by kernel_rfl
@[simp] theorem isBool_48 : isBool Tryd.prog 48 = false := by kernel_rfl
@[simp] theorem isPtr_48 : isPtr Tryd.prog 48 = false := by kernel_rfl
@[simp] theorem isIf_48 : isIf Tryd.prog 48 = false := by kernel_rfl
@[simp] theorem isIface_48 : isIface Tryd.prog 48 = false := by kernel_rfl
@[simp] theorem isArr_48 : isArr Tryd.prog 48 = false := by kernel_rfl
@[simp] theorem plainT_48 : plainT Tryd.prog 48 = false := by kernel_rfl
@[simp] theorem zAV_48 : zAV Tryd.prog 9 48 = .raw (.nilFunc) := by kernel_rfl
@[simp] theorem zeroIs_48 : zeroIs Tryd.prog 48 (.raw (.nilFunc)) := ⟨.nilFunc, by kernel_rfl, .inl ⟨rfl, rfl⟩⟩
@[simp] theorem tyI_49 : tyI Tryd.prog 49 = some (1, false) := by kernel_rfl
@[simp] theorem isSl_49 : isSl Tryd.prog 49 = false := by kernel_rfl
@[simp] theorem isStr_49 : isStr Tryd.prog 49 = false := by kernel_rfl
@[simp] theorem isBool_49 : isBool Tryd.prog 49 = false := by kernel_rfl
@[simp] theorem isPtr_49 : isPtr Tryd.prog 49 = false := by kernel_rfl
@[simp] theorem isIf_49 : isIf Tryd.prog 49 = false := by kernel_rfl
@[simp] theorem isIface_49 : isIface Tryd.prog 49 = false := by kernel_rfl
@[simp] theorem isArr_49 : isArr Tryd.prog 49 = false := by kernel_rfl
@[simp] theorem plainT_49 : plainT Tryd.prog 49 = false := by kernel_rfl
@[simp] theorem zAV_49 : zAV Tryd.prog 9 49 = .raw (.nilFunc) := by kernel_rfl
@[simp] theorem zeroIs_49 : zeroIs Tryd.prog 49 (.raw (.nilFunc)) := ⟨.nilFunc, by kernel_rfl, .inl ⟨rfl, rfl⟩⟩
@[simp] theorem tyI_50 : tyI Tryd.prog 50 = some (1, false) := by kernel_rfl
@[simp] theorem isSl_50 : isSl Tryd.prog 50 = false := by kernel_rfl
@[simp] theorem isStr_50 : isStr Tryd.prog 50 = false := by kernel_rfl
@[simp] theorem isBool_50 : isBool Tryd.prog 50 = false := by kernel_rfl
@[simp] theorem isPtr_50 : isPtr Tryd.prog 50 = false := by kernel_rfl
@[simp] theorem isIf_50 : isIf Tryd.prog 50 = false := by kernel_rfl
@[simp] theorem isIface_50 : isIface Tryd.prog 50 = false := by kernel_rfl
@[simp] theorem isArr_50 : isArr Tryd.prog 50 = false := by kernel_rfl
@[simp] theorem plainT_50 : plainT Tryd.prog 50 = false := by kernel_rfl
@[simp] theorem zAV_50 : zAV Tryd.prog 9 50 = .raw (.nilFunc) := by kernel_rfl
@[simp] theorem zeroIs_50 : zeroIs Tryd.prog 50 (.raw (.nilFunc)) := ⟨.nilFunc, by kernel_rfl, .inl ⟨rfl, rfl⟩⟩
@[simp] theorem tyI_51 : tyI Tryd.prog 51 = some (8, true) := by kernel_rfl
@[simp] theorem isSl_51 : isSl Tryd.prog 51 = false := by kernel_rfl
@[simp] theorem isStr_51 : isStr Tryd.prog 51 = false := by kernel_rfl
@[simp] theorem isBool_51 : isBool Tryd.prog 51 = false := by kernel_rfl
@[simp] theorem isPtr_51 : isPtr Tryd.prog 51 = false := by kernel_rfl
@[simp] theorem isIf_51 : isIf Tryd.prog 51 = false := by kernel_rfl
@[simp] theorem isIface_51 : isIface Tryd.prog 51 = false := by kernel_rfl
@[simp] theorem isArr_51 : isArr Tryd.prog 51 = false := by kernel_rfl
@[simp] theorem plainT_51 : plainT Tryd.prog 51 = true := by kernel_rfl
@[simp] theorem fldI_51_0 : fldI Tryd.prog 51 0 = some (0, 1, false) := by kernel_rfl
@[simp] theorem fldI_51_1 : fldI Tryd.prog 51 1 = some (1, 1, false) := by kernel_rfl
@[simp] theorem fldI_51_2 : fldI Tryd.prog 51 2 = some (2, 1, false) := by kernel_rfl
@[simp] theorem fldI_51_3 : fldI Tryd.prog 51 3 = some (3, 1, false) := by kernel_rfl
@[simp] theorem fldI_51_4 : fldI Tryd.prog 51 4 = some (4, 1, false) := by kernel_rfl
@[simp] theorem fldI_51_5 : fldI Tryd.prog 51 5 = some (5, 1, false) := by kernel_rfl
@[simp] theorem fldI_51_6 : fldI Tryd.prog 51 6 = some (6, 1, false) := by kernel_rfl
@[simp] theorem fldI_51_7 : fldI Tryd.prog 51 7 = some (7, 1, false) := by kernel_rfl
@[simp] theorem zAV_51 : zAV Tryd.prog 9 51 = .agg [.raw (.int .i64 0), .raw (.string ⟨#[]⟩), .raw (.int .i64 0), .raw (.string ⟨#[]⟩), .raw (.string ⟨#[]⟩), .raw (.string ⟨#[]⟩), .raw (.int .i64 0), .raw (.bool false)] := by kernel_rfl
@[simp] theorem zeroIs_51 : zeroIs Tryd.prog 51 (.agg [.raw (.int .i64 0), .raw (.string ⟨#[]⟩), .raw (.int .i64 0), .raw (.string ⟨#[]⟩), .raw (.string ⟨#[]⟩), .raw (.string ⟨#[]⟩), .raw (.int .i64 0), .raw (.bool false)]) := ⟨.agg #[.int .i64 0, .string ⟨#[]⟩, .int .i64 0, .string ⟨#[]⟩, .string ⟨#[]⟩, .string ⟨#[]⟩, .int .i64 0, .bool false], by kernel_rfl, .inr ⟨_, _, rfl, rfl, by kernel_rfl⟩⟩
@[simp] theorem layIs_51 : layIs Tryd.prog 51 [.raw (.int .i64 0), .raw (.string ⟨#[]⟩), .raw (.int .i64 0), .raw (.string ⟨#[]⟩), .raw (.string ⟨#[]⟩), .raw (.string ⟨#[]⟩), .raw (.int .i64 0), .raw (.bool false)] := layIs_of (by kernel_rfl)
@[simp] theorem tyI_52 : tyI Tryd.prog 52 = some (8, true) := by kernel_rfl
@[simp] theorem isSl_52 : isSl Tryd.prog 52 = false := by kernel_rfl
@[simp] theorem isStr_52 : isStr Tryd.prog 52 = false := by kernel_rfl
@[simp] theorem isBool_52 : isBool Tryd.prog 52 = false := by kernel_rfl
@[simp] theorem isPtr_52 : isPtr Tryd.prog 52 = false := by kernel_rfl
@[simp] theorem isIf_52 : isIf Tryd.prog 52 = false := by kernel_rfl
@[simp] theorem isIface_52 : isIface Tryd.prog 52 = false := by kernel_rfl
@[simp] theorem isArr_52 : isArr Tryd.prog 52 = false := by kernel_rfl
@[simp] theorem plainT_52 : plainT Tryd.prog 52 = true := by kernel_rfl
@[simp] theorem eqd_52 : eqd Tryd.prog 9 52 = some (.st [.i, .s, .i, .s, .s, .s, .i, .b]) := by kernel_rfl
@[simp] theorem guardless_52 : guardless Tryd.prog 52 = true := by kernel_rfl
@[simp] theorem fldI_52_0 : fldI Tryd.prog 52 0 = some (0, 1, false) := by kernel_rfl
@[simp] theorem fldI_52_1 : fldI Tryd.prog 52 1 = some (1, 1, false) := by kernel_rfl
@[simp] theorem fldI_52_2 : fldI Tryd.prog 52 2 = some (2, 1, false) := by kernel_rfl
@[simp] theorem fldI_52_3 : fldI Tryd.prog 52 3 = some (3, 1, false) := by kernel_rfl
@[simp] theorem fldI_52_4 : fldI Tryd.prog 52 4 = some (4, 1, false) := by kernel_rfl
@[simp] theorem fldI_52_5 : fldI Tryd.prog 52 5 = some (5, 1, false) := by kernel_rfl
@[simp] theorem fldI_52_6 : fldI Tryd.prog 52 6 = some (6, 1, false) := by kernel_rfl
@[simp] theorem fldI_52_7 : fldI Tryd.prog 52 7 = some (7, 1, false) := by kernel_rfl
@[simp] theorem zAV_52 : zAV Tryd.prog 9 52 = .agg [.raw (.int .i64 0), .raw (.string ⟨#[]⟩), .raw (.int .i64 0), .raw (.string ⟨#[]⟩), .raw (.string ⟨#[]⟩), .raw (.string ⟨#[]⟩), .raw (.int .i64 0), .raw (.bool false)] := by kernel_rfl
@[simp] theorem zeroIs_52 : zeroIs Tryd.prog 52 (.agg [.raw (.int .i64 0), .raw (.string ⟨#[]⟩), .raw (.int .i64 0), .raw (.string ⟨#[]⟩), .raw (.string ⟨#[]⟩), .raw (.string ⟨#[]⟩), .raw (.int .i64 0), .raw (.bool false)]) := ⟨.agg #[.int .i64 0, .string ⟨#[]⟩, .int .i64 0, .string ⟨#[]⟩, .string ⟨#[]⟩, .string ⟨#[]⟩, .int .i64 0, .bool false], by kernel_rfl, .inr ⟨_, _, rfl, rfl, by kernel_rfl⟩⟩
@[simp] theorem layIs_52 : layIs Tryd.prog 52 [.raw (.int .i64 0), .raw (.string ⟨#[]⟩), .raw (.int .i64 0), .raw (.string ⟨#[]⟩), .raw (.string ⟨#[]⟩), .raw (.string ⟨#[]⟩), .raw (.int .i64 0), .raw (.bool false)] := layIs_of (by kernel_rfl)
@[simp] theorem tyI_53 : tyI Tryd.prog 53 = some (4, true) := by kernel_rfl
@[simp] theorem isSl_53 : isSl Tryd.prog 53 = false := by kernel_rfl
@[simp] theorem isStr_53 : isStr Tryd.prog 53 = false := by kernel_rfl
@[simp] theorem isBool_53 : isBool Tryd.prog 53 = false := by kernel_rfl
@[simp] theorem isPtr_53 : isPtr Tryd.prog 53 = false := by kernel_rfl
@[simp] theorem isIf_53 : isIf Tryd.prog 53 = false := by kernel_rfl
@[simp] theorem isIface_53 : isIface Tryd.prog 53 = false := by kernel_rfl
@[simp] theorem isArr_53 : isArr Tryd.prog 53 = false := by kernel_rfl
@[simp] theorem plainT_53 : plainT Tryd.prog 53 = true := by kernel_rfl
@[simp] theorem fldI_53_0 : fldI Tryd.prog 53 0 = some (0, 1, false) := by kernel_rfl
@[simp] theorem fldI_53_1 : fldI Tryd.prog 53 1 = some (1, 1, false) := by kernel_rfl
@[simp] theorem fldI_53_2 : fldI Tryd.prog 53 2 = some (2, 1, false) := by kernel_rfl
@[simp] theorem fldI_53_3 : fldI Tryd.prog 53 3 = some (3, 1, false) := by kernel_rfl
@[simp] theorem zAV_53 : zAV Tryd.prog 9 53 = .agg [.raw (.int .i64 0), .raw (.int .i64 0), .raw (.string ⟨#[]⟩), .raw (.bool false)] := by kernel_rfl
@[simp] theorem zeroIs_53 : zeroIs Tryd.prog 53 (.agg [.raw (.int .i64 0), .raw (.int .i64 0), .raw (.string ⟨#[]⟩), .raw (.bool false)]) := ⟨.agg #[.int .i64 0, .int .i64 0, .string ⟨#[]⟩, .bool false], by kernel_rfl, .inr ⟨_, _, rfl, rfl, by kernel_rfl⟩⟩
@[simp] theorem layIs_53 : layIs Tryd.prog 53 [.raw (.int .i64 0), .raw (.int .i64 0), .raw (.string ⟨#[]⟩), .raw (.bool false)] := layIs_of (by kernel_rfl)
@[simp] theorem tyI_54 : tyI Tryd.prog 54 = some (4, true) := by kernel_rfl
@[simp] theorem isSl_54 : isSl Tryd.prog 54 = false := by kernel_rfl
@[simp] theorem isStr_54 : isStr Tryd.prog 54 = false := by kernel_rfl
@[simp] theorem isBool_54 : isBool Tryd.prog 54 = false := by kernel_rfl
@[simp] theorem isPtr_54 : isPtr Tryd.prog 54 = false := by kernel_rfl
@[simp] theorem isIf_54 : isIf Tryd.prog 54 = false := by kernel_rfl
@[simp] theorem isIface_54 : isIface Tryd.prog 54 = false := by kernel_rfl
@[simp] theorem isArr_54 : isArr Tryd.prog 54 = false := by kernel_rfl
@[simp] theorem plainT_54 : plainT Tryd.prog 54 = true := by kernel_rfl
@[simp] theorem eqd_54 : eqd Tryd.prog 9 54 = some (.st [.i, .i, .s, .b]) := by kernel_rfl
@[simp] theorem guardless_54 : guardless Tryd.prog 54 = true := by kernel_rfl
@[simp] theorem fldI_54_0 : fldI Tryd.prog 54 0 = some (0, 1, false) := by kernel_rfl
@[simp] theorem fldI_54_1 : fldI Tryd.prog 54 1 = some (1, 1, false) := by kernel_rfl
@[simp] theorem fldI_54_2 : fldI Tryd.prog 54 2 = some (2, 1, false) := by kernel_rfl
@[simp] theorem fldI_54_3 : fldI Tryd.prog 54 3 = some (3, 1, false) := by kernel_rfl
@[simp] theorem zAV_54 : zAV Tryd.prog 9 54 = .agg [.raw (.int .i64 0), .raw (.int .i64 0), .raw (.string ⟨#[]⟩), .raw (.bool false)] := by kernel_rfl
@[simp] theorem zeroIs_54 : zeroIs Tryd.prog 54 (.agg [.raw (.int .i64 0), .raw (.int .i64 0), .raw (.string ⟨#[]⟩), .raw (.bool false)]) := ⟨.agg #[.int .i64 0, .int .i64 0, .string ⟨#[]⟩, .bool false], by kernel_rfl, .inr ⟨_, _, rfl, rfl, by kernel_rfl⟩⟩
@[simp] theorem layIs_54 : layIs Tryd.prog 54 [.raw (.int .i64 0), .raw (.int .i64 0), .raw (.string ⟨#[]⟩), .raw (.bool false)] := layIs_of (by kernel_rfl)
@[simp] theorem tyI_55 : tyI Tryd.prog 55 = some (1, false) := by kernel_rfl
@[simp] theorem isSl_55 : isSl Tryd.prog 55 = false := by kernel_rfl
@[simp] theorem isStr_55 : isStr Tryd.prog 55 = false := by kernel_rfl
@[simp] theorem isBool_55 : isBool Tryd.prog 55 = false := by kernel_rfl
@[simp] theorem isPtr_55 : isPtr Tryd.prog 55 = true := by kernel_rfl
@[simp] theorem isIf_55 : isIf Tryd.prog 55 = false := by kernel_rfl
@[simp] theorem isIface_55 : isIface Tryd.prog 55 = false := by kernel_rfl
@[simp] theorem isArr_55 : isArr Tryd.prog 55 = false := by kernel_rfl
@[simp] theorem plainT_55 : plainT Tryd.prog 55 = false := by kernel_rfl
@[simp] theorem zAV_55 : zAV Tryd.prog 9 55 = .raw (.pointer none) := by kernel_rfl
@[simp] theorem zeroIs_55 : zeroIs Tryd.prog 55 (.raw (.pointer none)) := ⟨.pointer none, by kernel_rfl, .inl ⟨rfl, rfl⟩⟩
@[simp] theorem tyI_56 : tyI Tryd.prog 56 = some (3, true) := by kernel_rfl
@[simp] theorem isSl_56 : isSl Tryd.prog 56 = false := by kernel_rfl
@[simp] theorem isStr_56 : isStr Tryd.prog 56 = false := by kernel_rfl
@[simp] theorem isBool_56 : isBool Tryd.prog 56 = false := by kernel_rfl
@[simp] theorem isPtr_56 : isPtr Tryd.prog 56 = false := by kernel_rfl
@[simp] theorem isIf_56 : isIf Tryd.prog 56 = false := by kernel_rfl
@[simp] theorem isIface_56 : isIface Tryd.prog 56 = false := by kernel_rfl
@[simp] theorem isArr_56 : isArr Tryd.prog 56 = false := by kernel_rfl
@[simp] theorem plainT_56 : plainT Tryd.prog 56 = false := by kernel_rfl
@[simp] theorem fldI_56_0 : fldI Tryd.prog 56 0 = some (0, 1, false) := by kernel_rfl
@[simp] theorem fldI_56_1 : fldI Tryd.prog 56 1 = some (1, 1, false) := by kernel_rfl
@[simp] theorem fldI_56_2 : fldI Tryd.prog 56 2 = some (2, 1, false) := by kernel_rfl
@[simp] theorem zAV_56 : zAV Tryd.prog 9 56 = .agg [.raw (.slice none 0 0), .raw (.bool false), .raw (.bool false)] := by kernel_rfl
@[simp] theorem zeroIs_56 : zeroIs Tryd.prog 56 (.agg [.raw (.slice none 0 0), .raw (.bool false), .raw (.bool false)]) := ⟨.agg #[.slice none 0 0, .bool false, .bool false], by kernel_rfl, .inr ⟨_, _, rfl, rfl, by kernel_rfl⟩⟩
@[simp] theorem layIs_56 : layIs Tryd.prog 56 [.raw (.slice none 0 0), .raw (.bool false), .raw (.bool false)] := layIs_of (by kernel_rfl)
@[simp] theorem tyI_57 : tyI Tryd.prog 57 = some (3, true) := by kernel_rfl
@[simp] theorem isSl_57 : isSl Tryd.prog 57 = false := by kernel_rfl
@[simp] theorem isStr_57 : isStr Tryd.prog 57 = false := by kernel_rfl
@[simp] theorem isBool_57 : isBool Tryd.prog 57 = false := by kernel_rfl
@[simp] theorem isPtr_57 : isPtr Tryd.prog 57 = false := by kernel_rfl
@[simp] theorem isIf_57 : isIf Tryd.prog 57 = false := by kernel_rfl
@[simp] theorem isIface_57 : isIface Tryd.prog 57 = false := by kernel_rfl
@[simp] theorem isArr_57 : isArr Tryd.prog 57 = false := by kernel_rfl
@[simp] theorem plainT_57 : plainT Tryd.prog 57 = false := by kernel_rfl
@[simp] theorem fldI_57_0 : fldI Tryd.prog 57 0 = some (0, 1, false) := by kernel_rfl
@[simp] theorem fldI_57_1 : fldI Tryd.prog 57 1 = some (1, 1, false) := by kernel_rfl
@[simp] theorem fldI_57_2 : fldI Tryd.prog 57 2 = some (2, 1, false) := by kernel_rfl
@[simp] theorem zAV_57 : zAV Tryd.prog 9 57 = .agg [.raw (.slice none 0 0), .raw (.bool false), .raw (.bool false)] := by kernel_rfl
@[simp] theorem zeroIs_57 : zeroIs Tryd.prog 57 (.agg [.raw (.slice none 0 0), .raw (.bool false), .raw (.bool false)]) := ⟨.agg #[.slice none 0 0, .bool false, .bool false], by kernel_rfl, .inr ⟨_, _, rfl, rfl, by kernel_rfl⟩⟩
@[simp] theorem layIs_57 : layIs Tryd.prog 57 [.raw (.slice none 0 0), .raw (.bool false), .raw (.bool false)] := layIs_of (by kernel_rfl)
@[simp] theorem tyI_58 : tyI Tryd.prog 58 = some (1, false) := by kernel_rfl
@[simp] theorem isSl_58 : isSl Tryd.prog 58 = false := by kernel_rfl
@[simp] theorem isStr_58 : isStr Tryd.prog 58 = false := by kernel_rfl
@[simp] theorem isBool_58 : isBool Tryd.prog 58 = false := by kernel_rfl
@[simp] theorem isPtr_58 : isPtr Tryd.prog 58 = false := by kernel_rfl
@[simp] theorem isIf_58 : isIf Tryd.prog 58 = false := by kernel_rfl
@[simp] theorem isIface_58 : isIface Tryd.prog 58 = false := by kernel_rfl
@[simp] theorem isArr_58 : isArr Tryd.prog 58 = false := by kernel_rfl
@[simp] theorem plainT_58 : plainT Tryd.prog 58 = false := by kernel_rfl
@[simp] theorem zAV_58 : zAV Tryd.prog 9 58 = .raw (.nilFunc) := by kernel_rfl
@[simp] theorem zeroIs_58 : zeroIs Tryd.prog 58 (.raw (.nilFunc)) := ⟨.nilFunc, by kernel_rfl, .inl ⟨rfl, rfl⟩⟩
@[simp] theorem tyI_59 : tyI Tryd.prog 59 = some (1, false) := by kernel_rfl
@[simp] theorem isSl_59 : isSl Tryd.prog 59 = false := by kernel_rfl
@[simp] theorem isStr_59 : isStr Tryd.prog 59 = false := by kernel_rfl
@[simp] theorem isBool_59 : isBool Tryd.prog 59 = false := by kernel_rfl
@[simp] theorem isPtr_59 : isPtr Tryd.prog 59 = false := by kernel_rfl
@[simp] theorem isIf_59 : isIf Tryd.prog 59 = false := by kernel_rfl
@[simp] theorem isIface_59 : isIface Tryd.prog 59 = false := by kernel_rfl
@[simp] theorem isArr_59 : isArr Tryd.prog 59 = false := by kernel_rfl
@[simp] theorem plainT_59 : plainT Tryd.prog 59 = false := by kernel_rfl
@[simp] theorem zAV_59 : zAV Tryd.prog 9 59 = .raw (.nilFunc) := by kernel_rfl
@[simp] theorem zeroIs_59 : zeroIs Tryd.prog 59 (.raw (.nilFunc)) := ⟨.nilFunc, by kernel_rfl, .inl ⟨rfl, rfl⟩⟩
@[simp] theorem tyI_60 : tyI Tryd.prog 60 = some (1, false) := by kernel_rfl
@[simp] theorem isSl_60 : isSl Tryd.prog 60 = false := by kernel_rfl
@[simp] theorem isStr_60 : isStr Tryd.prog 60 = false := by kernel_rfl
@[simp] theorem isBool_60 : isBool Tryd.prog 60 = false := by kernel_rfl
@[simp] theorem isPtr_60 : isPtr Tryd.prog 60 = false := by kernel_rfl
@[simp] theorem isIf_60 : isIf Tryd.prog 60 = false := by kernel_rfl
@[simp] theorem isIface_60 : isIface Tryd.prog 60 = false := by kernel_rfl
@[simp] theorem isArr_60 : isArr Tryd.prog 60 = false := by kernel_rfl
@[simp] theorem plainT_60 : plainT Tryd.prog 60 = false := by kernel_rfl
@[simp] theorem zAV_60 : zAV Tryd.prog 9 60 = .raw (.nilFunc) := by kernel_rfl
@[simp] theorem zeroIs_60 : zeroIs Tryd.prog 60 (.raw (.nilFunc)) := ⟨.nilFunc, by kernel_rfl, .inl ⟨rfl, rfl⟩⟩
@[simp] theorem tyI_61 : tyI Tryd.prog 61 = some (1, false) := by kernel_rfl
@[simp] theorem isSl_61 : isSl Tryd.prog 61 = false := by kernel_rfl
@[simp] theorem isStr_61 : isStr Tryd.prog 61 = false := by kernel_rfl
@[simp] theorem isBool_61 : isBool Tryd.prog 61 = false := by kernel_rfl
@[simp] theorem isPtr_61 : isPtr Tryd.prog 61 = false := by kernel_rfl
@[simp] theorem isIf_61 : isIf Tryd.prog 61 = false := by kernel_rfl
@[simp] theorem isIface_61 : isIface Tryd.prog 61 = false := by kernel_rfl
@[simp] theorem isArr_61 : isArr Tryd.prog 61 = false := by kernel_rfl
@[simp] theorem plainT_61 : plainT Tryd.prog 61 = false := by kernel_rfl
@[simp] theorem zAV_61 : zAV Tryd.prog 9 61 = .raw (.nilFunc) := by kernel_rfl
@[simp] theorem zeroIs_61 : zeroIs Tryd.prog 61 (.raw (.nilFunc)) := ⟨.nilFunc, by kernel_rfl, .inl ⟨rfl, rfl⟩⟩
@[simp] theorem tyI_62 : tyI Tryd.prog 62 = some (1, false) := by kernel_rfl
@[simp] theorem isSl_62 : isSl Tryd.prog 62 = false := by kernel_rfl
@[simp] theorem isStr_62 : isStr Tryd.prog 62 = false := by kernel_rfl
@[simp] theorem isBool_62 : isBool Tryd.prog 62 = false := by kernel_rfl
@[simp] theorem isPtr_62 : isPtr Tryd.prog 62 = false := by kernel_rfl
@[simp] theorem isIf_62 : isIf Tryd.prog 62 = false := by kernel_rfl
@[simp] theorem isIface_62 : isIface Tryd.prog 62 = false := by kernel_rfl
@[simp] theorem isArr_62 : isArr Tryd.prog 62 = false := by kernel_rfl
@[simp] theorem plainT_62 : plainT Tryd.prog 62 = false := by kernel_rfl
@[simp] theorem zAV_62 : zAV Tryd.prog 9 62 = .raw (.nilFunc) := by kernel_rfl
@[simp] theorem zeroIs_62 : zeroIs Tryd.prog 62 (.raw (.nilFunc)) := ⟨.nilFunc, by kernel_rfl, .inl ⟨rfl, rfl⟩⟩
@[simp] theorem tyI_63 : tyI Tryd.prog 63 = some (1, false) := by kernel_rfl
@[simp] theorem isSl_63 : isSl Tryd.prog 63 = false := by kernel_rfl
@[simp] theorem isStr_63 : isStr Tryd.prog 63 = false := by kernel_rfl
@[simp] theorem isBool_63 : isBool Tryd.prog 63 = false := by kernel_rfl
@[simp] theorem isPtr_63 : isPtr Tryd.prog 63 = false := by kernel_rfl
@[simp] theorem isIf_63 : isIf Tryd.prog 63 = false := by kernel_rfl
@[simp] theorem isIface_63 : isIface Tryd.prog 63 = false := by kernel_rfl
@[simp] theorem isArr_63 : isArr Tryd.prog 63 = false := by kernel_rfl
@[simp] theorem plainT_63 : plainT Tryd.prog 63 = false := by kernel_rfl
@[simp] theorem zAV_63 : zAV Tryd.prog 9 63 = .raw (.nilFunc) := by kernel_rfl
@[simp] theorem zeroIs_63 : zeroIs Tryd.prog 63 (.raw (.nilFunc)) := ⟨.nilFunc, by kernel_rfl, .inl ⟨rfl, rfl⟩⟩
@[simp] theorem tyI_64 : tyI Tryd.prog 64 = some (1, false) := by kernel_rfl
@[simp] theorem isSl_64 : isSl Tryd.prog 64 = false := by kernel_rfl
@[simp] theorem isStr_64 : isStr Tryd.prog 64 = false := by kernel_rfl
@[simp] theorem isBool_64 : isBool Tryd.prog 64 = false := by kernel_rfl
@[simp] theorem isPtr_64 : isPtr Tryd.prog 64 = true := by kernel_rfl
@[simp] theorem isIf_64 : isIf Tryd.prog 64 = false := by kernel_rfl
@[simp] theorem isIface_64 : isIface Tryd.prog 64 = false := by kernel_rfl
@[simp] theorem isArr_64 : isArr Tryd.prog 64 = false := by kernel_rfl
@[simp] theorem plainT_64 : plainT Tryd.prog 64 = false := by kernel_rfl
@[simp] theorem zAV_64 : zAV Tryd.prog 9 64 = .raw (.pointer none) := by kernel_rfl
@[simp] theorem zeroIs_64 : zeroIs Tryd.prog 64 (.raw (.pointer none)) := ⟨.pointer none, by kernel_rfl, .inl ⟨rfl, rfl⟩⟩
@[simp] theorem tyI_65 : tyI Tryd.prog 65 = some (1, false) := by kernel_rfl
@[simp] theorem isSl_65 : isSl Tryd.prog 65 = false := by kernel_rfl
@[simp] theorem isStr_65 : isStr Tryd.prog 65 = false := by kernel_rfl
@[simp] theorem isBool_65 : isBool Tryd.prog 65 = false := by kernel_rfl
@[simp] theorem isPtr_65 : isPtr Tryd.prog 65 = true := by kernel_rfl
@[simp] theorem isIf_65 : isIf Tryd.prog 65 = false := by kernel_rfl
@[simp] theorem isIface_65 : isIface Tryd.prog 65 = false := by kernel_rfl
@[simp] theorem isArr_65 : isArr Tryd.prog 65 = false := by kernel_rfl
@[simp] theorem plainT_65 : plainT Tryd.prog 65 = false := by kernel_rfl
@[simp] theorem zAV_65 : zAV Tryd.prog 9 65 = .raw (.pointer none) := by kernel_rfl
@[simp] theorem zeroIs_65 : zeroIs Tryd.prog 65 (.raw (.pointer none)) := ⟨.pointer none, by kernel_rfl, .inl ⟨rfl, rfl⟩⟩
@[simp] theorem tyI_66 : tyI Tryd.prog 66 = some (1, false) := by kernel_rfl
@[simp] theorem isSl_66 : isSl Tryd.prog 66 = false := by kernel_rfl
@[simp] theorem isStr_66 : isStr Tryd.prog 66 = false := by kernel_rfl
@[simp] theorem isBool_66 : isBool Tryd.prog 66 = false := by kernel_rfl
@[simp] theorem isPtr_66 : isPtr Tryd.prog 66 = false := by kernel_rfl
@[simp] theorem isIf_66 : isIf Tryd.prog 66 = false := by kernel_rfl
@[simp] theorem isIface_66 : isIface Tryd.prog 66 = false := by kernel_rfl
@[simp] theorem isArr_66 : isArr Tryd.prog 66 = false := by kernel_rfl
@[simp] theorem plainT_66 : plainT Tryd.prog 66 = false := by kernel_rfl
@[simp] theorem zAV_66 : zAV Tryd.prog 9 66 = .raw (.nilFunc) := by kernel_rfl
@[simp] theorem zeroIs_66 : zeroIs Tryd.prog 66 (.raw (.nilFunc)) := ⟨.nilFunc, by kernel_rfl, .inl ⟨rfl, rfl⟩⟩
@[simp] theorem tyI_67 : tyI Tryd.prog 67 = some (2, true) := by kernel_rfl
@[simp] theorem isSl_67 : isSl Tryd.prog 67 = false := by kernel_rfl
@[simp] theorem isStr_67 : isStr Tryd.prog 67 = false := by kernel_rfl
@[simp] theorem isBool_67 : isBool Tryd.prog 67 = false := by kernel_rfl
@[simp] theorem isPtr_67 : isPtr Tryd.prog 67 = false := by kernel_rfl
@[simp] theorem isIf_67 : isIf Tryd.prog 67 = false := by kernel_rfl
@[simp] theorem isIface_67 : isIface Tryd.prog 67 = false := by kernel_rfl
@[simp] theorem isArr_67 : isArr Tryd.prog 67 = false := by kernel_rfl
@[simp] theorem plainT_67 : plainT Tryd.prog 67 = false := by kernel_rfl
@[simp] theorem fldI_67_0 : fldI Tryd.prog 67 0 = some (0, 1, false) := by kernel_rfl
@[simp] theorem fldI_67_1 : fldI Tryd.prog 67 1 = some (1, 1, false) := by kernel_rfl
@[simp] theorem zAV_67 : zAV Tryd.prog 9 67 = .agg [.raw (.pointer none), .raw (.nilIface)] := by kernel_rfl
@[simp] theorem zeroIs_67 : zeroIs Tryd.prog 67 (.agg [.raw (.pointer none), .raw (.nilIface)]) := ⟨.agg #[.pointer none, .nilIface], by kernel_rfl, .inr ⟨_, _, rfl, rfl, by kernel_rfl⟩⟩
@[simp] theorem layIs_67 : layIs Tryd.prog 67 [.raw (.pointer none), .raw (.nilIface)] := layIs_of (by kernel_rfl)
@[simp] theorem tyI_68 : tyI Tryd.prog 68 = some (2, true) := by kernel_rfl
@[simp] theorem isSl_68 : isSl Tryd.prog 68 = false := by kernel_rfl
@[simp] theorem isStr_68 : isStr Tryd.prog 68 = false := by kernel_rfl
@[simp] theorem isBool_68 : isBool Tryd.prog 68 = false := by kernel_rfl
@[simp] theorem isPtr_68 : isPtr Tryd.prog 68 = false := by kernel_rfl
@[simp] theorem isIf_68 : isIf Tryd.prog 68 = false := by kernel_rfl
@[simp] theorem isIface_68 : isIface Tryd.prog 68 = false := by kernel_rfl
@[simp] theorem isArr_68 : isArr Tryd.prog 68 = false := by kernel_rfl
@[simp] theorem plainT_68 : plainT Tryd.prog 68 = false := by kernel_rfl
@[simp] theorem fldI_68_0 : fldI Tryd.prog 68 0 = some (0, 1, false) := by kernel_rfl
@[simp] theorem fldI_68_1 : fldI Tryd.prog 68 1 = some (1, 1, false) := by kernel_rfl
@[simp] theorem zAV_68 : zAV Tryd.prog 9 68 = .agg [.raw (.pointer none), .raw (.nilIface)] := by kernel_rfl
@[simp] theorem zeroIs_68 : zeroIs Tryd.prog 68 (.agg [.raw (.pointer none), .raw (.nilIface)]) := ⟨.agg #[.pointer none, .nilIface], by kernel_rfl, .inr ⟨_, _, rfl, rfl, by kernel_rfl⟩⟩
@[simp] theorem layIs_68 : layIs Tryd.prog 68 [.raw (.pointer none), .raw (.nilIface)] := layIs_of (by kernel_rfl)
@[simp] theorem tyI_69 : tyI Tryd.prog 69 = some (1, false) := by kernel_rfl
@[simp] theorem isSl_69 : isSl Tryd.prog 69 = false := by kernel_rfl
@[simp] theorem isStr_69 : isStr Tryd.prog 69 = false := by kernel_rfl
@[simp] theorem isBool_69 : isBool Tryd.prog 69 = false := by kernel_rfl
@[simp] theorem isPtr_69 : isPtr Tryd.prog 69 = false := by kernel_rfl
@[simp] theorem isIf_69 : isIf Tryd.prog 69 = false := by kernel_rfl
@[simp] theorem isIface_69 : isIface Tryd.prog 69 = false := by kernel_rfl
@[simp] theorem isArr_69 : isArr Tryd.prog 69 = false := by kernel_rfl
@[simp] theorem plainT_69 : plainT Tryd.prog 69 = false := by kernel_rfl
@[simp] theorem zAV_69 : zAV Tryd.prog 9 69 = .raw (.nilFunc) := by kernel_rfl
@[simp] theorem zeroIs_69 : zeroIs Tryd.prog 69 (.raw (.nilFunc)) := ⟨.nilFunc, by kernel_rfl, .inl ⟨rfl, rfl⟩⟩
@[simp] theorem tyI_70 : tyI Tryd.prog 70 = some (1, false) := by kernel_rfl
@[simp] theorem isSl_70 : isSl Tryd.prog 70 = false := by kernel_rfl
@[simp] theorem isStr_70 : isStr Tryd.prog 70 = false := by kernel_rfl
@[simp] theorem isBool_70 : isBool Tryd.prog 70 = false := by kernel_rfl
@[simp] theorem isPtr_70 : isPtr Tryd.prog 70 = false := by kernel_rfl
@[simp] theorem isIf_70 : isIf Tryd.prog 70 = false := by kernel_rfl
@[simp] theorem isIface_70 : isIface Tryd.prog 70 = false := by kernel_rfl
@[simp] theorem isArr_70 : isArr Tryd.prog 70 = false := by kernel_rfl
@[simp] theorem plainT_70 : plainT Tryd.prog 70 = false := by kernel_rfl
@[simp] theorem zAV_70 : zAV Tryd.prog 9 70 = .raw (.nilFunc) := by kernel_rfl
@[simp] theorem zeroIs_70 : zeroIs Tryd.prog 70 (.raw (.nilFunc)) := ⟨.nilFunc, by kernel_rfl, .inl ⟨rfl, rfl⟩⟩
@[simp] theorem tyI_71 : tyI Tryd.prog 71 = some (1, false) := by kernel_rfl
@[simp] theorem isSl_71 : isSl Tryd.prog 71 = false := by kernel_rfl
@[simp] theorem isStr_71 : isStr Tryd.prog 71 = false := by kernel_rfl
@[simp] theorem isBool_71 : isBool Tryd.prog 71 = false := by kernel_rfl
@[simp] theorem isPtr_71 : isPtr Tryd.prog 71 = false := by kernel_rfl
@[simp] theorem isIf_71 : isIf Tryd.prog 71 = false := by kernel_rfl
@[simp] theorem isIface_71 : isIface Tryd.prog 71 = false := by kernel_rfl
@[simp] theorem isArr_71 : isArr Tryd.prog 71 = false := by kernel_rfl
@[simp] theorem plainT_71 : plainT Tryd.prog 71 = false := by kernel_rfl
@[simp] theorem zAV_71 : zAV Tryd.prog 9 71 = .raw (.nilFunc) := by kernel_rfl
@[simp] theorem zeroIs_71 : zeroIs Tryd.prog 71 (.raw (.nilFunc)) := ⟨.nilFunc, by kernel_rfl, .inl ⟨rfl, rfl⟩⟩
@[simp] theorem tyI_72 : tyI Tryd.prog 72 = some (1, false) := by kernel_rfl
@[simp] theorem isSl_72 : isSl Tryd.prog 72 = false := by kernel_rfl
@[simp] theorem isStr_72 : isStr Tryd.prog 72 = false := by kernel_rfl
@[simp] theorem isBool_72 : isBool Tryd.prog 72 = false := by kernel_rfl
@[simp] theorem isPtr_72 : isPtr Tryd.prog 72 = false := by kernel_rfl
@[simp] theorem isIf_72 : isIf Tryd.prog 72 = false := by kernel_rfl
@[simp] theorem isIface_72 : isIface Tryd.prog 72 = false := by kernel_rfl
@[simp] theorem isArr_72 : isArr Tryd.prog 72 = false := by kernel_rfl
@[simp] theorem plainT_72 : plainT Tryd.prog 72 = false := by kernel_rfl
@[simp] theorem zAV_72 : zAV Tryd.prog 9 72 = .raw (.nilFunc) := by kernel_rfl
@[simp] theorem zeroIs_72 : zeroIs Tryd.prog 72 (.raw (.nilFunc)) := ⟨.nilFunc, by kernel_rfl, .inl ⟨rfl, rfl⟩⟩
@[simp] theorem tyI_73 : tyI Tryd.prog 73 = some (1, false) := by kernel_rfl
@[simp] theorem isSl_73 : isSl Tryd.prog 73 = false := by kernel_rfl
@[simp] theorem isStr_73 : isStr Tryd.prog 73 = false := by kernel_rfl
@[simp] theorem isBool_73 : isBool Tryd.prog 73 = false := by kernel_rfl
@[simp] theorem isPtr_73 : isPtr Tryd.prog 73 = false := by kernel_rfl
@[simp] theorem isIf_73 : isIf Tryd.prog 73 = false := by kernel_rfl
@[simp] theorem isIface_73 : isIface Tryd.prog 73 = false := by kernel_rfl
@[simp] theorem isArr_73 : isArr Tryd.prog 73 = false := by kernel_rfl
@[simp] theorem plainT_73 : plainT Tryd.prog 73 = false := by kernel_rfl
@[simp] theorem zAV_73 : zAV Tryd.prog 9 73 = .raw (.nilFunc) := by kernel_rfl
@[simp] theorem zeroIs_73 : zeroIs Tryd.prog 73 (.raw (.nilFunc)) := ⟨.nilFunc, by kernel_rfl, .inl ⟨rfl, rfl⟩⟩
@[simp] theorem tyI_74 : tyI Tryd.prog 74 = some (1, false) := by kernel_rfl
@[simp] theorem isSl_74 : isSl Tryd.prog 74 = false := by kernel_rfl
@[simp] theorem isStr_74 : isStr Tryd.prog 74 = false := by kernel_rfl
@[simp] theorem isBool_74 : isBool Tryd.prog 74 = false := by kernel_rfl
@[simp] theorem isPtr_74 : isPtr Tryd.prog 74 = false := by kernel_rfl
@[simp] theorem isIf_74 : isIf Tryd.prog 74 = false := by kernel_rfl
@[simp] theorem isIface_74 : isIface Tryd.prog 74 = false := by kernel_rfl
@[simp] theorem isArr_74 : isArr Tryd.prog 74 = false := by kernel_rfl
@[simp] theorem plainT_74 : plainT Tryd.prog 74 = false := by kernel_rfl
@[simp] theorem zAV_74 : zAV Tryd.prog 9 74 = .raw (.nilFunc) := by kernel_rfl
@[simp] theorem zeroIs_74 : zeroIs Tryd.prog 74 (.raw (.nilFunc)) := ⟨.nilFunc, by kernel_rfl, .inl ⟨rfl, rfl⟩⟩
@[simp] theorem tyI_75 : tyI Tryd.prog 75 = some (1, false) := by kernel_rfl
@[simp] theorem isSl_75 : isSl Tryd.prog 75 = false := by kernel_rfl
@[simp] theorem isStr_75 : isStr Tryd.prog 75 = false := by kernel_rfl
@[simp] theorem isBool_75 : isBool Tryd.prog 75 = false := by kernel_rfl
@[simp] theorem isPtr_75 : isPtr Tryd.prog 75 = false := by kernel_rfl
@[simp] theorem isIf_75 : isIf Tryd.prog 75 = false := by kernel_rfl
@[simp] theorem isIface_75 : isIface Tryd.prog 75 = false := by kernel_rfl
@[simp] theorem isArr_75 : isArr Tryd.prog 75 = false := by kernel_rfl
@[simp] theorem plainT_75 : plainT Tryd.prog 75 = false := by kernel_rfl
@[simp] theorem zAV_75 : zAV Tryd.prog 9 75 = .raw (.nilFunc) := by kernel_rfl
@[simp] theorem zeroIs_75 : zeroIs Tryd.prog 75 (.raw (.nilFunc)) := ⟨.nilFunc, by kernel_rfl, .inl ⟨rfl, rfl⟩⟩
@[simp] theorem tyI_76 : tyI Tryd.prog 76 = some (1, false) := by kernel_rfl
@[simp] theorem isSl_76 : isSl Tryd.prog 76 = false := by kernel_rfl
@[simp] theorem isStr_76 : isStr Tryd.prog 76 = false := by kernel_rfl
@[simp] theorem isBool_76 : isBool Tryd.prog 76 = false := by kernel_rfl
@[simp] theorem isPtr_76 : isPtr Tryd.prog 76 = false := by kernel_rfl
@[simp] theorem isIf_76 : isIf Tryd.prog 76 = false := by kernel_rfl
@[simp] theorem isIface_76 : isIface Tryd.prog 76 = false := by kernel_rfl
@[simp] theorem isArr_76 : isArr Tryd.prog 76 = false := by kernel_rfl
@[simp] theorem plainT_76 : plainT Tryd.prog 76 = false := by kernel_rfl
@[simp] theorem zAV_76 : zAV Tryd.prog 9 76 = .raw (.nilFunc) := by kernel_rfl
@[simp] theorem zeroIs_76 : zeroIs Tryd.prog 76 (.raw (.nilFunc)) := ⟨.nilFunc, by kernel_rfl, .inl ⟨rfl, rfl⟩⟩
@[simp] theorem tyI_77 : tyI Tryd.prog 77 = some (1, false) := by kernel_rfl
@[simp] theorem isSl_77 : isSl Tryd.prog 77 = false := by kernel_rfl
@[simp] theorem isStr_77 : isStr Tryd.prog 77 = false := by kernel_rfl
@[simp] theorem isBool_77 : isBool Tryd.prog 77 = false := by kernel_rfl
@[simp] theorem isPtr_77 : isPtr Tryd.prog 77 = false := by kernel_rfl
@[simp] theorem isIf_77 : isIf Tryd.prog 77 = false := by kernel_rfl
@[simp] theorem isIface_77 : isIface Tryd.prog 77 = false := by kernel_rfl
@[simp] theorem isArr_77 : isArr Tryd.prog 77 = false := by kernel_rfl
@[simp] theorem plainT_77 : plainT Tryd.prog 77 = false := by kernel_rfl
@[simp] theorem zAV_77 : zAV Tryd.prog 9 77 = .raw (.nilFunc) := by kernel_rfl
@[simp] theorem zeroIs_77 : zeroIs Tryd.prog 77 (.raw (.nilFunc)) := ⟨.nilFunc, by kernel_rfl, .inl ⟨rfl, rfl⟩⟩
@[simp] theorem tyI_78 : tyI Tryd.prog 78 = some (1, false) := by kernel_rfl
@[simp] theorem isSl_78 : isSl Tryd.prog 78 = true := by kernel_rfl
@[simp] theorem isStr_78 : isStr Tryd.prog 78 = false := by kernel_rfl
@[simp] theorem isBool_78 : isBool Tryd.prog 78 = false := by kernel_rfl
@[simp] theorem isPtr_78 : isPtr Tryd.prog 78 = false := by kernel_rfl
@[simp] theorem isIf_78 : isIf Tryd.prog 78 = false := by kernel_rfl
@[simp] theorem isIface_78 : isIface Tryd.prog 78 = false := by kernel_rfl
@[simp] theorem isArr_78 : isArr Tryd.prog 78 = false := by kernel_rfl
@[simp] theorem plainT_78 : plainT Tryd.prog 78 = false := by kernel_rfl
@[simp] theorem rowI_78 : rowI Tryd.prog 78 = some (26, 1, 24) := by kernel_rfl
@[simp] theorem zAV_78 : zAV Tryd.prog 9 78 = .raw (.slice none 0 0) := by kernel_rfl
@[simp] theorem zeroIs_78 : zeroIs Tryd.prog 78 (.raw (.slice none 0 0)) := ⟨.slice none 0 0, by kernel_rfl, .inl ⟨rfl, rfl⟩⟩
@[simp] theorem tyI_79 : tyI Tryd.prog 79 = some (1, false) := by kernel_rfl
@[simp] theorem isSl_79 : isSl Tryd.prog 79 = false := by kernel_rfl
@[simp] theorem isStr_79 : isStr Tryd.prog 79 = false := by kernel_rfl
@[simp] theorem isBool_79 : isBool Tryd.prog 79 = false := by kernel_rfl
@[simp] theorem isPtr_79 : isPtr Tryd.prog 79 = false := by kernel_rfl
@[simp] theorem isIf_79 : isIf Tryd.prog 79 = false := by kernel_rfl
@[simp] theorem isIface_79 : isIface Tryd.prog 79 = false := by kernel_rfl
@[simp] theorem isArr_79 : isArr Tryd.prog 79 = false := by kernel_rfl
@[simp] theorem plainT_79 : plainT Tryd.prog 79 = false := by kernel_rfl
@[simp] theorem zAV_79 : zAV Tryd.prog 9 79 = .raw (.nilFunc) := by kernel_rfl
@[simp] theorem zeroIs_79 : zeroIs Tryd.prog 79 (.raw (.nilFunc)) := ⟨.nilFunc, by kernel_rfl, .inl ⟨rfl, rfl⟩⟩
@[simp] theorem tyI_80 : tyI Tryd.prog 80 = some (1, false) := by kernel_rfl
@[simp] theorem isSl_80 : isSl Tryd.prog 80 = false := by kernel_rfl
@[simp] theorem isStr_80 : isStr Tryd.prog 80 = false := by kernel_rfl
@[simp] theorem isBool_80 : isBool Tryd.prog 80 = false := by kernel_rfl
@[simp] theorem isPtr_80 : isPtr Tryd.prog 80 = true := by kernel_rfl
@[simp] theorem isIf_80 : isIf Tryd.prog 80 = false := by kernel_rfl
@[simp] theorem isIface_80 : isIface Tryd.prog 80 = false := by kernel_rfl
@[simp] theorem isArr_80 : isArr Tryd.prog 80 = false := by kernel_rfl
@[simp] theorem plainT_80 : plainT Tryd.prog 80 = false := by kernel_rfl
@[simp] theorem zAV_80 : zAV Tryd.prog 9 80 = .raw (.pointer none) := by kernel_rfl
@[simp] theorem zeroIs_80 : zeroIs Tryd.prog 80 (.raw (.pointer none)) := ⟨.pointer none, by kernel_rfl, .inl ⟨rfl, rfl⟩⟩
@[simp] theorem tyI_81 : tyI Tryd.prog 81 = some (1, false) := by kernel_rfl
@[simp] theorem isSl_81 : isSl Tryd.prog 81 = false := by kernel_rfl
@[simp] theorem isStr_81 : isStr Tryd.prog 81 = false := by kernel_rfl
@[simp] theorem isBool_81 : isBool Tryd.prog 81 = false := by kernel_rfl
@[simp] theorem isPtr_81 : isPtr Tryd.prog 81 = false := by kernel_rfl
@[simp] theorem isIf_81 : isIf Tryd.prog 81 = false := by kernel_rfl
@[simp] theorem isIface_81 : isIface Tryd.prog 81 = false := by kernel_rfl
@[simp] theorem isArr_81 : isArr Tryd.prog 81 = false := by kernel_rfl
@[simp] theorem plainT_81 : plainT Tryd.prog 81 = false := by kernel_rfl
@[simp] theorem zAV_81 : zAV Tryd.prog 9 81 = .raw (.nilFunc) := by kernel_rfl
@[simp] theorem zeroIs_81 : zeroIs Tryd.prog 81 (.raw (.nilFunc)) := ⟨.nilFunc, by kernel_rfl, .inl ⟨rfl, rfl⟩⟩
@[simp] theorem tyI_82 : tyI Tryd.prog 82 = some (1, false) := by kernel_rfl
@[simp] theorem isSl_82 : isSl Tryd.prog 82 = false := by kernel_rfl
@[simp] theorem isStr_82 : isStr Tryd.prog 82 = false := by kernel_rfl
@[simp] theorem isBool_82 : isBool Tryd.prog 82 = false := by kernel_rfl
@[simp] theorem isPtr_82 : isPtr Tryd.prog 82 = false := by kernel_rfl
@[simp] theorem isIf_82 : isIf Tryd.prog 82 = false := by kernel_rfl
@[simp] theorem isIface_82 : isIface Tryd.prog 82 = false := by kernel_rfl
@[simp] theorem isArr_82 : isArr Tryd.prog 82 = false := by kernel_rfl
@[simp] theorem plainT_82 : plainT Tryd.prog 82 = false := by kernel_rfl
@[simp] theorem zAV_82 : zAV Tryd.prog 9 82 = .raw (.nilFunc) := by kernel_rfl
@[simp] theorem zeroIs_82 : zeroIs Tryd.prog 82 (.raw (.nilFunc)) := ⟨.nilFunc, by kernel_rfl, .inl ⟨rfl, rfl⟩⟩
@[simp] theorem tyI_83 : tyI Tryd.prog 83 = some (2, true) := by kernel_rfl
@[simp] theorem isSl_83 : isSl Tryd.prog 83 = false := by kernel_rfl
@[simp] theorem isStr_83 : isStr Tryd.prog 83 = false := by kernel_rfl
@[simp] theorem isBool_83 : isBool Tryd.prog 83 = false := by kernel_rfl
@[simp] theorem isPtr_83 : isPtr Tryd.prog 83 = false := by kernel_rfl
@[simp] theorem isIf_83 : isIf Tryd.prog 83 = false := by kernel_rfl
@[simp] theorem isIface_83 : isIface Tryd.prog 83 = false := by kernel_rfl
@[simp] theorem isArr_83 : isArr Tryd.prog 83 = false := by kernel_rfl
@[simp] theorem plainT_83 : plainT Tryd.prog 83 = false := by kernel_rfl
@[simp] theorem fldI_83_0 : fldI Tryd.prog 83 0 = some (0, 1, false) := by kernel_rfl
@[simp] theorem fldI_83_1 : fldI Tryd.prog 83 1 = some (1, 1, false) := by kernel_rfl
@[simp] theorem zAV_83 : zAV Tryd.prog 9 83 = .agg [.raw (.slice none 0 0), .raw (.int .i64 0)] := by kernel_rfl
@[simp] theorem zeroIs_83 : zeroIs Tryd.prog 83 (.agg [.raw (.slice none 0 0), .raw (.int .i64 0)]) := ⟨.agg #[.slice none 0 0, .int .i64 0], by kernel_rfl, .inr ⟨_, _, rfl, rfl, by kernel_rfl⟩⟩
@[simp] theorem layIs_83 : layIs Tryd.prog 83 [.raw (.slice none 0 0), .raw (.int .i64 0)] := layIs_of (by kernel_rfl)
@[simp] theorem tyI_84 : tyI Tryd.prog 84 = some (2, true) := by kernel_rfl
@[simp] theorem isSl_84 : isSl Tryd.prog 84 = false := by kernel_rfl
@[simp] theorem isStr_84 : isStr Tryd.prog 84 = false := by kernel_rfl
@[simp] theorem isBool_84 : isBool Tryd.prog 84 = false := by kernel_rfl
@[simp] theorem isPtr_84 : isPtr Tryd.prog 84 = false := by kernel_rfl
@[simp] theorem isIf_84 : isIf Tryd.prog 84 = false := by kernel_rfl
@[simp] theorem isIface_84 : isIface Tryd.prog 84 = false := by kernel_rfl
@[simp] theorem isArr_84 : isArr Tryd.prog 84 = false := by kernel_rfl
@[simp] theorem plainT_84 : plainT Tryd.prog 84 = false := by kernel_rfl
@[simp] theorem fldI_84_0 : fldI Tryd.prog 84 0 = some (0, 1, false) := by kernel_rfl
@[simp] theorem fldI_84_1 : fldI Tryd.prog 84 1 = some (1, 1, false) := by kernel_rfl
@[simp] theorem zAV_84 : zAV Tryd.prog 9 84 = .agg [.raw (.slice none 0 0), .raw (.int .i64 0)] := by kernel_rfl
@[simp] theorem zeroIs_84 : zeroIs Tryd.prog 84 (.agg [.raw (.slice none 0 0), .raw (.int .i64 0)]) := ⟨.agg #[.slice none 0 0, .int .i64 0], by kernel_rfl, .inr ⟨_, _, rfl, rfl, by kernel_rfl⟩⟩
@[simp] theorem layIs_84 : layIs Tryd.prog 84 [.raw (.slice none 0 0), .raw (.int .i64 0)] := layIs_of (by kernel_rfl)
@[simp] theorem tyI_85 : tyI Tryd.prog 85 = some (1, false) := by kernel_rfl
@[simp] theorem isSl_85 : isSl Tryd.prog 85 = false := by kernel_rfl
@[simp] theorem isStr_85 : isStr Tryd.prog 85 = false := by kernel_rfl
@[simp] theorem isBool_85 : isBool Tryd.prog 85 = false := by kernel_rfl
@[simp] theorem isPtr_85 : isPtr Tryd.prog 85 = false := by kernel_rfl
@[simp] theorem isIf_85 : isIf Tryd.prog 85 = false := by kernel_rfl
@[simp] theorem isIface_85 : isIface Tryd.prog 85 = false := by kernel_rfl
@[simp] theorem isArr_85 : isArr Tryd.prog 85 = false := by kernel_rfl
@[simp] theorem plainT_85 : plainT Tryd.prog 85 = true := by kernel_rfl
@[simp] theorem und_85 : Tryd.prog.underlying 85 = some (.int .u64) := by kernel_rfl
@[simp] theorem zAV_85 : zAV Tryd.prog 9 85 = .raw (.int .u64 0) := by kernel_rfl
@[simp] theorem zeroIs_85 : zeroIs Tryd.prog 85 (.raw (.int .u64 0)) := ⟨.int .u64 0, by kernel_rfl, .inl ⟨rfl, rfl⟩⟩
@[simp] theorem tyI_86 : tyI Tryd.prog 86 = some (1, false) := by kernel_rfl
@[simp] theorem isSl_86 : isSl Tryd.prog 86 = false := by kernel_rfl
@[simp] theorem isStr_86 : isStr Tryd.prog 86 = false := by kernel_rfl
@[simp] theorem isBool_86 : isBool Tryd.prog 86 = false := by kernel_rfl
@[simp] theorem isPtr_86 : isPtr Tryd.prog 86 = false := by kernel_rfl
@[simp] theorem isIf_86 : isIf Tryd.prog 86 = false := by kernel_rfl
@[simp] theorem isIface_86 : isIface Tryd.prog 86 = false := by kernel_rfl
@[simp] theorem isArr_86 : isArr Tryd.prog 86 = false := by kernel_rfl
@[simp] theorem plainT_86 : plainT Tryd.prog 86 = false := by kernel_rfl
@[simp] theorem zAV_86 : zAV Tryd.prog 9 86 = .raw (.nilFunc) := by kernel_rfl
@[simp] theorem zeroIs_86 : zeroIs Tryd.prog 86 (.raw (.nilFunc)) := ⟨.nilFunc, by kernel_rfl, .inl ⟨rfl, rfl⟩⟩
@[simp] theorem tyI_87 : tyI Tryd.prog 87 = some (1, false) := by kernel_rfl
@[simp] theorem isSl_87 : isSl Tryd.prog 87 = false := by kernel_rfl
@[simp] theorem isStr_87 : isStr Tryd.prog 87 = false := by kernel_rfl
@[simp] theorem isBool_87 : isBool Tryd.prog 87 = false := by kernel_rfl
@[simp] theorem isPtr_87 : isPtr Tryd.prog 87 = false := by kernel_rfl
@[simp] theorem isIf_87 : isIf Tryd.prog 87 = false := by kernel_rfl
@[simp] theorem isIface_87 : isIface Tryd.prog 87 = false := by kernel_rfl
@[simp] theorem isArr_87 : isArr Tryd.prog 87 = false := by kernel_rfl
@[simp] theorem plainT_87 : plainT Tryd.prog 87 = false := by kernel_rfl
@[simp] theorem zAV_87 : zAV Tryd.prog 9 87 = .raw (.nilFunc) := by kernel_rfl
@[simp] theorem zeroIs_87 : zeroIs Tryd.prog 87 (.raw (.nilFunc)) := ⟨.nilFunc, by kernel_rfl, .inl ⟨rfl, rfl⟩⟩
@[simp] theorem tyI_88 : tyI Tryd.prog 88 = some (1, false) := by kernel_rfl
@[simp] theorem isSl_88 : isSl Tryd.prog 88 = false := by kernel_rfl
@[simp] theorem isStr_88 : isStr Tryd.prog 88 = false := by kernel_rfl
@[simp] theorem isBool_88 : isBool Tryd.prog 88 = false := by kernel_rfl
@[simp] theorem isPtr_88 : isPtr Tryd.prog 88 = false := by kernel_rfl
@[simp] theorem isIf_88 : isIf Tryd.prog 88 = false := by kernel_rfl
@[simp] theorem isIface_88 : isIface Tryd.prog 88 = false := by kernel_rfl
@[simp] theorem isArr_88 : isArr Tryd.prog 88 = false := by kernel_rfl
@[simp] theorem plainT_88 : plainT Tryd.prog 88 = false := by kernel_rfl
@[simp] theorem zAV_88 : zAV Tryd.prog 9 88 = .raw (.nilFunc) := by kernel_rfl
@[simp] theorem zeroIs_88 : zeroIs Tryd.prog 88 (.raw (.nilFunc)) := ⟨.nilFunc, by kernel_rfl, .inl ⟨rfl, rfl⟩⟩
@[simp] theorem tyI_89 : tyI Tryd.prog 89 = some (1, false) := by kernel_rfl
@[simp] theorem isSl_89 : isSl Tryd.prog 89 = false := by kernel_rfl
@[simp] theorem isStr_89 : isStr Tryd.prog 89 = false := by kernel_rfl
@[simp] theorem isBool_89 : isBool Tryd.prog 89 = false := by kernel_rfl
@[simp] theorem isPtr_89 : isPtr Tryd.prog 89 = false := by kernel_rfl
@[simp] theorem isIf_89 : isIf Tryd.prog 89 = false := by kernel_rfl
@[simp] theorem isIface_89 : isIface Tryd.prog 89 = false := by kernel_rfl
@[simp] theorem isArr_89 : isArr Tryd.prog 89 = false := by kernel_rfl
@[simp] theorem plainT_89 : plainT Tryd.prog 89 = false := by kernel_rfl
@[simp] theorem zAV_89 : zAV Tryd.prog 9 89 = .raw (.nilFunc) := by kernel_rfl
@[simp] theorem zeroIs_89 : zeroIs Tryd.prog 89 (.raw (.nilFunc)) := ⟨.nilFunc, by kernel_rfl, .inl ⟨rfl, rfl⟩⟩
@[simp] theorem tyI_90 : tyI Tryd.prog 90 = some (1, false) := by kernel_rfl
@[simp] theorem isSl_90 : isSl Tryd.prog 90 = false := by kernel_rfl
@[simp] theorem isStr_90 : isStr Tryd.prog 90 = false := by kernel_rfl
@[simp] theorem isBool_90 : isBool Tryd.prog 90 = false := by kernel_rfl
@[simp] theorem isPtr_90 : isPtr Tryd.prog 90 = false := by kernel_rfl
@[simp] theorem isIf_90 : isIf Tryd.prog 90 = false := by kernel_rfl
@[simp] theorem isIface_90 : isIface Tryd.prog 90 = false := by kernel_rfl
@[simp] theorem isArr_90 : isArr Tryd.prog 90 = false := by kernel_rfl
@[simp] theorem plainT_90 : plainT Tryd.prog 90 = false := by kernel_rfl
@[simp] theorem zAV_90 : zAV Tryd.prog 9 90 = .raw (.nilFunc) := by kernel_rfl
@[simp] theorem zeroIs_90 : zeroIs Tryd.prog 90 (.raw (.nilFunc)) := ⟨.nilFunc, by kernel_rfl, .inl ⟨rfl, rfl⟩⟩
@[simp] theorem tyI_91 : tyI Tryd.prog 91 = some (1, false) := by kernel_rfl
@[simp] theorem isSl_91 : isSl Tryd.prog 91 = false := by kernel_rfl
@[simp] theorem isStr_91 : isStr Tryd.prog 91 = false := by kernel_rfl
@[simp] theorem isBool_91 : isBool Tryd.prog 91 = false := by kernel_rfl
@[simp] theorem isPtr_91 : isPtr Tryd.prog 91 = false := by kernel_rfl
@[simp] theorem isIf_91 : isIf Tryd.prog 91 = false := by kernel_rfl
@[simp] theorem isIface_91 : isIface Tryd.prog 91 = false := by kernel_rfl
@[simp] theorem isArr_91 : isArr Tryd.prog 91 = false := by kernel_rfl
@[simp] theorem plainT_91 : plainT Tryd.prog 91 = false := by kernel_rfl
@[simp] theorem zAV_91 : zAV Tryd.prog 9 91 = .raw (.nilFunc) := by kernel_rfl
@[simp] theorem zeroIs_91 : zeroIs Tryd.prog 91 (.raw (.nilFunc)) := ⟨.nilFunc, by kernel_rfl, .inl ⟨rfl, rfl⟩⟩
@[simp] theorem tyI_92 : tyI Tryd.prog 92 = some (1, false) := by kernel_rfl
@[simp] theorem isSl_92 : isSl Tryd.prog 92 = false := by kernel_rfl
@[simp] theorem isStr_92 : isStr Tryd.prog 92 = false := by kernel_rfl
@[simp] theorem isBool_92 : isBool Tryd.prog 92 = false := by kernel_rfl
@[simp] theorem isPtr_92 : isPtr Tryd.prog 92 = true := by kernel_rfl
@[simp] theorem isIf_92 : isIf Tryd.prog 92 = false := by kernel_rfl
@[simp] theorem isIface_92 : isIface Tryd.prog 92 = false := by kernel_rfl
@[simp] theorem isArr_92 : isArr Tryd.prog 92 = false := by kernel_rfl
@[simp] theorem plainT_92 : plainT Tryd.prog 92 = false := by kernel_rfl
@[simp] theorem zAV_92 : zAV Tryd.prog 9 92 = .raw (.pointer none) := by kernel_rfl
@[simp] theorem zeroIs_92 : zeroIs Tryd.prog 92 (.raw (.pointer none)) := ⟨.pointer none, by kernel_rfl, .inl ⟨rfl, rfl⟩⟩
@[simp] theorem tyI_93 : tyI Tryd.prog 93 = some (1, false) := by kernel_rfl
@[simp] theorem isSl_93 : isSl Tryd.prog 93 = false := by kernel_rfl
@[simp] theorem isStr_93 : isStr Tryd.prog 93 = false := by kernel_rfl
@[simp] theorem isBool_93 : isBool Tryd.prog 93 = false := by kernel_rfl
@[simp] theorem isPtr_93 : isPtr Tryd.prog 93 = true := by kernel_rfl
@[simp] theorem isIf_93 : isIf Tryd.prog 93 = false := by kernel_rfl
@[simp] theorem isIface_93 : isIface Tryd.prog 93 = false := by kernel_rfl
@[simp] theorem isArr_93 : isArr Tryd.prog 93 = false := by kernel_rfl
@[simp] theorem plainT_93 : plainT Tryd.prog 93 = false := by kernel_rfl
@[simp] theorem zAV_93 : zAV Tryd.prog 9 93 = .raw (.pointer none) := by kernel_rfl
@[simp] theorem zeroIs_93 : zeroIs Tryd.prog 93 (.raw (.pointer none)) := ⟨.pointer none, by kernel_rfl, .inl ⟨rfl, rfl⟩⟩
@[simp] theorem tyI_94 : tyI Tryd.prog 94 = some (1, false) := by kernel_rfl
@[simp] theorem isSl_94 : isSl Tryd.prog 94 = false := by kernel_rfl
@[simp] theorem isStr_94 : isStr Tryd.prog 94 = false := by kernel_rfl
@[simp] theorem isBool_94 : isBool Tryd.prog 94 = false := by kernel_rfl
@[simp] theorem isPtr_94 : isPtr Tryd.prog 94 = true := by kernel_rfl
@[simp] theorem isIf_94 : isIf Tryd.prog 94 = false := by kernel_rfl
@[simp] theorem isIface_94 : isIface Tryd.prog 94 = false := by kernel_rfl
@[simp] theorem isArr_94 : isArr Tryd.prog 94 = false := by kernel_rfl
@[simp] theorem plainT_94 : plainT Tryd.prog 94 = false := by kernel_rfl
@[simp] theorem zAV_94 : zAV Tryd.prog 9 94 = .raw (.pointer none) := by kernel_rfl
@[simp] theorem zeroIs_94 : zeroIs Tryd.prog 94 (.raw (.pointer none)) := ⟨.pointer none, by kernel_rfl, .inl ⟨rfl, rfl⟩⟩
@[simp] theorem tyI_95 : tyI Tryd.prog 95 = some (2, true) := by kernel_rfl
@[simp] theorem isSl_95 : isSl Tryd.prog 95 = false := by kernel_rfl
@[simp] theorem isStr_95 : isStr Tryd.prog 95 = false := by kernel_rfl
@[simp] theorem isBool_95 : isBool Tryd.prog 95 = false := by kernel_rfl
@[simp] theorem isPtr_95 : isPtr Tryd.prog 95 = false := by kernel_rfl
@[simp] theorem isIf_95 : isIf Tryd.prog 95 = false := by kernel_rfl
@[simp] theorem isIface_95 : isIface Tryd.prog 95 = false := by kernel_rfl
@[simp] theorem isArr_95 : isArr Tryd.prog 95 = false := by kernel_rfl
@[simp] theorem plainT_95 : plainT Tryd.prog 95 = false := by kernel_rfl
@[simp] theorem fldI_95_0 : fldI Tryd.prog 95 0 = some (0, 1, false) := by kernel_rfl
@[simp] theorem fldI_95_1 : fldI Tryd.prog 95 1 = some (1, 1, false) := by kernel_rfl
@[simp] theorem zAV_95 : zAV Tryd.prog 9 95 = .agg [.raw (.string ⟨#[]⟩), .raw (.nilIface)] := by kernel_rfl
@[simp] theorem zeroIs_95 : zeroIs Tryd.prog 95 (.agg [.raw (.string ⟨#[]⟩), .raw (.nilIface)]) := ⟨.agg #[.string ⟨#[]⟩, .nilIface], by kernel_rfl, .inr ⟨_, _, rfl, rfl, by kernel_rfl⟩⟩
@[simp] theorem layIs_95 : layIs Tryd.prog 95 [.raw (.string ⟨#[]⟩), .raw (.nilIface)] := layIs_of (by kernel_rfl)
@[simp] theorem tyI_96 : tyI Tryd.prog 96 = some (2, true) := by kernel_rfl
@[simp] theorem isSl_96 : isSl Tryd.prog 96 = false := by kernel_rfl
@[simp] theorem isStr_96 : isStr Tryd.prog 96 = false := by kernel_rfl
@[simp] theorem isBool_96 : isBool Tryd.prog 96 = false := by kernel_rfl
@[simp] theorem isPtr_96 : isPtr Tryd.prog 96 = false := by kernel_rfl
@[simp] theorem isIf_96 : isIf Tryd.prog 96 = false := by kernel_rfl
@[simp] theorem isIface_96 : isIface Tryd.prog 96 = false := by kernel_rfl
@[simp] theorem isArr_96 : isArr Tryd.prog 96 = false := by kernel_rfl
@[simp] theorem plainT_96 : plainT Tryd.prog 96 = false := by kernel_rfl
@[simp] theorem fldI_96_0 : fldI Tryd.prog 96 0 = some (0, 1, false) := by kernel_rfl
@[simp] theorem fldI_96_1 : fldI Tryd.prog 96 1 = some (1, 1, false) := by kernel_rfl
@[simp] theorem zAV_96 : zAV Tryd.prog 9 96 = .agg [.raw (.string ⟨#[]⟩), .raw (.nilIface)] := by kernel_rfl
@[simp] theorem zeroIs_96 : zeroIs Tryd.prog 96 (.agg [.raw (.string ⟨#[]⟩), .raw (.nilIface)]) := ⟨.agg #[.string ⟨#[]⟩, .nilIface], by kernel_rfl, .inr ⟨_, _, rfl, rfl, by kernel_rfl⟩⟩
@[simp] theorem layIs_96 : layIs Tryd.prog 96 [.raw (.string ⟨#[]⟩), .raw (.nilIface)] := layIs_of (by kernel_rfl)
@[simp] theorem tyI_97 : tyI Tryd.prog 97 = some (1, false) := by kernel_rfl
@[simp] theorem isSl_97 : isSl Tryd.prog 97 = false := by kernel_rfl
@[simp] theorem isStr_97 : isStr Tryd.prog 97 = false := by kernel_rfl
@[simp] theorem isBool_97 : isBool Tryd.prog 97 = false := by kernel_rfl
@[simp] theorem isPtr_97 : isPtr Tryd.prog 97 = false := by kernel_rfl
@[simp] theorem isIf_97 : isIf Tryd.prog 97 = false := by kernel_rfl
@[simp] theorem isIface_97 : isIface Tryd.prog 97 = false := by kernel_rfl
@[simp] theorem isArr_97 : isArr Tryd.prog 97 = false := by kernel_rfl
@[simp] theorem plainT_97 : plainT Tryd.prog 97 = false := by kernel_rfl
@[simp] theorem zAV_97 : zAV Tryd.prog 9 97 = .raw (.nilFunc) := by kernel_rfl
@[simp] theorem zeroIs_97 : zeroIs Tryd.prog 97 (.raw (.nilFunc)) := ⟨.nilFunc, by kernel_rfl, .inl ⟨rfl, rfl⟩⟩
@[simp] theorem tyI_98 : tyI Tryd.prog 98 = some (1, false) := by kernel_rfl
@[simp] theorem isSl_98 : isSl Tryd.prog 98 = false := by kernel_rfl
@[simp] theorem isStr_98 : isStr Tryd.prog 98 = false := by kernel_rfl
@[simp] theorem isBool_98 : isBool Tryd.prog 98 = false := by kernel_rfl
@[simp] theorem isPtr_98 : isPtr Tryd.prog 98 = false := by kernel_rfl
@[simp] theorem isIf_98 : isIf Tryd.prog 98 = false := by kernel_rfl
@[simp] theorem isIface_98 : isIface Tryd.prog 98 = false := by kernel_rfl
@[simp] theorem isArr_98 : isArr Tryd.prog 98 = false := by kernel_rfl
@[simp] theorem plainT_98 : plainT Tryd.prog 98 = false := by kernel_rfl
@[simp] theorem zAV_98 : zAV Tryd.prog 9 98 = .raw (.nilFunc) := by kernel_rfl
@[simp] theorem zeroIs_98 : zeroIs Tryd.prog 98 (.raw (.nilFunc)) := ⟨.nilFunc, by kernel_rfl, .inl ⟨rfl, rfl⟩⟩
@[simp] theorem tyI_99 : tyI Tryd.prog 99 = some (4, true) := by kernel_rfl
@[simp] theorem isSl_99 : isSl Tryd.prog 99 = false := by kernel_rfl
@[simp] theorem isStr_99 : isStr Tryd.prog 99 = false := by kernel_rfl
@[simp] theorem isBool_99 : isBool Tryd.prog 99 = false := by kernel_rfl
@[simp] theorem isPtr_99 : isPtr Tryd.prog 99 = false := by kernel_rfl
@[simp] theorem isIf_99 : isIf Tryd.prog 99 = false := by kernel_rfl
@[simp] theorem isIface_99 : isIface Tryd.prog 99 = false := by kernel_rfl
@[simp] theorem isArr_99 : isArr Tryd.prog 99 = false := by kernel_rfl
@[simp] theorem plainT_99 : plainT Tryd.prog 99 = false := by kernel_rfl
@[simp] theorem fldI_99_0 : fldI Tryd.prog 99 0 = some (0, 1, false) := by kernel_rfl
@[simp] theorem fldI_99_1 : fldI Tryd.prog 99 1 = some (1, 1, false) := by kernel_rfl
@[simp] theorem fldI_99_2 : fldI Tryd.prog 99 2 = some (2, 1, false) := by kernel_rfl
@[simp] theorem fldI_99_3 : fldI Tryd.prog 99 3 = some (3, 1, false) := by kernel_rfl
@[simp] theorem zAV_99 : zAV Tryd.prog 9 99 = .agg [.raw (.bool false), .raw (.slice none 0 0), .raw (.int .i64 0), .raw (.int .i64 0)] := by kernel_rfl
@[simp] theorem zeroIs_99 : zeroIs Tryd.prog 99 (.agg [.raw (.bool false), .raw (.slice none 0 0), .raw (.int .i64 0), .raw (.int .i64 0)]) := ⟨.agg #[.bool false, .slice none 0 0, .int .i64 0, .int .i64 0], by kernel_rfl, .inr ⟨_, _, rfl, rfl, by kernel_rfl⟩⟩
@[simp] theorem layIs_99 : layIs Tryd.prog 99 [.raw (.bool false), .raw (.slice none 0 0), .raw (.int .i64 0), .raw (.int .i64 0)] := layIs_of (by kernel_rfl)
@[simp] theorem tyI_100 : tyI Tryd.prog 100 = some (4, true) := by kernel_rfl
@[simp] theorem isSl_100 : isSl Tryd.prog 100 = false := by kernel_rfl
@[simp] theorem isStr_100 : isStr Tryd.prog 100 = false := by kernel_rfl
@[simp] theorem isBool_100 : isBool Tryd.prog 100 = false := by kernel_rfl
@[simp] theorem isPtr_100 : isPtr Tryd.prog 100 = false := by kernel_rfl
@[simp] theorem isIf_100 : isIf Tryd.prog 100 = false := by kernel_rfl
@[simp] theorem isIface_100 : isIface Tryd.prog 100 = false := by kernel_rfl
@[simp] theorem isArr_100 : isArr Tryd.prog 100 = false := by kernel_rfl
@[simp] theorem plainT_100 : plainT Tryd.prog 100 = false := by kernel_rfl
@[simp] theorem fldI_100_0 : fldI Tryd.prog 100 0 = some (0, 1, false) := by kernel_rfl
@[simp] theorem fldI_100_1 : fldI Tryd.prog 100 1 = some (1, 1, false) := by kernel_rfl
@[simp] theorem fldI_100_2 : fldI Tryd.prog 100 2 = some (2, 1, false) := by kernel_rfl
@[simp] theorem fldI_100_3 : fldI Tryd.prog 100 3 = some (3, 1, false) := by kernel_rfl
@[simp] theorem zAV_100 : zAV Tryd.prog 9 100 = .agg [.raw (.bool false), .raw (.slice none 0 0), .raw (.int .i64 0), .raw (.int .i64 0)] := by kernel_rfl
@[simp] theorem zeroIs_100 : zeroIs Tryd.prog 100 (.agg [.raw (.bool false), .raw (.slice none 0 0), .raw (.int .i64 0), .raw (.int .i64 0)]) := ⟨.agg #[.bool false, .slice none 0 0, .int .i64 0, .int .i64 0], by kernel_rfl, .inr ⟨_, _, rfl, rfl, by kernel_rfl⟩⟩
@[simp] theorem layIs_100 : layIs Tryd.prog 100 [.raw (.bool false), .raw (.slice none 0 0), .raw (.int .i64 0), .raw (.int .i64 0)] := layIs_of (by kernel_rfl)
@[simp] theorem tyI_101 : tyI Tryd.prog 101 = some (1, false) := by kernel_rfl
@[simp] theorem isSl_101 : isSl Tryd.prog 101 = false := by kernel_rfl
@[simp] theorem isStr_101 : isStr Tryd.prog 101 = false := by kernel_rfl
@[simp] theorem isBool_101 : isBool Tryd.prog 101 = false := by kernel_rfl
@[simp] theorem isPtr_101 : isPtr Tryd.prog 101 = false := by kernel_rfl
@[simp] theorem isIf_101 : isIf Tryd.prog 101 = false := by kernel_rfl
@[simp] theorem isIface_101 : isIface Tryd.prog 101 = false := by kernel_rfl
@[simp] theorem isArr_101 : isArr Tryd.prog 101 = false := by kernel_rfl
@[simp] theorem plainT_101 : plainT Tryd.prog 101 = false := by kernel_rfl
@[simp] theorem zAV_101 : zAV Tryd.prog 9 101 = .raw (.nilFunc) := by kernel_rfl
@[simp] theorem zeroIs_101 : zeroIs Tryd.prog 101 (.raw (.nilFunc)) := ⟨.nilFunc, by kernel_rfl, .inl ⟨rfl, rfl⟩⟩
@[simp] theorem tyI_102 : tyI Tryd.prog 102 = some (1, false) := by kernel_rfl
@[simp] theorem isSl_102 : isSl Tryd.prog 102 = false := by kernel_rfl
@[simp] theorem isStr_102 : isStr Tryd.prog 102 = false := by kernel_rfl
@[simp] theorem isBool_102 : isBool Tryd.prog 102 = false := by kernel_rfl
@[simp] theorem isPtr_102 : isPtr Tryd.prog 102 = false := by kernel_rfl
@[simp] theorem isIf_102 : isIf Tryd.prog 102 = false := by kernel_rfl
@[simp] theorem isIface_102 : isIface Tryd.prog 102 = false := by kernel_rfl
@[simp] theorem isArr_102 : isArr Tryd.prog 102 = false := by kernel_rfl
@[simp] theorem plainT_102 : plainT Tryd.prog 102 = false := by kernel_rfl
@[simp] theorem zAV_102 : zAV Tryd.prog 9 102 = .raw (.nilFunc) := by kernel_rfl
@[simp] theorem zeroIs_102 : zeroIs Tryd.prog 102 (.raw (.nilFunc)) := ⟨.nilFunc, by kernel_rfl, .inl ⟨rfl, rfl⟩⟩
@[simp] theorem tyI_103 : tyI Tryd.prog 103 = some (3, true) := by kernel_rfl
@[simp] theorem isSl_103 : isSl Tryd.prog 103 = false := by kernel_rfl
@[simp] theorem isStr_103 : isStr Tryd.prog 103 = false := by kernel_rfl
@[simp] theorem isBool_103 : isBool Tryd.prog 103 = false := by kernel_rfl
@[simp] theorem isPtr_103 : isPtr Tryd.prog 103 = false := by kernel_rfl
@[simp] theorem isIf_103 : isIf Tryd.prog 103 = false := by kernel_rfl
@[simp] theorem isIface_103 : isIface Tryd.prog 103 = false := by kernel_rfl
@[simp] theorem isArr_103 : isArr Tryd.prog 103 = false := by kernel_rfl
@[simp] theorem plainT_103 : plainT Tryd.prog 103 = true := by kernel_rfl
@[simp] theorem fldI_103_0 : fldI Tryd.prog 103 0 = some (0, 1, false) := by kernel_rfl
@[simp] theorem fldI_103_1 : fldI Tryd.prog 103 1 = some (1, 1, false) := by kernel_rfl
@[simp] theorem fldI_103_2 : fldI Tryd.prog 103 2 = some (2, 1, false) := by kernel_rfl
@[simp] theorem zAV_103 : zAV Tryd.prog 9 103 = .agg [.raw (.int .i64 0), .raw (.int .i64 0), .raw (.string ⟨#[]⟩)] := by kernel_rfl
@[simp] theorem zeroIs_103 : zeroIs Tryd.prog 103 (.agg [.raw (.int .i64 0), .raw (.int .i64 0), .raw (.string ⟨#[]⟩)]) := ⟨.agg #[.int .i64 0, .int .i64 0, .string ⟨#[]⟩], by kernel_rfl, .inr ⟨_, _, rfl, rfl, by kernel_rfl⟩⟩
@[simp] theorem layIs_103 : layIs Tryd.prog 103 [.raw (.int .i64 0), .raw (.int .i64 0), .raw (.string ⟨#[]⟩)] := layIs_of (by kernel_rfl)
@[simp] theorem tyI_104 : tyI Tryd.prog 104 = some (3, true) := by kernel_rfl
@[simp] theorem isSl_104 : isSl Tryd.prog 104 = false := by kernel_rfl
@[simp] theorem isStr_104 : isStr Tryd.prog 104 = false := by kernel_rfl
@[simp] theorem isBool_104 : isBool Tryd.prog 104 = false := by kernel_rfl
@[simp] theorem isPtr_104 : isPtr Tryd.prog 104 = false := by kernel_rfl
@[simp] theorem isIf_104 : isIf Tryd.prog 104 = false := by kernel_rfl
@[simp] theorem isIface_104 : isIface Tryd.prog 104 = false := by kernel_rfl
@[simp] theorem isArr_104 : isArr Tryd.prog 104 = false := by kernel_rfl
@[simp] theorem plainT_104 : plainT Tryd.prog 104 = true := by kernel_rfl
@[simp] theorem eqd_104 : eqd Tryd.prog 9 104 = some (.st [.i, .i, .s]) := by kernel_rfl
@[simp] theorem guardless_104 : guardless Tryd.prog 104 = true := by kernel_rfl
@[simp] theorem fldI_104_0 : fldI Tryd.prog 104 0 = some (0, 1, false) := by kernel_rfl
@[simp] theorem fldI_104_1 : fldI Tryd.prog 104 1 = some (1, 1, false) := by kernel_rfl
@[simp] theorem fldI_104_2 : fldI Tryd.prog 104 2 = some (2, 1, false) := by kernel_rfl
@[simp] theorem zAV_104 : zAV Tryd.prog 9 104 = .agg [.raw (.int .i64 0), .raw (.int .i64 0), .raw (.string ⟨#[]⟩)] := by kernel_rfl
@[simp] theorem zeroIs_104 : zeroIs Tryd.prog 104 (.agg [.raw (.int .i64 0), .raw (.int .i64 0), .raw (.string ⟨#[]⟩)]) := ⟨.agg #[.int .i64 0, .int .i64 0, .string ⟨#[]⟩], by kernel_rfl, .inr ⟨_, _, rfl, rfl, by kernel_rfl⟩⟩
@[simp] theorem layIs_104 : layIs Tryd.prog 104 [.raw (.int .i64 0), .raw (.int .i64 0), .raw (.string ⟨#[]⟩)] := layIs_of (by kernel_rfl)
@[simp] theorem tyI_105 : tyI Tryd.prog 105 = some (1, false) := by kernel_rfl
@[simp] theorem isSl_105 : isSl Tryd.prog 105 = false := by kernel_rfl
@[simp] theorem isStr_105 : isStr Tryd.prog 105 = false := by kernel_rfl
@[simp] theorem isBool_105 : isBool Tryd.prog 105 = false := by kernel_rfl
@[simp] theorem isPtr_105 : isPtr Tryd.prog 105 = false := by kernel_rfl
@[simp] theorem isIf_105 : isIf Tryd.prog 105 = false := by kernel_rfl
@[simp] theorem isIface_105 : isIface Tryd.prog 105 = false := by kernel_rfl
@[simp] theorem isArr_105 : isArr Tryd.prog 105 = false := by kernel_rfl
@[simp] theorem plainT_105 : plainT Tryd.prog 105 = false := by kernel_rfl
@[simp] theorem zAV_105 : zAV Tryd.prog 9 105 = .raw (.nilFunc) := by kernel_rfl
@[simp] theorem zeroIs_105 : zeroIs Tryd.prog 105 (.raw (.nilFunc)) := ⟨.nilFunc, by kernel_rfl, .inl ⟨rfl, rfl⟩⟩
@[simp] theorem tyI_106 : tyI Tryd.prog 106 = some (1, false) := by kernel_rfl
@[simp] theorem isSl_106 : isSl Tryd.prog 106 = false := by kernel_rfl
@[simp] theorem isStr_106 : isStr Tryd.prog 106 = false := by kernel_rfl
@[simp] theorem isBool_106 : isBool Tryd.prog 106 = false := by kernel_rfl
@[simp] theorem isPtr_106 : isPtr Tryd.prog 106 = false := by kernel_rfl
@[simp] theorem isIf_106 : isIf Tryd.prog 106 = false := by kernel_rfl
@[simp] theorem isIface_106 : isIface Tryd.prog 106 = false := by kernel_rfl
@[simp] theorem isArr_106 : isArr Tryd.prog 106 = false := by kernel_rfl
@[simp] theorem plainT_106 : plainT Tryd.prog 106 = false := by kernel_rfl
@[simp] theorem zAV_106 : zAV Tryd.prog 9 106 = .raw (.nilFunc) := by kernel_rfl
@[simp] theorem zeroIs_106 : zeroIs Tryd.prog 106 (.raw (.nilFunc)) := ⟨.nilFunc, by kernel_rfl, .inl ⟨rfl, rfl⟩⟩
@[simp] theorem tyI_107 : tyI Tryd.prog 107 = some (1, false) := by kernel_rfl
@[simp] theorem isSl_107 : isSl Tryd.prog 107 = false := by kernel_rfl
@[simp] theorem isStr_107 : isStr Tryd.prog 107 = false := by kernel_rfl
@[simp] theorem isBool_107 : isBool Tryd.prog 107 = false := by kernel_rfl
@[simp] theorem isPtr_107 : isPtr Tryd.prog 107 = false := by kernel_rfl
@[simp] theorem isIf_107 : isIf Tryd.prog 107 = false := by kernel_rfl
@[simp] theorem isIface_107 : isIface Tryd.prog 107 = false := by kernel_rfl
@[simp] theorem isArr_107 : isArr Tryd.prog 107 = false := by kernel_rfl
@[simp] theorem plainT_107 : plainT Tryd.prog 107 = false := by kernel_rfl
@[simp] theorem zAV_107 : zAV Tryd.prog 9 107 = .raw (.nilFunc) := by kernel_rfl
@[simp] theorem zeroIs_107 : zeroIs Tryd.prog 107 (.raw (.nilFunc)) := ⟨.nilFunc, by kernel_rfl, .inl ⟨rfl, rfl⟩⟩
@[simp] theorem tyI_108 : tyI Tryd.prog 108 = some (1, false) := by kernel_rfl
@[simp] theorem isSl_108 : isSl Tryd.prog 108 = true := by kernel_rfl
@[simp] theorem isStr_108 : isStr Tryd.prog 108 = false := by kernel_rfl
@[simp] theorem isBool_108 : isBool Tryd.prog 108 = false := by kernel_rfl
@[simp] theorem isPtr_108 : isPtr Tryd.prog 108 = false := by kernel_rfl
@[simp] theorem isIf_108 : isIf Tryd.prog 108 = false := by kernel_rfl
@[simp] theorem isIface_108 : isIface Tryd.prog 108 = false := by kernel_rfl
@[simp] theorem isArr_108 : isArr Tryd.prog 108 = false := by kernel_rfl
@[simp] theorem plainT_108 : plainT Tryd.prog 108 = false := by kernel_rfl
@[simp] theorem rowI_108 : rowI Tryd.prog 108 = some (33, 1, 16) := by kernel_rfl
@[simp] theorem zAV_108 : zAV Tryd.prog 9 108 = .raw (.slice none 0 0) := by kernel_rfl
@[simp] theorem zeroIs_108 : zeroIs Tryd.prog 108 (.raw (.slice none 0 0)) := ⟨.slice none 0 0, by kernel_rfl, .inl ⟨rfl, rfl⟩⟩
@[simp] theorem tyI_109 : tyI Tryd.prog 109 = some (1, false) := by kernel_rfl
@[simp] theorem isSl_109 : isSl Tryd.prog 109 = false := by kernel_rfl
@[simp] theorem isStr_109 : isStr Tryd.prog 109 = false := by kernel_rfl
@[simp] theorem isBool_109 : isBool Tryd.prog 109 = false := by kernel_rfl
@[simp] theorem isPtr_109 : isPtr Tryd.prog 109 = false := by kernel_rfl
@[simp] theorem isIf_109 : isIf Tryd.prog 109 = false := by kernel_rfl
@[simp] theorem isIface_109 : isIface Tryd.prog 109 = false := by kernel_rfl
@[simp] theorem isArr_109 : isArr Tryd.prog 109 = false := by kernel_rfl
@[simp] theorem plainT_109 : plainT Tryd.prog 109 = false := by kernel_rfl
@[simp] theorem zAV_109 : zAV Tryd.prog 9 109 = .raw (.nilFunc) := by kernel_rfl
@[simp] theorem zeroIs_109 : zeroIs Tryd.prog 109 (.raw (.nilFunc)) := ⟨.nilFunc, by kernel_rfl, .inl ⟨rfl, rfl⟩⟩
@[simp] theorem tyI_110 : tyI Tryd.prog 110 = some (1, false) := by kernel_rfl
@[simp] theorem isSl_110 : isSl Tryd.prog 110 = false := by kernel_rfl
@[simp] theorem isStr_110 : isStr Tryd.prog 110 = false := by kernel_rfl
@[simp] theorem isBool_110 : isBool Tryd.prog 110 = false := by kernel_rfl
@[simp] theorem isPtr_110 : isPtr Tryd.prog 110 = false := by kernel_rfl
@[simp] theorem isIf_110 : isIf Tryd.prog 110 = true := by kernel_rfl
@[simp] theorem isIface_110 : isIface Tryd.prog 110 = true := by kernel_rfl
@[simp] theorem isArr_110 : isArr Tryd.prog 110 = false := by kernel_rfl
@[simp] theorem plainT_110 : plainT Tryd.prog 110 = false := by kernel_rfl
@[simp] theorem zAV_110 : zAV Tryd.prog 9 110 = .raw (.nilIface) := by kernel_rfl
@[simp] theorem zeroIs_110 : zeroIs Tryd.prog 110 (.raw (.nilIface)) := ⟨.nilIface, by kernel_rfl, .inl ⟨rfl, rfl⟩⟩
@[simp] theorem tyI_111 : tyI Tryd.prog 111 = some (1, false) := by kernel_rfl
@[simp] theorem isSl_111 : isSl Tryd.prog 111 = false := by kernel_rfl
@[simp] theorem isStr_111 : isStr Tryd.prog 111 = false := by kernel_rfl
@[simp] theorem isBool_111 : isBool Tryd.prog 111 = false := by kernel_rfl
@[simp] theorem isPtr_111 : isPtr Tryd.prog 111 = false := by kernel_rfl
@[simp] theorem isIf_111 : isIf Tryd.prog 111 = true := by kernel_rfl
@[simp] theorem isIface_111 : isIface Tryd.prog 111 = true := by kernel_rfl
@[simp] theorem isArr_111 : isArr Tryd.prog 111 = false := by kernel_rfl
@[simp] theorem plainT_111 : plainT Tryd.prog 111 = false := by kernel_rfl
@[simp] theorem zAV_111 : zAV Tryd.prog 9 111 = .raw (.nilIface) := by kernel_rfl
@[simp] theorem zeroIs_111 : zeroIs Tryd.prog 111 (.raw (.nilIface)) := ⟨.nilIface, by kernel_rfl, .inl ⟨rfl, rfl⟩⟩
@[simp] theorem tyI_112 : tyI Tryd.prog 112 = some (1, false) := by kernel_rfl
@[simp] theorem isSl_112 : isSl Tryd.prog 112 = false := by kernel_rfl
@[simp] theorem isStr_112 : isStr Tryd.prog 112 = false := by kernel_rfl
@[simp] theorem isBool_112 : isBool Tryd.prog 112 = false := by kernel_rfl
@[simp] theorem isPtr_112 : isPtr Tryd.prog 112 = false := by kernel_rfl
@[simp] theorem isIf_112 : isIf Tryd.prog 112 = false := by kernel_rfl
@[simp] theorem isIface_112 : isIface Tryd.prog 112 = false := by kernel_rfl
@[simp] theorem isArr_112 : isArr Tryd.prog 112 = false := by kernel_rfl
@[simp] theorem plainT_112 : plainT Tryd.prog 112 = false := by kernel_rfl
@[simp] theorem zAV_112 : zAV Tryd.prog 9 112 = .raw (.nilFunc) := by kernel_rfl
@[simp] theorem zeroIs_112 : zeroIs Tryd.prog 112 (.raw (.nilFunc)) := ⟨.nilFunc, by kernel_rfl, .inl ⟨rfl, rfl⟩⟩
@[simp] theorem tyI_113 : tyI Tryd.prog 113 = some (1, false) := by kernel_rfl
@[simp] theorem isSl_113 : isSl Tryd.prog 113 = false := by kernel_rfl
@[simp] theorem isStr_113 : isStr Tryd.prog 113 = false := by kernel_rfl
@[simp] theorem isBool_113 : isBool Tryd.prog 113 = false := by kernel_rfl
@[simp] theorem isPtr_113 : isPtr Tryd.prog 113 = false := by kernel_rfl
@[simp] theorem isIf_113 : isIf Tryd.prog 113 = false := by kernel_rfl
@[simp] theorem isIface_113 : isIface Tryd.prog 113 = false := by kernel_rfl
@[simp] theorem isArr_113 : isArr Tryd.prog 113 = false := by kernel_rfl
@[simp] theorem plainT_113 : plainT Tryd.prog 113 = false := by kernel_rfl
@[simp] theorem zAV_113 : zAV Tryd.prog 9 113 = .raw (.nilFunc) := by kernel_rfl
@[simp] theorem zeroIs_113 : zeroIs Tryd.prog 113 (.raw (.nilFunc)) := ⟨.nilFunc, by kernel_rfl, .inl ⟨rfl, rfl⟩⟩
@[simp] theorem tyI_114 : tyI Tryd.prog 114 = some (1, false) := by kernel_rfl
@[simp] theorem isSl_114 : isSl Tryd.prog 114 = false := by kernel_rfl
@[simp] theorem isStr_114 : isStr Tryd.prog 114 = false := by kernel_rfl
@[simp] theorem isBool_114 : isBool Tryd.prog 114 = false := by kernel_rfl
@[simp] theorem isPtr_114 : isPtr Tryd.prog 114 = false := by kernel_rfl
@[simp] theorem isIf_114 : isIf Tryd.prog 114 = false := by kernel_rfl
@[simp] theorem isIface_114 : isIface Tryd.prog 114 = false := by kernel_rfl
@[simp] theorem isArr_114 : isArr Tryd.prog 114 = false := by kernel_rfl
@[simp] theorem plainT_114 : plainT Tryd.prog 114 = false := by kernel_rfl
@[simp] theorem zAV_114 : zAV Tryd.prog 9 114 = .raw (.nilFunc) := by kernel_rfl
@[simp] theorem zeroIs_114 : zeroIs Tryd.prog 114 (.raw (.nilFunc)) := ⟨.nilFunc, by kernel_rfl, .inl ⟨rfl, rfl⟩⟩
@[simp] theorem isSl_115 : isSl Tryd.prog 115 = false := by kernel_rfl
@[simp] theorem tyI_116 : tyI Tryd.prog 116 = some (1, false) := by kernel_rfl
@[simp] theorem isSl_116 : isSl Tryd.prog 116 = false := by kernel_rfl
@[simp] theorem isStr_116 : isStr Tryd.prog 116 = false := by kernel_rfl
@[simp] theorem isBool_116 : isBool Tryd.prog 116 = false := by kernel_rfl
@[simp] theorem isPtr_116 : isPtr Tryd.prog 116 = false := by kernel_rfl
@[simp] theorem isIf_116 : isIf Tryd.prog 116 = false := by kernel_rfl
@[simp] theorem isIface_116 : isIface Tryd.prog 116 = false := by kernel_rfl
@[simp] theorem isArr_116 : isArr Tryd.prog 116 = false := by kernel_rfl
@[simp] theorem plainT_116 : plainT Tryd.prog 116 = false := by kernel_rfl
@[simp] theorem zAV_116 : zAV Tryd.prog 9 116 = .raw (.nilFunc) := by kernel_rfl
@[simp] theorem zeroIs_116 : zeroIs Tryd.prog 116 (.raw (.nilFunc)) := ⟨.nilFunc, by kernel_rfl, .inl ⟨rfl, rfl⟩⟩
@[simp] theorem tyI_117 : tyI Tryd.prog 117 = some (1, false) := by kernel_rfl
@[simp] theorem isSl_117 : isSl Tryd.prog 117 = false := by kernel_rfl
@[simp] theorem isStr_117 : isStr Tryd.prog 117 = false := by kernel_rfl
@[simp] theorem isBool_117 : isBool Tryd.prog 117 = false := by kernel_rfl
@[simp] theorem isPtr_117 : isPtr Tryd.prog 117 = false := by kernel_rfl
@[simp] theorem isIf_117 : isIf Tryd.prog 117 = false := by kernel_rfl
@[simp] theorem isIface_117 : isIface Tryd.prog 117 = false := by kernel_rfl
@[simp] theorem isArr_117 : isArr Tryd.prog 117 = false := by kernel_rfl
@[simp] theorem plainT_117 : plainT Tryd.prog 117 = false := by kernel_rfl
@[simp] theorem zAV_117 : zAV Tryd.prog 9 117 = .raw (.nilFunc) := by kernel_rfl
@[simp] theorem zeroIs_117 : zeroIs Tryd.prog 117 (.raw (.nilFunc)) := ⟨.nilFunc, by kernel_rfl, .inl ⟨rfl, rfl⟩⟩
@[simp] theorem tyI_118 : tyI Tryd.prog 118 = some (1, false) := by kernel_rfl
@[simp] theorem isSl_118 : isSl Tryd.prog 118 = false := by kernel_rfl
@[simp] theorem isStr_118 : isStr Tryd.prog 118 = false := by kernel_rfl
@[simp] theorem isBool_118 : isBool Tryd.prog 118 = false := by kernel_rfl
@[simp] theorem isPtr_118 : isPtr Tryd.prog 118 = false := by kernel_rfl
@[simp] theorem isIf_118 : isIf Tryd.prog 118 = false := by kernel_rfl
@[simp] theorem isIface_118 : isIface Tryd.prog 118 = false := by kernel_rfl
@[simp] theorem isArr_118 : isArr Tryd.prog 118 = false := by kernel_rfl
@[simp] theorem plainT_118 : plainT Tryd.prog 118 = false := by kernel_rfl
@[simp] theorem zAV_118 : zAV Tryd.prog 9 118 = .raw (.nilFunc) := by kernel_rfl
@[simp] theorem zeroIs_118 : zeroIs Tryd.prog 118 (.raw (.nilFunc)) := ⟨.nilFunc, by kernel_rfl, .inl ⟨rfl, rfl⟩⟩
@[simp] theorem tyI_119 : tyI Tryd.prog 119 = some (1, false) := by kernel_rfl
@[simp] theorem isSl_119 : isSl Tryd.prog 119 = false := by kernel_rfl
@[simp] theorem isStr_119 : isStr Tryd.prog 119 = false := by kernel_rfl
@[simp] theorem isBool_119 : isBool Tryd.prog 119 = false := by kernel_rfl
@[simp] theorem isPtr_119 : isPtr Tryd.prog 119 = false := by kernel_rfl
@[simp] theorem isIf_119 : isIf Tryd.prog 119 = false := by kernel_rfl
@[simp] theorem isIface_119 : isIface Tryd.prog 119 = false := by kernel_rfl
@[simp] theorem isArr_119 : isArr Tryd.prog 119 = false := by kernel_rfl
@[simp] theorem plainT_119 : plainT Tryd.prog 119 = false := by kernel_rfl
@[simp] theorem zAV_119 : zAV Tryd.prog 9 119 = .raw (.nilFunc) := by kernel_rfl
@[simp] theorem zeroIs_119 : zeroIs Tryd.prog 119 (.raw (.nilFunc)) := ⟨.nilFunc, by kernel_rfl, .inl ⟨rfl, rfl⟩⟩
@[simp] theorem tyI_120 : tyI Tryd.prog 120 = some (1, false) := by kernel_rfl
@[simp] theorem isSl_120 : isSl Tryd.prog 120 = false := by kernel_rfl
@[simp] theorem isStr_120 : isStr Tryd.prog 120 = false := by kernel_rfl
@[simp] theorem isBool_120 : isBool Tryd.prog 120 = false := by kernel_rfl
@[simp] theorem isPtr_120 : isPtr Tryd.prog 120 = false := by kernel_rfl
@[simp] theorem isIf_120 : isIf Tryd.prog 120 = false := by kernel_rfl
@[simp] theorem isIface_120 : isIface Tryd.prog 120 = false := by kernel_rfl
@[simp] theorem isArr_120 : isArr Tryd.prog 120 = false := by kernel_rfl
@[simp] theorem plainT_120 : plainT Tryd.prog 120 = true := by kernel_rfl
@[simp] theorem tyI_121 : tyI Tryd.prog 121 = some (1, false) := by kernel_rfl
@[simp] theorem isSl_121 : isSl Tryd.prog 121 = false := by kernel_rfl
@[simp] theorem isStr_121 : isStr Tryd.prog 121 = false := by kernel_rfl
@[simp] theorem isBool_121 : isBool Tryd.prog 121 = false := by kernel_rfl
@[simp] theorem isPtr_121 : isPtr Tryd.prog 121 = false := by kernel_rfl
@[simp] theorem isIf_121 : isIf Tryd.prog 121 = false := by kernel_rfl
@[simp] theorem isIface_121 : isIface Tryd.prog 121 = false := by kernel_rfl
@[simp] theorem isArr_121 : isArr Tryd.prog 121 = false := by kernel_rfl
@[simp] theorem plainT_121 : plainT Tryd.prog 121 = true := by kernel_rfl
@[simp] theorem und_121 : Tryd.prog.underlying 121 = some (.int .u64) := by kernel_rfl
@[simp] theorem zAV_121 : zAV Tryd.prog 9 121 = .raw (.int .u64 0) := by kernel_rfl
@[simp] theorem zeroIs_121 : zeroIs Tryd.prog 121 (.raw (.int .u64 0)) := ⟨.int .u64 0, by kernel_rfl, .inl ⟨rfl, rfl⟩⟩
@[simp] theorem tyI_122 : tyI Tryd.prog 122 = some (3, true) := by kernel_rfl
@[simp] theorem isSl_122 : isSl Tryd.prog 122 = false := by kernel_rfl
@[simp] theorem isStr_122 : isStr Tryd.prog 122 = false := by kernel_rfl
@[simp] theorem isBool_122 : isBool Tryd.prog 122 = false := by kernel_rfl
@[simp] theorem isPtr_122 : isPtr Tryd.prog 122 = false := by kernel_rfl
@[simp] theorem isIf_122 : isIf Tryd.prog 122 = false := by kernel_rfl
@[simp] theorem isIface_122 : isIface Tryd.prog 122 = false := by kernel_rfl
@[simp] theorem isArr_122 : isArr Tryd.prog 122 = false := by kernel_rfl
@[simp] theorem plainT_122 : plainT Tryd.prog 122 = false := by kernel_rfl
@[simp] theorem fldI_122_0 : fldI Tryd.prog 122 0 = some (0, 1, false) := by kernel_rfl
@[simp] theorem fldI_122_1 : fldI Tryd.prog 122 1 = some (1, 1, false) := by kernel_rfl
@[simp] theorem fldI_122_2 : fldI Tryd.prog 122 2 = some (2, 1, false) := by kernel_rfl
@[simp] theorem zAV_122 : zAV Tryd.prog 9 122 = .agg [.raw (.pointer none), .raw (.pointer none), .raw (.int .u64 0)] := by kernel_rfl
@[simp] theorem zeroIs_122 : zeroIs Tryd.prog 122 (.agg [.raw (.pointer none), .raw (.pointer none), .raw (.int .u64 0)]) := ⟨.agg #[.pointer none, .pointer none, .int .u64 0], by kernel_rfl, .inr ⟨_, _, rfl, rfl, by kernel_rfl⟩⟩
@[simp] theorem layIs_122 : layIs Tryd.prog 122 [.raw (.pointer none), .raw (.pointer none), .raw (.int .u64 0)] := layIs_of (by kernel_rfl)
@[simp] theorem tyI_123 : tyI Tryd.prog 123 = some (3, true) := by kernel_rfl
@[simp] theorem isSl_123 : isSl Tryd.prog 123 = false := by kernel_rfl
@[simp] theorem isStr_123 : isStr Tryd.prog 123 = false := by kernel_rfl
@[simp] theorem isBool_123 : isBool Tryd.prog 123 = false := by kernel_rfl
@[simp] theorem isPtr_123 : isPtr Tryd.prog 123 = false := by kernel_rfl
@[simp] theorem isIf_123 : isIf Tryd.prog 123 = false := by kernel_rfl
@[simp] theorem isIface_123 : isIface Tryd.prog 123 = false := by kernel_rfl
@[simp] theorem isArr_123 : isArr Tryd.prog 123 = false := by kernel_rfl
@[simp] theorem plainT_123 : plainT Tryd.prog 123 = false := by kernel_rfl
@[simp] theorem fldI_123_0 : fldI Tryd.prog 123 0 = some (0, 1, false) := by kernel_rfl
@[simp] theorem fldI_123_1 : fldI Tryd.prog 123 1 = some (1, 1, false) := by kernel_rfl
@[simp] theorem fldI_123_2 : fldI Tryd.prog 123 2 = some (2, 1, false) := by kernel_rfl
@[simp] theorem zAV_123 : zAV Tryd.prog 9 123 = .agg [.raw (.pointer none), .raw (.pointer none), .raw (.int .u64 0)] := by kernel_rfl
@[simp] theorem zeroIs_123 : zeroIs Tryd.prog 123 (.agg [.raw (.pointer none), .raw (.pointer none), .raw (.int .u64 0)]) := ⟨.agg #[.pointer none, .pointer none, .int .u64 0], by kernel_rfl, .inr ⟨_, _, rfl, rfl, by kernel_rfl⟩⟩
@[simp] theorem layIs_123 : layIs Tryd.prog 123 [.raw (.pointer none), .raw (.pointer none), .raw (.int .u64 0)] := layIs_of (by kernel_rfl)
@[simp] theorem tyI_124 : tyI Tryd.prog 124 = some (1, false) := by kernel_rfl
@[simp] theorem isSl_124 : isSl Tryd.prog 124 = false := by kernel_rfl
@[simp] theorem isStr_124 : isStr Tryd.prog 124 = false := by kernel_rfl
@[simp] theorem isBool_124 : isBool Tryd.prog 124 = false := by kernel_rfl
@[simp] theorem isPtr_124 : isPtr Tryd.prog 124 = false := by kernel_rfl
@[simp] theorem isIf_124 : isIf Tryd.prog 124 = false := by kernel_rfl
@[simp] theorem isIface_124 : isIface Tryd.prog 124 = false := by kernel_rfl
@[simp] theorem isArr_124 : isArr Tryd.prog 124 = false := by kernel_rfl
@[simp] theorem plainT_124 : plainT Tryd.prog 124 = false := by kernel_rfl
@[simp] theorem zAV_124 : zAV Tryd.prog 9 124 = .raw (.nilFunc) := by kernel_rfl
@[simp] theorem zeroIs_124 : zeroIs Tryd.prog 124 (.raw (.nilFunc)) := ⟨.nilFunc, by kernel_rfl, .inl ⟨rfl, rfl⟩⟩
@[simp] theorem tyI_125 : tyI Tryd.prog 125 = some (1, false) := by kernel_rfl
@[simp] theorem isSl_125 : isSl Tryd.prog 125 = false := by kernel_rfl
@[simp] theorem isStr_125 : isStr Tryd.prog 125 = false := by kernel_rfl
@[simp] theorem isBool_125 : isBool Tryd.prog 125 = false := by kernel_rfl
@[simp] theorem isPtr_125 : isPtr Tryd.prog 125 = false := by kernel_rfl
@[simp] theorem isIf_125 : isIf Tryd.prog 125 = false := by kernel_rfl
@[simp] theorem isIface_125 : isIface Tryd.prog 125 = false := by kernel_rfl
@[simp] theorem isArr_125 : isArr Tryd.prog 125 = false := by kernel_rfl
@[simp] theorem plainT_125 : plainT Tryd.prog 125 = false := by kernel_rfl
@[simp] theorem zAV_125 : zAV Tryd.prog 9 125 = .raw (.nilFunc) := by kernel_rfl
@[simp] theorem zeroIs_125 : zeroIs Tryd.prog 125 (.raw (.nilFunc)) := ⟨.nilFunc, by kernel_rfl, .inl ⟨rfl, rfl⟩⟩
@[simp] theorem tyI_126 : tyI Tryd.prog 126 = some (1, false) := by kernel_rfl
@[simp] theorem isSl_126 : isSl Tryd.prog 126 = false := by kernel_rfl
@[simp] theorem isStr_126 : isStr Tryd.prog 126 = false := by kernel_rfl
@[simp] theorem isBool_126 : isBool Tryd.prog 126 = false := by kernel_rfl
@[simp] theorem isPtr_126 : isPtr Tryd.prog 126 = false := by kernel_rfl
@[simp] theorem isIf_126 : isIf Tryd.prog 126 = false := by kernel_rfl
@[simp] theorem isIface_126 : isIface Tryd.prog 126 = false := by kernel_rfl
@[simp] theorem isArr_126 : isArr Tryd.prog 126 = false := by kernel_rfl
@[simp] theorem plainT_126 : plainT Tryd.prog 126 = true := by kernel_rfl
@[simp] theorem und_126 : Tryd.prog.underlying 126 = some (.int .u8) := by kernel_rfl
@[simp] theorem zAV_126 : zAV Tryd.prog 9 126 = .raw (.int .u8 0) := by kernel_rfl
@[simp] theorem zeroIs_126 : zeroIs Tryd.prog 126 (.raw (.int .u8 0)) := ⟨.int .u8 0, by kernel_rfl, .inl ⟨rfl, rfl⟩⟩
@[simp] theorem tyI_127 : tyI Tryd.prog 127 = some (1, false) := by kernel_rfl
@[simp] theorem isSl_127 : isSl Tryd.prog 127 = false := by kernel_rfl
@[simp] theorem isStr_127 : isStr Tryd.prog 127 = false := by kernel_rfl
@[simp] theorem isBool_127 : isBool Tryd.prog 127 = false := by kernel_rfl
@[simp] theorem isPtr_127 : isPtr Tryd.prog 127 = false := by kernel_rfl
@[simp] theorem isIf_127 : isIf Tryd.prog 127 = false := by kernel_rfl
@[simp] theorem isIface_127 : isIface Tryd.prog 127 = false := by kernel_rfl
@[simp] theorem isArr_127 : isArr Tryd.prog 127 = false := by kernel_rfl
@[simp] theorem plainT_127 : plainT Tryd.prog 127 = false := by kernel_rfl
@[simp] theorem zAV_127 : zAV Tryd.prog 9 127 = .raw (.nilFunc) := by kernel_rfl
@[simp] theorem zeroIs_127 : zeroIs Tryd.prog 127 (.raw (.nilFunc)) := ⟨.nilFunc, by kernel_rfl, .inl ⟨rfl, rfl⟩⟩
@[simp] theorem tyI_128 : tyI Tryd.prog 128 = some (1, false) := by kernel_rfl
@[simp] theorem isSl_128 : isSl Tryd.prog 128 = false := by kernel_rfl
@[simp] theorem isStr_128 : isStr Tryd.prog 128 = false := by kernel_rfl
@[simp] theorem isBool_128 : isBool Tryd.prog 128 = false := by kernel_rfl
@[simp] theorem isPtr_128 : isPtr Tryd.prog 128 = false := by kernel_rfl
@[simp] theorem isIf_128 : isIf Tryd.prog 128 = false := by kernel_rfl
@[simp] theorem isIface_128 : isIface Tryd.prog 128 = false := by kernel_rfl
@[simp] theorem isArr_128 : isArr Tryd.prog 128 = false := by kernel_rfl
@[simp] theorem plainT_128 : plainT Tryd.prog 128 = false := by kernel_rfl
@[simp] theorem zAV_128 : zAV Tryd.prog 9 128 = .raw (.nilFunc) := by kernel_rfl
@[simp] theorem zeroIs_128 : zeroIs Tryd.prog 128 (.raw (.nilFunc)) := ⟨.nilFunc, by kernel_rfl, .inl ⟨rfl, rfl⟩⟩
@[simp] theorem tyI_129 : tyI Tryd.prog 129 = some (1, false) := by kernel_rfl
@[simp] theorem isSl_129 : isSl Tryd.prog 129 = false := by kernel_rfl
@[simp] theorem isStr_129 : isStr Tryd.prog 129 = false := by kernel_rfl
@[simp] theorem isBool_129 : isBool Tryd.prog 129 = false := by kernel_rfl
@[simp] theorem isPtr_129 : isPtr Tryd.prog 129 = false := by kernel_rfl
@[simp] theorem isIf_129 : isIf Tryd.prog 129 = false := by kernel_rfl
@[simp] theorem isIface_129 : isIface Tryd.prog 129 = false := by kernel_rfl
@[simp] theorem isArr_129 : isArr Tryd.prog 129 = false := by kernel_rfl
@[simp] theorem plainT_129 : plainT Tryd.prog 129 = false := by kernel_rfl
@[simp] theorem zAV_129 : zAV Tryd.prog 9 129 = .raw (.nilFunc) := by kernel_rfl
@[simp] theorem zeroIs_129 : zeroIs Tryd.prog 129 (.raw (.nilFunc)) := ⟨.nilFunc, by kernel_rfl, .inl ⟨rfl, rfl⟩⟩
@[simp] theorem tyI_130 : tyI Tryd.prog 130 = some (1, false) := by kernel_rfl
@[simp] theorem isSl_130 : isSl Tryd.prog 130 = false := by kernel_rfl
@[simp] theorem isStr_130 : isStr Tryd.prog 130 = false := by kernel_rfl
@[simp] theorem isBool_130 : isBool Tryd.prog 130 = false := by kernel_rfl
@[simp] theorem isPtr_130 : isPtr Tryd.prog 130 = false := by kernel_rfl
@[simp] theorem isIf_130 : isIf Tryd.prog 130 = false := by kernel_rfl
@[simp] theorem isIface_130 : isIface Tryd.prog 130 = false := by kernel_rfl
@[simp] theorem isArr_130 : isArr Tryd.prog 130 = false := by kernel_rfl
@[simp] theorem plainT_130 : plainT Tryd.prog 130 = true := by kernel_rfl
@[simp] theorem und_130 : Tryd.prog.underlying 130 = some (.int .u64) := by kernel_rfl
@[simp] theorem zAV_130 : zAV Tryd.prog 9 130 = .raw (.int .u64 0) := by kernel_rfl
@[simp] theorem zeroIs_130 : zeroIs Tryd.prog 130 (.raw (.int .u64 0)) := ⟨.int .u64 0, by kernel_rfl, .inl ⟨rfl, rfl⟩⟩
@[simp] theorem isSl_131 : isSl Tryd.prog 131 = false := by kernel_rfl
@[simp] theorem tyI_132 : tyI Tryd.prog 132 = some (1, false) := by kernel_rfl
@[simp] theorem isSl_132 : isSl Tryd.prog 132 = false := by kernel_rfl
@[simp] theorem isStr_132 : isStr Tryd.prog 132 = false := by kernel_rfl
@[simp] theorem isBool_132 : isBool Tryd.prog 132 = false := by kernel_rfl
@[simp] theorem isPtr_132 : isPtr Tryd.prog 132 = false := by kernel_rfl
@[simp] theorem isIf_132 : isIf Tryd.prog 132 = false := by kernel_rfl
@[simp] theorem isIface_132 : isIface Tryd.prog 132 = false := by kernel_rfl
@[simp] theorem isArr_132 : isArr Tryd.prog 132 = false := by kernel_rfl
@[simp] theorem plainT_132 : plainT Tryd.prog 132 = false := by kernel_rfl
@[simp] theorem zAV_132 : zAV Tryd.prog 9 132 = .raw (.nilFunc) := by kernel_rfl
@[simp] theorem zeroIs_132 : zeroIs Tryd.prog 132 (.raw (.nilFunc)) := ⟨.nilFunc, by kernel_rfl, .inl ⟨rfl, rfl⟩⟩
@[simp] theorem tyI_133 : tyI Tryd.prog 133 = some (1, false) := by kernel_rfl
@[simp] theorem isSl_133 : isSl Tryd.prog 133 = false := by kernel_rfl
@[simp] theorem isStr_133 : isStr Tryd.prog 133 = false := by kernel_rfl
@[simp] theorem isBool_133 : isBool Tryd.prog 133 = false := by kernel_rfl
@[simp] theorem isPtr_133 : isPtr Tryd.prog 133 = false := by kernel_rfl
@[simp] theorem isIf_133 : isIf Tryd.prog 133 = false := by kernel_rfl
@[simp] theorem isIface_133 : isIface Tryd.prog 133 = false := by kernel_rfl
@[simp] theorem isArr_133 : isArr Tryd.prog 133 = false := by kernel_rfl
@[simp] theorem plainT_133 : plainT Tryd.prog 133 = false := by kernel_rfl
@[simp] theorem zAV_133 : zAV Tryd.prog 9 133 = .raw (.nilFunc) := by kernel_rfl
@[simp] theorem zeroIs_133 : zeroIs Tryd.prog 133 (.raw (.nilFunc)) := ⟨.nilFunc, by kernel_rfl, .inl ⟨rfl, rfl⟩⟩
@[simp] theorem tyI_134 : tyI Tryd.prog 134 = some (1, false) := by kernel_rfl
@[simp] theorem isSl_134 : isSl Tryd.prog 134 = false := by kernel_rfl
@[simp] theorem isStr_134 : isStr Tryd.prog 134 = false := by kernel_rfl
@[simp] theorem isBool_134 : isBool Tryd.prog 134 = false := by kernel_rfl
@[simp] theorem isPtr_134 : isPtr Tryd.prog 134 = false := by kernel_rfl
@[simp] theorem isIf_134 : isIf Tryd.prog 134 = false := by kernel_rfl
@[simp] theorem isIface_134 : isIface Tryd.prog 134 = false := by kernel_rfl
@[simp] theorem isArr_134 : isArr Tryd.prog 134 = false := by kernel_rfl
@[simp] theorem plainT_134 : plainT Tryd.prog 134 = false := by kernel_rfl
@[simp] theorem zAV_134 : zAV Tryd.prog 9 134 = .raw (.nilFunc) := by kernel_rfl
@[simp] theorem zeroIs_134 : zeroIs Tryd.prog 134 (.raw (.nilFunc)) := ⟨.nilFunc, by kernel_rfl, .inl ⟨rfl, rfl⟩⟩
@[simp] theorem tyI_135 : tyI Tryd.prog 135 = some (1, true) := by kernel_rfl
@[simp] theorem isSl_135 : isSl Tryd.prog 135 = false := by kernel_rfl
@[simp] theorem isStr_135 : isStr Tryd.prog 135 = false := by kernel_rfl
@[simp] theorem isBool_135 : isBool Tryd.prog 135 = false := by kernel_rfl
@[simp] theorem isPtr_135 : isPtr Tryd.prog 135 = false := by kernel_rfl
@[simp] theorem isIf_135 : isIf Tryd.prog 135 = false := by kernel_rfl
@[simp] theorem isIface_135 : isIface Tryd.prog 135 = false := by kernel_rfl
@[simp] theorem isArr_135 : isArr Tryd.prog 135 = false := by kernel_rfl
@[simp] theorem plainT_135 : plainT Tryd.prog 135 = false := by kernel_rfl
@[simp] theorem fldI_135_0 : fldI Tryd.prog 135 0 = some (0, 1, false) := by kernel_rfl
@[simp] theorem zAV_135 : zAV Tryd.prog 9 135 = .agg [.raw (.pointer none)] := by kernel_rfl
@[simp] theorem zeroIs_135 : zeroIs Tryd.prog 135 (.agg [.raw (.pointer none)]) := ⟨.agg #[.pointer none], by kernel_rfl, .inr ⟨_, _, rfl, rfl, by kernel_rfl⟩⟩
@[simp] theorem layIs_135 : layIs Tryd.prog 135 [.raw (.pointer none)] := layIs_of (by kernel_rfl)
@[simp] theorem tyI_136 : tyI Tryd.prog 136 = some (1, true) := by kernel_rfl
@[simp] theorem isSl_136 : isSl Tryd.prog 136 = false := by kernel_rfl
@[simp] theorem isStr_136 : isStr Tryd.prog 136 = false := by kernel_rfl
@[simp] theorem isBool_136 : isBool Tryd.prog 136 = false := by kernel_rfl
@[simp] theorem isPtr_136 : isPtr Tryd.prog 136 = false := by kernel_rfl
@[simp] theorem isIf_136 : isIf Tryd.prog 136 = false := by kernel_rfl
@[simp] theorem isIface_136 : isIface Tryd.prog 136 = false := by kernel_rfl
@[simp] theorem isArr_136 : isArr Tryd.prog 136 = false := by kernel_rfl
@[simp] theorem plainT_136 : plainT Tryd.prog 136 = false := by kernel_rfl
@[simp] theorem fldI_136_0 : fldI Tryd.prog 136 0 = some (0, 1, false) := by kernel_rfl
@[simp] theorem zAV_136 : zAV Tryd.prog 9 136 = .agg [.raw (.pointer none)] := by kernel_rfl
@[simp] theorem zeroIs_136 : zeroIs Tryd.prog 136 (.agg [.raw (.pointer none)]) := ⟨.agg #[.pointer none], by kernel_rfl, .inr ⟨_, _, rfl, rfl, by kernel_rfl⟩⟩
@[simp] theorem layIs_136 : layIs Tryd.prog 136 [.raw (.pointer none)] := layIs_of (by kernel_rfl)
@[simp] theorem tyI_137 : tyI Tryd.prog 137 = some (1, false) := by kernel_rfl
@[simp] theorem isSl_137 : isSl Tryd.prog 137 = false := by kernel_rfl
@[simp] theorem isStr_137 : isStr Tryd.prog 137 = false := by kernel_rfl
@[simp] theorem isBool_137 : isBool Tryd.prog 137 = false := by kernel_rfl
@[simp] theorem isPtr_137 : isPtr Tryd.prog 137 = true := by kernel_rfl
@[simp] theorem isIf_137 : isIf Tryd.prog 137 = false := by kernel_rfl
@[simp] theorem isIface_137 : isIface Tryd.prog 137 = false := by kernel_rfl
@[simp] theorem isArr_137 : isArr Tryd.prog 137 = false := by kernel_rfl
@[simp] theorem plainT_137 : plainT Tryd.prog 137 = false := by kernel_rfl
@[simp] theorem zAV_137 : zAV Tryd.prog 9 137 = .raw (.pointer none) := by kernel_rfl
@[simp] theorem zeroIs_137 : zeroIs Tryd.prog 137 (.raw (.pointer none)) := ⟨.pointer none, by kernel_rfl, .inl ⟨rfl, rfl⟩⟩
@[simp] theorem tyI_138 : tyI Tryd.prog 138 = some (1, false) := by kernel_rfl
@[simp] theorem isSl_138 : isSl Tryd.prog 138 = false := by kernel_rfl
@[simp] theorem isStr_138 : isStr Tryd.prog 138 = false := by kernel_rfl
@[simp] theorem isBool_138 : isBool Tryd.prog 138 = false := by kernel_rfl
@[simp] theorem isPtr_138 : isPtr Tryd.prog 138 = false := by kernel_rfl
@[simp] theorem isIf_138 : isIf Tryd.prog 138 = true := by kernel_rfl
@[simp] theorem isIface_138 : isIface Tryd.prog 138 = true := by kernel_rfl
@[simp] theorem isArr_138 : isArr Tryd.prog 138 = false := by kernel_rfl
@[simp] theorem plainT_138 : plainT Tryd.prog 138 = false := by kernel_rfl
@[simp] theorem zAV_138 : zAV Tryd.prog 9 138 = .raw (.nilIface) := by kernel_rfl
@[simp] theorem zeroIs_138 : zeroIs Tryd.prog 138 (.raw (.nilIface)) := ⟨.nilIface, by kernel_rfl, .inl ⟨rfl, rfl⟩⟩
@[simp] theorem isSl_139 : isSl Tryd.prog 139 = false := by kernel_rfl
@[simp] theorem tyI_140 : tyI Tryd.prog 140 = some (1, false) := by kernel_rfl
@[simp] theorem isSl_140 : isSl Tryd.prog 140 = false := by kernel_rfl
@[simp] theorem isStr_140 : isStr Tryd.prog 140 = false := by kernel_rfl
@[simp] theorem isBool_140 : isBool Tryd.prog 140 = false := by kernel_rfl
@[simp] theorem isPtr_140 : isPtr Tryd.prog 140 = false := by kernel_rfl
@[simp] theorem isIf_140 : isIf Tryd.prog 140 = false := by kernel_rfl
@[simp] theorem isIface_140 : isIface Tryd.prog 140 = false := by kernel_rfl
@[simp] theorem isArr_140 : isArr Tryd.prog 140 = false := by kernel_rfl
@[simp] theorem plainT_140 : plainT Tryd.prog 140 = false := by kernel_rfl
@[simp] theorem zAV_140 : zAV Tryd.prog 9 140 = .raw (.nilFunc) := by kernel_rfl
@[simp] theorem zeroIs_140 : zeroIs Tryd.prog 140 (.raw (.nilFunc)) := ⟨.nilFunc, by kernel_rfl, .inl ⟨rfl, rfl⟩⟩
@[simp] theorem tyI_141 : tyI Tryd.prog 141 = some (1, false) := by kernel_rfl
@[simp] theorem isSl_141 : isSl Tryd.prog 141 = false := by kernel_rfl
@[simp] theorem isStr_141 : isStr Tryd.prog 141 = false := by kernel_rfl
@[simp] theorem isBool_141 : isBool Tryd.prog 141 = false := by kernel_rfl
@[simp] theorem isPtr_141 : isPtr Tryd.prog 141 = false := by kernel_rfl
@[simp] theorem isIf_141 : isIf Tryd.prog 141 = true := by kernel_rfl
@[simp] theorem isIface_141 : isIface Tryd.prog 141 = true := by kernel_rfl
@[simp] theorem isArr_141 : isArr Tryd.prog 141 = false := by kernel_rfl
@[simp] theorem plainT_141 : plainT Tryd.prog 141 = false := by kernel_rfl
@[simp] theorem zAV_141 : zAV Tryd.prog 9 141 = .raw (.nilIface) := by kernel_rfl
@[simp] theorem zeroIs_141 : zeroIs Tryd.prog 141 (.raw (.nilIface)) := ⟨.nilIface, by kernel_rfl, .inl ⟨rfl, rfl⟩⟩
@[simp] theorem tyI_142 : tyI Tryd.prog 142 = some (1, false) := by kernel_rfl
@[simp] theorem isSl_142 : isSl Tryd.prog 142 = false := by kernel_rfl
@[simp] theorem isStr_142 : isStr Tryd.prog 142 = false := by kernel_rfl
@[simp] theorem isBool_142 : isBool Tryd.prog 142 = false := by kernel_rfl
@[simp] theorem isPtr_142 : isPtr Tryd.prog 142 = false := by kernel_rfl
@[simp] theorem isIf_142 : isIf Tryd.prog 142 = false := by kernel_rfl
@[simp] theorem isIface_142 : isIface Tryd.prog 142 = false := by kernel_rfl
@[simp] theorem isArr_142 : isArr Tryd.prog 142 = false := by kernel_rfl
@[simp] theorem plainT_142 : plainT Tryd.prog 142 = false := by kernel_rfl
@[simp] theorem zAV_142 : zAV Tryd.prog 9 142 = .raw (.nilFunc) := by kernel_rfl
@[simp] theorem zeroIs_142 : zeroIs Tryd.prog 142 (.raw (.nilFunc)) := ⟨.nilFunc, by kernel_rfl, .inl ⟨rfl, rfl⟩⟩
@[simp] theorem tyI_143 : tyI Tryd.prog 143 = some (1, false) := by kernel_rfl
@[simp] theorem isSl_143 : isSl Tryd.prog 143 = false := by kernel_rfl
@[simp] theorem isStr_143 : isStr Tryd.prog 143 = false := by kernel_rfl
@[simp] theorem isBool_143 : isBool Tryd.prog 143 = false := by kernel_rfl
@[simp] theorem isPtr_143 : isPtr Tryd.prog 143 = false := by kernel_rfl
@[simp] theorem isIf_143 : isIf Tryd.prog 143 = true := by kernel_rfl
@[simp] theorem isIface_143 : isIface Tryd.prog 143 = true := by kernel_rfl
@[simp] theorem isArr_143 : isArr Tryd.prog 143 = false := by kernel_rfl
@[simp] theorem plainT_143 : plainT Tryd.prog 143 = false := by kernel_rfl
@[simp] theorem zAV_143 : zAV Tryd.prog 9 143 = .raw (.nilIface) := by kernel_rfl
@[simp] theorem zeroIs_143 : zeroIs Tryd.prog 143 (.raw (.nilIface)) := ⟨.nilIface, by kernel_rfl, .inl ⟨rfl, rfl⟩⟩
@[simp] theorem tyI_144 : tyI Tryd.prog 144 = some (1, false) := by kernel_rfl
@[simp] theorem isSl_144 : isSl Tryd.prog 144 = false := by kernel_rfl
@[simp] theorem isStr_144 : isStr Tryd.prog 144 = false := by kernel_rfl
@[simp] theorem isBool_144 : isBool Tryd.prog 144 = false := by kernel_rfl
@[simp] theorem isPtr_144 : isPtr Tryd.prog 144 = false := by kernel_rfl
@[simp] theorem isIf_144 : isIf Tryd.prog 144 = false := by kernel_rfl
@[simp] theorem isIface_144 : isIface Tryd.prog 144 = false := by kernel_rfl
@[simp] theorem isArr_144 : isArr Tryd.prog 144 = false := by kernel_rfl
@[simp] theorem plainT_144 : plainT Tryd.prog 144 = false := by kernel_rfl
@[simp] theorem zAV_144 : zAV Tryd.prog 9 144 = .raw (.nilFunc) := by kernel_rfl
@[simp] theorem zeroIs_144 : zeroIs Tryd.prog 144 (.raw (.nilFunc)) := ⟨.nilFunc, by kernel_rfl, .inl ⟨rfl, rfl⟩⟩
@[simp] theorem tyI_145 : tyI Tryd.prog 145 = some (1, false) := by kernel_rfl
@[simp] theorem isSl_145 : isSl Tryd.prog 145 = false := by kernel_rfl
@[simp] theorem isStr_145 : isStr Tryd.prog 145 = false := by kernel_rfl
@[simp] theorem isBool_145 : isBool Tryd.prog 145 = false := by kernel_rfl
@[simp] theorem isPtr_145 : isPtr Tryd.prog 145 = false := by kernel_rfl
@[simp] theorem isIf_145 : isIf Tryd.prog 145 = false := by kernel_rfl
@[simp] theorem isIface_145 : isIface Tryd.prog 145 = false := by kernel_rfl
@[simp] theorem isArr_145 : isArr Tryd.prog 145 = false := by kernel_rfl
@[simp] theorem plainT_145 : plainT Tryd.prog 145 = false := by kernel_rfl
@[simp] theorem zAV_145 : zAV Tryd.prog 9 145 = .raw (.nilFunc) := by kernel_rfl
@[simp] theorem zeroIs_145 : zeroIs Tryd.prog 145 (.raw (.nilFunc)) := ⟨.nilFunc, by kernel_rfl, .inl ⟨rfl, rfl⟩⟩
@[simp] theorem tyI_146 : tyI Tryd.prog 146 = some (1, false) := by kernel_rfl
@[simp] theorem isSl_146 : isSl Tryd.prog 146 = false := by kernel_rfl
@[simp] theorem isStr_146 : isStr Tryd.prog 146 = false := by kernel_rfl
@[simp] theorem isBool_146 : isBool Tryd.prog 146 = false := by kernel_rfl
@[simp] theorem isPtr_146 : isPtr Tryd.prog 146 = false := by kernel_rfl
@[simp] theorem isIf_146 : isIf Tryd.prog 146 = false := by kernel_rfl
@[simp] theorem isIface_146 : isIface Tryd.prog 146 = false := by kernel_rfl
@[simp] theorem isArr_146 : isArr Tryd.prog 146 = false := by kernel_rfl
@[simp] theorem plainT_146 : plainT Tryd.prog 146 = false := by kernel_rfl
@[simp] theorem zAV_146 : zAV Tryd.prog 9 146 = .raw (.nilFunc) := by kernel_rfl
@[simp] theorem zeroIs_146 : zeroIs Tryd.prog 146 (.raw (.nilFunc)) := ⟨.nilFunc, by kernel_rfl, .inl ⟨rfl, rfl⟩⟩
@[simp] theorem tyI_147 : tyI Tryd.prog 147 = some (1, false) := by kernel_rfl
@[simp] theorem isSl_147 : isSl Tryd.prog 147 = false := by kernel_rfl
@[simp] theorem isStr_147 : isStr Tryd.prog 147 = false := by kernel_rfl
@[simp] theorem isBool_147 : isBool Tryd.prog 147 = false := by kernel_rfl
@[simp] theorem isPtr_147 : isPtr Tryd.prog 147 = false := by kernel_rfl
@[simp] theorem isIf_147 : isIf Tryd.prog 147 = true := by kernel_rfl
@[simp] theorem isIface_147 : isIface Tryd.prog 147 = true := by kernel_rfl
@[simp] theorem isArr_147 : isArr Tryd.prog 147 = false := by kernel_rfl
@[simp] theorem plainT_147 : plainT Tryd.prog 147 = false := by kernel_rfl
@[simp] theorem zAV_147 : zAV Tryd.prog 9 147 = .raw (.nilIface) := by kernel_rfl
@[simp] theorem zeroIs_147 : zeroIs Tryd.prog 147 (.raw (.nilIface)) := ⟨.nilIface, by kernel_rfl, .inl ⟨rfl, rfl⟩⟩
@[simp] theorem isSl_148 : isSl Tryd.prog 148 = false := by kernel_rfl
@[simp] theorem tyI_149 : tyI Tryd.prog 149 = some (1, false) := by kernel_rfl
@[simp] theorem isSl_149 : isSl Tryd.prog 149 = false := by kernel_rfl
@[simp] theorem isStr_149 : isStr Tryd.prog 149 = false := by kernel_rfl
@[simp] theorem isBool_149 : isBool Tryd.prog 149 = false := by kernel_rfl
@[simp] theorem isPtr_149 : isPtr Tryd.prog 149 = false := by kernel_rfl
@[simp] theorem isIf_149 : isIf Tryd.prog 149 = false := by kernel_rfl
@[simp] theorem isIface_149 : isIface Tryd.prog 149 = false := by kernel_rfl
@[simp] theorem isArr_149 : isArr Tryd.prog 149 = false := by kernel_rfl
@[simp] theorem plainT_149 : plainT Tryd.prog 149 = false := by kernel_rfl
@[simp] theorem zAV_149 : zAV Tryd.prog 9 149 = .raw (.nilFunc) := by kernel_rfl
@[simp] theorem zeroIs_149 : zeroIs Tryd.prog 149 (.raw (.nilFunc)) := ⟨.nilFunc, by kernel_rfl, .inl ⟨rfl, rfl⟩⟩
@[simp] theorem tyI_150 : tyI Tryd.prog 150 = some (20, true) := by kernel_rfl
@[simp] theorem isSl_150 : isSl Tryd.prog 150 = false := by kernel_rfl
@[simp] theorem isStr_150 : isStr Tryd.prog 150 = false := by kernel_rfl
@[simp] theorem isBool_150 : isBool Tryd.prog 150 = false := by kernel_rfl
@[simp] theorem isPtr_150 : isPtr Tryd.prog 150 = false := by kernel_rfl
@[simp] theorem isIf_150 : isIf Tryd.prog 150 = false := by kernel_rfl
@[simp] theorem isIface_150 : isIface Tryd.prog 150 = false := by kernel_rfl
@[simp] theorem isArr_150 : isArr Tryd.prog 150 = true := by kernel_rfl
@[simp] theorem plainT_150 : plainT Tryd.prog 150 = true := by kernel_rfl
@[simp] theorem arrI_150 : arrI Tryd.prog 150 = some (20, 1) := by kernel_rfl
@[simp] theorem zAV_150 : zAV Tryd.prog 9 150 = .agg [.raw (.int .u8 0), .raw (.int .u8 0), .raw (.int .u8 0), .raw (.int .u8 0), .raw (.int .u8 0), .raw (.int .u8 0), .raw (.int .u8 0), .raw (.int .u8 0), .raw (.int .u8 0), .raw (.int .u8 0), .raw (.int .u8 0), .raw (.int .u8 0), .raw (.int .u8 0), .raw (.int .u8 0), .raw (.int .u8 0), .raw (.int .u8 0), .raw (.int .u8 0), .raw (.int .u8 0), .raw (.int .u8 0), .raw (.int .u8 0)] := by kernel_rfl
@[simp] theorem zeroIs_150 : zeroIs Tryd.prog 150 (.agg [.raw (.int .u8 0), .raw (.int .u8 0), .raw (.int .u8 0), .raw (.int .u8 0), .raw (.int .u8 0), .raw (.int .u8 0), .raw (.int .u8 0), .raw (.int .u8 0), .raw (.int .u8 0), .raw (.int .u8 0), .raw (.int .u8 0), .raw (.int .u8 0), .raw (.int .u8 0), .raw (.int .u8 0), .raw (.int .u8 0), .raw (.int .u8 0), .raw (.int .u8 0), .raw (.int .u8 0), .raw (.int .u8 0), .raw (.int .u8 0)]) := ⟨.agg #[.int .u8 0, .int .u8 0, .int .u8 0, .int .u8 0, .int .u8 0, .int .u8 0, .int .u8 0, .int .u8 0, .int .u8 0, .int .u8 0, .int .u8 0, .int .u8 0, .int .u8 0, .int .u8 0, .int .u8 0, .int .u8 0, .int .u8 0, .int .u8 0, .int .u8 0, .int .u8 0], by kernel_rfl, .inr ⟨_, _, rfl, rfl, by kernel_rfl⟩⟩
@[simp] theorem tyI_151 : tyI Tryd.prog 151 = some (4, true) := by kernel_rfl
@[simp] theorem isSl_151 : isSl Tryd.prog 151 = false := by kernel_rfl
@[simp] theorem isStr_151 : isStr Tryd.prog 151 = false := by kernel_rfl
@[simp] theorem isBool_151 : isBool Tryd.prog 151 = false := by kernel_rfl
@[simp] theorem isPtr_151 : isPtr Tryd.prog 151 = false := by kernel_rfl
@[simp] theorem isIf_151 : isIf Tryd.prog 151 = false := by kernel_rfl
@[simp] theorem isIface_151 : isIface Tryd.prog 151 = false := by kernel_rfl
@[simp] theorem isArr_151 : isArr Tryd.prog 151 = false := by kernel_rfl
@[simp] theorem plainT_151 : plainT Tryd.prog 151 = false := by kernel_rfl
@[simp] theorem fldI_151_0 : fldI Tryd.prog 151 0 = some (0, 1, false) := by kernel_rfl
@[simp] theorem fldI_151_1 : fldI Tryd.prog 151 1 = some (1, 1, false) := by kernel_rfl
@[simp] theorem fldI_151_2 : fldI Tryd.prog 151 2 = some (2, 1, false) := by kernel_rfl
@[simp] theorem fldI_151_3 : fldI Tryd.prog 151 3 = some (3, 1, false) := by kernel_rfl
@[simp] theorem zAV_151 : zAV Tryd.prog 9 151 = .agg [.raw (.pointer none), .raw (.pointer none), .raw (.pointer none), .raw (.string ⟨#[]⟩)] := by kernel_rfl
@[simp] theorem zeroIs_151 : zeroIs Tryd.prog 151 (.agg [.raw (.pointer none), .raw (.pointer none), .raw (.pointer none), .raw (.string ⟨#[]⟩)]) := ⟨.agg #[.pointer none, .pointer none, .pointer none, .string ⟨#[]⟩], by kernel_rfl, .inr ⟨_, _, rfl, rfl, by kernel_rfl⟩⟩
@[simp] theorem layIs_151 : layIs Tryd.prog 151 [.raw (.pointer none), .raw (.pointer none), .raw (.pointer none), .raw (.string ⟨#[]⟩)] := layIs_of (by kernel_rfl)
@[simp] theorem tyI_152 : tyI Tryd.prog 152 = some (4, true) := by kernel_rfl
@[simp] theorem isSl_152 : isSl Tryd.prog 152 = false := by kernel_rfl
@[simp] theorem isStr_152 : isStr Tryd.prog 152 = false := by kernel_rfl
@[simp] theorem isBool_152 : isBool Tryd.prog 152 = false := by kernel_rfl
@[simp] theorem isPtr_152 : isPtr Tryd.prog 152 = false := by kernel_rfl
@[simp] theorem isIf_152 : isIf Tryd.prog 152 = false := by kernel_rfl
@[simp] theorem isIface_152 : isIface Tryd.prog 152 = false := by kernel_rfl
@[simp] theorem isArr_152 : isArr Tryd.prog 152 = false := by kernel_rfl
@[simp] theorem plainT_152 : plainT Tryd.prog 152 = false := by kernel_rfl
@[simp] theorem fldI_152_0 : fldI Tryd.prog 152 0 = some (0, 1, false) := by kernel_rfl
@[simp] theorem fldI_152_1 : fldI Tryd.prog 152 1 = some (1, 1, false) := by kernel_rfl
@[simp] theorem fldI_152_2 : fldI Tryd.prog 152 2 = some (2, 1, false) := by kernel_rfl
@[simp] theorem fldI_152_3 : fldI Tryd.prog 152 3 = some (3, 1, false) := by kernel_rfl
@[simp] theorem zAV_152 : zAV Tryd.prog 9 152 = .agg [.raw (.pointer none), .raw (.pointer none), .raw (.pointer none), .raw (.string ⟨#[]⟩)] := by kernel_rfl
@[simp] theorem zeroIs_152 : zeroIs Tryd.prog 152 (.agg [.raw (.pointer none), .raw (.pointer none), .raw (.pointer none), .raw (.string ⟨#[]⟩)]) := ⟨.agg #[.pointer none, .pointer none, .pointer none, .string ⟨#[]⟩], by kernel_rfl, .inr ⟨_, _, rfl, rfl, by kernel_rfl⟩⟩
@[simp] theorem layIs_152 : layIs Tryd.prog 152 [.raw (.pointer none), .raw (.pointer none), .raw (.pointer none), .raw (.string ⟨#[]⟩)] := layIs_of (by kernel_rfl)
@[simp] theorem tyI_153 : tyI Tryd.prog 153 = some (0, true) := by kernel_rfl
@[simp] theorem isSl_153 : isSl Tryd.prog 153 = false := by kernel_rfl
@[simp] theorem isStr_153 : isStr Tryd.prog 153 = false := by kernel_rfl
@[simp] theorem isBool_153 : isBool Tryd.prog 153 = false := by kernel_rfl
@[simp] theorem isPtr_153 : isPtr Tryd.prog 153 = false := by kernel_rfl
@[simp] theorem isIf_153 : isIf Tryd.prog 153 = false := by kernel_rfl
@[simp] theorem isIface_153 : isIface Tryd.prog 153 = false := by kernel_rfl
@[simp] theorem isArr_153 : isArr Tryd.prog 153 = true := by kernel_rfl
@[simp] theorem plainT_153 : plainT Tryd.prog 153 = true := by kernel_rfl
@[simp] theorem zAV_153 : zAV Tryd.prog 9 153 = .agg [] := by kernel_rfl
@[simp] theorem zeroIs_153 : zeroIs Tryd.prog 153 (.agg []) := ⟨.agg #[], by kernel_rfl, .inr ⟨_, _, rfl, rfl, by kernel_rfl⟩⟩
@[simp] theorem tyI_154 : tyI Tryd.prog 154 = some (0, true) := by kernel_rfl
@[simp] theorem isSl_154 : isSl Tryd.prog 154 = false := by kernel_rfl
@[simp] theorem isStr_154 : isStr Tryd.prog 154 = false := by kernel_rfl
@[simp] theorem isBool_154 : isBool Tryd.prog 154 = false := by kernel_rfl
@[simp] theorem isPtr_154 : isPtr Tryd.prog 154 = false := by kernel_rfl
@[simp] theorem isIf_154 : isIf Tryd.prog 154 = false := by kernel_rfl
@[simp] theorem isIface_154 : isIface Tryd.prog 154 = false := by kernel_rfl
@[simp] theorem isArr_154 : isArr Tryd.prog 154 = false := by kernel_rfl
@[simp] theorem plainT_154 : plainT Tryd.prog 154 = true := by kernel_rfl
@[simp] theorem zAV_154 : zAV Tryd.prog 9 154 = .agg [.agg []] := by kernel_rfl
@[simp] theorem zeroIs_154 : zeroIs Tryd.prog 154 (.agg [.agg []]) := ⟨.agg #[], by kernel_rfl, .inr ⟨_, _, rfl, rfl, by kernel_rfl⟩⟩
@[simp] theorem layIs_154 : layIs Tryd.prog 154 [.agg []] := layIs_of (by kernel_rfl)
@[simp] theorem tyI_155 : tyI Tryd.prog 155 = some (0, true) := by kernel_rfl
@[simp] theorem isSl_155 : isSl Tryd.prog 155 = false := by kernel_rfl
@[simp] theorem isStr_155 : isStr Tryd.prog 155 = false := by kernel_rfl
@[simp] theorem isBool_155 : isBool Tryd.prog 155 = false := by kernel_rfl
@[simp] theorem isPtr_155 : isPtr Tryd.prog 155 = false := by kernel_rfl
@[simp] theorem isIf_155 : isIf Tryd.prog 155 = false := by kernel_rfl
@[simp] theorem isIface_155 : isIface Tryd.prog 155 = false := by kernel_rfl
@[simp] theorem isArr_155 : isArr Tryd.prog 155 = false := by kernel_rfl
@[simp] theorem plainT_155 : plainT Tryd.prog 155 = true := by kernel_rfl
@[simp] theorem zAV_155 : zAV Tryd.prog 9 155 = .agg [.agg []] := by kernel_rfl
@[simp] theorem zeroIs_155 : zeroIs Tryd.prog 155 (.agg [.agg []]) := ⟨.agg #[], by kernel_rfl, .inr ⟨_, _, rfl, rfl, by kernel_rfl⟩⟩
@[simp] theorem layIs_155 : layIs Tryd.prog 155 [.agg []] := layIs_of (by kernel_rfl)
@[simp] theorem tyI_156 : tyI Tryd.prog 156 = some (1, false) := by kernel_rfl
@[simp] theorem isSl_156 : isSl Tryd.prog 156 = false := by kernel_rfl
@[simp] theorem isStr_156 : isStr Tryd.prog 156 = false := by kernel_rfl
@[simp] theorem isBool_156 : isBool Tryd.prog 156 = false := by kernel_rfl
@[simp] theorem isPtr_156 : isPtr Tryd.prog 156 = false := by kernel_rfl
@[simp] theorem isIf_156 : isIf Tryd.prog 156 = false := by kernel_rfl
@[simp] theorem isIface_156 : isIface Tryd.prog 156 = false := by kernel_rfl
@[simp] theorem isArr_156 : isArr Tryd.prog 156 = false := by kernel_rfl
@[simp] theorem plainT_156 : plainT Tryd.prog 156 = false := by kernel_rfl
@[simp] theorem zAV_156 : zAV Tryd.prog 9 156 = .raw (.nilFunc) := by kernel_rfl
@[simp] theorem zeroIs_156 : zeroIs Tryd.prog 156 (.raw (.nilFunc)) := ⟨.nilFunc, by kernel_rfl, .inl ⟨rfl, rfl⟩⟩
@[simp] theorem tyI_157 : tyI Tryd.prog 157 = some (1, false) := by kernel_rfl
@[simp] theorem isSl_157 : isSl Tryd.prog 157 = false := by kernel_rfl
@[simp] theorem isStr_157 : isStr Tryd.prog 157 = false := by kernel_rfl
@[simp] theorem isBool_157 : isBool Tryd.prog 157 = false := by kernel_rfl
@[simp] theorem isPtr_157 : isPtr Tryd.prog 157 = false := by kernel_rfl
@[simp] theorem isIf_157 : isIf Tryd.prog 157 = false := by kernel_rfl
@[simp] theorem isIface_157 : isIface Tryd.prog 157 = false := by kernel_rfl
@[simp] theorem isArr_157 : isArr Tryd.prog 157 = false := by kernel_rfl
@[simp] theorem plainT_157 : plainT Tryd.prog 157 = true := by kernel_rfl
@[simp] theorem und_157 : Tryd.prog.underlying 157 = some (.int .u32) := by kernel_rfl
@[simp] theorem zAV_157 : zAV Tryd.prog 9 157 = .raw (.int .u32 0) := by kernel_rfl
@[simp] theorem zeroIs_157 : zeroIs Tryd.prog 157 (.raw (.int .u32 0)) := ⟨.int .u32 0, by kernel_rfl, .inl ⟨rfl, rfl⟩⟩
@[simp] theorem tyI_158 : tyI Tryd.prog 158 = some (1, false) := by kernel_rfl
@[simp] theorem isSl_158 : isSl Tryd.prog 158 = false := by kernel_rfl
@[simp] theorem isStr_158 : isStr Tryd.prog 158 = false := by kernel_rfl
@[simp] theorem isBool_158 : isBool Tryd.prog 158 = false := by kernel_rfl
@[simp] theorem isPtr_158 : isPtr Tryd.prog 158 = false := by kernel_rfl
@[simp] theorem isIf_158 : isIf Tryd.prog 158 = false := by kernel_rfl
@[simp] theorem isIface_158 : isIface Tryd.prog 158 = false := by kernel_rfl
@[simp] theorem isArr_158 : isArr Tryd.prog 158 = false := by kernel_rfl
@[simp] theorem plainT_158 : plainT Tryd.prog 158 = true := by kernel_rfl
@[simp] theorem und_158 : Tryd.prog.underlying 158 = some (.int .u8) := by kernel_rfl
@[simp] theorem zAV_158 : zAV Tryd.prog 9 158 = .raw (.int .u8 0) := by kernel_rfl
@[simp] theorem zeroIs_158 : zeroIs Tryd.prog 158 (.raw (.int .u8 0)) := ⟨.int .u8 0, by kernel_rfl, .inl ⟨rfl, rfl⟩⟩
@[simp] theorem tyI_159 : tyI Tryd.prog 159 = some (1, false) := by kernel_rfl
@[simp] theorem isSl_159 : isSl Tryd.prog 159 = false := by kernel_rfl
@[simp] theorem isStr_159 : isStr Tryd.prog 159 = false := by kernel_rfl
@[simp] theorem isBool_159 : isBool Tryd.prog 159 = false := by kernel_rfl
@[simp] theorem isPtr_159 : isPtr Tryd.prog 159 = false := by kernel_rfl
@[simp] theorem isIf_159 : isIf Tryd.prog 159 = false := by kernel_rfl
@[simp] theorem isIface_159 : isIface Tryd.prog 159 = false := by kernel_rfl
@[simp] theorem isArr_159 : isArr Tryd.prog 159 = false := by kernel_rfl
@[simp] theorem plainT_159 : plainT Tryd.prog 159 = false := by kernel_rfl
@[simp] theorem zAV_159 : zAV Tryd.prog 9 159 = .raw (.nilFunc) := by kernel_rfl
@[simp] theorem zeroIs_159 : zeroIs Tryd.prog 159 (.raw (.nilFunc)) := ⟨.nilFunc, by kernel_rfl, .inl ⟨rfl, rfl⟩⟩
@[simp] theorem tyI_160 : tyI Tryd.prog 160 = some (1, false) := by kernel_rfl
@[simp] theorem isSl_160 : isSl Tryd.prog 160 = false := by kernel_rfl
@[simp] theorem isStr_160 : isStr Tryd.prog 160 = false := by kernel_rfl
@[simp] theorem isBool_160 : isBool Tryd.prog 160 = false := by kernel_rfl
@[simp] theorem isPtr_160 : isPtr Tryd.prog 160 = true := by kernel_rfl
@[simp] theorem isIf_160 : isIf Tryd.prog 160 = false := by kernel_rfl
@[simp] theorem isIface_160 : isIface Tryd.prog 160 = false := by kernel_rfl
@[simp] theorem isArr_160 : isArr Tryd.prog 160 = false := by kernel_rfl
@[simp] theorem plainT_160 : plainT Tryd.prog 160 = false := by kernel_rfl
@[simp] theorem zAV_160 : zAV Tryd.prog 9 160 = .raw (.pointer none) := by kernel_rfl
@[simp] theorem zeroIs_160 : zeroIs Tryd.prog 160 (.raw (.pointer none)) := ⟨.pointer none, by kernel_rfl, .inl ⟨rfl, rfl⟩⟩
@[simp] theorem tyI_161 : tyI Tryd.prog 161 = some (1, false) := by kernel_rfl
@[simp] theorem isSl_161 : isSl Tryd.prog 161 = false := by kernel_rfl
@[simp] theorem isStr_161 : isStr Tryd.prog 161 = false := by kernel_rfl
@[simp] theorem isBool_161 : isBool Tryd.prog 161 = false := by kernel_rfl
@[simp] theorem isPtr_161 : isPtr Tryd.prog 161 = false := by kernel_rfl
@[simp] theorem isIf_161 : isIf Tryd.prog 161 = false := by kernel_rfl
@[simp] theorem isIface_161 : isIface Tryd.prog 161 = false := by kernel_rfl
@[simp] theorem isArr_161 : isArr Tryd.prog 161 = false := by kernel_rfl
@[simp] theorem plainT_161 : plainT Tryd.prog 161 = true := by kernel_rfl
@[simp] theorem und_161 : Tryd.prog.underlying 161 = some (.int .i32) := by kernel_rfl
@[simp] theorem zAV_161 : zAV Tryd.prog 9 161 = .raw (.int .i32 0) := by kernel_rfl
@[simp] theorem zeroIs_161 : zeroIs Tryd.prog 161 (.raw (.int .i32 0)) := ⟨.int .i32 0, by kernel_rfl, .inl ⟨rfl, rfl⟩⟩
@[simp] theorem tyI_162 : tyI Tryd.prog 162 = some (1, false) := by kernel_rfl
@[simp] theorem isSl_162 : isSl Tryd.prog 162 = false := by kernel_rfl
@[simp] theorem isStr_162 : isStr Tryd.prog 162 = false := by kernel_rfl
@[simp] theorem isBool_162 : isBool Tryd.prog 162 = false := by kernel_rfl
@[simp] theorem isPtr_162 : isPtr Tryd.prog 162 = false := by kernel_rfl
@[simp] theorem isIf_162 : isIf Tryd.prog 162 = false := by kernel_rfl
@[simp] theorem isIface_162 : isIface Tryd.prog 162 = false := by kernel_rfl
@[simp] theorem isArr_162 : isArr Tryd.prog 162 = false := by kernel_rfl
@[simp] theorem plainT_162 : plainT Tryd.prog 162 = true := by kernel_rfl
@[simp] theorem und_162 : Tryd.prog.underlying 162 = some (.int .i32) := by kernel_rfl
@[simp] theorem zAV_162 : zAV Tryd.prog 9 162 = .raw (.int .i32 0) := by kernel_rfl
@[simp] theorem zeroIs_162 : zeroIs Tryd.prog 162 (.raw (.int .i32 0)) := ⟨.int .i32 0, by kernel_rfl, .inl ⟨rfl, rfl⟩⟩
@[simp] theorem tyI_163 : tyI Tryd.prog 163 = some (11, true) := by kernel_rfl
@[simp] theorem isSl_163 : isSl Tryd.prog 163 = false := by kernel_rfl
@[simp] theorem isStr_163 : isStr Tryd.prog 163 = false := by kernel_rfl
@[simp] theorem isBool_163 : isBool Tryd.prog 163 = false := by kernel_rfl
@[simp] theorem isPtr_163 : isPtr Tryd.prog 163 = false := by kernel_rfl
@[simp] theorem isIf_163 : isIf Tryd.prog 163 = false := by kernel_rfl
@[simp] theorem isIface_163 : isIface Tryd.prog 163 = false := by kernel_rfl
@[simp] theorem isArr_163 : isArr Tryd.prog 163 = false := by kernel_rfl
@[simp] theorem plainT_163 : plainT Tryd.prog 163 = false := by kernel_rfl
@[simp] theorem fldI_163_0 : fldI Tryd.prog 163 0 = some (0, 1, false) := by kernel_rfl
@[simp] theorem fldI_163_1 : fldI Tryd.prog 163 1 = some (1, 1, false) := by kernel_rfl
@[simp] theorem fldI_163_2 : fldI Tryd.prog 163 2 = some (2, 1, false) := by kernel_rfl
@[simp] theorem fldI_163_3 : fldI Tryd.prog 163 3 = some (3, 1, false) := by kernel_rfl
@[simp] theorem fldI_163_4 : fldI Tryd.prog 163 4 = some (4, 1, false) := by kernel_rfl
@[simp] theorem fldI_163_5 : fldI Tryd.prog 163 5 = some (5, 1, false) := by kernel_rfl
@[simp] theorem fldI_163_6 : fldI Tryd.prog 163 6 = some (6, 1, false) := by kernel_rfl
@[simp] theorem fldI_163_7 : fldI Tryd.prog 163 7 = some (7, 1, false) := by kernel_rfl
@[simp] theorem fldI_163_8 : fldI Tryd.prog 163 8 = some (8, 1, false) := by kernel_rfl
@[simp] theorem fldI_163_9 : fldI Tryd.prog 163 9 = some (9, 1, false) := by kernel_rfl
@[simp] theorem fldI_163_10 : fldI Tryd.prog 163 10 = some (10, 1, false) := by kernel_rfl
@[simp] theorem zAV_163 : zAV Tryd.prog 9 163 = .agg [.raw (.int .u64 0), .raw (.int .u64 0), .raw (.int .u32 0), .raw (.int .u8 0), .raw (.int .u8 0), .raw (.int .u8 0), .raw (.int .u8 0), .raw (.nilFunc), .raw (.pointer none), .raw (.int .i32 0), .raw (.int .i32 0)] := by kernel_rfl
@[simp] theorem zeroIs_163 : zeroIs Tryd.prog 163 (.agg [.raw (.int .u64 0), .raw (.int .u64 0), .raw (.int .u32 0), .raw (.int .u8 0), .raw (.int .u8 0), .raw (.int .u8 0), .raw (.int .u8 0), .raw (.nilFunc), .raw (.pointer none), .raw (.int .i32 0), .raw (.int .i32 0)]) := ⟨.agg #[.int .u64 0, .int .u64 0, .int .u32 0, .int .u8 0, .int .u8 0, .int .u8 0, .int .u8 0, .nilFunc, .pointer none, .int .i32 0, .int .i32 0], by kernel_rfl, .inr ⟨_, _, rfl, rfl, by kernel_rfl⟩⟩
@[simp] theorem layIs_163 : layIs Tryd.prog 163 [.raw (.int .u64 0), .raw (.int .u64 0), .raw (.int .u32 0), .raw (.int .u8 0), .raw (.int .u8 0), .raw (.int .u8 0), .raw (.int .u8 0), .raw (.nilFunc), .raw (.pointer none), .raw (.int .i32 0), .raw (.int .i32 0)] := layIs_of (by kernel_rfl)
@[simp] theorem tyI_164 : tyI Tryd.prog 164 = some (11, true) := by kernel_rfl
@[simp] theorem isSl_164 : isSl Tryd.prog 164 = false := by kernel_rfl
@[simp] theorem isStr_164 : isStr Tryd.prog 164 = false := by kernel_rfl
@[simp] theorem isBool_164 : isBool Tryd.prog 164 = false := by kernel_rfl
@[simp] theorem isPtr_164 : isPtr Tryd.prog 164 = false := by kernel_rfl
@[simp] theorem isIf_164 : isIf Tryd.prog 164 = false := by kernel_rfl
@[simp] theorem isIface_164 : isIface Tryd.prog 164 = false := by kernel_rfl
@[simp] theorem isArr_164 : isArr Tryd.prog 164 = false := by kernel_rfl
@[simp] theorem plainT_164 : plainT Tryd.prog 164 = false := by kernel_rfl
@[simp] theorem fldI_164_0 : fldI Tryd.prog 164 0 = some (0, 1, false) := by kernel_rfl
@[simp] theorem fldI_164_1 : fldI Tryd.prog 164 1 = some (1, 1, false) := by kernel_rfl
@[simp] theorem fldI_164_2 : fldI Tryd.prog 164 2 = some (2, 1, false) := by kernel_rfl
@[simp] theorem fldI_164_3 : fldI Tryd.prog 164 3 = some (3, 1, false) := by kernel_rfl
@[simp] theorem fldI_164_4 : fldI Tryd.prog 164 4 = some (4, 1, false) := by kernel_rfl
@[simp] theorem fldI_164_5 : fldI Tryd.prog 164 5 = some (5, 1, false) := by kernel_rfl
@[simp] theorem fldI_164_6 : fldI Tryd.prog 164 6 = some (6, 1, false) := by kernel_rfl
@[simp] theorem fldI_164_7 : fldI Tryd.prog 164 7 = some (7, 1, false) := by kernel_rfl
@[simp] theorem fldI_164_8 : fldI Tryd.prog 164 8 = some (8, 1, false) := by kernel_rfl
@[simp] theorem fldI_164_9 : fldI Tryd.prog 164 9 = some (9, 1, false) := by kernel_rfl
@[simp] theorem fldI_164_10 : fldI Tryd.prog 164 10 = some (10, 1, false) := by kernel_rfl
@[simp] theorem zAV_164 : zAV Tryd.prog 9 164 = .agg [.raw (.int .u64 0), .raw (.int .u64 0), .raw (.int .u32 0), .raw (.int .u8 0), .raw (.int .u8 0), .raw (.int .u8 0), .raw (.int .u8 0), .raw (.nilFunc), .raw (.pointer none), .raw (.int .i32 0), .raw (.int .i32 0)] := by kernel_rfl
@[simp] theorem zeroIs_164 : zeroIs Tryd.prog 164 (.agg [.raw (.int .u64 0), .raw (.int .u64 0), .raw (.int .u32 0), .raw (.int .u8 0), .raw (.int .u8 0), .raw (.int .u8 0), .raw (.int .u8 0), .raw (.nilFunc), .raw (.pointer none), .raw (.int .i32 0), .raw (.int .i32 0)]) := ⟨.agg #[.int .u64 0, .int .u64 0, .int .u32 0, .int .u8 0, .int .u8 0, .int .u8 0, .int .u8 0, .nilFunc, .pointer none, .int .i32 0, .int .i32 0], by kernel_rfl, .inr ⟨_, _, rfl, rfl, by kernel_rfl⟩⟩
@[simp] theorem layIs_164 : layIs Tryd.prog 164 [.raw (.int .u64 0), .raw (.int .u64 0), .raw (.int .u32 0), .raw (.int .u8 0), .raw (.int .u8 0), .raw (.int .u8 0), .raw (.int .u8 0), .raw (.nilFunc), .raw (.pointer none), .raw (.int .i32 0), .raw (.int .i32 0)] := layIs_of (by kernel_rfl)
@[simp] theorem tyI_165 : tyI Tryd.prog 165 = some (1, false) := by kernel_rfl
@[simp] theorem isSl_165 : isSl Tryd.prog 165 = false := by kernel_rfl
@[simp] theorem isStr_165 : isStr Tryd.prog 165 = false := by kernel_rfl
@[simp] theorem isBool_165 : isBool Tryd.prog 165 = false := by kernel_rfl
@[simp] theorem isPtr_165 : isPtr Tryd.prog 165 = false := by kernel_rfl
@[simp] theorem isIf_165 : isIf Tryd.prog 165 = false := by kernel_rfl
@[simp] theorem isIface_165 : isIface Tryd.prog 165 = false := by kernel_rfl
@[simp] theorem isArr_165 : isArr Tryd.prog 165 = false := by kernel_rfl
@[simp] theorem plainT_165 : plainT Tryd.prog 165 = false := by kernel_rfl
@[simp] theorem zAV_165 : zAV Tryd.prog 9 165 = .raw (.nilFunc) := by kernel_rfl
@[simp] theorem zeroIs_165 : zeroIs Tryd.prog 165 (.raw (.nilFunc)) := ⟨.nilFunc, by kernel_rfl, .inl ⟨rfl, rfl⟩⟩
@[simp] theorem tyI_166 : tyI Tryd.prog 166 = some (1, false) := by kernel_rfl
@[simp] theorem isSl_166 : isSl Tryd.prog 166 = false := by kernel_rfl
@[simp] theorem isStr_166 : isStr Tryd.prog 166 = false := by kernel_rfl
@[simp] theorem isBool_166 : isBool Tryd.prog 166 = false := by kernel_rfl
@[simp] theorem isPtr_166 : isPtr Tryd.prog 166 = false := by kernel_rfl
@[simp] theorem isIf_166 : isIf Tryd.prog 166 = false := by kernel_rfl
@[simp] theorem isIface_166 : isIface Tryd.prog 166 = false := by kernel_rfl
@[simp] theorem isArr_166 : isArr Tryd.prog 166 = false := by kernel_rfl
@[simp] theorem plainT_166 : plainT Tryd.prog 166 = false := by kernel_rfl
@[simp] theorem zAV_166 : zAV Tryd.prog 9 166 = .raw (.nilFunc) := by kernel_rfl
@[simp] theorem zeroIs_166 : zeroIs Tryd.prog 166 (.raw (.nilFunc)) := ⟨.nilFunc, by kernel_rfl, .inl ⟨rfl, rfl⟩⟩
@[simp] theorem tyI_167 : tyI Tryd.prog 167 = some (2, true) := by kernel_rfl
@[simp] theorem isSl_167 : isSl Tryd.prog 167 = false := by kernel_rfl
@[simp] theorem isStr_167 : isStr Tryd.prog 167 = false := by kernel_rfl
@[simp] theorem isBool_167 : isBool Tryd.prog 167 = false := by kernel_rfl
@[simp] theorem isPtr_167 : isPtr Tryd.prog 167 = false := by kernel_rfl
@[simp] theorem isIf_167 : isIf Tryd.prog 167 = false := by kernel_rfl
@[simp] theorem isIface_167 : isIface Tryd.prog 167 = false := by kernel_rfl
@[simp] theorem isArr_167 : isArr Tryd.prog 167 = false := by kernel_rfl
@[simp] theorem plainT_167 : plainT Tryd.prog 167 = true := by kernel_rfl
@[simp] theorem fldI_167_0 : fldI Tryd.prog 167 0 = some (0, 1, false) := by kernel_rfl
@[simp] theorem fldI_167_1 : fldI Tryd.prog 167 1 = some (1, 1, false) := by kernel_rfl
@[simp] theorem zAV_167 : zAV Tryd.prog 9 167 = .agg [.raw (.string ⟨#[]⟩), .raw (.int .u8 0)] := by kernel_rfl
@[simp] theorem zeroIs_167 : zeroIs Tryd.prog 167 (.agg [.raw (.string ⟨#[]⟩), .raw (.int .u8 0)]) := ⟨.agg #[.string ⟨#[]⟩, .int .u8 0], by kernel_rfl, .inr ⟨_, _, rfl, rfl, by kernel_rfl⟩⟩
@[simp] theorem layIs_167 : layIs Tryd.prog 167 [.raw (.string ⟨#[]⟩), .raw (.int .u8 0)] := layIs_of (by kernel_rfl)
@[simp] theorem tyI_168 : tyI Tryd.prog 168 = some (2, true) := by kernel_rfl
@[simp] theorem isSl_168 : isSl Tryd.prog 168 = false := by kernel_rfl
@[simp] theorem isStr_168 : isStr Tryd.prog 168 = false := by kernel_rfl
@[simp] theorem isBool_168 : isBool Tryd.prog 168 = false := by kernel_rfl
@[simp] theorem isPtr_168 : isPtr Tryd.prog 168 = false := by kernel_rfl
@[simp] theorem isIf_168 : isIf Tryd.prog 168 = false := by kernel_rfl
@[simp] theorem isIface_168 : isIface Tryd.prog 168 = false := by kernel_rfl
@[simp] theorem isArr_168 : isArr Tryd.prog 168 = false := by kernel_rfl
@[simp] theorem plainT_168 : plainT Tryd.prog 168 = true := by kernel_rfl
@[simp] theorem fldI_168_0 : fldI Tryd.prog 168 0 = some (0, 1, false) := by kernel_rfl
@[simp] theorem fldI_168_1 : fldI Tryd.prog 168 1 = some (1, 1, false) := by kernel_rfl
@[simp] theorem zAV_168 : zAV Tryd.prog 9 168 = .agg [.raw (.string ⟨#[]⟩), .raw (.int .u8 0)] := by kernel_rfl
@[simp] theorem zeroIs_168 : zeroIs Tryd.prog 168 (.agg [.raw (.string ⟨#[]⟩), .raw (.int .u8 0)]) := ⟨.agg #[.string ⟨#[]⟩, .int .u8 0], by kernel_rfl, .inr ⟨_, _, rfl, rfl, by kernel_rfl⟩⟩
@[simp] theorem layIs_168 : layIs Tryd.prog 168 [.raw (.string ⟨#[]⟩), .raw (.int .u8 0)] := layIs_of (by kernel_rfl)
@[simp] theorem tyI_169 : tyI Tryd.prog 169 = some (1, false) := by kernel_rfl
@[simp] theorem isSl_169 : isSl Tryd.prog 169 = false := by kernel_rfl
@[simp] theorem isStr_169 : isStr Tryd.prog 169 = false := by kernel_rfl
@[simp] theorem isBool_169 : isBool Tryd.prog 169 = false := by kernel_rfl
@[simp] theorem isPtr_169 : isPtr Tryd.prog 169 = true := by kernel_rfl
@[simp] theorem isIf_169 : isIf Tryd.prog 169 = false := by kernel_rfl
@[simp] theorem isIface_169 : isIface Tryd.prog 169 = false := by kernel_rfl
@[simp] theorem isArr_169 : isArr Tryd.prog 169 = false := by kernel_rfl
@[simp] theorem plainT_169 : plainT Tryd.prog 169 = false := by kernel_rfl
@[simp] theorem zAV_169 : zAV Tryd.prog 9 169 = .raw (.pointer none) := by kernel_rfl
@[simp] theorem zeroIs_169 : zeroIs Tryd.prog 169 (.raw (.pointer none)) := ⟨.pointer none, by kernel_rfl, .inl ⟨rfl, rfl⟩⟩
@[simp] theorem tyI_170 : tyI Tryd.prog 170 = some (1, false) := by kernel_rfl
@[simp] theorem isSl_170 : isSl Tryd.prog 170 = false := by kernel_rfl
@[simp] theorem isStr_170 : isStr Tryd.prog 170 = false := by kernel_rfl
@[simp] theorem isBool_170 : isBool Tryd.prog 170 = false := by kernel_rfl
@[simp] theorem isPtr_170 : isPtr Tryd.prog 170 = false := by kernel_rfl
@[simp] theorem isIf_170 : isIf Tryd.prog 170 = false := by kernel_rfl
@[simp] theorem isIface_170 : isIface Tryd.prog 170 = false := by kernel_rfl
@[simp] theorem isArr_170 : isArr Tryd.prog 170 = false := by kernel_rfl
@[simp] theorem plainT_170 : plainT Tryd.prog 170 = false := by kernel_rfl
@[simp] theorem zAV_170 : zAV Tryd.prog 9 170 = .raw (.nilFunc) := by kernel_rfl
@[simp] theorem zeroIs_170 : zeroIs Tryd.prog 170 (.raw (.nilFunc)) := ⟨.nilFunc, by kernel_rfl, .inl ⟨rfl, rfl⟩⟩
@[simp] theorem tyI_171 : tyI Tryd.prog 171 = some (1, false) := by kernel_rfl
@[simp] theorem isSl_171 : isSl Tryd.prog 171 = false := by kernel_rfl
@[simp] theorem isStr_171 : isStr Tryd.prog 171 = false := by kernel_rfl
@[simp] theorem isBool_171 : isBool Tryd.prog 171 = false := by kernel_rfl
@[simp] theorem isPtr_171 : isPtr Tryd.prog 171 = false := by kernel_rfl
@[simp] theorem isIf_171 : isIf Tryd.prog 171 = false := by kernel_rfl
@[simp] theorem isIface_171 : isIface Tryd.prog 171 = false := by kernel_rfl
@[simp] theorem isArr_171 : isArr Tryd.prog 171 = false := by kernel_rfl
@[simp] theorem plainT_171 : plainT Tryd.prog 171 = true := by kernel_rfl
@[simp] theorem und_171 : Tryd.prog.underlying 171 = some (.int .u16) := by kernel_rfl
@[simp] theorem zAV_171 : zAV Tryd.prog 9 171 = .raw (.int .u16 0) := by kernel_rfl
@[simp] theorem zeroIs_171 : zeroIs Tryd.prog 171 (.raw (.int .u16 0)) := ⟨.int .u16 0, by kernel_rfl, .inl ⟨rfl, rfl⟩⟩
@[simp] theorem tyI_172 : tyI Tryd.prog 172 = some (5, true) := by kernel_rfl
@[simp] theorem isSl_172 : isSl Tryd.prog 172 = false := by kernel_rfl
@[simp] theorem isStr_172 : isStr Tryd.prog 172 = false := by kernel_rfl
@[simp] theorem isBool_172 : isBool Tryd.prog 172 = false := by kernel_rfl
@[simp] theorem isPtr_172 : isPtr Tryd.prog 172 = false := by kernel_rfl
@[simp] theorem isIf_172 : isIf Tryd.prog 172 = false := by kernel_rfl
@[simp] theorem isIface_172 : isIface Tryd.prog 172 = false := by kernel_rfl
@[simp] theorem isArr_172 : isArr Tryd.prog 172 = false := by kernel_rfl
@[simp] theorem plainT_172 : plainT Tryd.prog 172 = true := by kernel_rfl
@[simp] theorem fldI_172_0 : fldI Tryd.prog 172 0 = some (0, 1, false) := by kernel_rfl
@[simp] theorem fldI_172_1 : fldI Tryd.prog 172 1 = some (1, 1, false) := by kernel_rfl
@[simp] theorem fldI_172_2 : fldI Tryd.prog 172 2 = some (2, 1, false) := by kernel_rfl
@[simp] theorem fldI_172_3 : fldI Tryd.prog 172 3 = some (3, 1, false) := by kernel_rfl
@[simp] theorem fldI_172_4 : fldI Tryd.prog 172 4 = some (4, 1, false) := by kernel_rfl
@[simp] theorem zAV_172 : zAV Tryd.prog 9 172 = .agg [.raw (.int .i32 0), .raw (.int .u16 0), .raw (.int .u16 0), .raw (.int .u32 0), .raw (.int .u32 0)] := by kernel_rfl
@[simp] theorem zeroIs_172 : zeroIs Tryd.prog 172 (.agg [.raw (.int .i32 0), .raw (.int .u16 0), .raw (.int .u16 0), .raw (.int .u32 0), .raw (.int .u32 0)]) := ⟨.agg #[.int .i32 0, .int .u16 0, .int .u16 0, .int .u32 0, .int .u32 0], by kernel_rfl, .inr ⟨_, _, rfl, rfl, by kernel_rfl⟩⟩
@[simp] theorem layIs_172 : layIs Tryd.prog 172 [.raw (.int .i32 0), .raw (.int .u16 0), .raw (.int .u16 0), .raw (.int .u32 0), .raw (.int .u32 0)] := layIs_of (by kernel_rfl)
@[simp] theorem tyI_173 : tyI Tryd.prog 173 = some (5, true) := by kernel_rfl
@[simp] theorem isSl_173 : isSl Tryd.prog 173 = false := by kernel_rfl
@[simp] theorem isStr_173 : isStr Tryd.prog 173 = false := by kernel_rfl
@[simp] theorem isBool_173 : isBool Tryd.prog 173 = false := by kernel_rfl
@[simp] theorem isPtr_173 : isPtr Tryd.prog 173 = false := by kernel_rfl
@[simp] theorem isIf_173 : isIf Tryd.prog 173 = false := by kernel_rfl
@[simp] theorem isIface_173 : isIface Tryd.prog 173 = false := by kernel_rfl
@[simp] theorem isArr_173 : isArr Tryd.prog 173 = false := by kernel_rfl
@[simp] theorem plainT_173 : plainT Tryd.prog 173 = true := by kernel_rfl
@[simp] theorem fldI_173_0 : fldI Tryd.prog 173 0 = some (0, 1, false) := by kernel_rfl
@[simp] theorem fldI_173_1 : fldI Tryd.prog 173 1 = some (1, 1, false) := by kernel_rfl
@[simp] theorem fldI_173_2 : fldI Tryd.prog 173 2 = some (2, 1, false) := by kernel_rfl
@[simp] theorem fldI_173_3 : fldI Tryd.prog 173 3 = some (3, 1, false) := by kernel_rfl
@[simp] theorem fldI_173_4 : fldI Tryd.prog 173 4 = some (4, 1, false) := by kernel_rfl
@[simp] theorem zAV_173 : zAV Tryd.prog 9 173 = .agg [.raw (.int .i32 0), .raw (.int .u16 0), .raw (.int .u16 0), .raw (.int .u32 0), .raw (.int .u32 0)] := by kernel_rfl
@[simp] theorem zeroIs_173 : zeroIs Tryd.prog 173 (.agg [.raw (.int .i32 0), .raw (.int .u16 0), .raw (.int .u16 0), .raw (.int .u32 0), .raw (.int .u32 0)]) := ⟨.agg #[.int .i32 0, .int .u16 0, .int .u16 0, .int .u32 0, .int .u32 0], by kernel_rfl, .inr ⟨_, _, rfl, rfl, by kernel_rfl⟩⟩
@[simp] theorem layIs_173 : layIs Tryd.prog 173 [.raw (.int .i32 0), .raw (.int .u16 0), .raw (.int .u16 0), .raw (.int .u32 0), .raw (.int .u32 0)] := layIs_of (by kernel_rfl)
@[simp] theorem tyI_174 : tyI Tryd.prog 174 = some (1, false) := by kernel_rfl
@[simp] theorem isSl_174 : isSl Tryd.prog 174 = true := by kernel_rfl
@[simp] theorem isStr_174 : isStr Tryd.prog 174 = false := by kernel_rfl
@[simp] theorem isBool_174 : isBool Tryd.prog 174 = false := by kernel_rfl
@[simp] theorem isPtr_174 : isPtr Tryd.prog 174 = false := by kernel_rfl
@[simp] theorem isIf_174 : isIf Tryd.prog 174 = false := by kernel_rfl
@[simp] theorem isIface_174 : isIface Tryd.prog 174 = false := by kernel_rfl
@[simp] theorem isArr_174 : isArr Tryd.prog 174 = false := by kernel_rfl
@[simp] theorem plainT_174 : plainT Tryd.prog 174 = false := by kernel_rfl
@[simp] theorem rowI_174 : rowI Tryd.prog 174 = some (177, 4, 16) := by kernel_rfl
@[simp] theorem zAV_174 : zAV Tryd.prog 9 174 = .raw (.slice none 0 0) := by kernel_rfl
@[simp] theorem zeroIs_174 : zeroIs Tryd.prog 174 (.raw (.slice none 0 0)) := ⟨.slice none 0 0, by kernel_rfl, .inl ⟨rfl, rfl⟩⟩
@[simp] theorem tyI_175 : tyI Tryd.prog 175 = some (1, false) := by kernel_rfl
@[simp] theorem isSl_175 : isSl Tryd.prog 175 = false := by kernel_rfl
@[simp] theorem isStr_175 : isStr Tryd.prog 175 = false := by kernel_rfl
@[simp] theorem isBool_175 : isBool Tryd.prog 175 = false := by kernel_rfl
@[simp] theorem isPtr_175 : isPtr Tryd.prog 175 = false := by kernel_rfl
@[simp] theorem isIf_175 : isIf Tryd.prog 175 = false := by kernel_rfl
@[simp] theorem isIface_175 : isIface Tryd.prog 175 = false := by kernel_rfl
@[simp] theorem isArr_175 : isArr Tryd.prog 175 = false := by kernel_rfl
@[simp] theorem plainT_175 : plainT Tryd.prog 175 = true := by kernel_rfl
@[simp] theorem und_175 : Tryd.prog.underlying 175 = some (.int .i32) := by kernel_rfl
@[simp] theorem zAV_175 : zAV Tryd.prog 9 175 = .raw (.int .i32 0) := by kernel_rfl
@[simp] theorem zeroIs_175 : zeroIs Tryd.prog 175 (.raw (.int .i32 0)) := ⟨.int .i32 0, by kernel_rfl, .inl ⟨rfl, rfl⟩⟩
@[simp] theorem tyI_176 : tyI Tryd.prog 176 = some (4, true) := by kernel_rfl
@[simp] theorem isSl_176 : isSl Tryd.prog 176 = false := by kernel_rfl
@[simp] theorem isStr_176 : isStr Tryd.prog 176 = false := by kernel_rfl
@[simp] theorem isBool_176 : isBool Tryd.prog 176 = false := by kernel_rfl
@[simp] theorem isPtr_176 : isPtr Tryd.prog 176 = false := by kernel_rfl
@[simp] theorem isIf_176 : isIf Tryd.prog 176 = false := by kernel_rfl
@[simp] theorem isIface_176 : isIface Tryd.prog 176 = false := by kernel_rfl
@[simp] theorem isArr_176 : isArr Tryd.prog 176 = false := by kernel_rfl
@[simp] theorem plainT_176 : plainT Tryd.prog 176 = true := by kernel_rfl
@[simp] theorem fldI_176_0 : fldI Tryd.prog 176 0 = some (0, 1, false) := by kernel_rfl
@[simp] theorem fldI_176_1 : fldI Tryd.prog 176 1 = some (1, 1, false) := by kernel_rfl
@[simp] theorem fldI_176_2 : fldI Tryd.prog 176 2 = some (2, 1, false) := by kernel_rfl
@[simp] theorem fldI_176_3 : fldI Tryd.prog 176 3 = some (3, 1, false) := by kernel_rfl
@[simp] theorem zAV_176 : zAV Tryd.prog 9 176 = .agg [.raw (.int .i32 0), .raw (.int .i32 0), .raw (.int .i32 0), .raw (.int .i32 0)] := by kernel_rfl
@[simp] theorem zeroIs_176 : zeroIs Tryd.prog 176 (.agg [.raw (.int .i32 0), .raw (.int .i32 0), .raw (.int .i32 0), .raw (.int .i32 0)]) := ⟨.agg #[.int .i32 0, .int .i32 0, .int .i32 0, .int .i32 0], by kernel_rfl, .inr ⟨_, _, rfl, rfl, by kernel_rfl⟩⟩
@[simp] theorem layIs_176 : layIs Tryd.prog 176 [.raw (.int .i32 0), .raw (.int .i32 0), .raw (.int .i32 0), .raw (.int .i32 0)] := layIs_of (by kernel_rfl)
@[simp] theorem tyI_177 : tyI Tryd.prog 177 = some (4, true) := by kernel_rfl
@[simp] theorem isSl_177 : isSl Tryd.prog 177 = false := by kernel_rfl
@[simp] theorem isStr_177 : isStr Tryd.prog 177 = false := by kernel_rfl
@[simp] theorem isBool_177 : isBool Tryd.prog 177 = false := by kernel_rfl
@[simp] theorem isPtr_177 : isPtr Tryd.prog 177 = false := by kernel_rfl
@[simp] theorem isIf_177 : isIf Tryd.prog 177 = false := by kernel_rfl
@[simp] theorem isIface_177 : isIface Tryd.prog 177 = false := by kernel_rfl
@[simp] theorem isArr_177 : isArr Tryd.prog 177 = false := by kernel_rfl
@[simp] theorem plainT_177 : plainT Tryd.prog 177 = true := by kernel_rfl
@[simp] theorem fldI_177_0 : fldI Tryd.prog 177 0 = some (0, 1, false) := by kernel_rfl
@[simp] theorem fldI_177_1 : fldI Tryd.prog 177 1 = some (1, 1, false) := by kernel_rfl
@[simp] theorem fldI_177_2 : fldI Tryd.prog 177 2 = some (2, 1, false) := by kernel_rfl
@[simp] theorem fldI_177_3 : fldI Tryd.prog 177 3 = some (3, 1, false) := by kernel_rfl
@[simp] theorem zAV_177 : zAV Tryd.prog 9 177 = .agg [.raw (.int .i32 0), .raw (.int .i32 0), .raw (.int .i32 0), .raw (.int .i32 0)] := by kernel_rfl
@[simp] theorem zeroIs_177 : zeroIs Tryd.prog 177 (.agg [.raw (.int .i32 0), .raw (.int .i32 0), .raw (.int .i32 0), .raw (.int .i32 0)]) := ⟨.agg #[.int .i32 0, .int .i32 0, .int .i32 0, .int .i32 0], by kernel_rfl, .inr ⟨_, _, rfl, rfl, by kernel_rfl⟩⟩
@[simp] theorem layIs_177 : layIs Tryd.prog 177 [.raw (.int .i32 0), .raw (.int .i32 0), .raw (.int .i32 0), .raw (.int .i32 0)] := layIs_of (by kernel_rfl)
@[simp] theorem tyI_178 : tyI Tryd.prog 178 = some (1, false) := by kernel_rfl
@[simp] theorem isSl_178 : isSl Tryd.prog 178 = false := by kernel_rfl
@[simp] theorem isStr_178 : isStr Tryd.prog 178 = false := by kernel_rfl
@[simp] theorem isBool_178 : isBool Tryd.prog 178 = false := by kernel_rfl
@[simp] theorem isPtr_178 : isPtr Tryd.prog 178 = true := by kernel_rfl
@[simp] theorem isIf_178 : isIf Tryd.prog 178 = false := by kernel_rfl
@[simp] theorem isIface_178 : isIface Tryd.prog 178 = false := by kernel_rfl
@[simp] theorem isArr_178 : isArr Tryd.prog 178 = false := by kernel_rfl
@[simp] theorem plainT_178 : plainT Tryd.prog 178 = false := by kernel_rfl
@[simp] theorem zAV_178 : zAV Tryd.prog 9 178 = .raw (.pointer none) := by kernel_rfl
@[simp] theorem zeroIs_178 : zeroIs Tryd.prog 178 (.raw (.pointer none)) := ⟨.pointer none, by kernel_rfl, .inl ⟨rfl, rfl⟩⟩
@[simp] theorem isFn_3 : isFn Tryd.prog 3 = true := by kernel_rfl
@[simp] theorem isFn_4 : isFn Tryd.prog 4 = true := by kernel_rfl
@[simp] theorem isFn_5 : isFn Tryd.prog 5 = true := by kernel_rfl
@[simp] theorem isFn_6 : isFn Tryd.prog 6 = true := by kernel_rfl
@[simp] theorem isFn_7 : isFn Tryd.prog 7 = true := by kernel_rfl
@[simp] theorem isFn_8 : isFn Tryd.prog 8 = true := by kernel_rfl
@[simp] theorem isFn_9 : isFn Tryd.prog 9 = true := by kernel_rfl
@[simp] theorem isFn_10 : isFn Tryd.prog 10 = true := by kernel_rfl
@[simp] theorem isFn_11 : isFn Tryd.prog 11 = true := by kernel_rfl
@[simp] theorem isFn_12 : isFn Tryd.prog 12 = true := by kernel_rfl
@[simp] theorem isFn_13 : isFn Tryd.prog 13 = true := by kernel_rfl
@[simp] theorem isFn_14 : isFn Tryd.prog 14 = true := by kernel_rfl
@[simp] theorem isFn_15 : isFn Tryd.prog 15 = true := by kernel_rfl
@[simp] theorem isFn_16 : isFn Tryd.prog 16 = true := by kernel_rfl
@[simp] theorem isFn_17 : isFn Tryd.prog 17 = true := by kernel_rfl
@[simp] theorem isFn_18 : isFn Tryd.prog 18 = true := by kernel_rfl
@[simp] theorem isFn_19 : isFn Tryd.prog 19 = true := by kernel_rfl
@[simp] theorem isFn_20 : isFn Tryd.prog 20 = true := by kernel_rfl
@[simp] theorem isFn_21 : isFn Tryd.prog 21 = true := by kernel_rfl
@[simp] theorem isFn_22 : isFn Tryd.prog 22 = true := by kernel_rfl
@[simp] theorem isFn_23 : isFn Tryd.prog 23 = true := by kernel_rfl
@[simp] theorem isFn_24 : isFn Tryd.prog 24 = true := by kernel_rfl
@[simp] theorem isFn_25 : isFn Tryd.prog 25 = true := by kernel_rfl
@[simp] theorem isFn_26 : isFn Tryd.prog 26 = true := by kernel_rfl
@[simp] theorem isFn_27 : isFn Tryd.prog 27 = true := by kernel_rfl
@[simp] theorem isFn_28 : isFn Tryd.prog 28 = true := by kernel_rfl
@[simp] theorem isFn_29 : isFn Tryd.prog 29 = true := by kernel_rfl
@[simp] theorem isFn_30 : isFn Tryd.prog 30 = true := by kernel_rfl
@[simp] theorem isFn_31 : isFn Tryd.prog 31 = true := by kernel_rfl
@[simp] theorem isFn_32 : isFn Tryd.prog 32 = true := by kernel_rfl
@[simp] theorem isFn_33 : isFn Tryd.prog 33 = true := by kernel_rfl
@[simp] theorem isFn_34 : isFn Tryd.prog 34 = true := by kernel_rfl
@[simp] theorem isFn_35 : isFn Tryd.prog 35 = true := by kernel_rfl
@[simp] theorem isFn_36 : isFn Tryd.prog 36 = true := by kernel_rfl
@[simp] theorem isFn_37 : isFn Tryd.prog 37 = true := by kernel_rfl
@[simp] theorem isFn_38 : isFn Tryd.prog 38 = true := by kernel_rfl
@[simp] theorem isFn_39 : isFn Tryd.prog 39 = true := by kernel_rfl
@[simp] theorem isFn_40 : isFn Tryd.prog 40 = true := by kernel_rfl
@[simp] theorem isFn_41 : isFn Tryd.prog 41 = true := by kernel_rfl
@[simp] theorem isFn_42 : isFn Tryd.prog 42 = true := by kernel_rfl
@[simp] theorem isFn_43 : isFn Tryd.prog 43 = true := by kernel_rfl
@[simp] theorem isFn_44 : isFn Tryd.prog 44 = true := by kernel_rfl
@[simp] theorem isFn_45 : isFn Tryd.prog 45 = true := by kernel_rfl
@[simp] theorem isFn_46 : isFn Tryd.prog 46 = true := by kernel_rfl
@[simp] theorem isFn_47 : isFn Tryd.prog 47 = true := by kernel_rfl
@[simp] theorem isFn_48 : isFn Tryd.prog 48 = true := by kernel_rfl
@[simp] theorem isFn_49 : isFn Tryd.prog 49 = true := by kernel_rfl
@[simp] theorem isFn_50 : isFn Tryd.prog 50 = true := by kernel_rfl
@[simp] theorem isFn_51 : isFn Tryd.prog 51 = true := by kernel_rfl
@[simp] theorem isFn_52 : isFn Tryd.prog 52 = true := by kernel_rfl
@[simp] theorem isFn_54 : isFn Tryd.prog 54 = true := by kernel_rfl
@[simp] theorem isFn_55 : isFn Tryd.prog 55 = true := by kernel_rfl
@[simp] theorem isFn_56 : isFn Tryd.prog 56 = true := by kernel_rfl
@[simp] theorem isFn_57 : isFn Tryd.prog 57 = true := by kernel_rfl
@[simp] theorem isFn_58 : isFn Tryd.prog 58 = true := by kernel_rfl
@[simp] theorem isFn_59 : isFn Tryd.prog 59 = true := by kernel_rfl
@[simp] theorem isFn_60 : isFn Tryd.prog 60 = true := by kernel_rfl
@[simp] theorem isFn_64 : isFn Tryd.prog 64 = true := by kernel_rfl
@[simp] theorem isFn_65 : isFn Tryd.prog 65 = true := by kernel_rfl
@[simp] theorem isFn_66 : isFn Tryd.prog 66 = true := by kernel_rfl
@[simp] theorem isFn_67 : isFn Tryd.prog 67 = true := by kernel_rfl
@[simp] theorem isFn_68 : isFn Tryd.prog 68 = true := by kernel_rfl
end Go.Proofs.YtejeemhenoobjaaDoor.Asl

