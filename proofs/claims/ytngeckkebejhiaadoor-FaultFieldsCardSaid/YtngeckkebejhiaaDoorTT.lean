/- What the words of the system come to at this program's types. -/
import Derived.Test.YtngeckkebejhiaaDoorProg
import Derived.Test.YtngeckkebejhiaaDoorAM
namespace Go.Proofs.YtngeckkebejhiaaDoor.Asl
open Go
theorem mixed : Tryd.prog.follows .mixedOrders = true := by kernel_rfl
@[simp] theorem isSl_0 : isSl Tryd.prog 0 = false := by kernel_rfl
@[simp] theorem tyI_1 : tyI Tryd.prog 1 = some (1, false) := by kernel_rfl
@[simp] theorem isSl_1 : isSl Tryd.prog 1 = false := by kernel_rfl
@[simp] theorem isStr_1 : isStr Tryd.prog 1 = false := by kernel_rfl
@[simp] theorem isBool_1 : isBool Tryd.prog 1 = false := by kernel_rfl
@[simp] theorem isPtr_1 : isPtr Tryd.prog 1 = false := by kernel_rfl
@[simp] theorem isIf_1 : isIf Tryd.prog 1 = false := by kernel_rfl
@[simp] theorem isIface_1 : isIface Tryd.prog 1 = false := by kernel_rfl
@[simp] theorem isArr_1 : isArr Tryd.prog 1 = false := by kernel_rfl
@[simp] theorem plainT_1 : plainT Tryd.prog 1 = false := by kernel_rfl
@[simp] theorem zAV_1 : zAV Tryd.prog 9 1 = .raw (.nilFunc) := by kernel_rfl
@[simp] theorem zeroIs_1 : zeroIs Tryd.prog 1 (.raw (.nilFunc)) := ⟨.nilFunc, by kernel_rfl, .inl ⟨rfl, rfl⟩⟩
@[simp] theorem tyI_2 : tyI Tryd.prog 2 = some (1, false) := by kernel_rfl
@[simp] theorem isSl_2 : isSl Tryd.prog 2 = false := by kernel_rfl
@[simp] theorem isStr_2 : isStr Tryd.prog 2 = false := by kernel_rfl
@[simp] theorem isBool_2 : isBool Tryd.prog 2 = false := by kernel_rfl
@[simp] theorem isPtr_2 : isPtr Tryd.prog 2 = false := by kernel_rfl
@[simp] theorem isIf_2 : isIf Tryd.prog 2 = false := by kernel_rfl
@[simp] theorem isIface_2 : isIface Tryd.prog 2 = false := by kernel_rfl
@[simp] theorem isArr_2 : isArr Tryd.prog 2 = false := by kernel_rfl
@[simp] theorem plainT_2 : plainT Tryd.prog 2 = true := by kernel_rfl
@[simp] theorem und_2 : Tryd.prog.underlying 2 = some (.int .i64) := by kernel_rfl
@[simp] theorem zAV_2 : zAV Tryd.prog 9 2 = .raw (.int .i64 0) := by kernel_rfl
@[simp] theorem zeroIs_2 : zeroIs Tryd.prog 2 (.raw (.int .i64 0)) := ⟨.int .i64 0, by kernel_rfl, .inl ⟨rfl, rfl⟩⟩
@[simp] theorem tyI_3 : tyI Tryd.prog 3 = some (1, false) := by kernel_rfl
@[simp] theorem isSl_3 : isSl Tryd.prog 3 = false := by kernel_rfl
@[simp] theorem isStr_3 : isStr Tryd.prog 3 = false := by kernel_rfl
@[simp] theorem isBool_3 : isBool Tryd.prog 3 = false := by kernel_rfl
@[simp] theorem isPtr_3 : isPtr Tryd.prog 3 = false := by kernel_rfl
@[simp] theorem isIf_3 : isIf Tryd.prog 3 = false := by kernel_rfl
@[simp] theorem isIface_3 : isIface Tryd.prog 3 = false := by kernel_rfl
@[simp] theorem isArr_3 : isArr Tryd.prog 3 = false := by kernel_rfl
@[simp] theorem plainT_3 : plainT Tryd.prog 3 = true := by kernel_rfl
@[simp] theorem und_3 : Tryd.prog.underlying 3 = some (.int .i64) := by kernel_rfl
@[simp] theorem zAV_3 : zAV Tryd.prog 9 3 = .raw (.int .i64 0) := by kernel_rfl
@[simp] theorem zeroIs_3 : zeroIs Tryd.prog 3 (.raw (.int .i64 0)) := ⟨.int .i64 0, by kernel_rfl, .inl ⟨rfl, rfl⟩⟩
@[simp] theorem tyI_4 : tyI Tryd.prog 4 = some (1, false) := by kernel_rfl
@[simp] theorem isSl_4 : isSl Tryd.prog 4 = false := by kernel_rfl
@[simp] theorem isStr_4 : isStr Tryd.prog 4 = false := by kernel_rfl
@[simp] theorem isBool_4 : isBool Tryd.prog 4 = true := by kernel_rfl
@[simp] theorem isPtr_4 : isPtr Tryd.prog 4 = false := by kernel_rfl
@[simp] theorem isIf_4 : isIf Tryd.prog 4 = false := by kernel_rfl
@[simp] theorem isIface_4 : isIface Tryd.prog 4 = false := by kernel_rfl
@[simp] theorem isArr_4 : isArr Tryd.prog 4 = false := by kernel_rfl
@[simp] theorem plainT_4 : plainT Tryd.prog 4 = true := by kernel_rfl
@[simp] theorem zAV_4 : zAV Tryd.prog 9 4 = .raw (.bool false) := by kernel_rfl
@[simp] theorem zeroIs_4 : zeroIs Tryd.prog 4 (.raw (.bool false)) := ⟨.bool false, by kernel_rfl, .inl ⟨rfl, rfl⟩⟩
@[simp] theorem tyI_5 : tyI Tryd.prog 5 = some (1, false) := by kernel_rfl
@[simp] theorem isSl_5 : isSl Tryd.prog 5 = false := by kernel_rfl
@[simp] theorem isStr_5 : isStr Tryd.prog 5 = false := by kernel_rfl
@[simp] theorem isBool_5 : isBool Tryd.prog 5 = false := by kernel_rfl
@[simp] theorem isPtr_5 : isPtr Tryd.prog 5 = false := by kernel_rfl
@[simp] theorem isIf_5 : isIf Tryd.prog 5 = false := by kernel_rfl
@[simp] theorem isIface_5 : isIface Tryd.prog 5 = false := by kernel_rfl
@[simp] theorem isArr_5 : isArr Tryd.prog 5 = false := by kernel_rfl
@[simp] theorem plainT_5 : plainT Tryd.prog 5 = true := by kernel_rfl
@[simp] theorem und_5 : Tryd.prog.underlying 5 = some (.int .u8) := by kernel_rfl
@[simp] theorem zAV_5 : zAV Tryd.prog 9 5 = .raw (.int .u8 0) := by kernel_rfl
@[simp] theorem zeroIs_5 : zeroIs Tryd.prog 5 (.raw (.int .u8 0)) := ⟨.int .u8 0, by kernel_rfl, .inl ⟨rfl, rfl⟩⟩
@[simp] theorem tyI_6 : tyI Tryd.prog 6 = some (1, false) := by kernel_rfl
@[simp] theorem isSl_6 : isSl Tryd.prog 6 = false := by kernel_rfl
@[simp] theorem isStr_6 : isStr Tryd.prog 6 = false := by kernel_rfl
@[simp] theorem isBool_6 : isBool Tryd.prog 6 = false := by kernel_rfl
@[simp] theorem isPtr_6 : isPtr Tryd.prog 6 = false := by kernel_rfl
@[simp] theorem isIf_6 : isIf Tryd.prog 6 = false := by kernel_rfl
@[simp] theorem isIface_6 : isIface Tryd.prog 6 = false := by kernel_rfl
@[simp] theorem isArr_6 : isArr Tryd.prog 6 = false := by kernel_rfl
@[simp] theorem plainT_6 : plainT Tryd.prog 6 = true := by kernel_rfl
@[simp] theorem und_6 : Tryd.prog.underlying 6 = some (.int .u8) := by kernel_rfl
@[simp] theorem zAV_6 : zAV Tryd.prog 9 6 = .raw (.int .u8 0) := by kernel_rfl
@[simp] theorem zeroIs_6 : zeroIs Tryd.prog 6 (.raw (.int .u8 0)) := ⟨.int .u8 0, by kernel_rfl, .inl ⟨rfl, rfl⟩⟩
@[simp] theorem tyI_7 : tyI Tryd.prog 7 = some (4, true) := by kernel_rfl
@[simp] theorem isSl_7 : isSl Tryd.prog 7 = false := by kernel_rfl
@[simp] theorem isStr_7 : isStr Tryd.prog 7 = false := by kernel_rfl
@[simp] theorem isBool_7 : isBool Tryd.prog 7 = false := by kernel_rfl
@[simp] theorem isPtr_7 : isPtr Tryd.prog 7 = false := by kernel_rfl
@[simp] theorem isIf_7 : isIf Tryd.prog 7 = false := by kernel_rfl
@[simp] theorem isIface_7 : isIface Tryd.prog 7 = false := by kernel_rfl
@[simp] theorem isArr_7 : isArr Tryd.prog 7 = false := by kernel_rfl
@[simp] theorem plainT_7 : plainT Tryd.prog 7 = true := by kernel_rfl
@[simp] theorem fldI_7_0 : fldI Tryd.prog 7 0 = some (0, 1, false) := by kernel_rfl
@[simp] theorem fldI_7_1 : fldI Tryd.prog 7 1 = some (1, 1, false) := by kernel_rfl
@[simp] theorem fldI_7_2 : fldI Tryd.prog 7 2 = some (2, 1, false) := by kernel_rfl
@[simp] theorem fldI_7_3 : fldI Tryd.prog 7 3 = some (3, 1, false) := by kernel_rfl
@[simp] theorem zAV_7 : zAV Tryd.prog 9 7 = .agg [.raw (.int .i64 0), .raw (.int .i64 0), .raw (.bool false), .raw (.int .u8 0)] := by kernel_rfl
@[simp] theorem zeroIs_7 : zeroIs Tryd.prog 7 (.agg [.raw (.int .i64 0), .raw (.int .i64 0), .raw (.bool false), .raw (.int .u8 0)]) := ⟨.agg #[.int .i64 0, .int .i64 0, .bool false, .int .u8 0], by kernel_rfl, .inr ⟨_, _, rfl, rfl, by kernel_rfl⟩⟩
@[simp] theorem layIs_7 : layIs Tryd.prog 7 [.raw (.int .i64 0), .raw (.int .i64 0), .raw (.bool false), .raw (.int .u8 0)] := layIs_of (by kernel_rfl)
@[simp] theorem tyI_8 : tyI Tryd.prog 8 = some (4, true) := by kernel_rfl
@[simp] theorem isSl_8 : isSl Tryd.prog 8 = false := by kernel_rfl
@[simp] theorem isStr_8 : isStr Tryd.prog 8 = false := by kernel_rfl
@[simp] theorem isBool_8 : isBool Tryd.prog 8 = false := by kernel_rfl
@[simp] theorem isPtr_8 : isPtr Tryd.prog 8 = false := by kernel_rfl
@[simp] theorem isIf_8 : isIf Tryd.prog 8 = false := by kernel_rfl
@[simp] theorem isIface_8 : isIface Tryd.prog 8 = false := by kernel_rfl
@[simp] theorem isArr_8 : isArr Tryd.prog 8 = false := by kernel_rfl
@[simp] theorem plainT_8 : plainT Tryd.prog 8 = true := by kernel_rfl
@[simp] theorem fldI_8_0 : fldI Tryd.prog 8 0 = some (0, 1, false) := by kernel_rfl
@[simp] theorem fldI_8_1 : fldI Tryd.prog 8 1 = some (1, 1, false) := by kernel_rfl
@[simp] theorem fldI_8_2 : fldI Tryd.prog 8 2 = some (2, 1, false) := by kernel_rfl
@[simp] theorem fldI_8_3 : fldI Tryd.prog 8 3 = some (3, 1, false) := by kernel_rfl
@[simp] theorem zAV_8 : zAV Tryd.prog 9 8 = .agg [.raw (.int .i64 0), .raw (.int .i64 0), .raw (.bool false), .raw (.int .u8 0)] := by kernel_rfl
@[simp] theorem zeroIs_8 : zeroIs Tryd.prog 8 (.agg [.raw (.int .i64 0), .raw (.int .i64 0), .raw (.bool false), .raw (.int .u8 0)]) := ⟨.agg #[.int .i64 0, .int .i64 0, .bool false, .int .u8 0], by kernel_rfl, .inr ⟨_, _, rfl, rfl, by kernel_rfl⟩⟩
@[simp] theorem layIs_8 : layIs Tryd.prog 8 [.raw (.int .i64 0), .raw (.int .i64 0), .raw (.bool false), .raw (.int .u8 0)] := layIs_of (by kernel_rfl)
@[simp] theorem tyI_9 : tyI Tryd.prog 9 = some (1, false) := by kernel_rfl
@[simp] theorem isSl_9 : isSl Tryd.prog 9 = false := by kernel_rfl
@[simp] theorem isStr_9 : isStr Tryd.prog 9 = true := by kernel_rfl
@[simp] theorem isBool_9 : isBool Tryd.prog 9 = false := by kernel_rfl
@[simp] theorem isPtr_9 : isPtr Tryd.prog 9 = false := by kernel_rfl
@[simp] theorem isIf_9 : isIf Tryd.prog 9 = false := by kernel_rfl
@[simp] theorem isIface_9 : isIface Tryd.prog 9 = false := by kernel_rfl
@[simp] theorem isArr_9 : isArr Tryd.prog 9 = false := by kernel_rfl
@[simp] theorem plainT_9 : plainT Tryd.prog 9 = true := by kernel_rfl
@[simp] theorem und_9 : Tryd.prog.underlying 9 = some .string := by kernel_rfl
@[simp] theorem zAV_9 : zAV Tryd.prog 9 9 = .raw (.string ⟨#[]⟩) := by kernel_rfl
@[simp] theorem zeroIs_9 : zeroIs Tryd.prog 9 (.raw (.string ⟨#[]⟩)) := ⟨.string ⟨#[]⟩, by kernel_rfl, .inl ⟨rfl, rfl⟩⟩
@[simp] theorem tyI_10 : tyI Tryd.prog 10 = some (1, false) := by kernel_rfl
@[simp] theorem isSl_10 : isSl Tryd.prog 10 = false := by kernel_rfl
@[simp] theorem isStr_10 : isStr Tryd.prog 10 = true := by kernel_rfl
@[simp] theorem isBool_10 : isBool Tryd.prog 10 = false := by kernel_rfl
@[simp] theorem isPtr_10 : isPtr Tryd.prog 10 = false := by kernel_rfl
@[simp] theorem isIf_10 : isIf Tryd.prog 10 = false := by kernel_rfl
@[simp] theorem isIface_10 : isIface Tryd.prog 10 = false := by kernel_rfl
@[simp] theorem isArr_10 : isArr Tryd.prog 10 = false := by kernel_rfl
@[simp] theorem plainT_10 : plainT Tryd.prog 10 = true := by kernel_rfl
@[simp] theorem und_10 : Tryd.prog.underlying 10 = some .string := by kernel_rfl
@[simp] theorem zAV_10 : zAV Tryd.prog 9 10 = .raw (.string ⟨#[]⟩) := by kernel_rfl
@[simp] theorem zeroIs_10 : zeroIs Tryd.prog 10 (.raw (.string ⟨#[]⟩)) := ⟨.string ⟨#[]⟩, by kernel_rfl, .inl ⟨rfl, rfl⟩⟩
@[simp] theorem tyI_11 : tyI Tryd.prog 11 = some (1, false) := by kernel_rfl
@[simp] theorem isSl_11 : isSl Tryd.prog 11 = false := by kernel_rfl
@[simp] theorem isStr_11 : isStr Tryd.prog 11 = true := by kernel_rfl
@[simp] theorem isBool_11 : isBool Tryd.prog 11 = false := by kernel_rfl
@[simp] theorem isPtr_11 : isPtr Tryd.prog 11 = false := by kernel_rfl
@[simp] theorem isIf_11 : isIf Tryd.prog 11 = false := by kernel_rfl
@[simp] theorem isIface_11 : isIface Tryd.prog 11 = false := by kernel_rfl
@[simp] theorem isArr_11 : isArr Tryd.prog 11 = false := by kernel_rfl
@[simp] theorem plainT_11 : plainT Tryd.prog 11 = true := by kernel_rfl
@[simp] theorem und_11 : Tryd.prog.underlying 11 = some .string := by kernel_rfl
@[simp] theorem zAV_11 : zAV Tryd.prog 9 11 = .raw (.string ⟨#[]⟩) := by kernel_rfl
@[simp] theorem zeroIs_11 : zeroIs Tryd.prog 11 (.raw (.string ⟨#[]⟩)) := ⟨.string ⟨#[]⟩, by kernel_rfl, .inl ⟨rfl, rfl⟩⟩
@[simp] theorem tyI_12 : tyI Tryd.prog 12 = some (1, false) := by kernel_rfl
@[simp] theorem isSl_12 : isSl Tryd.prog 12 = false := by kernel_rfl
@[simp] theorem isStr_12 : isStr Tryd.prog 12 = false := by kernel_rfl
@[simp] theorem isBool_12 : isBool Tryd.prog 12 = false := by kernel_rfl
@[simp] theorem isPtr_12 : isPtr Tryd.prog 12 = false := by kernel_rfl
@[simp] theorem isIf_12 : isIf Tryd.prog 12 = false := by kernel_rfl
@[simp] theorem isIface_12 : isIface Tryd.prog 12 = false := by kernel_rfl
@[simp] theorem isArr_12 : isArr Tryd.prog 12 = false := by kernel_rfl
@[simp] theorem plainT_12 : plainT Tryd.prog 12 = true := by kernel_rfl
@[simp] theorem und_12 : Tryd.prog.underlying 12 = some (.int .u64) := by kernel_rfl
@[simp] theorem zAV_12 : zAV Tryd.prog 9 12 = .raw (.int .u64 0) := by kernel_rfl
@[simp] theorem zeroIs_12 : zeroIs Tryd.prog 12 (.raw (.int .u64 0)) := ⟨.int .u64 0, by kernel_rfl, .inl ⟨rfl, rfl⟩⟩
@[simp] theorem tyI_13 : tyI Tryd.prog 13 = some (2, true) := by kernel_rfl
@[simp] theorem isSl_13 : isSl Tryd.prog 13 = false := by kernel_rfl
@[simp] theorem isStr_13 : isStr Tryd.prog 13 = false := by kernel_rfl
@[simp] theorem isBool_13 : isBool Tryd.prog 13 = false := by kernel_rfl
@[simp] theorem isPtr_13 : isPtr Tryd.prog 13 = false := by kernel_rfl
@[simp] theorem isIf_13 : isIf Tryd.prog 13 = false := by kernel_rfl
@[simp] theorem isIface_13 : isIface Tryd.prog 13 = false := by kernel_rfl
@[simp] theorem isArr_13 : isArr Tryd.prog 13 = false := by kernel_rfl
@[simp] theorem plainT_13 : plainT Tryd.prog 13 = true := by kernel_rfl
@[simp] theorem fldI_13_0 : fldI Tryd.prog 13 0 = some (0, 1, false) := by kernel_rfl
@[simp] theorem fldI_13_1 : fldI Tryd.prog 13 1 = some (1, 1, false) := by kernel_rfl
@[simp] theorem zAV_13 : zAV Tryd.prog 9 13 = .agg [.raw (.string ⟨#[]⟩), .raw (.int .u64 0)] := by kernel_rfl
@[simp] theorem zeroIs_13 : zeroIs Tryd.prog 13 (.agg [.raw (.string ⟨#[]⟩), .raw (.int .u64 0)]) := ⟨.agg #[.string ⟨#[]⟩, .int .u64 0], by kernel_rfl, .inr ⟨_, _, rfl, rfl, by kernel_rfl⟩⟩
@[simp] theorem layIs_13 : layIs Tryd.prog 13 [.raw (.string ⟨#[]⟩), .raw (.int .u64 0)] := layIs_of (by kernel_rfl)
@[simp] theorem tyI_14 : tyI Tryd.prog 14 = some (2, true) := by kernel_rfl
@[simp] theorem isSl_14 : isSl Tryd.prog 14 = false := by kernel_rfl
@[simp] theorem isStr_14 : isStr Tryd.prog 14 = false := by kernel_rfl
@[simp] theorem isBool_14 : isBool Tryd.prog 14 = false := by kernel_rfl
@[simp] theorem isPtr_14 : isPtr Tryd.prog 14 = false := by kernel_rfl
@[simp] theorem isIf_14 : isIf Tryd.prog 14 = false := by kernel_rfl
@[simp] theorem isIface_14 : isIface Tryd.prog 14 = false := by kernel_rfl
@[simp] theorem isArr_14 : isArr Tryd.prog 14 = false := by kernel_rfl
@[simp] theorem plainT_14 : plainT Tryd.prog 14 = true := by kernel_rfl
@[simp] theorem fldI_14_0 : fldI Tryd.prog 14 0 = some (0, 1, false) := by kernel_rfl
@[simp] theorem fldI_14_1 : fldI Tryd.prog 14 1 = some (1, 1, false) := by kernel_rfl
@[simp] theorem zAV_14 : zAV Tryd.prog 9 14 = .agg [.raw (.string ⟨#[]⟩), .raw (.int .u64 0)] := by kernel_rfl
@[simp] theorem zeroIs_14 : zeroIs Tryd.prog 14 (.agg [.raw (.string ⟨#[]⟩), .raw (.int .u64 0)]) := ⟨.agg #[.string ⟨#[]⟩, .int .u64 0], by kernel_rfl, .inr ⟨_, _, rfl, rfl, by kernel_rfl⟩⟩
@[simp] theorem layIs_14 : layIs Tryd.prog 14 [.raw (.string ⟨#[]⟩), .raw (.int .u64 0)] := layIs_of (by kernel_rfl)
@[simp] theorem tyI_15 : tyI Tryd.prog 15 = some (1, false) := by kernel_rfl
@[simp] theorem isSl_15 : isSl Tryd.prog 15 = false := by kernel_rfl
@[simp] theorem isStr_15 : isStr Tryd.prog 15 = false := by kernel_rfl
@[simp] theorem isBool_15 : isBool Tryd.prog 15 = false := by kernel_rfl
@[simp] theorem isPtr_15 : isPtr Tryd.prog 15 = true := by kernel_rfl
@[simp] theorem isIf_15 : isIf Tryd.prog 15 = false := by kernel_rfl
@[simp] theorem isIface_15 : isIface Tryd.prog 15 = false := by kernel_rfl
@[simp] theorem isArr_15 : isArr Tryd.prog 15 = false := by kernel_rfl
@[simp] theorem plainT_15 : plainT Tryd.prog 15 = false := by kernel_rfl
@[simp] theorem zAV_15 : zAV Tryd.prog 9 15 = .raw (.pointer none) := by kernel_rfl
@[simp] theorem zeroIs_15 : zeroIs Tryd.prog 15 (.raw (.pointer none)) := ⟨.pointer none, by kernel_rfl, .inl ⟨rfl, rfl⟩⟩
@[simp] theorem tyI_16 : tyI Tryd.prog 16 = some (1, false) := by kernel_rfl
@[simp] theorem isSl_16 : isSl Tryd.prog 16 = false := by kernel_rfl
@[simp] theorem isStr_16 : isStr Tryd.prog 16 = false := by kernel_rfl
@[simp] theorem isBool_16 : isBool Tryd.prog 16 = false := by kernel_rfl
@[simp] theorem isPtr_16 : isPtr Tryd.prog 16 = true := by kernel_rfl
@[simp] theorem isIf_16 : isIf Tryd.prog 16 = false := by kernel_rfl
@[simp] theorem isIface_16 : isIface Tryd.prog 16 = false := by kernel_rfl
@[simp] theorem isArr_16 : isArr Tryd.prog 16 = false := by kernel_rfl
@[simp] theorem plainT_16 : plainT Tryd.prog 16 = false := by kernel_rfl
@[simp] theorem zAV_16 : zAV Tryd.prog 9 16 = .raw (.pointer none) := by kernel_rfl
@[simp] theorem zeroIs_16 : zeroIs Tryd.prog 16 (.raw (.pointer none)) := ⟨.pointer none, by kernel_rfl, .inl ⟨rfl, rfl⟩⟩
@[simp] theorem tyI_17 : tyI Tryd.prog 17 = some (1, false) := by kernel_rfl
@[simp] theorem isSl_17 : isSl Tryd.prog 17 = false := by kernel_rfl
@[simp] theorem isStr_17 : isStr Tryd.prog 17 = false := by kernel_rfl
@[simp] theorem isBool_17 : isBool Tryd.prog 17 = false := by kernel_rfl
@[simp] theorem isPtr_17 : isPtr Tryd.prog 17 = true := by kernel_rfl
@[simp] theorem isIf_17 : isIf Tryd.prog 17 = false := by kernel_rfl
@[simp] theorem isIface_17 : isIface Tryd.prog 17 = false := by kernel_rfl
@[simp] theorem isArr_17 : isArr Tryd.prog 17 = false := by kernel_rfl
@[simp] theorem plainT_17 : plainT Tryd.prog 17 = false := by kernel_rfl
@[simp] theorem zAV_17 : zAV Tryd.prog 9 17 = .raw (.pointer none) := by kernel_rfl
@[simp] theorem zeroIs_17 : zeroIs Tryd.prog 17 (.raw (.pointer none)) := ⟨.pointer none, by kernel_rfl, .inl ⟨rfl, rfl⟩⟩
@[simp] theorem tyI_18 : tyI Tryd.prog 18 = some (1, true) := by kernel_rfl
@[simp] theorem isSl_18 : isSl Tryd.prog 18 = false := by kernel_rfl
@[simp] theorem isStr_18 : isStr Tryd.prog 18 = false := by kernel_rfl
@[simp] theorem isBool_18 : isBool Tryd.prog 18 = false := by kernel_rfl
@[simp] theorem isPtr_18 : isPtr Tryd.prog 18 = false := by kernel_rfl
@[simp] theorem isIf_18 : isIf Tryd.prog 18 = false := by kernel_rfl
@[simp] theorem isIface_18 : isIface Tryd.prog 18 = false := by kernel_rfl
@[simp] theorem isArr_18 : isArr Tryd.prog 18 = false := by kernel_rfl
@[simp] theorem plainT_18 : plainT Tryd.prog 18 = false := by kernel_rfl
@[simp] theorem fldI_18_0 : fldI Tryd.prog 18 0 = some (0, 1, false) := by kernel_rfl
@[simp] theorem zAV_18 : zAV Tryd.prog 9 18 = .agg [.raw (.pointer none)] := by kernel_rfl
@[simp] theorem zeroIs_18 : zeroIs Tryd.prog 18 (.agg [.raw (.pointer none)]) := ⟨.agg #[.pointer none], by kernel_rfl, .inr ⟨_, _, rfl, rfl, by kernel_rfl⟩⟩
@[simp] theorem layIs_18 : layIs Tryd.prog 18 [.raw (.pointer none)] := layIs_of (by kernel_rfl)
@[simp] theorem tyI_19 : tyI Tryd.prog 19 = some (1, true) := by kernel_rfl
@[simp] theorem isSl_19 : isSl Tryd.prog 19 = false := by kernel_rfl
@[simp] theorem isStr_19 : isStr Tryd.prog 19 = false := by kernel_rfl
@[simp] theorem isBool_19 : isBool Tryd.prog 19 = false := by kernel_rfl
@[simp] theorem isPtr_19 : isPtr Tryd.prog 19 = false := by kernel_rfl
@[simp] theorem isIf_19 : isIf Tryd.prog 19 = false := by kernel_rfl
@[simp] theorem isIface_19 : isIface Tryd.prog 19 = false := by kernel_rfl
@[simp] theorem isArr_19 : isArr Tryd.prog 19 = false := by kernel_rfl
@[simp] theorem plainT_19 : plainT Tryd.prog 19 = false := by kernel_rfl
@[simp] theorem fldI_19_0 : fldI Tryd.prog 19 0 = some (0, 1, false) := by kernel_rfl
@[simp] theorem zAV_19 : zAV Tryd.prog 9 19 = .agg [.raw (.pointer none)] := by kernel_rfl
@[simp] theorem zeroIs_19 : zeroIs Tryd.prog 19 (.agg [.raw (.pointer none)]) := ⟨.agg #[.pointer none], by kernel_rfl, .inr ⟨_, _, rfl, rfl, by kernel_rfl⟩⟩
@[simp] theorem layIs_19 : layIs Tryd.prog 19 [.raw (.pointer none)] := layIs_of (by kernel_rfl)
@[simp] theorem tyI_20 : tyI Tryd.prog 20 = some (1, false) := by kernel_rfl
@[simp] theorem isSl_20 : isSl Tryd.prog 20 = false := by kernel_rfl
@[simp] theorem isStr_20 : isStr Tryd.prog 20 = false := by kernel_rfl
@[simp] theorem isBool_20 : isBool Tryd.prog 20 = false := by kernel_rfl
@[simp] theorem isPtr_20 : isPtr Tryd.prog 20 = false := by kernel_rfl
@[simp] theorem isIf_20 : isIf Tryd.prog 20 = true := by kernel_rfl
@[simp] theorem isIface_20 : isIface Tryd.prog 20 = true := by kernel_rfl
@[simp] theorem isArr_20 : isArr Tryd.prog 20 = false := by kernel_rfl
@[simp] theorem plainT_20 : plainT Tryd.prog 20 = false := by kernel_rfl
@[simp] theorem zAV_20 : zAV Tryd.prog 9 20 = .raw (.nilIface) := by kernel_rfl
@[simp] theorem zeroIs_20 : zeroIs Tryd.prog 20 (.raw (.nilIface)) := ⟨.nilIface, by kernel_rfl, .inl ⟨rfl, rfl⟩⟩
@[simp] theorem tyI_21 : tyI Tryd.prog 21 = some (1, false) := by kernel_rfl
@[simp] theorem isSl_21 : isSl Tryd.prog 21 = false := by kernel_rfl
@[simp] theorem isStr_21 : isStr Tryd.prog 21 = false := by kernel_rfl
@[simp] theorem isBool_21 : isBool Tryd.prog 21 = false := by kernel_rfl
@[simp] theorem isPtr_21 : isPtr Tryd.prog 21 = false := by kernel_rfl
@[simp] theorem isIf_21 : isIf Tryd.prog 21 = false := by kernel_rfl
@[simp] theorem isIface_21 : isIface Tryd.prog 21 = false := by kernel_rfl
@[simp] theorem isArr_21 : isArr Tryd.prog 21 = false := by kernel_rfl
@[simp] theorem plainT_21 : plainT Tryd.prog 21 = true := by kernel_rfl
@[simp] theorem und_21 : Tryd.prog.underlying 21 = some (.int .i32) := by kernel_rfl
@[simp] theorem zAV_21 : zAV Tryd.prog 9 21 = .raw (.int .i32 0) := by kernel_rfl
@[simp] theorem zeroIs_21 : zeroIs Tryd.prog 21 (.raw (.int .i32 0)) := ⟨.int .i32 0, by kernel_rfl, .inl ⟨rfl, rfl⟩⟩
@[simp] theorem tyI_22 : tyI Tryd.prog 22 = some (1, false) := by kernel_rfl
@[simp] theorem isSl_22 : isSl Tryd.prog 22 = true := by kernel_rfl
@[simp] theorem isStr_22 : isStr Tryd.prog 22 = false := by kernel_rfl
@[simp] theorem isBool_22 : isBool Tryd.prog 22 = false := by kernel_rfl
@[simp] theorem isPtr_22 : isPtr Tryd.prog 22 = false := by kernel_rfl
@[simp] theorem isIf_22 : isIf Tryd.prog 22 = false := by kernel_rfl
@[simp] theorem isIface_22 : isIface Tryd.prog 22 = false := by kernel_rfl
@[simp] theorem isArr_22 : isArr Tryd.prog 22 = false := by kernel_rfl
@[simp] theorem plainT_22 : plainT Tryd.prog 22 = false := by kernel_rfl
@[simp] theorem rowI_22 : rowI Tryd.prog 22 = some (9, 1, 16) := by kernel_rfl
@[simp] theorem zAV_22 : zAV Tryd.prog 9 22 = .raw (.slice none 0 0) := by kernel_rfl
@[simp] theorem zeroIs_22 : zeroIs Tryd.prog 22 (.raw (.slice none 0 0)) := ⟨.slice none 0 0, by kernel_rfl, .inl ⟨rfl, rfl⟩⟩
@[simp] theorem tyI_23 : tyI Tryd.prog 23 = some (5, true) := by kernel_rfl
@[simp] theorem isSl_23 : isSl Tryd.prog 23 = false := by kernel_rfl
@[simp] theorem isStr_23 : isStr Tryd.prog 23 = false := by kernel_rfl
@[simp] theorem isBool_23 : isBool Tryd.prog 23 = false := by kernel_rfl
@[simp] theorem isPtr_23 : isPtr Tryd.prog 23 = false := by kernel_rfl
@[simp] theorem isIf_23 : isIf Tryd.prog 23 = false := by kernel_rfl
@[simp] theorem isIface_23 : isIface Tryd.prog 23 = false := by kernel_rfl
@[simp] theorem isArr_23 : isArr Tryd.prog 23 = false := by kernel_rfl
@[simp] theorem plainT_23 : plainT Tryd.prog 23 = false := by kernel_rfl
@[simp] theorem fldI_23_0 : fldI Tryd.prog 23 0 = some (0, 1, false) := by kernel_rfl
@[simp] theorem fldI_23_1 : fldI Tryd.prog 23 1 = some (1, 1, false) := by kernel_rfl
@[simp] theorem fldI_23_2 : fldI Tryd.prog 23 2 = some (2, 1, false) := by kernel_rfl
@[simp] theorem fldI_23_3 : fldI Tryd.prog 23 3 = some (3, 1, false) := by kernel_rfl
@[simp] theorem fldI_23_4 : fldI Tryd.prog 23 4 = some (4, 1, false) := by kernel_rfl
@[simp] theorem zAV_23 : zAV Tryd.prog 9 23 = .agg [.raw (.bool false), .raw (.string ⟨#[]⟩), .raw (.string ⟨#[]⟩), .raw (.int .i32 0), .raw (.slice none 0 0)] := by kernel_rfl
@[simp] theorem zeroIs_23 : zeroIs Tryd.prog 23 (.agg [.raw (.bool false), .raw (.string ⟨#[]⟩), .raw (.string ⟨#[]⟩), .raw (.int .i32 0), .raw (.slice none 0 0)]) := ⟨.agg #[.bool false, .string ⟨#[]⟩, .string ⟨#[]⟩, .int .i32 0, .slice none 0 0], by kernel_rfl, .inr ⟨_, _, rfl, rfl, by kernel_rfl⟩⟩
@[simp] theorem layIs_23 : layIs Tryd.prog 23 [.raw (.bool false), .raw (.string ⟨#[]⟩), .raw (.string ⟨#[]⟩), .raw (.int .i32 0), .raw (.slice none 0 0)] := layIs_of (by kernel_rfl)
@[simp] theorem tyI_24 : tyI Tryd.prog 24 = some (5, true) := by kernel_rfl
@[simp] theorem isSl_24 : isSl Tryd.prog 24 = false := by kernel_rfl
@[simp] theorem isStr_24 : isStr Tryd.prog 24 = false := by kernel_rfl
@[simp] theorem isBool_24 : isBool Tryd.prog 24 = false := by kernel_rfl
@[simp] theorem isPtr_24 : isPtr Tryd.prog 24 = false := by kernel_rfl
@[simp] theorem isIf_24 : isIf Tryd.prog 24 = false := by kernel_rfl
@[simp] theorem isIface_24 : isIface Tryd.prog 24 = false := by kernel_rfl
@[simp] theorem isArr_24 : isArr Tryd.prog 24 = false := by kernel_rfl
@[simp] theorem plainT_24 : plainT Tryd.prog 24 = false := by kernel_rfl
@[simp] theorem fldI_24_0 : fldI Tryd.prog 24 0 = some (0, 1, false) := by kernel_rfl
@[simp] theorem fldI_24_1 : fldI Tryd.prog 24 1 = some (1, 1, false) := by kernel_rfl
@[simp] theorem fldI_24_2 : fldI Tryd.prog 24 2 = some (2, 1, false) := by kernel_rfl
@[simp] theorem fldI_24_3 : fldI Tryd.prog 24 3 = some (3, 1, false) := by kernel_rfl
@[simp] theorem fldI_24_4 : fldI Tryd.prog 24 4 = some (4, 1, false) := by kernel_rfl
@[simp] theorem zAV_24 : zAV Tryd.prog 9 24 = .agg [.raw (.bool false), .raw (.string ⟨#[]⟩), .raw (.string ⟨#[]⟩), .raw (.int .i32 0), .raw (.slice none 0 0)] := by kernel_rfl
@[simp] theorem zeroIs_24 : zeroIs Tryd.prog 24 (.agg [.raw (.bool false), .raw (.string ⟨#[]⟩), .raw (.string ⟨#[]⟩), .raw (.int .i32 0), .raw (.slice none 0 0)]) := ⟨.agg #[.bool false, .string ⟨#[]⟩, .string ⟨#[]⟩, .int .i32 0, .slice none 0 0], by kernel_rfl, .inr ⟨_, _, rfl, rfl, by kernel_rfl⟩⟩
@[simp] theorem layIs_24 : layIs Tryd.prog 24 [.raw (.bool false), .raw (.string ⟨#[]⟩), .raw (.string ⟨#[]⟩), .raw (.int .i32 0), .raw (.slice none 0 0)] := layIs_of (by kernel_rfl)
@[simp] theorem tyI_25 : tyI Tryd.prog 25 = some (1, false) := by kernel_rfl
@[simp] theorem isSl_25 : isSl Tryd.prog 25 = false := by kernel_rfl
@[simp] theorem isStr_25 : isStr Tryd.prog 25 = false := by kernel_rfl
@[simp] theorem isBool_25 : isBool Tryd.prog 25 = false := by kernel_rfl
@[simp] theorem isPtr_25 : isPtr Tryd.prog 25 = false := by kernel_rfl
@[simp] theorem isIf_25 : isIf Tryd.prog 25 = false := by kernel_rfl
@[simp] theorem isIface_25 : isIface Tryd.prog 25 = false := by kernel_rfl
@[simp] theorem isArr_25 : isArr Tryd.prog 25 = false := by kernel_rfl
@[simp] theorem plainT_25 : plainT Tryd.prog 25 = false := by kernel_rfl
@[simp] theorem zAV_25 : zAV Tryd.prog 9 25 = .raw (.nilFunc) := by kernel_rfl
@[simp] theorem zeroIs_25 : zeroIs Tryd.prog 25 (.raw (.nilFunc)) := ⟨.nilFunc, by kernel_rfl, .inl ⟨rfl, rfl⟩⟩
@[simp] theorem tyI_26 : tyI Tryd.prog 26 = some (1, false) := by kernel_rfl
@[simp] theorem isSl_26 : isSl Tryd.prog 26 = false := by kernel_rfl
@[simp] theorem isStr_26 : isStr Tryd.prog 26 = false := by kernel_rfl
@[simp] theorem isBool_26 : isBool Tryd.prog 26 = false := by kernel_rfl
@[simp] theorem isPtr_26 : isPtr Tryd.prog 26 = false := by kernel_rfl
@[simp] theorem isIf_26 : isIf Tryd.prog 26 = true := by kernel_rfl
@[simp] theorem isIface_26 : isIface Tryd.prog 26 = true := by kernel_rfl
@[simp] theorem isArr_26 : isArr Tryd.prog 26 = false := by kernel_rfl
@[simp] theorem plainT_26 : plainT Tryd.prog 26 = false := by kernel_rfl
@[simp] theorem zAV_26 : zAV Tryd.prog 9 26 = .raw (.nilIface) := by kernel_rfl
@[simp] theorem zeroIs_26 : zeroIs Tryd.prog 26 (.raw (.nilIface)) := ⟨.nilIface, by kernel_rfl, .inl ⟨rfl, rfl⟩⟩
@[simp] theorem tyI_27 : tyI Tryd.prog 27 = some (1, false) := by kernel_rfl
@[simp] theorem isSl_27 : isSl Tryd.prog 27 = false := by kernel_rfl
@[simp] theorem isStr_27 : isStr Tryd.prog 27 = false := by kernel_rfl
@[simp] theorem isBool_27 : isBool Tryd.prog 27 = false := by kernel_rfl
@[simp] theorem isPtr_27 : isPtr Tryd.prog 27 = false := by kernel_rfl
@[simp] theorem isIf_27 : isIf Tryd.prog 27 = true := by kernel_rfl
@[simp] theorem isIface_27 : isIface Tryd.prog 27 = true := by kernel_rfl
@[simp] theorem isArr_27 : isArr Tryd.prog 27 = false := by kernel_rfl
@[simp] theorem plainT_27 : plainT Tryd.prog 27 = false := by kernel_rfl
@[simp] theorem zAV_27 : zAV Tryd.prog 9 27 = .raw (.nilIface) := by kernel_rfl
@[simp] theorem zeroIs_27 : zeroIs Tryd.prog 27 (.raw (.nilIface)) := ⟨.nilIface, by kernel_rfl, .inl ⟨rfl, rfl⟩⟩
@[simp] theorem tyI_28 : tyI Tryd.prog 28 = some (1, false) := by kernel_rfl
@[simp] theorem isSl_28 : isSl Tryd.prog 28 = false := by kernel_rfl
@[simp] theorem isStr_28 : isStr Tryd.prog 28 = false := by kernel_rfl
@[simp] theorem isBool_28 : isBool Tryd.prog 28 = false := by kernel_rfl
@[simp] theorem isPtr_28 : isPtr Tryd.prog 28 = false := by kernel_rfl
@[simp] theorem isIf_28 : isIf Tryd.prog 28 = false := by kernel_rfl
@[simp] theorem isIface_28 : isIface Tryd.prog 28 = false := by kernel_rfl
@[simp] theorem isArr_28 : isArr Tryd.prog 28 = false := by kernel_rfl
@[simp] theorem plainT_28 : plainT Tryd.prog 28 = false := by kernel_rfl
@[simp] theorem zAV_28 : zAV Tryd.prog 9 28 = .raw (.nilFunc) := by kernel_rfl
@[simp] theorem zeroIs_28 : zeroIs Tryd.prog 28 (.raw (.nilFunc)) := ⟨.nilFunc, by kernel_rfl, .inl ⟨rfl, rfl⟩⟩
@[simp] theorem tyI_29 : tyI Tryd.prog 29 = some (1, false) := by kernel_rfl
@[simp] theorem isSl_29 : isSl Tryd.prog 29 = false := by kernel_rfl
@[simp] theorem isStr_29 : isStr Tryd.prog 29 = false := by kernel_rfl
@[simp] theorem isBool_29 : isBool Tryd.prog 29 = false := by kernel_rfl
@[simp] theorem isPtr_29 : isPtr Tryd.prog 29 = false := by kernel_rfl
@[simp] theorem isIf_29 : isIf Tryd.prog 29 = false := by kernel_rfl
@[simp] theorem isIface_29 : isIface Tryd.prog 29 = false := by kernel_rfl
@[simp] theorem isArr_29 : isArr Tryd.prog 29 = false := by kernel_rfl
@[simp] theorem plainT_29 : plainT Tryd.prog 29 = false := by kernel_rfl
@[simp] theorem zAV_29 : zAV Tryd.prog 9 29 = .raw (.nilFunc) := by kernel_rfl
@[simp] theorem zeroIs_29 : zeroIs Tryd.prog 29 (.raw (.nilFunc)) := ⟨.nilFunc, by kernel_rfl, .inl ⟨rfl, rfl⟩⟩
@[simp] theorem tyI_30 : tyI Tryd.prog 30 = some (2, true) := by kernel_rfl
@[simp] theorem isSl_30 : isSl Tryd.prog 30 = false := by kernel_rfl
@[simp] theorem isStr_30 : isStr Tryd.prog 30 = false := by kernel_rfl
@[simp] theorem isBool_30 : isBool Tryd.prog 30 = false := by kernel_rfl
@[simp] theorem isPtr_30 : isPtr Tryd.prog 30 = false := by kernel_rfl
@[simp] theorem isIf_30 : isIf Tryd.prog 30 = false := by kernel_rfl
@[simp] theorem isIface_30 : isIface Tryd.prog 30 = false := by kernel_rfl
@[simp] theorem isArr_30 : isArr Tryd.prog 30 = false := by kernel_rfl
@[simp] theorem plainT_30 : plainT Tryd.prog 30 = true := by kernel_rfl
@[simp] theorem fldI_30_0 : fldI Tryd.prog 30 0 = some (0, 1, false) := by kernel_rfl
@[simp] theorem fldI_30_1 : fldI Tryd.prog 30 1 = some (1, 1, false) := by kernel_rfl
@[simp] theorem zAV_30 : zAV Tryd.prog 9 30 = .agg [.raw (.string ⟨#[]⟩), .raw (.string ⟨#[]⟩)] := by kernel_rfl
@[simp] theorem zeroIs_30 : zeroIs Tryd.prog 30 (.agg [.raw (.string ⟨#[]⟩), .raw (.string ⟨#[]⟩)]) := ⟨.agg #[.string ⟨#[]⟩, .string ⟨#[]⟩], by kernel_rfl, .inr ⟨_, _, rfl, rfl, by kernel_rfl⟩⟩
@[simp] theorem layIs_30 : layIs Tryd.prog 30 [.raw (.string ⟨#[]⟩), .raw (.string ⟨#[]⟩)] := layIs_of (by kernel_rfl)
@[simp] theorem tyI_31 : tyI Tryd.prog 31 = some (2, true) := by kernel_rfl
@[simp] theorem isSl_31 : isSl Tryd.prog 31 = false := by kernel_rfl
@[simp] theorem isStr_31 : isStr Tryd.prog 31 = false := by kernel_rfl
@[simp] theorem isBool_31 : isBool Tryd.prog 31 = false := by kernel_rfl
@[simp] theorem isPtr_31 : isPtr Tryd.prog 31 = false := by kernel_rfl
@[simp] theorem isIf_31 : isIf Tryd.prog 31 = false := by kernel_rfl
@[simp] theorem isIface_31 : isIface Tryd.prog 31 = false := by kernel_rfl
@[simp] theorem isArr_31 : isArr Tryd.prog 31 = false := by kernel_rfl
@[simp] theorem plainT_31 : plainT Tryd.prog 31 = true := by kernel_rfl
@[simp] theorem eqd_31 : eqd Tryd.prog 9 31 = some (.st [.s, .s]) := by kernel_rfl
@[simp] theorem guardless_31 : guardless Tryd.prog 31 = true := by kernel_rfl
@[simp] theorem fldI_31_0 : fldI Tryd.prog 31 0 = some (0, 1, false) := by kernel_rfl
@[simp] theorem fldI_31_1 : fldI Tryd.prog 31 1 = some (1, 1, false) := by kernel_rfl
@[simp] theorem zAV_31 : zAV Tryd.prog 9 31 = .agg [.raw (.string ⟨#[]⟩), .raw (.string ⟨#[]⟩)] := by kernel_rfl
@[simp] theorem zeroIs_31 : zeroIs Tryd.prog 31 (.agg [.raw (.string ⟨#[]⟩), .raw (.string ⟨#[]⟩)]) := ⟨.agg #[.string ⟨#[]⟩, .string ⟨#[]⟩], by kernel_rfl, .inr ⟨_, _, rfl, rfl, by kernel_rfl⟩⟩
@[simp] theorem layIs_31 : layIs Tryd.prog 31 [.raw (.string ⟨#[]⟩), .raw (.string ⟨#[]⟩)] := layIs_of (by kernel_rfl)
@[simp] theorem isSl_32 : isSl Tryd.prog 32 = false := by kernel_rfl
@[simp] theorem tyI_33 : tyI Tryd.prog 33 = some (1, false) := by kernel_rfl
@[simp] theorem isSl_33 : isSl Tryd.prog 33 = false := by kernel_rfl
@[simp] theorem isStr_33 : isStr Tryd.prog 33 = false := by kernel_rfl
@[simp] theorem isBool_33 : isBool Tryd.prog 33 = false := by kernel_rfl
@[simp] theorem isPtr_33 : isPtr Tryd.prog 33 = false := by kernel_rfl
@[simp] theorem isIf_33 : isIf Tryd.prog 33 = false := by kernel_rfl
@[simp] theorem isIface_33 : isIface Tryd.prog 33 = false := by kernel_rfl
@[simp] theorem isArr_33 : isArr Tryd.prog 33 = false := by kernel_rfl
@[simp] theorem plainT_33 : plainT Tryd.prog 33 = false := by kernel_rfl
@[simp] theorem zAV_33 : zAV Tryd.prog 9 33 = .raw (.nilFunc) := by kernel_rfl
@[simp] theorem zeroIs_33 : zeroIs Tryd.prog 33 (.raw (.nilFunc)) := ⟨.nilFunc, by kernel_rfl, .inl ⟨rfl, rfl⟩⟩
@[simp] theorem tyI_34 : tyI Tryd.prog 34 = some (1, false) := by kernel_rfl
@[simp] theorem isSl_34 : isSl Tryd.prog 34 = false := by kernel_rfl
@[simp] theorem isStr_34 : isStr Tryd.prog 34 = false := by kernel_rfl
@[simp] theorem isBool_34 : isBool Tryd.prog 34 = false := by kernel_rfl
@[simp] theorem isPtr_34 : isPtr Tryd.prog 34 = false := by kernel_rfl
@[simp] theorem isIf_34 : isIf Tryd.prog 34 = false := by kernel_rfl
@[simp] theorem isIface_34 : isIface Tryd.prog 34 = false := by kernel_rfl
@[simp] theorem isArr_34 : isArr Tryd.prog 34 = false := by kernel_rfl
@[simp] theorem plainT_34 : plainT Tryd.prog 34 = false := by kernel_rfl
@[simp] theorem zAV_34 : zAV Tryd.prog 9 34 = .raw (.nilFunc) := by kernel_rfl
@[simp] theorem zeroIs_34 : zeroIs Tryd.prog 34 (.raw (.nilFunc)) := ⟨.nilFunc, by kernel_rfl, .inl ⟨rfl, rfl⟩⟩
@[simp] theorem tyI_35 : tyI Tryd.prog 35 = some (1, false) := by kernel_rfl
@[simp] theorem isSl_35 : isSl Tryd.prog 35 = false := by kernel_rfl
@[simp] theorem isStr_35 : isStr Tryd.prog 35 = false := by kernel_rfl
@[simp] theorem isBool_35 : isBool Tryd.prog 35 = false := by kernel_rfl
@[simp] theorem isPtr_35 : isPtr Tryd.prog 35 = false := by kernel_rfl
@[simp] theorem isIf_35 : isIf Tryd.prog 35 = false := by kernel_rfl
@[simp] theorem isIface_35 : isIface Tryd.prog 35 = false := by kernel_rfl
@[simp] theorem isArr_35 : isArr Tryd.prog 35 = false := by kernel_rfl
@[simp] theorem plainT_35 : plainT Tryd.prog 35 = true := by kernel_rfl
@[simp] theorem und_35 : Tryd.prog.underlying 35 = some (.int .i64) := by kernel_rfl
@[simp] theorem zAV_35 : zAV Tryd.prog 9 35 = .raw (.int .i64 0) := by kernel_rfl
@[simp] theorem zeroIs_35 : zeroIs Tryd.prog 35 (.raw (.int .i64 0)) := ⟨.int .i64 0, by kernel_rfl, .inl ⟨rfl, rfl⟩⟩
@[simp] theorem tyI_36 : tyI Tryd.prog 36 = some (1, false) := by kernel_rfl
@[simp] theorem isSl_36 : isSl Tryd.prog 36 = false := by kernel_rfl
@[simp] theorem isStr_36 : isStr Tryd.prog 36 = false := by kernel_rfl
@[simp] theorem isBool_36 : isBool Tryd.prog 36 = false := by kernel_rfl
@[simp] theorem isPtr_36 : isPtr Tryd.prog 36 = false := by kernel_rfl
@[simp] theorem isIf_36 : isIf Tryd.prog 36 = false := by kernel_rfl
@[simp] theorem isIface_36 : isIface Tryd.prog 36 = false := by kernel_rfl
@[simp] theorem isArr_36 : isArr Tryd.prog 36 = false := by kernel_rfl
@[simp] theorem plainT_36 : plainT Tryd.prog 36 = false := by kernel_rfl
@[simp] theorem zAV_36 : zAV Tryd.prog 9 36 = .raw (.nilFunc) := by kernel_rfl
@[simp] theorem zeroIs_36 : zeroIs Tryd.prog 36 (.raw (.nilFunc)) := ⟨.nilFunc, by kernel_rfl, .inl ⟨rfl, rfl⟩⟩
@[simp] theorem tyI_37 : tyI Tryd.prog 37 = some (1, false) := by kernel_rfl
@[simp] theorem isSl_37 : isSl Tryd.prog 37 = false := by kernel_rfl
@[simp] theorem isStr_37 : isStr Tryd.prog 37 = false := by kernel_rfl
@[simp] theorem isBool_37 : isBool Tryd.prog 37 = false := by kernel_rfl
@[simp] theorem isPtr_37 : isPtr Tryd.prog 37 = false := by kernel_rfl
@[simp] theorem isIf_37 : isIf Tryd.prog 37 = false := by kernel_rfl
@[simp] theorem isIface_37 : isIface Tryd.prog 37 = false := by kernel_rfl
@[simp] theorem isArr_37 : isArr Tryd.prog 37 = false := by kernel_rfl
@[simp] theorem plainT_37 : plainT Tryd.prog 37 = false := by kernel_rfl
@[simp] theorem zAV_37 : zAV Tryd.prog 9 37 = .raw (.nilFunc) := by kernel_rfl
@[simp] theorem zeroIs_37 : zeroIs Tryd.prog 37 (.raw (.nilFunc)) := ⟨.nilFunc, by kernel_rfl, .inl ⟨rfl, rfl⟩⟩
@[simp] theorem tyI_38 : tyI Tryd.prog 38 = some (1, false) := by kernel_rfl
@[simp] theorem isSl_38 : isSl Tryd.prog 38 = false := by kernel_rfl
@[simp] theorem isStr_38 : isStr Tryd.prog 38 = false := by kernel_rfl
@[simp] theorem isBool_38 : isBool Tryd.prog 38 = false := by kernel_rfl
@[simp] theorem isPtr_38 : isPtr Tryd.prog 38 = false := by kernel_rfl
@[simp] theorem isIf_38 : isIf Tryd.prog 38 = false := by kernel_rfl
@[simp] theorem isIface_38 : isIface Tryd.prog 38 = false := by kernel_rfl
@[simp] theorem isArr_38 : isArr Tryd.prog 38 = false := by kernel_rfl
@[simp] theorem plainT_38 : plainT Tryd.prog 38 = false := by kernel_rfl
@[simp] theorem zAV_38 : zAV Tryd.prog 9 38 = .raw (.nilFunc) := by kernel_rfl
@[simp] theorem zeroIs_38 : zeroIs Tryd.prog 38 (.raw (.nilFunc)) := ⟨.nilFunc, by kernel_rfl, .inl ⟨rfl, rfl⟩⟩
@[simp] theorem tyI_39 : tyI Tryd.prog 39 = some (1, false) := by kernel_rfl
@[simp] theorem isSl_39 : isSl Tryd.prog 39 = false := by kernel_rfl
@[simp] theorem isStr_39 : isStr Tryd.prog 39 = false := by kernel_rfl
@[simp] theorem isBool_39 : isBool Tryd.prog 39 = false := by kernel_rfl
@[simp] theorem isPtr_39 : isPtr Tryd.prog 39 = false := by kernel_rfl
@[simp] theorem isIf_39 : isIf Tryd.prog 39 = false := by kernel_rfl
@[simp] theorem isIface_39 : isIface Tryd.prog 39 = false := by kernel_rfl
@[simp] theorem isArr_39 : isArr Tryd.prog 39 = false := by kernel_rfl
@[simp] theorem plainT_39 : plainT Tryd.prog 39 = false := by kernel_rfl
@[simp] theorem zAV_39 : zAV Tryd.prog 9 39 = .raw (.nilFunc) := by kernel_rfl
@[simp] theorem zeroIs_39 : zeroIs Tryd.prog 39 (.raw (.nilFunc)) := ⟨.nilFunc, by kernel_rfl, .inl ⟨rfl, rfl⟩⟩
@[simp] theorem tyI_40 : tyI Tryd.prog 40 = some (1, false) := by kernel_rfl
@[simp] theorem isSl_40 : isSl Tryd.prog 40 = false := by kernel_rfl
@[simp] theorem isStr_40 : isStr Tryd.prog 40 = false := by kernel_rfl
@[simp] theorem isBool_40 : isBool Tryd.prog 40 = false := by kernel_rfl
@[simp] theorem isPtr_40 : isPtr Tryd.prog 40 = true := by kernel_rfl
@[simp] theorem isIf_40 : isIf Tryd.prog 40 = false := by kernel_rfl
@[simp] theorem isIface_40 : isIface Tryd.prog 40 = false := by kernel_rfl
@[simp] theorem isArr_40 : isArr Tryd.prog 40 = false := by kernel_rfl
@[simp] theorem plainT_40 : plainT Tryd.prog 40 = false := by kernel_rfl
@[simp] theorem zAV_40 : zAV Tryd.prog 9 40 = .raw (.pointer none) := by kernel_rfl
@[simp] theorem zeroIs_40 : zeroIs Tryd.prog 40 (.raw (.pointer none)) := ⟨.pointer none, by kernel_rfl, .inl ⟨rfl, rfl⟩⟩
@[simp] theorem tyI_41 : tyI Tryd.prog 41 = some (2, true) := by kernel_rfl
@[simp] theorem isSl_41 : isSl Tryd.prog 41 = false := by kernel_rfl
@[simp] theorem isStr_41 : isStr Tryd.prog 41 = false := by kernel_rfl
@[simp] theorem isBool_41 : isBool Tryd.prog 41 = false := by kernel_rfl
@[simp] theorem isPtr_41 : isPtr Tryd.prog 41 = false := by kernel_rfl
@[simp] theorem isIf_41 : isIf Tryd.prog 41 = false := by kernel_rfl
@[simp] theorem isIface_41 : isIface Tryd.prog 41 = false := by kernel_rfl
@[simp] theorem isArr_41 : isArr Tryd.prog 41 = false := by kernel_rfl
@[simp] theorem plainT_41 : plainT Tryd.prog 41 = false := by kernel_rfl
@[simp] theorem fldI_41_0 : fldI Tryd.prog 41 0 = some (0, 1, false) := by kernel_rfl
@[simp] theorem fldI_41_1 : fldI Tryd.prog 41 1 = some (1, 1, false) := by kernel_rfl
@[simp] theorem zAV_41 : zAV Tryd.prog 9 41 = .agg [.raw (.string ⟨#[]⟩), .raw (.nilIface)] := by kernel_rfl
@[simp] theorem zeroIs_41 : zeroIs Tryd.prog 41 (.agg [.raw (.string ⟨#[]⟩), .raw (.nilIface)]) := ⟨.agg #[.string ⟨#[]⟩, .nilIface], by kernel_rfl, .inr ⟨_, _, rfl, rfl, by kernel_rfl⟩⟩
@[simp] theorem layIs_41 : layIs Tryd.prog 41 [.raw (.string ⟨#[]⟩), .raw (.nilIface)] := layIs_of (by kernel_rfl)
@[simp] theorem tyI_42 : tyI Tryd.prog 42 = some (2, true) := by kernel_rfl
@[simp] theorem isSl_42 : isSl Tryd.prog 42 = false := by kernel_rfl
@[simp] theorem isStr_42 : isStr Tryd.prog 42 = false := by kernel_rfl
@[simp] theorem isBool_42 : isBool Tryd.prog 42 = false := by kernel_rfl
@[simp] theorem isPtr_42 : isPtr Tryd.prog 42 = false := by kernel_rfl
@[simp] theorem isIf_42 : isIf Tryd.prog 42 = false := by kernel_rfl
@[simp] theorem isIface_42 : isIface Tryd.prog 42 = false := by kernel_rfl
@[simp] theorem isArr_42 : isArr Tryd.prog 42 = false := by kernel_rfl
@[simp] theorem plainT_42 : plainT Tryd.prog 42 = false := by kernel_rfl
@[simp] theorem fldI_42_0 : fldI Tryd.prog 42 0 = some (0, 1, false) := by kernel_rfl
@[simp] theorem fldI_42_1 : fldI Tryd.prog 42 1 = some (1, 1, false) := by kernel_rfl
@[simp] theorem zAV_42 : zAV Tryd.prog 9 42 = .agg [.raw (.string ⟨#[]⟩), .raw (.nilIface)] := by kernel_rfl
@[simp] theorem zeroIs_42 : zeroIs Tryd.prog 42 (.agg [.raw (.string ⟨#[]⟩), .raw (.nilIface)]) := ⟨.agg #[.string ⟨#[]⟩, .nilIface], by kernel_rfl, .inr ⟨_, _, rfl, rfl, by kernel_rfl⟩⟩
@[simp] theorem layIs_42 : layIs Tryd.prog 42 [.raw (.string ⟨#[]⟩), .raw (.nilIface)] := layIs_of (by kernel_rfl)
@[simp] theorem tyI_43 : tyI Tryd.prog 43 = some (1, false) := by kernel_rfl
@[simp] theorem isSl_43 : isSl Tryd.prog 43 = false := by kernel_rfl
@[simp] theorem isStr_43 : isStr Tryd.prog 43 = false := by kernel_rfl
@[simp] theorem isBool_43 : isBool Tryd.prog 43 = false := by kernel_rfl
@[simp] theorem isPtr_43 : isPtr Tryd.prog 43 = false := by kernel_rfl
@[simp] theorem isIf_43 : isIf Tryd.prog 43 = false := by kernel_rfl
@[simp] theorem isIface_43 : isIface Tryd.prog 43 = false := by kernel_rfl
@[simp] theorem isArr_43 : isArr Tryd.prog 43 = false := by kernel_rfl
@[simp] theorem plainT_43 : plainT Tryd.prog 43 = false := by kernel_rfl
@[simp] theorem zAV_43 : zAV Tryd.prog 9 43 = .raw (.nilFunc) := by kernel_rfl
@[simp] theorem zeroIs_43 : zeroIs Tryd.prog 43 (.raw (.nilFunc)) := ⟨.nilFunc, by kernel_rfl, .inl ⟨rfl, rfl⟩⟩
@[simp] theorem tyI_44 : tyI Tryd.prog 44 = some (6, true) := by kernel_rfl
@[simp] theorem isSl_44 : isSl Tryd.prog 44 = false := by kernel_rfl
@[simp] theorem isStr_44 : isStr Tryd.prog 44 = false := by kernel_rfl
@[simp] theorem isBool_44 : isBool Tryd.prog 44 = false := by kernel_rfl
@[simp] theorem isPtr_44 : isPtr Tryd.prog 44 = false := by kernel_rfl
@[simp] theorem isIf_44 : isIf Tryd.prog 44 = false := by kernel_rfl
@[simp] theorem isIface_44 : isIface Tryd.prog 44 = false := by kernel_rfl
@[simp] theorem isArr_44 : isArr Tryd.prog 44 = false := by kernel_rfl
@[simp] theorem plainT_44 : plainT Tryd.prog 44 = false := by kernel_rfl
@[simp] theorem fldI_44_0 : fldI Tryd.prog 44 0 = some (0, 1, false) := by kernel_rfl
@[simp] theorem fldI_44_1 : fldI Tryd.prog 44 1 = some (1, 1, false) := by kernel_rfl
@[simp] theorem fldI_44_2 : fldI Tryd.prog 44 2 = some (2, 1, false) := by kernel_rfl
@[simp] theorem fldI_44_3 : fldI Tryd.prog 44 3 = some (3, 1, false) := by kernel_rfl
@[simp] theorem fldI_44_4 : fldI Tryd.prog 44 4 = some (4, 2, true) := by kernel_rfl
@[simp] theorem zAV_44 : zAV Tryd.prog 9 44 = .agg [.raw (.bool false), .raw (.slice none 0 0), .raw (.int .i64 0), .raw (.bool false), .agg [.raw (.string ⟨#[]⟩), .raw (.string ⟨#[]⟩)]] := by kernel_rfl
@[simp] theorem zeroIs_44 : zeroIs Tryd.prog 44 (.agg [.raw (.bool false), .raw (.slice none 0 0), .raw (.int .i64 0), .raw (.bool false), .agg [.raw (.string ⟨#[]⟩), .raw (.string ⟨#[]⟩)]]) := ⟨.agg #[.bool false, .slice none 0 0, .int .i64 0, .bool false, .string ⟨#[]⟩, .string ⟨#[]⟩], by kernel_rfl, .inr ⟨_, _, rfl, rfl, by kernel_rfl⟩⟩
@[simp] theorem layIs_44 : layIs Tryd.prog 44 [.raw (.bool false), .raw (.slice none 0 0), .raw (.int .i64 0), .raw (.bool false), .agg [.raw (.string ⟨#[]⟩), .raw (.string ⟨#[]⟩)]] := layIs_of (by kernel_rfl)
@[simp] theorem tyI_45 : tyI Tryd.prog 45 = some (6, true) := by kernel_rfl
@[simp] theorem isSl_45 : isSl Tryd.prog 45 = false := by kernel_rfl
@[simp] theorem isStr_45 : isStr Tryd.prog 45 = false := by kernel_rfl
@[simp] theorem isBool_45 : isBool Tryd.prog 45 = false := by kernel_rfl
@[simp] theorem isPtr_45 : isPtr Tryd.prog 45 = false := by kernel_rfl
@[simp] theorem isIf_45 : isIf Tryd.prog 45 = false := by kernel_rfl
@[simp] theorem isIface_45 : isIface Tryd.prog 45 = false := by kernel_rfl
@[simp] theorem isArr_45 : isArr Tryd.prog 45 = false := by kernel_rfl
@[simp] theorem plainT_45 : plainT Tryd.prog 45 = false := by kernel_rfl
@[simp] theorem fldI_45_0 : fldI Tryd.prog 45 0 = some (0, 1, false) := by kernel_rfl
@[simp] theorem fldI_45_1 : fldI Tryd.prog 45 1 = some (1, 1, false) := by kernel_rfl
@[simp] theorem fldI_45_2 : fldI Tryd.prog 45 2 = some (2, 1, false) := by kernel_rfl
@[simp] theorem fldI_45_3 : fldI Tryd.prog 45 3 = some (3, 1, false) := by kernel_rfl
@[simp] theorem fldI_45_4 : fldI Tryd.prog 45 4 = some (4, 2, true) := by kernel_rfl
@[simp] theorem zAV_45 : zAV Tryd.prog 9 45 = .agg [.raw (.bool false), .raw (.slice none 0 0), .raw (.int .i64 0), .raw (.bool false), .agg [.raw (.string ⟨#[]⟩), .raw (.string ⟨#[]⟩)]] := by kernel_rfl
@[simp] theorem zeroIs_45 : zeroIs Tryd.prog 45 (.agg [.raw (.bool false), .raw (.slice none 0 0), .raw (.int .i64 0), .raw (.bool false), .agg [.raw (.string ⟨#[]⟩), .raw (.string ⟨#[]⟩)]]) := ⟨.agg #[.bool false, .slice none 0 0, .int .i64 0, .bool false, .string ⟨#[]⟩, .string ⟨#[]⟩], by kernel_rfl, .inr ⟨_, _, rfl, rfl, by kernel_rfl⟩⟩
@[simp] theorem layIs_45 : layIs Tryd.prog 45 [.raw (.bool false), .raw (.slice none 0 0), .raw (.int .i64 0), .raw (.bool false), .agg [.raw (.string ⟨#[]⟩), .raw (.string ⟨#[]⟩)]] := layIs_of (by kernel_rfl)
@[simp] theorem tyI_46 : tyI Tryd.prog 46 = some (1, false) := by kernel_rfl
@[simp] theorem isSl_46 : isSl Tryd.prog 46 = false := by kernel_rfl
@[simp] theorem isStr_46 : isStr Tryd.prog 46 = false := by kernel_rfl
@[simp] theorem isBool_46 : isBool Tryd.prog 46 = false := by kernel_rfl
@[simp] theorem isPtr_46 : isPtr Tryd.prog 46 = false := by kernel_rfl
@[simp] theorem isIf_46 : isIf Tryd.prog 46 = false := by kernel_rfl
@[simp] theorem isIface_46 : isIface Tryd.prog 46 = false := by kernel_rfl
@[simp] theorem isArr_46 : isArr Tryd.prog 46 = false := by kernel_rfl
@[simp] theorem plainT_46 : plainT Tryd.prog 46 = false := by kernel_rfl
@[simp] theorem zAV_46 : zAV Tryd.prog 9 46 = .raw (.nilFunc) := by kernel_rfl
@[simp] theorem zeroIs_46 : zeroIs Tryd.prog 46 (.raw (.nilFunc)) := ⟨.nilFunc, by kernel_rfl, .inl ⟨rfl, rfl⟩⟩
@[simp] theorem tyI_47 : tyI Tryd.prog 47 = some (1, false) := by kernel_rfl
@[simp] theorem isSl_47 : isSl Tryd.prog 47 = false := by kernel_rfl
@[simp] theorem isStr_47 : isStr Tryd.prog 47 = false := by kernel_rfl
@[simp] theorem isBool_47 : isBool Tryd.prog 47 = false := by kernel_rfl
@[simp] theorem isPtr_47 : isPtr Tryd.prog 47 = false := by kernel_rfl
@[simp] theorem isIf_47 : isIf Tryd.prog 47 = false := by kernel_rfl
@[simp] theorem isIface_47 : isIface Tryd.prog 47 = false := by kernel_rfl
@[simp] theorem isArr_47 : isArr Tryd.prog 47 = false := by kernel_rfl
@[simp] theorem plainT_47 : plainT Tryd.prog 47 = false := by kernel_rfl
@[simp] theorem zAV_47 : zAV Tryd.prog 9 47 = .raw (.nilFunc) := by kernel_rfl
@[simp] theorem zeroIs_47 : zeroIs Tryd.prog 47 (.raw (.nilFunc)) := ⟨.nilFunc, by kernel_rfl, .inl ⟨rfl, rfl⟩⟩
@[simp] theorem tyI_48 : tyI Tryd.prog 48 = some (1, false) := by kernel_rfl
@[simp] theorem isSl_48 : isSl Tryd.prog 48 = false := by kernel_rfl
@[simp] theorem isStr_48 : isStr Tryd.prog 48 = false := by kernel_rfl
@[simp] theorem isBool_48 : isBool Tryd.prog 48 = false := by kernel_rfl
@[simp] theorem isPtr_48 : isPtr Tryd.prog 48 = false := by kernel_rfl
@[simp] theorem isIf_48 : isIf Tryd.prog 48 = false := by kernel_rfl
@[simp] theorem isIface_48 : isIface Tryd.prog 48 = false := by kernel_rfl
@[simp] theorem isArr_48 : isArr Tryd.prog 48 = false := by kernel_rfl
@[simp] theorem plainT_48 : plainT Tryd.prog 48 = false := by kernel_rfl
@[simp] theorem zAV_48 : zAV Tryd.prog 9 48 = .raw (.nilFunc) := by kernel_rfl
@[simp] theorem zeroIs_48 : zeroIs Tryd.prog 48 (.raw (.nilFunc)) := ⟨.nilFunc, by kernel_rfl, .inl ⟨rfl, rfl⟩⟩
@[simp] theorem tyI_49 : tyI Tryd.prog 49 = some (1, false) := by kernel_rfl
@[simp] theorem isSl_49 : isSl Tryd.prog 49 = false := by kernel_rfl
@[simp] theorem isStr_49 : isStr Tryd.prog 49 = false := by kernel_rfl
@[simp] theorem isBool_49 : isBool Tryd.prog 49 = false := by kernel_rfl
@[simp] theorem isPtr_49 : isPtr Tryd.prog 49 = false := by kernel_rfl
@[simp] theorem isIf_49 : isIf Tryd.prog 49 = false := by kernel_rfl
@[simp] theorem isIface_49 : isIface Tryd.prog 49 = false := by kernel_rfl
@[simp] theorem isArr_49 : isArr Tryd.prog 49 = false := by kernel_rfl
@[simp] theorem plainT_49 : plainT Tryd.prog 49 = false := by kernel_rfl
@[simp] theorem zAV_49 : zAV Tryd.prog 9 49 = .raw (.nilFunc) := by kernel_rfl
@[simp] theorem zeroIs_49 : zeroIs Tryd.prog 49 (.raw (.nilFunc)) := ⟨.nilFunc, by kernel_rfl, .inl ⟨rfl, rfl⟩⟩
@[simp] theorem tyI_50 : tyI Tryd.prog 50 = some (1, false) := by kernel_rfl
@[simp] theorem isSl_50 : isSl Tryd.prog 50 = false := by kernel_rfl
@[simp] theorem isStr_50 : isStr Tryd.prog 50 = false := by kernel_rfl
@[simp] theorem isBool_50 : isBool Tryd.prog 50 = false := by kernel_rfl
@[simp] theorem isPtr_50 : isPtr Tryd.prog 50 = false := by kernel_rfl
@[simp] theorem isIf_50 : isIf Tryd.prog 50 = false := by kernel_rfl
@[simp] theorem isIface_50 : isIface Tryd.prog 50 = false := by kernel_rfl
@[simp] theorem isArr_50 : isArr Tryd.prog 50 = false := by kernel_rfl
@[simp] theorem plainT_50 : plainT Tryd.prog 50 = false := by kernel_rfl
@[simp] theorem zAV_50 : zAV Tryd.prog 9 50 = .raw (.nilFunc) := by kernel_rfl
@[simp] theorem zeroIs_50 : zeroIs Tryd.prog 50 (.raw (.nilFunc)) := ⟨.nilFunc, by kernel_rfl, .inl ⟨rfl, rfl⟩⟩
@[simp] theorem tyI_51 : tyI Tryd.prog 51 = some (1, false) := by kernel_rfl
@[simp] theorem isSl_51 : isSl Tryd.prog 51 = false := by kernel_rfl
@[simp] theorem isStr_51 : isStr Tryd.prog 51 = false := by kernel_rfl
@[simp] theorem isBool_51 : isBool Tryd.prog 51 = false := by kernel_rfl
@[simp] theorem isPtr_51 : isPtr Tryd.prog 51 = false := by kernel_rfl
@[simp] theorem isIf_51 : isIf Tryd.prog 51 = false := by kernel_rfl
@[simp] theorem isIface_51 : isIface Tryd.prog 51 = false := by kernel_rfl
@[simp] theorem isArr_51 : isArr Tryd.prog 51 = false := by kernel_rfl
@[simp] theorem plainT_51 : plainT Tryd.prog 51 = false := by kernel_rfl
@[simp] theorem zAV_51 : zAV Tryd.prog 9 51 = .raw (.nilFunc) := by kernel_rfl
@[simp] theorem zeroIs_51 : zeroIs Tryd.prog 51 (.raw (.nilFunc)) := ⟨.nilFunc, by kernel_rfl, .inl ⟨rfl, rfl⟩⟩
@[simp] theorem tyI_52 : tyI Tryd.prog 52 = some (1, false) := by kernel_rfl
@[simp] theorem isSl_52 : isSl Tryd.prog 52 = false := by kernel_rfl
@[simp] theorem isStr_52 : isStr Tryd.prog 52 = false := by kernel_rfl
@[simp] theorem isBool_52 : isBool Tryd.prog 52 = false := by kernel_rfl
@[simp] theorem isPtr_52 : isPtr Tryd.prog 52 = false := by kernel_rfl
@[simp] theorem isIf_52 : isIf Tryd.prog 52 = false := by kernel_rfl
@[simp] theorem isIface_52 : isIface Tryd.prog 52 = false := by kernel_rfl
@[simp] theorem isArr_52 : isArr Tryd.prog 52 = false := by kernel_rfl
@[simp] theorem plainT_52 : plainT Tryd.prog 52 = false := by kernel_rfl
@[simp] theorem zAV_52 : zAV Tryd.prog 9 52 = .raw (.nilFunc) := by kernel_rfl
@[simp] theorem zeroIs_52 : zeroIs Tryd.prog 52 (.raw (.nilFunc)) := ⟨.nilFunc, by kernel_rfl, .inl ⟨rfl, rfl⟩⟩
@[simp] theorem tyI_53 : tyI Tryd.prog 53 = some (1, false) := by kernel_rfl
@[simp] theorem isSl_53 : isSl Tryd.prog 53 = false := by kernel_rfl
@[simp] theorem isStr_53 : isStr Tryd.prog 53 = false := by kernel_rfl
@[simp] theorem isBool_53 : isBool Tryd.prog 53 = false := by kernel_rfl
@[simp] theorem isPtr_53 : isPtr Tryd.prog 53 = false := by kernel_rfl
@[simp] theorem isIf_53 : isIf Tryd.prog 53 = false := by kernel_rfl
@[simp] theorem isIface_53 : isIface Tryd.prog 53 = false := by kernel_rfl
@[simp] theorem isArr_53 : isArr Tryd.prog 53 = false := by kernel_rfl
@[simp] theorem plainT_53 : plainT Tryd.prog 53 = false := by kernel_rfl
@[simp] theorem zAV_53 : zAV Tryd.prog 9 53 = .raw (.nilFunc) := by kernel_rfl
@[simp] theorem zeroIs_53 : zeroIs Tryd.prog 53 (.raw (.nilFunc)) := ⟨.nilFunc, by kernel_rfl, .inl ⟨rfl, rfl⟩⟩
@[simp] theorem tyI_54 : tyI Tryd.prog 54 = some (1, false) := by kernel_rfl
@[simp] theorem isSl_54 : isSl Tryd.prog 54 = false := by kernel_rfl
@[simp] theorem isStr_54 : isStr Tryd.prog 54 = false := by kernel_rfl
@[simp] theorem isBool_54 : isBool Tryd.prog 54 = false := by kernel_rfl
@[simp] theorem isPtr_54 : isPtr Tryd.prog 54 = false := by kernel_rfl
@[simp] theorem isIf_54 : isIf Tryd.prog 54 = false := by kernel_rfl
@[simp] theorem isIface_54 : isIface Tryd.prog 54 = false := by kernel_rfl
@[simp] theorem isArr_54 : isArr Tryd.prog 54 = false := by kernel_rfl
@[simp] theorem plainT_54 : plainT Tryd.prog 54 = false := by kernel_rfl
@[simp] theorem zAV_54 : zAV Tryd.prog 9 54 = .raw (.nilFunc) := by kernel_rfl
@[simp] theorem zeroIs_54 : zeroIs Tryd.prog 54 (.raw (.nilFunc)) := ⟨.nilFunc, by kernel_rfl, .inl ⟨rfl, rfl⟩⟩
@[simp] theorem tyI_55 : tyI Tryd.prog 55 = some (1, false) := by kernel_rfl
@[simp] theorem isSl_55 : isSl Tryd.prog 55 = false := by kernel_rfl
@[simp] theorem isStr_55 : isStr Tryd.prog 55 = false := by kernel_rfl
@[simp] theorem isBool_55 : isBool Tryd.prog 55 = false := by kernel_rfl
@[simp] theorem isPtr_55 : isPtr Tryd.prog 55 = false := by kernel_rfl
@[simp] theorem isIf_55 : isIf Tryd.prog 55 = false := by kernel_rfl
@[simp] theorem isIface_55 : isIface Tryd.prog 55 = false := by kernel_rfl
@[simp] theorem isArr_55 : isArr Tryd.prog 55 = false := by kernel_rfl
@[simp] theorem plainT_55 : plainT Tryd.prog 55 = false := by kernel_rfl
@[simp] theorem zAV_55 : zAV Tryd.prog 9 55 = .raw (.nilFunc) := by kernel_rfl
@[simp] theorem zeroIs_55 : zeroIs Tryd.prog 55 (.raw (.nilFunc)) := ⟨.nilFunc, by kernel_rfl, .inl ⟨rfl, rfl⟩⟩
@[simp] theorem tyI_56 : tyI Tryd.prog 56 = some (1, false) := by kernel_rfl
@[simp] theorem isSl_56 : isSl Tryd.prog 56 = false := by kernel_rfl
@[simp] theorem isStr_56 : isStr Tryd.prog 56 = false := by kernel_rfl
@[simp] theorem isBool_56 : isBool Tryd.prog 56 = false := by kernel_rfl
@[simp] theorem isPtr_56 : isPtr Tryd.prog 56 = false := by kernel_rfl
@[simp] theorem isIf_56 : isIf Tryd.prog 56 = false := by kernel_rfl
@[simp] theorem isIface_56 : isIface Tryd.prog 56 = false := by kernel_rfl
@[simp] theorem isArr_56 : isArr Tryd.prog 56 = false := by kernel_rfl
@[simp] theorem plainT_56 : plainT Tryd.prog 56 = false := by kernel_rfl
@[simp] theorem zAV_56 : zAV Tryd.prog 9 56 = .raw (.nilFunc) := by kernel_rfl
@[simp] theorem zeroIs_56 : zeroIs Tryd.prog 56 (.raw (.nilFunc)) := ⟨.nilFunc, by kernel_rfl, .inl ⟨rfl, rfl⟩⟩
@[simp] theorem tyI_57 : tyI Tryd.prog 57 = some (1, false) := by kernel_rfl
@[simp] theorem isSl_57 : isSl Tryd.prog 57 = false := by kernel_rfl
@[simp] theorem isStr_57 : isStr Tryd.prog 57 = false := by kernel_rfl
@[simp] theorem isBool_57 : isBool Tryd.prog 57 = false := by kernel_rfl
@[simp] theorem isPtr_57 : isPtr Tryd.prog 57 = true := by kernel_rfl
@[simp] theorem isIf_57 : isIf Tryd.prog 57 = false := by kernel_rfl
@[simp] theorem isIface_57 : isIface Tryd.prog 57 = false := by kernel_rfl
@[simp] theorem isArr_57 : isArr Tryd.prog 57 = false := by kernel_rfl
@[simp] theorem plainT_57 : plainT Tryd.prog 57 = false := by kernel_rfl
@[simp] theorem zAV_57 : zAV Tryd.prog 9 57 = .raw (.pointer none) := by kernel_rfl
@[simp] theorem zeroIs_57 : zeroIs Tryd.prog 57 (.raw (.pointer none)) := ⟨.pointer none, by kernel_rfl, .inl ⟨rfl, rfl⟩⟩
@[simp] theorem tyI_58 : tyI Tryd.prog 58 = some (1, false) := by kernel_rfl
@[simp] theorem isSl_58 : isSl Tryd.prog 58 = false := by kernel_rfl
@[simp] theorem isStr_58 : isStr Tryd.prog 58 = false := by kernel_rfl
@[simp] theorem isBool_58 : isBool Tryd.prog 58 = false := by kernel_rfl
@[simp] theorem isPtr_58 : isPtr Tryd.prog 58 = true := by kernel_rfl
@[simp] theorem isIf_58 : isIf Tryd.prog 58 = false := by kernel_rfl
@[simp] theorem isIface_58 : isIface Tryd.prog 58 = false := by kernel_rfl
@[simp] theorem isArr_58 : isArr Tryd.prog 58 = false := by kernel_rfl
@[simp] theorem plainT_58 : plainT Tryd.prog 58 = false := by kernel_rfl
@[simp] theorem zAV_58 : zAV Tryd.prog 9 58 = .raw (.pointer none) := by kernel_rfl
@[simp] theorem zeroIs_58 : zeroIs Tryd.prog 58 (.raw (.pointer none)) := ⟨.pointer none, by kernel_rfl, .inl ⟨rfl, rfl⟩⟩
@[simp] theorem tyI_59 : tyI Tryd.prog 59 = some (1, false) := by kernel_rfl
@[simp] theorem isSl_59 : isSl Tryd.prog 59 = false := by kernel_rfl
@[simp] theorem isStr_59 : isStr Tryd.prog 59 = false := by kernel_rfl
@[simp] theorem isBool_59 : isBool Tryd.prog 59 = false := by kernel_rfl
@[simp] theorem isPtr_59 : isPtr Tryd.prog 59 = true := by kernel_rfl
@[simp] theorem isIf_59 : isIf Tryd.prog 59 = false := by kernel_rfl
@[simp] theorem isIface_59 : isIface Tryd.prog 59 = false := by kernel_rfl
@[simp] theorem isArr_59 : isArr Tryd.prog 59 = false := by kernel_rfl
@[simp] theorem plainT_59 : plainT Tryd.prog 59 = false := by kernel_rfl
@[simp] theorem zAV_59 : zAV Tryd.prog 9 59 = .raw (.pointer none) := by kernel_rfl
@[simp] theorem zeroIs_59 : zeroIs Tryd.prog 59 (.raw (.pointer none)) := ⟨.pointer none, by kernel_rfl, .inl ⟨rfl, rfl⟩⟩
@[simp] theorem tyI_60 : tyI Tryd.prog 60 = some (1, false) := by kernel_rfl
@[simp] theorem isSl_60 : isSl Tryd.prog 60 = false := by kernel_rfl
@[simp] theorem isStr_60 : isStr Tryd.prog 60 = false := by kernel_rfl
@[simp] theorem isBool_60 : isBool Tryd.prog 60 = false := by kernel_rfl
@[simp] theorem isPtr_60 : isPtr Tryd.prog 60 = false := by kernel_rfl
@[simp] theorem isIf_60 : isIf Tryd.prog 60 = false := by kernel_rfl
@[simp] theorem isIface_60 : isIface Tryd.prog 60 = false := by kernel_rfl
@[simp] theorem isArr_60 : isArr Tryd.prog 60 = false := by kernel_rfl
@[simp] theorem plainT_60 : plainT Tryd.prog 60 = false := by kernel_rfl
@[simp] theorem zAV_60 : zAV Tryd.prog 9 60 = .raw (.nilFunc) := by kernel_rfl
@[simp] theorem zeroIs_60 : zeroIs Tryd.prog 60 (.raw (.nilFunc)) := ⟨.nilFunc, by kernel_rfl, .inl ⟨rfl, rfl⟩⟩
@[simp] theorem tyI_61 : tyI Tryd.prog 61 = some (1, false) := by kernel_rfl
@[simp] theorem isSl_61 : isSl Tryd.prog 61 = false := by kernel_rfl
@[simp] theorem isStr_61 : isStr Tryd.prog 61 = false := by kernel_rfl
@[simp] theorem isBool_61 : isBool Tryd.prog 61 = false := by kernel_rfl
@[simp] theorem isPtr_61 : isPtr Tryd.prog 61 = false := by kernel_rfl
@[simp] theorem isIf_61 : isIf Tryd.prog 61 = false := by kernel_rfl
@[simp] theorem isIface_61 : isIface Tryd.prog 61 = false := by kernel_rfl
@[simp] theorem isArr_61 : isArr Tryd.prog 61 = false := by kernel_rfl
@[simp] theorem plainT_61 : plainT Tryd.prog 61 = false := by kernel_rfl
@[simp] theorem zAV_61 : zAV Tryd.prog 9 61 = .raw (.nilFunc) := by kernel_rfl
@[simp] theorem zeroIs_61 : zeroIs Tryd.prog 61 (.raw (.nilFunc)) := ⟨.nilFunc, by kernel_rfl, .inl ⟨rfl, rfl⟩⟩
@[simp] theorem tyI_62 : tyI Tryd.prog 62 = some (1, false) := by kernel_rfl
@[simp] theorem isSl_62 : isSl Tryd.prog 62 = false := by kernel_rfl
@[simp] theorem isStr_62 : isStr Tryd.prog 62 = false := by kernel_rfl
@[simp] theorem isBool_62 : isBool Tryd.prog 62 = false := by kernel_rfl
@[simp] theorem isPtr_62 : isPtr Tryd.prog 62 = false := by kernel_rfl
@[simp] theorem isIf_62 : isIf Tryd.prog 62 = false := by kernel_rfl
@[simp] theorem isIface_62 : isIface Tryd.prog 62 = false := by kernel_rfl
@[simp] theorem isArr_62 : isArr Tryd.prog 62 = false := by kernel_rfl
@[simp] theorem plainT_62 : plainT Tryd.prog 62 = false := by kernel_rfl
@[simp] theorem zAV_62 : zAV Tryd.prog 9 62 = .raw (.nilFunc) := by kernel_rfl
@[simp] theorem zeroIs_62 : zeroIs Tryd.prog 62 (.raw (.nilFunc)) := ⟨.nilFunc, by kernel_rfl, .inl ⟨rfl, rfl⟩⟩
@[simp] theorem tyI_63 : tyI Tryd.prog 63 = some (1, false) := by kernel_rfl
@[simp] theorem isSl_63 : isSl Tryd.prog 63 = false := by kernel_rfl
@[simp] theorem isStr_63 : isStr Tryd.prog 63 = false := by kernel_rfl
@[simp] theorem isBool_63 : isBool Tryd.prog 63 = false := by kernel_rfl
@[simp] theorem isPtr_63 : isPtr Tryd.prog 63 = false := by kernel_rfl
@[simp] theorem isIf_63 : isIf Tryd.prog 63 = false := by kernel_rfl
@[simp] theorem isIface_63 : isIface Tryd.prog 63 = false := by kernel_rfl
@[simp] theorem isArr_63 : isArr Tryd.prog 63 = false := by kernel_rfl
@[simp] theorem plainT_63 : plainT Tryd.prog 63 = false := by kernel_rfl
@[simp] theorem zAV_63 : zAV Tryd.prog 9 63 = .raw (.nilFunc) := by kernel_rfl
@[simp] theorem zeroIs_63 : zeroIs Tryd.prog 63 (.raw (.nilFunc)) := ⟨.nilFunc, by kernel_rfl, .inl ⟨rfl, rfl⟩⟩
@[simp] theorem tyI_64 : tyI Tryd.prog 64 = some (1, false) := by kernel_rfl
@[simp] theorem isSl_64 : isSl Tryd.prog 64 = true := by kernel_rfl
@[simp] theorem isStr_64 : isStr Tryd.prog 64 = false := by kernel_rfl
@[simp] theorem isBool_64 : isBool Tryd.prog 64 = false := by kernel_rfl
@[simp] theorem isPtr_64 : isPtr Tryd.prog 64 = false := by kernel_rfl
@[simp] theorem isIf_64 : isIf Tryd.prog 64 = false := by kernel_rfl
@[simp] theorem isIface_64 : isIface Tryd.prog 64 = false := by kernel_rfl
@[simp] theorem isArr_64 : isArr Tryd.prog 64 = false := by kernel_rfl
@[simp] theorem plainT_64 : plainT Tryd.prog 64 = false := by kernel_rfl
@[simp] theorem rowI_64 : rowI Tryd.prog 64 = some (27, 1, 16) := by kernel_rfl
@[simp] theorem zAV_64 : zAV Tryd.prog 9 64 = .raw (.slice none 0 0) := by kernel_rfl
@[simp] theorem zeroIs_64 : zeroIs Tryd.prog 64 (.raw (.slice none 0 0)) := ⟨.slice none 0 0, by kernel_rfl, .inl ⟨rfl, rfl⟩⟩
@[simp] theorem tyI_65 : tyI Tryd.prog 65 = some (1, false) := by kernel_rfl
@[simp] theorem isSl_65 : isSl Tryd.prog 65 = false := by kernel_rfl
@[simp] theorem isStr_65 : isStr Tryd.prog 65 = false := by kernel_rfl
@[simp] theorem isBool_65 : isBool Tryd.prog 65 = false := by kernel_rfl
@[simp] theorem isPtr_65 : isPtr Tryd.prog 65 = false := by kernel_rfl
@[simp] theorem isIf_65 : isIf Tryd.prog 65 = false := by kernel_rfl
@[simp] theorem isIface_65 : isIface Tryd.prog 65 = false := by kernel_rfl
@[simp] theorem isArr_65 : isArr Tryd.prog 65 = false := by kernel_rfl
@[simp] theorem plainT_65 : plainT Tryd.prog 65 = false := by kernel_rfl
@[simp] theorem zAV_65 : zAV Tryd.prog 9 65 = .raw (.nilFunc) := by kernel_rfl
@[simp] theorem zeroIs_65 : zeroIs Tryd.prog 65 (.raw (.nilFunc)) := ⟨.nilFunc, by kernel_rfl, .inl ⟨rfl, rfl⟩⟩
@[simp] theorem tyI_66 : tyI Tryd.prog 66 = some (1, false) := by kernel_rfl
@[simp] theorem isSl_66 : isSl Tryd.prog 66 = false := by kernel_rfl
@[simp] theorem isStr_66 : isStr Tryd.prog 66 = false := by kernel_rfl
@[simp] theorem isBool_66 : isBool Tryd.prog 66 = false := by kernel_rfl
@[simp] theorem isPtr_66 : isPtr Tryd.prog 66 = false := by kernel_rfl
@[simp] theorem isIf_66 : isIf Tryd.prog 66 = false := by kernel_rfl
@[simp] theorem isIface_66 : isIface Tryd.prog 66 = false := by kernel_rfl
@[simp] theorem isArr_66 : isArr Tryd.prog 66 = false := by kernel_rfl
@[simp] theorem plainT_66 : plainT Tryd.prog 66 = true := by kernel_rfl
@[simp] theorem tyI_67 : tyI Tryd.prog 67 = some (1, false) := by kernel_rfl
@[simp] theorem isSl_67 : isSl Tryd.prog 67 = false := by kernel_rfl
@[simp] theorem isStr_67 : isStr Tryd.prog 67 = false := by kernel_rfl
@[simp] theorem isBool_67 : isBool Tryd.prog 67 = false := by kernel_rfl
@[simp] theorem isPtr_67 : isPtr Tryd.prog 67 = false := by kernel_rfl
@[simp] theorem isIf_67 : isIf Tryd.prog 67 = false := by kernel_rfl
@[simp] theorem isIface_67 : isIface Tryd.prog 67 = false := by kernel_rfl
@[simp] theorem isArr_67 : isArr Tryd.prog 67 = false := by kernel_rfl
@[simp] theorem plainT_67 : plainT Tryd.prog 67 = true := by kernel_rfl
@[simp] theorem und_67 : Tryd.prog.underlying 67 = some (.int .u64) := by kernel_rfl
@[simp] theorem zAV_67 : zAV Tryd.prog 9 67 = .raw (.int .u64 0) := by kernel_rfl
@[simp] theorem zeroIs_67 : zeroIs Tryd.prog 67 (.raw (.int .u64 0)) := ⟨.int .u64 0, by kernel_rfl, .inl ⟨rfl, rfl⟩⟩
@[simp] theorem tyI_68 : tyI Tryd.prog 68 = some (3, true) := by kernel_rfl
@[simp] theorem isSl_68 : isSl Tryd.prog 68 = false := by kernel_rfl
@[simp] theorem isStr_68 : isStr Tryd.prog 68 = false := by kernel_rfl
@[simp] theorem isBool_68 : isBool Tryd.prog 68 = false := by kernel_rfl
@[simp] theorem isPtr_68 : isPtr Tryd.prog 68 = false := by kernel_rfl
@[simp] theorem isIf_68 : isIf Tryd.prog 68 = false := by kernel_rfl
@[simp] theorem isIface_68 : isIface Tryd.prog 68 = false := by kernel_rfl
@[simp] theorem isArr_68 : isArr Tryd.prog 68 = false := by kernel_rfl
@[simp] theorem plainT_68 : plainT Tryd.prog 68 = false := by kernel_rfl
@[simp] theorem fldI_68_0 : fldI Tryd.prog 68 0 = some (0, 1, false) := by kernel_rfl
@[simp] theorem fldI_68_1 : fldI Tryd.prog 68 1 = some (1, 1, false) := by kernel_rfl
@[simp] theorem fldI_68_2 : fldI Tryd.prog 68 2 = some (2, 1, false) := by kernel_rfl
@[simp] theorem zAV_68 : zAV Tryd.prog 9 68 = .agg [.raw (.pointer none), .raw (.pointer none), .raw (.int .u64 0)] := by kernel_rfl
@[simp] theorem zeroIs_68 : zeroIs Tryd.prog 68 (.agg [.raw (.pointer none), .raw (.pointer none), .raw (.int .u64 0)]) := ⟨.agg #[.pointer none, .pointer none, .int .u64 0], by kernel_rfl, .inr ⟨_, _, rfl, rfl, by kernel_rfl⟩⟩
@[simp] theorem layIs_68 : layIs Tryd.prog 68 [.raw (.pointer none), .raw (.pointer none), .raw (.int .u64 0)] := layIs_of (by kernel_rfl)
@[simp] theorem tyI_69 : tyI Tryd.prog 69 = some (3, true) := by kernel_rfl
@[simp] theorem isSl_69 : isSl Tryd.prog 69 = false := by kernel_rfl
@[simp] theorem isStr_69 : isStr Tryd.prog 69 = false := by kernel_rfl
@[simp] theorem isBool_69 : isBool Tryd.prog 69 = false := by kernel_rfl
@[simp] theorem isPtr_69 : isPtr Tryd.prog 69 = false := by kernel_rfl
@[simp] theorem isIf_69 : isIf Tryd.prog 69 = false := by kernel_rfl
@[simp] theorem isIface_69 : isIface Tryd.prog 69 = false := by kernel_rfl
@[simp] theorem isArr_69 : isArr Tryd.prog 69 = false := by kernel_rfl
@[simp] theorem plainT_69 : plainT Tryd.prog 69 = false := by kernel_rfl
@[simp] theorem fldI_69_0 : fldI Tryd.prog 69 0 = some (0, 1, false) := by kernel_rfl
@[simp] theorem fldI_69_1 : fldI Tryd.prog 69 1 = some (1, 1, false) := by kernel_rfl
@[simp] theorem fldI_69_2 : fldI Tryd.prog 69 2 = some (2, 1, false) := by kernel_rfl
@[simp] theorem zAV_69 : zAV Tryd.prog 9 69 = .agg [.raw (.pointer none), .raw (.pointer none), .raw (.int .u64 0)] := by kernel_rfl
@[simp] theorem zeroIs_69 : zeroIs Tryd.prog 69 (.agg [.raw (.pointer none), .raw (.pointer none), .raw (.int .u64 0)]) := ⟨.agg #[.pointer none, .pointer none, .int .u64 0], by kernel_rfl, .inr ⟨_, _, rfl, rfl, by kernel_rfl⟩⟩
@[simp] theorem layIs_69 : layIs Tryd.prog 69 [.raw (.pointer none), .raw (.pointer none), .raw (.int .u64 0)] := layIs_of (by kernel_rfl)
@[simp] theorem tyI_70 : tyI Tryd.prog 70 = some (1, false) := by kernel_rfl
@[simp] theorem isSl_70 : isSl Tryd.prog 70 = false := by kernel_rfl
@[simp] theorem isStr_70 : isStr Tryd.prog 70 = false := by kernel_rfl
@[simp] theorem isBool_70 : isBool Tryd.prog 70 = false := by kernel_rfl
@[simp] theorem isPtr_70 : isPtr Tryd.prog 70 = false := by kernel_rfl
@[simp] theorem isIf_70 : isIf Tryd.prog 70 = false := by kernel_rfl
@[simp] theorem isIface_70 : isIface Tryd.prog 70 = false := by kernel_rfl
@[simp] theorem isArr_70 : isArr Tryd.prog 70 = false := by kernel_rfl
@[simp] theorem plainT_70 : plainT Tryd.prog 70 = false := by kernel_rfl
@[simp] theorem zAV_70 : zAV Tryd.prog 9 70 = .raw (.nilFunc) := by kernel_rfl
@[simp] theorem zeroIs_70 : zeroIs Tryd.prog 70 (.raw (.nilFunc)) := ⟨.nilFunc, by kernel_rfl, .inl ⟨rfl, rfl⟩⟩
@[simp] theorem tyI_71 : tyI Tryd.prog 71 = some (1, false) := by kernel_rfl
@[simp] theorem isSl_71 : isSl Tryd.prog 71 = false := by kernel_rfl
@[simp] theorem isStr_71 : isStr Tryd.prog 71 = false := by kernel_rfl
@[simp] theorem isBool_71 : isBool Tryd.prog 71 = false := by kernel_rfl
@[simp] theorem isPtr_71 : isPtr Tryd.prog 71 = false := by kernel_rfl
@[simp] theorem isIf_71 : isIf Tryd.prog 71 = true := by kernel_rfl
@[simp] theorem isIface_71 : isIface Tryd.prog 71 = true := by kernel_rfl
@[simp] theorem isArr_71 : isArr Tryd.prog 71 = false := by kernel_rfl
@[simp] theorem plainT_71 : plainT Tryd.prog 71 = false := by kernel_rfl
@[simp] theorem zAV_71 : zAV Tryd.prog 9 71 = .raw (.nilIface) := by kernel_rfl
@[simp] theorem zeroIs_71 : zeroIs Tryd.prog 71 (.raw (.nilIface)) := ⟨.nilIface, by kernel_rfl, .inl ⟨rfl, rfl⟩⟩
@[simp] theorem tyI_72 : tyI Tryd.prog 72 = some (1, false) := by kernel_rfl
@[simp] theorem isSl_72 : isSl Tryd.prog 72 = false := by kernel_rfl
@[simp] theorem isStr_72 : isStr Tryd.prog 72 = false := by kernel_rfl
@[simp] theorem isBool_72 : isBool Tryd.prog 72 = false := by kernel_rfl
@[simp] theorem isPtr_72 : isPtr Tryd.prog 72 = false := by kernel_rfl
@[simp] theorem isIf_72 : isIf Tryd.prog 72 = true := by kernel_rfl
@[simp] theorem isIface_72 : isIface Tryd.prog 72 = true := by kernel_rfl
@[simp] theorem isArr_72 : isArr Tryd.prog 72 = false := by kernel_rfl
@[simp] theorem plainT_72 : plainT Tryd.prog 72 = false := by kernel_rfl
@[simp] theorem zAV_72 : zAV Tryd.prog 9 72 = .raw (.nilIface) := by kernel_rfl
@[simp] theorem zeroIs_72 : zeroIs Tryd.prog 72 (.raw (.nilIface)) := ⟨.nilIface, by kernel_rfl, .inl ⟨rfl, rfl⟩⟩
@[simp] theorem tyI_73 : tyI Tryd.prog 73 = some (1, false) := by kernel_rfl
@[simp] theorem isSl_73 : isSl Tryd.prog 73 = false := by kernel_rfl
@[simp] theorem isStr_73 : isStr Tryd.prog 73 = false := by kernel_rfl
@[simp] theorem isBool_73 : isBool Tryd.prog 73 = false := by kernel_rfl
@[simp] theorem isPtr_73 : isPtr Tryd.prog 73 = false := by kernel_rfl
@[simp] theorem isIf_73 : isIf Tryd.prog 73 = false := by kernel_rfl
@[simp] theorem isIface_73 : isIface Tryd.prog 73 = false := by kernel_rfl
@[simp] theorem isArr_73 : isArr Tryd.prog 73 = false := by kernel_rfl
@[simp] theorem plainT_73 : plainT Tryd.prog 73 = false := by kernel_rfl
@[simp] theorem zAV_73 : zAV Tryd.prog 9 73 = .raw (.nilFunc) := by kernel_rfl
@[simp] theorem zeroIs_73 : zeroIs Tryd.prog 73 (.raw (.nilFunc)) := ⟨.nilFunc, by kernel_rfl, .inl ⟨rfl, rfl⟩⟩
@[simp] theorem tyI_74 : tyI Tryd.prog 74 = some (1, false) := by kernel_rfl
@[simp] theorem isSl_74 : isSl Tryd.prog 74 = false := by kernel_rfl
@[simp] theorem isStr_74 : isStr Tryd.prog 74 = false := by kernel_rfl
@[simp] theorem isBool_74 : isBool Tryd.prog 74 = false := by kernel_rfl
@[simp] theorem isPtr_74 : isPtr Tryd.prog 74 = false := by kernel_rfl
@[simp] theorem isIf_74 : isIf Tryd.prog 74 = false := by kernel_rfl
@[simp] theorem isIface_74 : isIface Tryd.prog 74 = false := by kernel_rfl
@[simp] theorem isArr_74 : isArr Tryd.prog 74 = false := by kernel_rfl
@[simp] theorem plainT_74 : plainT Tryd.prog 74 = true := by kernel_rfl
@[simp] theorem und_74 : Tryd.prog.underlying 74 = some (.int .u8) := by kernel_rfl
@[simp] theorem zAV_74 : zAV Tryd.prog 9 74 = .raw (.int .u8 0) := by kernel_rfl
@[simp] theorem zeroIs_74 : zeroIs Tryd.prog 74 (.raw (.int .u8 0)) := ⟨.int .u8 0, by kernel_rfl, .inl ⟨rfl, rfl⟩⟩
@[simp] theorem tyI_75 : tyI Tryd.prog 75 = some (1, false) := by kernel_rfl
@[simp] theorem isSl_75 : isSl Tryd.prog 75 = false := by kernel_rfl
@[simp] theorem isStr_75 : isStr Tryd.prog 75 = false := by kernel_rfl
@[simp] theorem isBool_75 : isBool Tryd.prog 75 = false := by kernel_rfl
@[simp] theorem isPtr_75 : isPtr Tryd.prog 75 = false := by kernel_rfl
@[simp] theorem isIf_75 : isIf Tryd.prog 75 = false := by kernel_rfl
@[simp] theorem isIface_75 : isIface Tryd.prog 75 = false := by kernel_rfl
@[simp] theorem isArr_75 : isArr Tryd.prog 75 = false := by kernel_rfl
@[simp] theorem plainT_75 : plainT Tryd.prog 75 = false := by kernel_rfl
@[simp] theorem zAV_75 : zAV Tryd.prog 9 75 = .raw (.nilFunc) := by kernel_rfl
@[simp] theorem zeroIs_75 : zeroIs Tryd.prog 75 (.raw (.nilFunc)) := ⟨.nilFunc, by kernel_rfl, .inl ⟨rfl, rfl⟩⟩
@[simp] theorem tyI_76 : tyI Tryd.prog 76 = some (1, false) := by kernel_rfl
@[simp] theorem isSl_76 : isSl Tryd.prog 76 = false := by kernel_rfl
@[simp] theorem isStr_76 : isStr Tryd.prog 76 = false := by kernel_rfl
@[simp] theorem isBool_76 : isBool Tryd.prog 76 = false := by kernel_rfl
@[simp] theorem isPtr_76 : isPtr Tryd.prog 76 = false := by kernel_rfl
@[simp] theorem isIf_76 : isIf Tryd.prog 76 = false := by kernel_rfl
@[simp] theorem isIface_76 : isIface Tryd.prog 76 = false := by kernel_rfl
@[simp] theorem isArr_76 : isArr Tryd.prog 76 = false := by kernel_rfl
@[simp] theorem plainT_76 : plainT Tryd.prog 76 = false := by kernel_rfl
@[simp] theorem zAV_76 : zAV Tryd.prog 9 76 = .raw (.nilFunc) := by kernel_rfl
@[simp] theorem zeroIs_76 : zeroIs Tryd.prog 76 (.raw (.nilFunc)) := ⟨.nilFunc, by kernel_rfl, .inl ⟨rfl, rfl⟩⟩
@[simp] theorem tyI_77 : tyI Tryd.prog 77 = some (1, false) := by kernel_rfl
@[simp] theorem isSl_77 : isSl Tryd.prog 77 = false := by kernel_rfl
@[simp] theorem isStr_77 : isStr Tryd.prog 77 = false := by kernel_rfl
@[simp] theorem isBool_77 : isBool Tryd.prog 77 = false := by kernel_rfl
@[simp] theorem isPtr_77 : isPtr Tryd.prog 77 = false := by kernel_rfl
@[simp] theorem isIf_77 : isIf Tryd.prog 77 = false := by kernel_rfl
@[simp] theorem isIface_77 : isIface Tryd.prog 77 = false := by kernel_rfl
@[simp] theorem isArr_77 : isArr Tryd.prog 77 = false := by kernel_rfl
@[simp] theorem plainT_77 : plainT Tryd.prog 77 = false := by kernel_rfl
@[simp] theorem zAV_77 : zAV Tryd.prog 9 77 = .raw (.nilFunc) := by kernel_rfl
@[simp] theorem zeroIs_77 : zeroIs Tryd.prog 77 (.raw (.nilFunc)) := ⟨.nilFunc, by kernel_rfl, .inl ⟨rfl, rfl⟩⟩
@[simp] theorem tyI_78 : tyI Tryd.prog 78 = some (20, true) := by kernel_rfl
@[simp] theorem isSl_78 : isSl Tryd.prog 78 = false := by kernel_rfl
@[simp] theorem isStr_78 : isStr Tryd.prog 78 = false := by kernel_rfl
@[simp] theorem isBool_78 : isBool Tryd.prog 78 = false := by kernel_rfl
@[simp] theorem isPtr_78 : isPtr Tryd.prog 78 = false := by kernel_rfl
@[simp] theorem isIf_78 : isIf Tryd.prog 78 = false := by kernel_rfl
@[simp] theorem isIface_78 : isIface Tryd.prog 78 = false := by kernel_rfl
@[simp] theorem isArr_78 : isArr Tryd.prog 78 = true := by kernel_rfl
@[simp] theorem plainT_78 : plainT Tryd.prog 78 = true := by kernel_rfl
@[simp] theorem arrI_78 : arrI Tryd.prog 78 = some (20, 1) := by kernel_rfl
@[simp] theorem zAV_78 : zAV Tryd.prog 9 78 = .agg [.raw (.int .u8 0), .raw (.int .u8 0), .raw (.int .u8 0), .raw (.int .u8 0), .raw (.int .u8 0), .raw (.int .u8 0), .raw (.int .u8 0), .raw (.int .u8 0), .raw (.int .u8 0), .raw (.int .u8 0), .raw (.int .u8 0), .raw (.int .u8 0), .raw (.int .u8 0), .raw (.int .u8 0), .raw (.int .u8 0), .raw (.int .u8 0), .raw (.int .u8 0), .raw (.int .u8 0), .raw (.int .u8 0), .raw (.int .u8 0)] := by kernel_rfl
@[simp] theorem zeroIs_78 : zeroIs Tryd.prog 78 (.agg [.raw (.int .u8 0), .raw (.int .u8 0), .raw (.int .u8 0), .raw (.int .u8 0), .raw (.int .u8 0), .raw (.int .u8 0), .raw (.int .u8 0), .raw (.int .u8 0), .raw (.int .u8 0), .raw (.int .u8 0), .raw (.int .u8 0), .raw (.int .u8 0), .raw (.int .u8 0), .raw (.int .u8 0), .raw (.int .u8 0), .raw (.int .u8 0), .raw (.int .u8 0), .raw (.int .u8 0), .raw (.int .u8 0), .raw (.int .u8 0)]) := ⟨.agg #[.int .u8 0, .int .u8 0, .int .u8 0, .int .u8 0, .int .u8 0, .int .u8 0, .int .u8 0, .int .u8 0, .int .u8 0, .int .u8 0, .int .u8 0, .int .u8 0, .int .u8 0, .int .u8 0, .int .u8 0, .int .u8 0, .int .u8 0, .int .u8 0, .int .u8 0, .int .u8 0], by kernel_rfl, .inr ⟨_, _, rfl, rfl, by kernel_rfl⟩⟩
@[simp] theorem tyI_79 : tyI Tryd.prog 79 = some (1, false) := by kernel_rfl
@[simp] theorem isSl_79 : isSl Tryd.prog 79 = true := by kernel_rfl
@[simp] theorem isStr_79 : isStr Tryd.prog 79 = false := by kernel_rfl
@[simp] theorem isBool_79 : isBool Tryd.prog 79 = false := by kernel_rfl
@[simp] theorem isPtr_79 : isPtr Tryd.prog 79 = false := by kernel_rfl
@[simp] theorem isIf_79 : isIf Tryd.prog 79 = false := by kernel_rfl
@[simp] theorem isIface_79 : isIface Tryd.prog 79 = false := by kernel_rfl
@[simp] theorem isArr_79 : isArr Tryd.prog 79 = false := by kernel_rfl
@[simp] theorem plainT_79 : plainT Tryd.prog 79 = false := by kernel_rfl
@[simp] theorem rowI_79 : rowI Tryd.prog 79 = some (5, 1, 1) := by kernel_rfl
@[simp] theorem zAV_79 : zAV Tryd.prog 9 79 = .raw (.slice none 0 0) := by kernel_rfl
@[simp] theorem zeroIs_79 : zeroIs Tryd.prog 79 (.raw (.slice none 0 0)) := ⟨.slice none 0 0, by kernel_rfl, .inl ⟨rfl, rfl⟩⟩
@[simp] theorem tyI_80 : tyI Tryd.prog 80 = some (1, false) := by kernel_rfl
@[simp] theorem isSl_80 : isSl Tryd.prog 80 = false := by kernel_rfl
@[simp] theorem isStr_80 : isStr Tryd.prog 80 = false := by kernel_rfl
@[simp] theorem isBool_80 : isBool Tryd.prog 80 = false := by kernel_rfl
@[simp] theorem isPtr_80 : isPtr Tryd.prog 80 = false := by kernel_rfl
@[simp] theorem isIf_80 : isIf Tryd.prog 80 = false := by kernel_rfl
@[simp] theorem isIface_80 : isIface Tryd.prog 80 = false := by kernel_rfl
@[simp] theorem isArr_80 : isArr Tryd.prog 80 = false := by kernel_rfl
@[simp] theorem plainT_80 : plainT Tryd.prog 80 = false := by kernel_rfl
@[simp] theorem zAV_80 : zAV Tryd.prog 9 80 = .raw (.nilFunc) := by kernel_rfl
@[simp] theorem zeroIs_80 : zeroIs Tryd.prog 80 (.raw (.nilFunc)) := ⟨.nilFunc, by kernel_rfl, .inl ⟨rfl, rfl⟩⟩
@[simp] theorem tyI_81 : tyI Tryd.prog 81 = some (1, false) := by kernel_rfl
@[simp] theorem isSl_81 : isSl Tryd.prog 81 = false := by kernel_rfl
@[simp] theorem isStr_81 : isStr Tryd.prog 81 = false := by kernel_rfl
@[simp] theorem isBool_81 : isBool Tryd.prog 81 = false := by kernel_rfl
@[simp] theorem isPtr_81 : isPtr Tryd.prog 81 = false := by kernel_rfl
@[simp] theorem isIf_81 : isIf Tryd.prog 81 = false := by kernel_rfl
@[simp] theorem isIface_81 : isIface Tryd.prog 81 = false := by kernel_rfl
@[simp] theorem isArr_81 : isArr Tryd.prog 81 = false := by kernel_rfl
@[simp] theorem plainT_81 : plainT Tryd.prog 81 = false := by kernel_rfl
@[simp] theorem zAV_81 : zAV Tryd.prog 9 81 = .raw (.nilFunc) := by kernel_rfl
@[simp] theorem zeroIs_81 : zeroIs Tryd.prog 81 (.raw (.nilFunc)) := ⟨.nilFunc, by kernel_rfl, .inl ⟨rfl, rfl⟩⟩
@[simp] theorem tyI_82 : tyI Tryd.prog 82 = some (1, true) := by kernel_rfl
@[simp] theorem isSl_82 : isSl Tryd.prog 82 = false := by kernel_rfl
@[simp] theorem isStr_82 : isStr Tryd.prog 82 = false := by kernel_rfl
@[simp] theorem isBool_82 : isBool Tryd.prog 82 = false := by kernel_rfl
@[simp] theorem isPtr_82 : isPtr Tryd.prog 82 = false := by kernel_rfl
@[simp] theorem isIf_82 : isIf Tryd.prog 82 = false := by kernel_rfl
@[simp] theorem isIface_82 : isIface Tryd.prog 82 = false := by kernel_rfl
@[simp] theorem isArr_82 : isArr Tryd.prog 82 = false := by kernel_rfl
@[simp] theorem plainT_82 : plainT Tryd.prog 82 = false := by kernel_rfl
@[simp] theorem fldI_82_0 : fldI Tryd.prog 82 0 = some (0, 1, false) := by kernel_rfl
@[simp] theorem zAV_82 : zAV Tryd.prog 9 82 = .agg [.raw (.pointer none)] := by kernel_rfl
@[simp] theorem zeroIs_82 : zeroIs Tryd.prog 82 (.agg [.raw (.pointer none)]) := ⟨.agg #[.pointer none], by kernel_rfl, .inr ⟨_, _, rfl, rfl, by kernel_rfl⟩⟩
@[simp] theorem layIs_82 : layIs Tryd.prog 82 [.raw (.pointer none)] := layIs_of (by kernel_rfl)
@[simp] theorem tyI_83 : tyI Tryd.prog 83 = some (1, true) := by kernel_rfl
@[simp] theorem isSl_83 : isSl Tryd.prog 83 = false := by kernel_rfl
@[simp] theorem isStr_83 : isStr Tryd.prog 83 = false := by kernel_rfl
@[simp] theorem isBool_83 : isBool Tryd.prog 83 = false := by kernel_rfl
@[simp] theorem isPtr_83 : isPtr Tryd.prog 83 = false := by kernel_rfl
@[simp] theorem isIf_83 : isIf Tryd.prog 83 = false := by kernel_rfl
@[simp] theorem isIface_83 : isIface Tryd.prog 83 = false := by kernel_rfl
@[simp] theorem isArr_83 : isArr Tryd.prog 83 = false := by kernel_rfl
@[simp] theorem plainT_83 : plainT Tryd.prog 83 = false := by kernel_rfl
@[simp] theorem fldI_83_0 : fldI Tryd.prog 83 0 = some (0, 1, false) := by kernel_rfl
@[simp] theorem zAV_83 : zAV Tryd.prog 9 83 = .agg [.raw (.pointer none)] := by kernel_rfl
@[simp] theorem zeroIs_83 : zeroIs Tryd.prog 83 (.agg [.raw (.pointer none)]) := ⟨.agg #[.pointer none], by kernel_rfl, .inr ⟨_, _, rfl, rfl, by kernel_rfl⟩⟩
@[simp] theorem layIs_83 : layIs Tryd.prog 83 [.raw (.pointer none)] := layIs_of (by kernel_rfl)
@[simp] theorem tyI_84 : tyI Tryd.prog 84 = some (1, false) := by kernel_rfl
@[simp] theorem isSl_84 : isSl Tryd.prog 84 = false := by kernel_rfl
@[simp] theorem isStr_84 : isStr Tryd.prog 84 = false := by kernel_rfl
@[simp] theorem isBool_84 : isBool Tryd.prog 84 = false := by kernel_rfl
@[simp] theorem isPtr_84 : isPtr Tryd.prog 84 = true := by kernel_rfl
@[simp] theorem isIf_84 : isIf Tryd.prog 84 = false := by kernel_rfl
@[simp] theorem isIface_84 : isIface Tryd.prog 84 = false := by kernel_rfl
@[simp] theorem isArr_84 : isArr Tryd.prog 84 = false := by kernel_rfl
@[simp] theorem plainT_84 : plainT Tryd.prog 84 = false := by kernel_rfl
@[simp] theorem zAV_84 : zAV Tryd.prog 9 84 = .raw (.pointer none) := by kernel_rfl
@[simp] theorem zeroIs_84 : zeroIs Tryd.prog 84 (.raw (.pointer none)) := ⟨.pointer none, by kernel_rfl, .inl ⟨rfl, rfl⟩⟩
@[simp] theorem tyI_85 : tyI Tryd.prog 85 = some (1, false) := by kernel_rfl
@[simp] theorem isSl_85 : isSl Tryd.prog 85 = false := by kernel_rfl
@[simp] theorem isStr_85 : isStr Tryd.prog 85 = false := by kernel_rfl
@[simp] theorem isBool_85 : isBool Tryd.prog 85 = false := by kernel_rfl
@[simp] theorem isPtr_85 : isPtr Tryd.prog 85 = false := by kernel_rfl
@[simp] theorem isIf_85 : isIf Tryd.prog 85 = false := by kernel_rfl
@[simp] theorem isIface_85 : isIface Tryd.prog 85 = false := by kernel_rfl
@[simp] theorem isArr_85 : isArr Tryd.prog 85 = false := by kernel_rfl
@[simp] theorem plainT_85 : plainT Tryd.prog 85 = false := by kernel_rfl
@[simp] theorem zAV_85 : zAV Tryd.prog 9 85 = .raw (.nilFunc) := by kernel_rfl
@[simp] theorem zeroIs_85 : zeroIs Tryd.prog 85 (.raw (.nilFunc)) := ⟨.nilFunc, by kernel_rfl, .inl ⟨rfl, rfl⟩⟩
@[simp] theorem tyI_86 : tyI Tryd.prog 86 = some (1, false) := by kernel_rfl
@[simp] theorem isSl_86 : isSl Tryd.prog 86 = false := by kernel_rfl
@[simp] theorem isStr_86 : isStr Tryd.prog 86 = false := by kernel_rfl
@[simp] theorem isBool_86 : isBool Tryd.prog 86 = false := by kernel_rfl
@[simp] theorem isPtr_86 : isPtr Tryd.prog 86 = false := by kernel_rfl
@[simp] theorem isIf_86 : isIf Tryd.prog 86 = false := by kernel_rfl
@[simp] theorem isIface_86 : isIface Tryd.prog 86 = false := by kernel_rfl
@[simp] theorem isArr_86 : isArr Tryd.prog 86 = false := by kernel_rfl
@[simp] theorem plainT_86 : plainT Tryd.prog 86 = false := by kernel_rfl
@[simp] theorem zAV_86 : zAV Tryd.prog 9 86 = .raw (.nilFunc) := by kernel_rfl
@[simp] theorem zeroIs_86 : zeroIs Tryd.prog 86 (.raw (.nilFunc)) := ⟨.nilFunc, by kernel_rfl, .inl ⟨rfl, rfl⟩⟩
@[simp] theorem tyI_87 : tyI Tryd.prog 87 = some (1, false) := by kernel_rfl
@[simp] theorem isSl_87 : isSl Tryd.prog 87 = false := by kernel_rfl
@[simp] theorem isStr_87 : isStr Tryd.prog 87 = false := by kernel_rfl
@[simp] theorem isBool_87 : isBool Tryd.prog 87 = false := by kernel_rfl
@[simp] theorem isPtr_87 : isPtr Tryd.prog 87 = false := by kernel_rfl
@[simp] theorem isIf_87 : isIf Tryd.prog 87 = true := by kernel_rfl
@[simp] theorem isIface_87 : isIface Tryd.prog 87 = true := by kernel_rfl
@[simp] theorem isArr_87 : isArr Tryd.prog 87 = false := by kernel_rfl
@[simp] theorem plainT_87 : plainT Tryd.prog 87 = false := by kernel_rfl
@[simp] theorem zAV_87 : zAV Tryd.prog 9 87 = .raw (.nilIface) := by kernel_rfl
@[simp] theorem zeroIs_87 : zeroIs Tryd.prog 87 (.raw (.nilIface)) := ⟨.nilIface, by kernel_rfl, .inl ⟨rfl, rfl⟩⟩
@[simp] theorem isSl_88 : isSl Tryd.prog 88 = false := by kernel_rfl
@[simp] theorem tyI_89 : tyI Tryd.prog 89 = some (1, false) := by kernel_rfl
@[simp] theorem isSl_89 : isSl Tryd.prog 89 = false := by kernel_rfl
@[simp] theorem isStr_89 : isStr Tryd.prog 89 = false := by kernel_rfl
@[simp] theorem isBool_89 : isBool Tryd.prog 89 = false := by kernel_rfl
@[simp] theorem isPtr_89 : isPtr Tryd.prog 89 = false := by kernel_rfl
@[simp] theorem isIf_89 : isIf Tryd.prog 89 = false := by kernel_rfl
@[simp] theorem isIface_89 : isIface Tryd.prog 89 = false := by kernel_rfl
@[simp] theorem isArr_89 : isArr Tryd.prog 89 = false := by kernel_rfl
@[simp] theorem plainT_89 : plainT Tryd.prog 89 = false := by kernel_rfl
@[simp] theorem zAV_89 : zAV Tryd.prog 9 89 = .raw (.nilFunc) := by kernel_rfl
@[simp] theorem zeroIs_89 : zeroIs Tryd.prog 89 (.raw (.nilFunc)) := ⟨.nilFunc, by kernel_rfl, .inl ⟨rfl, rfl⟩⟩
@[simp] theorem tyI_90 : tyI Tryd.prog 90 = some (1, false) := by kernel_rfl
@[simp] theorem isSl_90 : isSl Tryd.prog 90 = false := by kernel_rfl
@[simp] theorem isStr_90 : isStr Tryd.prog 90 = false := by kernel_rfl
@[simp] theorem isBool_90 : isBool Tryd.prog 90 = false := by kernel_rfl
@[simp] theorem isPtr_90 : isPtr Tryd.prog 90 = false := by kernel_rfl
@[simp] theorem isIf_90 : isIf Tryd.prog 90 = true := by kernel_rfl
@[simp] theorem isIface_90 : isIface Tryd.prog 90 = true := by kernel_rfl
@[simp] theorem isArr_90 : isArr Tryd.prog 90 = false := by kernel_rfl
@[simp] theorem plainT_90 : plainT Tryd.prog 90 = false := by kernel_rfl
@[simp] theorem zAV_90 : zAV Tryd.prog 9 90 = .raw (.nilIface) := by kernel_rfl
@[simp] theorem zeroIs_90 : zeroIs Tryd.prog 90 (.raw (.nilIface)) := ⟨.nilIface, by kernel_rfl, .inl ⟨rfl, rfl⟩⟩
@[simp] theorem tyI_91 : tyI Tryd.prog 91 = some (1, false) := by kernel_rfl
@[simp] theorem isSl_91 : isSl Tryd.prog 91 = false := by kernel_rfl
@[simp] theorem isStr_91 : isStr Tryd.prog 91 = false := by kernel_rfl
@[simp] theorem isBool_91 : isBool Tryd.prog 91 = false := by kernel_rfl
@[simp] theorem isPtr_91 : isPtr Tryd.prog 91 = false := by kernel_rfl
@[simp] theorem isIf_91 : isIf Tryd.prog 91 = true := by kernel_rfl
@[simp] theorem isIface_91 : isIface Tryd.prog 91 = true := by kernel_rfl
@[simp] theorem isArr_91 : isArr Tryd.prog 91 = false := by kernel_rfl
@[simp] theorem plainT_91 : plainT Tryd.prog 91 = false := by kernel_rfl
@[simp] theorem zAV_91 : zAV Tryd.prog 9 91 = .raw (.nilIface) := by kernel_rfl
@[simp] theorem zeroIs_91 : zeroIs Tryd.prog 91 (.raw (.nilIface)) := ⟨.nilIface, by kernel_rfl, .inl ⟨rfl, rfl⟩⟩
@[simp] theorem tyI_92 : tyI Tryd.prog 92 = some (1, false) := by kernel_rfl
@[simp] theorem isSl_92 : isSl Tryd.prog 92 = false := by kernel_rfl
@[simp] theorem isStr_92 : isStr Tryd.prog 92 = false := by kernel_rfl
@[simp] theorem isBool_92 : isBool Tryd.prog 92 = false := by kernel_rfl
@[simp] theorem isPtr_92 : isPtr Tryd.prog 92 = false := by kernel_rfl
@[simp] theorem isIf_92 : isIf Tryd.prog 92 = false := by kernel_rfl
@[simp] theorem isIface_92 : isIface Tryd.prog 92 = false := by kernel_rfl
@[simp] theorem isArr_92 : isArr Tryd.prog 92 = false := by kernel_rfl
@[simp] theorem plainT_92 : plainT Tryd.prog 92 = false := by kernel_rfl
@[simp] theorem zAV_92 : zAV Tryd.prog 9 92 = .raw (.nilFunc) := by kernel_rfl
@[simp] theorem zeroIs_92 : zeroIs Tryd.prog 92 (.raw (.nilFunc)) := ⟨.nilFunc, by kernel_rfl, .inl ⟨rfl, rfl⟩⟩
@[simp] theorem tyI_93 : tyI Tryd.prog 93 = some (1, false) := by kernel_rfl
@[simp] theorem isSl_93 : isSl Tryd.prog 93 = false := by kernel_rfl
@[simp] theorem isStr_93 : isStr Tryd.prog 93 = false := by kernel_rfl
@[simp] theorem isBool_93 : isBool Tryd.prog 93 = false := by kernel_rfl
@[simp] theorem isPtr_93 : isPtr Tryd.prog 93 = false := by kernel_rfl
@[simp] theorem isIf_93 : isIf Tryd.prog 93 = true := by kernel_rfl
@[simp] theorem isIface_93 : isIface Tryd.prog 93 = true := by kernel_rfl
@[simp] theorem isArr_93 : isArr Tryd.prog 93 = false := by kernel_rfl
@[simp] theorem plainT_93 : plainT Tryd.prog 93 = false := by kernel_rfl
@[simp] theorem zAV_93 : zAV Tryd.prog 9 93 = .raw (.nilIface) := by kernel_rfl
@[simp] theorem zeroIs_93 : zeroIs Tryd.prog 93 (.raw (.nilIface)) := ⟨.nilIface, by kernel_rfl, .inl ⟨rfl, rfl⟩⟩
@[simp] theorem isSl_94 : isSl Tryd.prog 94 = false := by kernel_rfl
@[simp] theorem tyI_95 : tyI Tryd.prog 95 = some (1, false) := by kernel_rfl
@[simp] theorem isSl_95 : isSl Tryd.prog 95 = false := by kernel_rfl
@[simp] theorem isStr_95 : isStr Tryd.prog 95 = false := by kernel_rfl
@[simp] theorem isBool_95 : isBool Tryd.prog 95 = false := by kernel_rfl
@[simp] theorem isPtr_95 : isPtr Tryd.prog 95 = false := by kernel_rfl
@[simp] theorem isIf_95 : isIf Tryd.prog 95 = false := by kernel_rfl
@[simp] theorem isIface_95 : isIface Tryd.prog 95 = false := by kernel_rfl
@[simp] theorem isArr_95 : isArr Tryd.prog 95 = false := by kernel_rfl
@[simp] theorem plainT_95 : plainT Tryd.prog 95 = false := by kernel_rfl
@[simp] theorem zAV_95 : zAV Tryd.prog 9 95 = .raw (.nilFunc) := by kernel_rfl
@[simp] theorem zeroIs_95 : zeroIs Tryd.prog 95 (.raw (.nilFunc)) := ⟨.nilFunc, by kernel_rfl, .inl ⟨rfl, rfl⟩⟩
@[simp] theorem tyI_96 : tyI Tryd.prog 96 = some (4, true) := by kernel_rfl
@[simp] theorem isSl_96 : isSl Tryd.prog 96 = false := by kernel_rfl
@[simp] theorem isStr_96 : isStr Tryd.prog 96 = false := by kernel_rfl
@[simp] theorem isBool_96 : isBool Tryd.prog 96 = false := by kernel_rfl
@[simp] theorem isPtr_96 : isPtr Tryd.prog 96 = false := by kernel_rfl
@[simp] theorem isIf_96 : isIf Tryd.prog 96 = false := by kernel_rfl
@[simp] theorem isIface_96 : isIface Tryd.prog 96 = false := by kernel_rfl
@[simp] theorem isArr_96 : isArr Tryd.prog 96 = false := by kernel_rfl
@[simp] theorem plainT_96 : plainT Tryd.prog 96 = false := by kernel_rfl
@[simp] theorem fldI_96_0 : fldI Tryd.prog 96 0 = some (0, 1, false) := by kernel_rfl
@[simp] theorem fldI_96_1 : fldI Tryd.prog 96 1 = some (1, 1, false) := by kernel_rfl
@[simp] theorem fldI_96_2 : fldI Tryd.prog 96 2 = some (2, 1, false) := by kernel_rfl
@[simp] theorem fldI_96_3 : fldI Tryd.prog 96 3 = some (3, 1, false) := by kernel_rfl
@[simp] theorem zAV_96 : zAV Tryd.prog 9 96 = .agg [.raw (.pointer none), .raw (.pointer none), .raw (.pointer none), .raw (.string ⟨#[]⟩)] := by kernel_rfl
@[simp] theorem zeroIs_96 : zeroIs Tryd.prog 96 (.agg [.raw (.pointer none), .raw (.pointer none), .raw (.pointer none), .raw (.string ⟨#[]⟩)]) := ⟨.agg #[.pointer none, .pointer none, .pointer none, .string ⟨#[]⟩], by kernel_rfl, .inr ⟨_, _, rfl, rfl, by kernel_rfl⟩⟩
@[simp] theorem layIs_96 : layIs Tryd.prog 96 [.raw (.pointer none), .raw (.pointer none), .raw (.pointer none), .raw (.string ⟨#[]⟩)] := layIs_of (by kernel_rfl)
@[simp] theorem tyI_97 : tyI Tryd.prog 97 = some (4, true) := by kernel_rfl
@[simp] theorem isSl_97 : isSl Tryd.prog 97 = false := by kernel_rfl
@[simp] theorem isStr_97 : isStr Tryd.prog 97 = false := by kernel_rfl
@[simp] theorem isBool_97 : isBool Tryd.prog 97 = false := by kernel_rfl
@[simp] theorem isPtr_97 : isPtr Tryd.prog 97 = false := by kernel_rfl
@[simp] theorem isIf_97 : isIf Tryd.prog 97 = false := by kernel_rfl
@[simp] theorem isIface_97 : isIface Tryd.prog 97 = false := by kernel_rfl
@[simp] theorem isArr_97 : isArr Tryd.prog 97 = false := by kernel_rfl
@[simp] theorem plainT_97 : plainT Tryd.prog 97 = false := by kernel_rfl
@[simp] theorem fldI_97_0 : fldI Tryd.prog 97 0 = some (0, 1, false) := by kernel_rfl
@[simp] theorem fldI_97_1 : fldI Tryd.prog 97 1 = some (1, 1, false) := by kernel_rfl
@[simp] theorem fldI_97_2 : fldI Tryd.prog 97 2 = some (2, 1, false) := by kernel_rfl
@[simp] theorem fldI_97_3 : fldI Tryd.prog 97 3 = some (3, 1, false) := by kernel_rfl
@[simp] theorem zAV_97 : zAV Tryd.prog 9 97 = .agg [.raw (.pointer none), .raw (.pointer none), .raw (.pointer none), .raw (.string ⟨#[]⟩)] := by kernel_rfl
@[simp] theorem zeroIs_97 : zeroIs Tryd.prog 97 (.agg [.raw (.pointer none), .raw (.pointer none), .raw (.pointer none), .raw (.string ⟨#[]⟩)]) := ⟨.agg #[.pointer none, .pointer none, .pointer none, .string ⟨#[]⟩], by kernel_rfl, .inr ⟨_, _, rfl, rfl, by kernel_rfl⟩⟩
@[simp] theorem layIs_97 : layIs Tryd.prog 97 [.raw (.pointer none), .raw (.pointer none), .raw (.pointer none), .raw (.string ⟨#[]⟩)] := layIs_of (by kernel_rfl)
@[simp] theorem tyI_98 : tyI Tryd.prog 98 = some (0, true) := by kernel_rfl
@[simp] theorem isSl_98 : isSl Tryd.prog 98 = false := by kernel_rfl
@[simp] theorem isStr_98 : isStr Tryd.prog 98 = false := by kernel_rfl
@[simp] theorem isBool_98 : isBool Tryd.prog 98 = false := by kernel_rfl
@[simp] theorem isPtr_98 : isPtr Tryd.prog 98 = false := by kernel_rfl
@[simp] theorem isIf_98 : isIf Tryd.prog 98 = false := by kernel_rfl
@[simp] theorem isIface_98 : isIface Tryd.prog 98 = false := by kernel_rfl
@[simp] theorem isArr_98 : isArr Tryd.prog 98 = true := by kernel_rfl
@[simp] theorem plainT_98 : plainT Tryd.prog 98 = true := by kernel_rfl
@[simp] theorem zAV_98 : zAV Tryd.prog 9 98 = .agg [] := by kernel_rfl
@[simp] theorem zeroIs_98 : zeroIs Tryd.prog 98 (.agg []) := ⟨.agg #[], by kernel_rfl, .inr ⟨_, _, rfl, rfl, by kernel_rfl⟩⟩
@[simp] theorem tyI_99 : tyI Tryd.prog 99 = some (0, true) := by kernel_rfl
@[simp] theorem isSl_99 : isSl Tryd.prog 99 = false := by kernel_rfl
@[simp] theorem isStr_99 : isStr Tryd.prog 99 = false := by kernel_rfl
@[simp] theorem isBool_99 : isBool Tryd.prog 99 = false := by kernel_rfl
@[simp] theorem isPtr_99 : isPtr Tryd.prog 99 = false := by kernel_rfl
@[simp] theorem isIf_99 : isIf Tryd.prog 99 = false := by kernel_rfl
@[simp] theorem isIface_99 : isIface Tryd.prog 99 = false := by kernel_rfl
@[simp] theorem isArr_99 : isArr Tryd.prog 99 = false := by kernel_rfl
@[simp] theorem plainT_99 : plainT Tryd.prog 99 = true := by kernel_rfl
@[simp] theorem zAV_99 : zAV Tryd.prog 9 99 = .agg [.agg []] := by kernel_rfl
@[simp] theorem zeroIs_99 : zeroIs Tryd.prog 99 (.agg [.agg []]) := ⟨.agg #[], by kernel_rfl, .inr ⟨_, _, rfl, rfl, by kernel_rfl⟩⟩
@[simp] theorem layIs_99 : layIs Tryd.prog 99 [.agg []] := layIs_of (by kernel_rfl)
@[simp] theorem tyI_100 : tyI Tryd.prog 100 = some (0, true) := by kernel_rfl
@[simp] theorem isSl_100 : isSl Tryd.prog 100 = false := by kernel_rfl
@[simp] theorem isStr_100 : isStr Tryd.prog 100 = false := by kernel_rfl
@[simp] theorem isBool_100 : isBool Tryd.prog 100 = false := by kernel_rfl
@[simp] theorem isPtr_100 : isPtr Tryd.prog 100 = false := by kernel_rfl
@[simp] theorem isIf_100 : isIf Tryd.prog 100 = false := by kernel_rfl
@[simp] theorem isIface_100 : isIface Tryd.prog 100 = false := by kernel_rfl
@[simp] theorem isArr_100 : isArr Tryd.prog 100 = false := by kernel_rfl
@[simp] theorem plainT_100 : plainT Tryd.prog 100 = true := by kernel_rfl
@[simp] theorem zAV_100 : zAV Tryd.prog 9 100 = .agg [.agg []] := by kernel_rfl
@[simp] theorem zeroIs_100 : zeroIs Tryd.prog 100 (.agg [.agg []]) := ⟨.agg #[], by kernel_rfl, .inr ⟨_, _, rfl, rfl, by kernel_rfl⟩⟩
@[simp] theorem layIs_100 : layIs Tryd.prog 100 [.agg []] := layIs_of (by kernel_rfl)
@[simp] theorem tyI_101 : tyI Tryd.prog 101 = some (1, false) := by kernel_rfl
@[simp] theorem isSl_101 : isSl Tryd.prog 101 = false := by kernel_rfl
@[simp] theorem isStr_101 : isStr Tryd.prog 101 = false := by kernel_rfl
@[simp] theorem isBool_101 : isBool Tryd.prog 101 = false := by kernel_rfl
@[simp] theorem isPtr_101 : isPtr Tryd.prog 101 = false := by kernel_rfl
@[simp] theorem isIf_101 : isIf Tryd.prog 101 = false := by kernel_rfl
@[simp] theorem isIface_101 : isIface Tryd.prog 101 = false := by kernel_rfl
@[simp] theorem isArr_101 : isArr Tryd.prog 101 = false := by kernel_rfl
@[simp] theorem plainT_101 : plainT Tryd.prog 101 = false := by kernel_rfl
@[simp] theorem zAV_101 : zAV Tryd.prog 9 101 = .raw (.nilFunc) := by kernel_rfl
@[simp] theorem zeroIs_101 : zeroIs Tryd.prog 101 (.raw (.nilFunc)) := ⟨.nilFunc, by kernel_rfl, .inl ⟨rfl, rfl⟩⟩
@[simp] theorem tyI_102 : tyI Tryd.prog 102 = some (1, false) := by kernel_rfl
@[simp] theorem isSl_102 : isSl Tryd.prog 102 = false := by kernel_rfl
@[simp] theorem isStr_102 : isStr Tryd.prog 102 = false := by kernel_rfl
@[simp] theorem isBool_102 : isBool Tryd.prog 102 = false := by kernel_rfl
@[simp] theorem isPtr_102 : isPtr Tryd.prog 102 = false := by kernel_rfl
@[simp] theorem isIf_102 : isIf Tryd.prog 102 = false := by kernel_rfl
@[simp] theorem isIface_102 : isIface Tryd.prog 102 = false := by kernel_rfl
@[simp] theorem isArr_102 : isArr Tryd.prog 102 = false := by kernel_rfl
@[simp] theorem plainT_102 : plainT Tryd.prog 102 = false := by kernel_rfl
@[simp] theorem zAV_102 : zAV Tryd.prog 9 102 = .raw (.nilFunc) := by kernel_rfl
@[simp] theorem zeroIs_102 : zeroIs Tryd.prog 102 (.raw (.nilFunc)) := ⟨.nilFunc, by kernel_rfl, .inl ⟨rfl, rfl⟩⟩
@[simp] theorem tyI_103 : tyI Tryd.prog 103 = some (1, false) := by kernel_rfl
@[simp] theorem isSl_103 : isSl Tryd.prog 103 = false := by kernel_rfl
@[simp] theorem isStr_103 : isStr Tryd.prog 103 = false := by kernel_rfl
@[simp] theorem isBool_103 : isBool Tryd.prog 103 = false := by kernel_rfl
@[simp] theorem isPtr_103 : isPtr Tryd.prog 103 = false := by kernel_rfl
@[simp] theorem isIf_103 : isIf Tryd.prog 103 = false := by kernel_rfl
@[simp] theorem isIface_103 : isIface Tryd.prog 103 = false := by kernel_rfl
@[simp] theorem isArr_103 : isArr Tryd.prog 103 = false := by kernel_rfl
@[simp] theorem plainT_103 : plainT Tryd.prog 103 = true := by kernel_rfl
@[simp] theorem und_103 : Tryd.prog.underlying 103 = some (.int .u32) := by kernel_rfl
@[simp] theorem zAV_103 : zAV Tryd.prog 9 103 = .raw (.int .u32 0) := by kernel_rfl
@[simp] theorem zeroIs_103 : zeroIs Tryd.prog 103 (.raw (.int .u32 0)) := ⟨.int .u32 0, by kernel_rfl, .inl ⟨rfl, rfl⟩⟩
@[simp] theorem tyI_104 : tyI Tryd.prog 104 = some (1, false) := by kernel_rfl
@[simp] theorem isSl_104 : isSl Tryd.prog 104 = false := by kernel_rfl
@[simp] theorem isStr_104 : isStr Tryd.prog 104 = false := by kernel_rfl
@[simp] theorem isBool_104 : isBool Tryd.prog 104 = false := by kernel_rfl
@[simp] theorem isPtr_104 : isPtr Tryd.prog 104 = false := by kernel_rfl
@[simp] theorem isIf_104 : isIf Tryd.prog 104 = false := by kernel_rfl
@[simp] theorem isIface_104 : isIface Tryd.prog 104 = false := by kernel_rfl
@[simp] theorem isArr_104 : isArr Tryd.prog 104 = false := by kernel_rfl
@[simp] theorem plainT_104 : plainT Tryd.prog 104 = true := by kernel_rfl
@[simp] theorem und_104 : Tryd.prog.underlying 104 = some (.int .u8) := by kernel_rfl
@[simp] theorem zAV_104 : zAV Tryd.prog 9 104 = .raw (.int .u8 0) := by kernel_rfl
@[simp] theorem zeroIs_104 : zeroIs Tryd.prog 104 (.raw (.int .u8 0)) := ⟨.int .u8 0, by kernel_rfl, .inl ⟨rfl, rfl⟩⟩
@[simp] theorem tyI_105 : tyI Tryd.prog 105 = some (1, false) := by kernel_rfl
@[simp] theorem isSl_105 : isSl Tryd.prog 105 = false := by kernel_rfl
@[simp] theorem isStr_105 : isStr Tryd.prog 105 = false := by kernel_rfl
@[simp] theorem isBool_105 : isBool Tryd.prog 105 = false := by kernel_rfl
@[simp] theorem isPtr_105 : isPtr Tryd.prog 105 = false := by kernel_rfl
@[simp] theorem isIf_105 : isIf Tryd.prog 105 = false := by kernel_rfl
@[simp] theorem isIface_105 : isIface Tryd.prog 105 = false := by kernel_rfl
@[simp] theorem isArr_105 : isArr Tryd.prog 105 = false := by kernel_rfl
@[simp] theorem plainT_105 : plainT Tryd.prog 105 = false := by kernel_rfl
@[simp] theorem zAV_105 : zAV Tryd.prog 9 105 = .raw (.nilFunc) := by kernel_rfl
@[simp] theorem zeroIs_105 : zeroIs Tryd.prog 105 (.raw (.nilFunc)) := ⟨.nilFunc, by kernel_rfl, .inl ⟨rfl, rfl⟩⟩
@[simp] theorem tyI_106 : tyI Tryd.prog 106 = some (1, false) := by kernel_rfl
@[simp] theorem isSl_106 : isSl Tryd.prog 106 = false := by kernel_rfl
@[simp] theorem isStr_106 : isStr Tryd.prog 106 = false := by kernel_rfl
@[simp] theorem isBool_106 : isBool Tryd.prog 106 = false := by kernel_rfl
@[simp] theorem isPtr_106 : isPtr Tryd.prog 106 = true := by kernel_rfl
@[simp] theorem isIf_106 : isIf Tryd.prog 106 = false := by kernel_rfl
@[simp] theorem isIface_106 : isIface Tryd.prog 106 = false := by kernel_rfl
@[simp] theorem isArr_106 : isArr Tryd.prog 106 = false := by kernel_rfl
@[simp] theorem plainT_106 : plainT Tryd.prog 106 = false := by kernel_rfl
@[simp] theorem zAV_106 : zAV Tryd.prog 9 106 = .raw (.pointer none) := by kernel_rfl
@[simp] theorem zeroIs_106 : zeroIs Tryd.prog 106 (.raw (.pointer none)) := ⟨.pointer none, by kernel_rfl, .inl ⟨rfl, rfl⟩⟩
@[simp] theorem tyI_107 : tyI Tryd.prog 107 = some (1, false) := by kernel_rfl
@[simp] theorem isSl_107 : isSl Tryd.prog 107 = false := by kernel_rfl
@[simp] theorem isStr_107 : isStr Tryd.prog 107 = false := by kernel_rfl
@[simp] theorem isBool_107 : isBool Tryd.prog 107 = false := by kernel_rfl
@[simp] theorem isPtr_107 : isPtr Tryd.prog 107 = false := by kernel_rfl
@[simp] theorem isIf_107 : isIf Tryd.prog 107 = false := by kernel_rfl
@[simp] theorem isIface_107 : isIface Tryd.prog 107 = false := by kernel_rfl
@[simp] theorem isArr_107 : isArr Tryd.prog 107 = false := by kernel_rfl
@[simp] theorem plainT_107 : plainT Tryd.prog 107 = true := by kernel_rfl
@[simp] theorem und_107 : Tryd.prog.underlying 107 = some (.int .i32) := by kernel_rfl
@[simp] theorem zAV_107 : zAV Tryd.prog 9 107 = .raw (.int .i32 0) := by kernel_rfl
@[simp] theorem zeroIs_107 : zeroIs Tryd.prog 107 (.raw (.int .i32 0)) := ⟨.int .i32 0, by kernel_rfl, .inl ⟨rfl, rfl⟩⟩
@[simp] theorem tyI_108 : tyI Tryd.prog 108 = some (1, false) := by kernel_rfl
@[simp] theorem isSl_108 : isSl Tryd.prog 108 = false := by kernel_rfl
@[simp] theorem isStr_108 : isStr Tryd.prog 108 = false := by kernel_rfl
@[simp] theorem isBool_108 : isBool Tryd.prog 108 = false := by kernel_rfl
@[simp] theorem isPtr_108 : isPtr Tryd.prog 108 = false := by kernel_rfl
@[simp] theorem isIf_108 : isIf Tryd.prog 108 = false := by kernel_rfl
@[simp] theorem isIface_108 : isIface Tryd.prog 108 = false := by kernel_rfl
@[simp] theorem isArr_108 : isArr Tryd.prog 108 = false := by kernel_rfl
@[simp] theorem plainT_108 : plainT Tryd.prog 108 = true := by kernel_rfl
@[simp] theorem und_108 : Tryd.prog.underlying 108 = some (.int .i32) := by kernel_rfl
@[simp] theorem zAV_108 : zAV Tryd.prog 9 108 = .raw (.int .i32 0) := by kernel_rfl
@[simp] theorem zeroIs_108 : zeroIs Tryd.prog 108 (.raw (.int .i32 0)) := ⟨.int .i32 0, by kernel_rfl, .inl ⟨rfl, rfl⟩⟩
@[simp] theorem tyI_109 : tyI Tryd.prog 109 = some (11, true) := by kernel_rfl
@[simp] theorem isSl_109 : isSl Tryd.prog 109 = false := by kernel_rfl
@[simp] theorem isStr_109 : isStr Tryd.prog 109 = false := by kernel_rfl
@[simp] theorem isBool_109 : isBool Tryd.prog 109 = false := by kernel_rfl
@[simp] theorem isPtr_109 : isPtr Tryd.prog 109 = false := by kernel_rfl
@[simp] theorem isIf_109 : isIf Tryd.prog 109 = false := by kernel_rfl
@[simp] theorem isIface_109 : isIface Tryd.prog 109 = false := by kernel_rfl
@[simp] theorem isArr_109 : isArr Tryd.prog 109 = false := by kernel_rfl
@[simp] theorem plainT_109 : plainT Tryd.prog 109 = false := by kernel_rfl
@[simp] theorem fldI_109_0 : fldI Tryd.prog 109 0 = some (0, 1, false) := by kernel_rfl
@[simp] theorem fldI_109_1 : fldI Tryd.prog 109 1 = some (1, 1, false) := by kernel_rfl
@[simp] theorem fldI_109_2 : fldI Tryd.prog 109 2 = some (2, 1, false) := by kernel_rfl
@[simp] theorem fldI_109_3 : fldI Tryd.prog 109 3 = some (3, 1, false) := by kernel_rfl
@[simp] theorem fldI_109_4 : fldI Tryd.prog 109 4 = some (4, 1, false) := by kernel_rfl
@[simp] theorem fldI_109_5 : fldI Tryd.prog 109 5 = some (5, 1, false) := by kernel_rfl
@[simp] theorem fldI_109_6 : fldI Tryd.prog 109 6 = some (6, 1, false) := by kernel_rfl
@[simp] theorem fldI_109_7 : fldI Tryd.prog 109 7 = some (7, 1, false) := by kernel_rfl
@[simp] theorem fldI_109_8 : fldI Tryd.prog 109 8 = some (8, 1, false) := by kernel_rfl
@[simp] theorem fldI_109_9 : fldI Tryd.prog 109 9 = some (9, 1, false) := by kernel_rfl
@[simp] theorem fldI_109_10 : fldI Tryd.prog 109 10 = some (10, 1, false) := by kernel_rfl
@[simp] theorem zAV_109 : zAV Tryd.prog 9 109 = .agg [.raw (.int .u64 0), .raw (.int .u64 0), .raw (.int .u32 0), .raw (.int .u8 0), .raw (.int .u8 0), .raw (.int .u8 0), .raw (.int .u8 0), .raw (.nilFunc), .raw (.pointer none), .raw (.int .i32 0), .raw (.int .i32 0)] := by kernel_rfl
@[simp] theorem zeroIs_109 : zeroIs Tryd.prog 109 (.agg [.raw (.int .u64 0), .raw (.int .u64 0), .raw (.int .u32 0), .raw (.int .u8 0), .raw (.int .u8 0), .raw (.int .u8 0), .raw (.int .u8 0), .raw (.nilFunc), .raw (.pointer none), .raw (.int .i32 0), .raw (.int .i32 0)]) := ⟨.agg #[.int .u64 0, .int .u64 0, .int .u32 0, .int .u8 0, .int .u8 0, .int .u8 0, .int .u8 0, .nilFunc, .pointer none, .int .i32 0, .int .i32 0], by kernel_rfl, .inr ⟨_, _, rfl, rfl, by kernel_rfl⟩⟩
@[simp] theorem layIs_109 : layIs Tryd.prog 109 [.raw (.int .u64 0), .raw (.int .u64 0), .raw (.int .u32 0), .raw (.int .u8 0), .raw (.int .u8 0), .raw (.int .u8 0), .raw (.int .u8 0), .raw (.nilFunc), .raw (.pointer none), .raw (.int .i32 0), .raw (.int .i32 0)] := layIs_of (by kernel_rfl)
@[simp] theorem tyI_110 : tyI Tryd.prog 110 = some (11, true) := by kernel_rfl
@[simp] theorem isSl_110 : isSl Tryd.prog 110 = false := by kernel_rfl
@[simp] theorem isStr_110 : isStr Tryd.prog 110 = false := by kernel_rfl
@[simp] theorem isBool_110 : isBool Tryd.prog 110 = false := by kernel_rfl
@[simp] theorem isPtr_110 : isPtr Tryd.prog 110 = false := by kernel_rfl
@[simp] theorem isIf_110 : isIf Tryd.prog 110 = false := by kernel_rfl
@[simp] theorem isIface_110 : isIface Tryd.prog 110 = false := by kernel_rfl
@[simp] theorem isArr_110 : isArr Tryd.prog 110 = false := by kernel_rfl
@[simp] theorem plainT_110 : plainT Tryd.prog 110 = false := by kernel_rfl
@[simp] theorem fldI_110_0 : fldI Tryd.prog 110 0 = some (0, 1, false) := by kernel_rfl
@[simp] theorem fldI_110_1 : fldI Tryd.prog 110 1 = some (1, 1, false) := by kernel_rfl
@[simp] theorem fldI_110_2 : fldI Tryd.prog 110 2 = some (2, 1, false) := by kernel_rfl
@[simp] theorem fldI_110_3 : fldI Tryd.prog 110 3 = some (3, 1, false) := by kernel_rfl
@[simp] theorem fldI_110_4 : fldI Tryd.prog 110 4 = some (4, 1, false) := by kernel_rfl
@[simp] theorem fldI_110_5 : fldI Tryd.prog 110 5 = some (5, 1, false) := by kernel_rfl
@[simp] theorem fldI_110_6 : fldI Tryd.prog 110 6 = some (6, 1, false) := by kernel_rfl
@[simp] theorem fldI_110_7 : fldI Tryd.prog 110 7 = some (7, 1, false) := by kernel_rfl
@[simp] theorem fldI_110_8 : fldI Tryd.prog 110 8 = some (8, 1, false) := by kernel_rfl
@[simp] theorem fldI_110_9 : fldI Tryd.prog 110 9 = some (9, 1, false) := by kernel_rfl
@[simp] theorem fldI_110_10 : fldI Tryd.prog 110 10 = some (10, 1, false) := by kernel_rfl
@[simp] theorem zAV_110 : zAV Tryd.prog 9 110 = .agg [.raw (.int .u64 0), .raw (.int .u64 0), .raw (.int .u32 0), .raw (.int .u8 0), .raw (.int .u8 0), .raw (.int .u8 0), .raw (.int .u8 0), .raw (.nilFunc), .raw (.pointer none), .raw (.int .i32 0), .raw (.int .i32 0)] := by kernel_rfl
@[simp] theorem zeroIs_110 : zeroIs Tryd.prog 110 (.agg [.raw (.int .u64 0), .raw (.int .u64 0), .raw (.int .u32 0), .raw (.int .u8 0), .raw (.int .u8 0), .raw (.int .u8 0), .raw (.int .u8 0), .raw (.nilFunc), .raw (.pointer none), .raw (.int .i32 0), .raw (.int .i32 0)]) := ⟨.agg #[.int .u64 0, .int .u64 0, .int .u32 0, .int .u8 0, .int .u8 0, .int .u8 0, .int .u8 0, .nilFunc, .pointer none, .int .i32 0, .int .i32 0], by kernel_rfl, .inr ⟨_, _, rfl, rfl, by kernel_rfl⟩⟩
@[simp] theorem layIs_110 : layIs Tryd.prog 110 [.raw (.int .u64 0), .raw (.int .u64 0), .raw (.int .u32 0), .raw (.int .u8 0), .raw (.int .u8 0), .raw (.int .u8 0), .raw (.int .u8 0), .raw (.nilFunc), .raw (.pointer none), .raw (.int .i32 0), .raw (.int .i32 0)] := layIs_of (by kernel_rfl)
@[simp] theorem tyI_111 : tyI Tryd.prog 111 = some (1, false) := by kernel_rfl
@[simp] theorem isSl_111 : isSl Tryd.prog 111 = false := by kernel_rfl
@[simp] theorem isStr_111 : isStr Tryd.prog 111 = false := by kernel_rfl
@[simp] theorem isBool_111 : isBool Tryd.prog 111 = false := by kernel_rfl
@[simp] theorem isPtr_111 : isPtr Tryd.prog 111 = false := by kernel_rfl
@[simp] theorem isIf_111 : isIf Tryd.prog 111 = false := by kernel_rfl
@[simp] theorem isIface_111 : isIface Tryd.prog 111 = false := by kernel_rfl
@[simp] theorem isArr_111 : isArr Tryd.prog 111 = false := by kernel_rfl
@[simp] theorem plainT_111 : plainT Tryd.prog 111 = false := by kernel_rfl
@[simp] theorem zAV_111 : zAV Tryd.prog 9 111 = .raw (.nilFunc) := by kernel_rfl
@[simp] theorem zeroIs_111 : zeroIs Tryd.prog 111 (.raw (.nilFunc)) := ⟨.nilFunc, by kernel_rfl, .inl ⟨rfl, rfl⟩⟩
@[simp] theorem tyI_112 : tyI Tryd.prog 112 = some (1, false) := by kernel_rfl
@[simp] theorem isSl_112 : isSl Tryd.prog 112 = false := by kernel_rfl
@[simp] theorem isStr_112 : isStr Tryd.prog 112 = false := by kernel_rfl
@[simp] theorem isBool_112 : isBool Tryd.prog 112 = false := by kernel_rfl
@[simp] theorem isPtr_112 : isPtr Tryd.prog 112 = false := by kernel_rfl
@[simp] theorem isIf_112 : isIf Tryd.prog 112 = false := by kernel_rfl
@[simp] theorem isIface_112 : isIface Tryd.prog 112 = false := by kernel_rfl
@[simp] theorem isArr_112 : isArr Tryd.prog 112 = false := by kernel_rfl
@[simp] theorem plainT_112 : plainT Tryd.prog 112 = false := by kernel_rfl
@[simp] theorem zAV_112 : zAV Tryd.prog 9 112 = .raw (.nilFunc) := by kernel_rfl
@[simp] theorem zeroIs_112 : zeroIs Tryd.prog 112 (.raw (.nilFunc)) := ⟨.nilFunc, by kernel_rfl, .inl ⟨rfl, rfl⟩⟩
@[simp] theorem tyI_113 : tyI Tryd.prog 113 = some (2, true) := by kernel_rfl
@[simp] theorem isSl_113 : isSl Tryd.prog 113 = false := by kernel_rfl
@[simp] theorem isStr_113 : isStr Tryd.prog 113 = false := by kernel_rfl
@[simp] theorem isBool_113 : isBool Tryd.prog 113 = false := by kernel_rfl
@[simp] theorem isPtr_113 : isPtr Tryd.prog 113 = false := by kernel_rfl
@[simp] theorem isIf_113 : isIf Tryd.prog 113 = false := by kernel_rfl
@[simp] theorem isIface_113 : isIface Tryd.prog 113 = false := by kernel_rfl
@[simp] theorem isArr_113 : isArr Tryd.prog 113 = false := by kernel_rfl
@[simp] theorem plainT_113 : plainT Tryd.prog 113 = true := by kernel_rfl
@[simp] theorem fldI_113_0 : fldI Tryd.prog 113 0 = some (0, 1, false) := by kernel_rfl
@[simp] theorem fldI_113_1 : fldI Tryd.prog 113 1 = some (1, 1, false) := by kernel_rfl
@[simp] theorem zAV_113 : zAV Tryd.prog 9 113 = .agg [.raw (.string ⟨#[]⟩), .raw (.int .u8 0)] := by kernel_rfl
@[simp] theorem zeroIs_113 : zeroIs Tryd.prog 113 (.agg [.raw (.string ⟨#[]⟩), .raw (.int .u8 0)]) := ⟨.agg #[.string ⟨#[]⟩, .int .u8 0], by kernel_rfl, .inr ⟨_, _, rfl, rfl, by kernel_rfl⟩⟩
@[simp] theorem layIs_113 : layIs Tryd.prog 113 [.raw (.string ⟨#[]⟩), .raw (.int .u8 0)] := layIs_of (by kernel_rfl)
@[simp] theorem tyI_114 : tyI Tryd.prog 114 = some (2, true) := by kernel_rfl
@[simp] theorem isSl_114 : isSl Tryd.prog 114 = false := by kernel_rfl
@[simp] theorem isStr_114 : isStr Tryd.prog 114 = false := by kernel_rfl
@[simp] theorem isBool_114 : isBool Tryd.prog 114 = false := by kernel_rfl
@[simp] theorem isPtr_114 : isPtr Tryd.prog 114 = false := by kernel_rfl
@[simp] theorem isIf_114 : isIf Tryd.prog 114 = false := by kernel_rfl
@[simp] theorem isIface_114 : isIface Tryd.prog 114 = false := by kernel_rfl
@[simp] theorem isArr_114 : isArr Tryd.prog 114 = false := by kernel_rfl
@[simp] theorem plainT_114 : plainT Tryd.prog 114 = true := by kernel_rfl
@[simp] theorem fldI_114_0 : fldI Tryd.prog 114 0 = some (0, 1, false) := by kernel_rfl
@[simp] theorem fldI_114_1 : fldI Tryd.prog 114 1 = some (1, 1, false) := by kernel_rfl
@[simp] theorem zAV_114 : zAV Tryd.prog 9 114 = .agg [.raw (.string ⟨#[]⟩), .raw (.int .u8 0)] := by kernel_rfl
@[simp] theorem zeroIs_114 : zeroIs Tryd.prog 114 (.agg [.raw (.string ⟨#[]⟩), .raw (.int .u8 0)]) := ⟨.agg #[.string ⟨#[]⟩, .int .u8 0], by kernel_rfl, .inr ⟨_, _, rfl, rfl, by kernel_rfl⟩⟩
@[simp] theorem layIs_114 : layIs Tryd.prog 114 [.raw (.string ⟨#[]⟩), .raw (.int .u8 0)] := layIs_of (by kernel_rfl)
@[simp] theorem tyI_115 : tyI Tryd.prog 115 = some (1, false) := by kernel_rfl
@[simp] theorem isSl_115 : isSl Tryd.prog 115 = false := by kernel_rfl
@[simp] theorem isStr_115 : isStr Tryd.prog 115 = false := by kernel_rfl
@[simp] theorem isBool_115 : isBool Tryd.prog 115 = false := by kernel_rfl
@[simp] theorem isPtr_115 : isPtr Tryd.prog 115 = true := by kernel_rfl
@[simp] theorem isIf_115 : isIf Tryd.prog 115 = false := by kernel_rfl
@[simp] theorem isIface_115 : isIface Tryd.prog 115 = false := by kernel_rfl
@[simp] theorem isArr_115 : isArr Tryd.prog 115 = false := by kernel_rfl
@[simp] theorem plainT_115 : plainT Tryd.prog 115 = false := by kernel_rfl
@[simp] theorem zAV_115 : zAV Tryd.prog 9 115 = .raw (.pointer none) := by kernel_rfl
@[simp] theorem zeroIs_115 : zeroIs Tryd.prog 115 (.raw (.pointer none)) := ⟨.pointer none, by kernel_rfl, .inl ⟨rfl, rfl⟩⟩
@[simp] theorem tyI_116 : tyI Tryd.prog 116 = some (1, false) := by kernel_rfl
@[simp] theorem isSl_116 : isSl Tryd.prog 116 = false := by kernel_rfl
@[simp] theorem isStr_116 : isStr Tryd.prog 116 = false := by kernel_rfl
@[simp] theorem isBool_116 : isBool Tryd.prog 116 = false := by kernel_rfl
@[simp] theorem isPtr_116 : isPtr Tryd.prog 116 = false := by kernel_rfl
@[simp] theorem isIf_116 : isIf Tryd.prog 116 = false := by kernel_rfl
@[simp] theorem isIface_116 : isIface Tryd.prog 116 = false := by kernel_rfl
@[simp] theorem isArr_116 : isArr Tryd.prog 116 = false := by kernel_rfl
@[simp] theorem plainT_116 : plainT Tryd.prog 116 = false := by kernel_rfl
@[simp] theorem zAV_116 : zAV Tryd.prog 9 116 = .raw (.nilFunc) := by kernel_rfl
@[simp] theorem zeroIs_116 : zeroIs Tryd.prog 116 (.raw (.nilFunc)) := ⟨.nilFunc, by kernel_rfl, .inl ⟨rfl, rfl⟩⟩
@[simp] theorem tyI_117 : tyI Tryd.prog 117 = some (1, false) := by kernel_rfl
@[simp] theorem isSl_117 : isSl Tryd.prog 117 = false := by kernel_rfl
@[simp] theorem isStr_117 : isStr Tryd.prog 117 = false := by kernel_rfl
@[simp] theorem isBool_117 : isBool Tryd.prog 117 = false := by kernel_rfl
@[simp] theorem isPtr_117 : isPtr Tryd.prog 117 = false := by kernel_rfl
@[simp] theorem isIf_117 : isIf Tryd.prog 117 = false := by kernel_rfl
@[simp] theorem isIface_117 : isIface Tryd.prog 117 = false := by kernel_rfl
@[simp] theorem isArr_117 : isArr Tryd.prog 117 = false := by kernel_rfl
@[simp] theorem plainT_117 : plainT Tryd.prog 117 = true := by kernel_rfl
@[simp] theorem und_117 : Tryd.prog.underlying 117 = some (.int .u16) := by kernel_rfl
@[simp] theorem zAV_117 : zAV Tryd.prog 9 117 = .raw (.int .u16 0) := by kernel_rfl
@[simp] theorem zeroIs_117 : zeroIs Tryd.prog 117 (.raw (.int .u16 0)) := ⟨.int .u16 0, by kernel_rfl, .inl ⟨rfl, rfl⟩⟩
@[simp] theorem tyI_118 : tyI Tryd.prog 118 = some (5, true) := by kernel_rfl
@[simp] theorem isSl_118 : isSl Tryd.prog 118 = false := by kernel_rfl
@[simp] theorem isStr_118 : isStr Tryd.prog 118 = false := by kernel_rfl
@[simp] theorem isBool_118 : isBool Tryd.prog 118 = false := by kernel_rfl
@[simp] theorem isPtr_118 : isPtr Tryd.prog 118 = false := by kernel_rfl
@[simp] theorem isIf_118 : isIf Tryd.prog 118 = false := by kernel_rfl
@[simp] theorem isIface_118 : isIface Tryd.prog 118 = false := by kernel_rfl
@[simp] theorem isArr_118 : isArr Tryd.prog 118 = false := by kernel_rfl
@[simp] theorem plainT_118 : plainT Tryd.prog 118 = true := by kernel_rfl
@[simp] theorem fldI_118_0 : fldI Tryd.prog 118 0 = some (0, 1, false) := by kernel_rfl
@[simp] theorem fldI_118_1 : fldI Tryd.prog 118 1 = some (1, 1, false) := by kernel_rfl
@[simp] theorem fldI_118_2 : fldI Tryd.prog 118 2 = some (2, 1, false) := by kernel_rfl
@[simp] theorem fldI_118_3 : fldI Tryd.prog 118 3 = some (3, 1, false) := by kernel_rfl
@[simp] theorem fldI_118_4 : fldI Tryd.prog 118 4 = some (4, 1, false) := by kernel_rfl
@[simp] theorem zAV_118 : zAV Tryd.prog 9 118 = .agg [.raw (.int .i32 0), .raw (.int .u16 0), .raw (.int .u16 0), .raw (.int .u32 0), .raw (.int .u32 0)] := by kernel_rfl
@[simp] theorem zeroIs_118 : zeroIs Tryd.prog 118 (.agg [.raw (.int .i32 0), .raw (.int .u16 0), .raw (.int .u16 0), .raw (.int .u32 0), .raw (.int .u32 0)]) := ⟨.agg #[.int .i32 0, .int .u16 0, .int .u16 0, .int .u32 0, .int .u32 0], by kernel_rfl, .inr ⟨_, _, rfl, rfl, by kernel_rfl⟩⟩
@[simp] theorem layIs_118 : layIs Tryd.prog 118 [.raw (.int .i32 0), .raw (.int .u16 0), .raw (.int .u16 0), .raw (.int .u32 0), .raw (.int .u32 0)] := layIs_of (by kernel_rfl)
@[simp] theorem tyI_119 : tyI Tryd.prog 119 = some (5, true) := by kernel_rfl
@[simp] theorem isSl_119 : isSl Tryd.prog 119 = false := by kernel_rfl
@[simp] theorem isStr_119 : isStr Tryd.prog 119 = false := by kernel_rfl
@[simp] theorem isBool_119 : isBool Tryd.prog 119 = false := by kernel_rfl
@[simp] theorem isPtr_119 : isPtr Tryd.prog 119 = false := by kernel_rfl
@[simp] theorem isIf_119 : isIf Tryd.prog 119 = false := by kernel_rfl
@[simp] theorem isIface_119 : isIface Tryd.prog 119 = false := by kernel_rfl
@[simp] theorem isArr_119 : isArr Tryd.prog 119 = false := by kernel_rfl
@[simp] theorem plainT_119 : plainT Tryd.prog 119 = true := by kernel_rfl
@[simp] theorem fldI_119_0 : fldI Tryd.prog 119 0 = some (0, 1, false) := by kernel_rfl
@[simp] theorem fldI_119_1 : fldI Tryd.prog 119 1 = some (1, 1, false) := by kernel_rfl
@[simp] theorem fldI_119_2 : fldI Tryd.prog 119 2 = some (2, 1, false) := by kernel_rfl
@[simp] theorem fldI_119_3 : fldI Tryd.prog 119 3 = some (3, 1, false) := by kernel_rfl
@[simp] theorem fldI_119_4 : fldI Tryd.prog 119 4 = some (4, 1, false) := by kernel_rfl
@[simp] theorem zAV_119 : zAV Tryd.prog 9 119 = .agg [.raw (.int .i32 0), .raw (.int .u16 0), .raw (.int .u16 0), .raw (.int .u32 0), .raw (.int .u32 0)] := by kernel_rfl
@[simp] theorem zeroIs_119 : zeroIs Tryd.prog 119 (.agg [.raw (.int .i32 0), .raw (.int .u16 0), .raw (.int .u16 0), .raw (.int .u32 0), .raw (.int .u32 0)]) := ⟨.agg #[.int .i32 0, .int .u16 0, .int .u16 0, .int .u32 0, .int .u32 0], by kernel_rfl, .inr ⟨_, _, rfl, rfl, by kernel_rfl⟩⟩
@[simp] theorem layIs_119 : layIs Tryd.prog 119 [.raw (.int .i32 0), .raw (.int .u16 0), .raw (.int .u16 0), .raw (.int .u32 0), .raw (.int .u32 0)] := layIs_of (by kernel_rfl)
@[simp] theorem tyI_120 : tyI Tryd.prog 120 = some (1, false) := by kernel_rfl
@[simp] theorem isSl_120 : isSl Tryd.prog 120 = true := by kernel_rfl
@[simp] theorem isStr_120 : isStr Tryd.prog 120 = false := by kernel_rfl
@[simp] theorem isBool_120 : isBool Tryd.prog 120 = false := by kernel_rfl
@[simp] theorem isPtr_120 : isPtr Tryd.prog 120 = false := by kernel_rfl
@[simp] theorem isIf_120 : isIf Tryd.prog 120 = false := by kernel_rfl
@[simp] theorem isIface_120 : isIface Tryd.prog 120 = false := by kernel_rfl
@[simp] theorem isArr_120 : isArr Tryd.prog 120 = false := by kernel_rfl
@[simp] theorem plainT_120 : plainT Tryd.prog 120 = false := by kernel_rfl
@[simp] theorem rowI_120 : rowI Tryd.prog 120 = some (123, 4, 16) := by kernel_rfl
@[simp] theorem zAV_120 : zAV Tryd.prog 9 120 = .raw (.slice none 0 0) := by kernel_rfl
@[simp] theorem zeroIs_120 : zeroIs Tryd.prog 120 (.raw (.slice none 0 0)) := ⟨.slice none 0 0, by kernel_rfl, .inl ⟨rfl, rfl⟩⟩
@[simp] theorem tyI_121 : tyI Tryd.prog 121 = some (1, false) := by kernel_rfl
@[simp] theorem isSl_121 : isSl Tryd.prog 121 = false := by kernel_rfl
@[simp] theorem isStr_121 : isStr Tryd.prog 121 = false := by kernel_rfl
@[simp] theorem isBool_121 : isBool Tryd.prog 121 = false := by kernel_rfl
@[simp] theorem isPtr_121 : isPtr Tryd.prog 121 = false := by kernel_rfl
@[simp] theorem isIf_121 : isIf Tryd.prog 121 = false := by kernel_rfl
@[simp] theorem isIface_121 : isIface Tryd.prog 121 = false := by kernel_rfl
@[simp] theorem isArr_121 : isArr Tryd.prog 121 = false := by kernel_rfl
@[simp] theorem plainT_121 : plainT Tryd.prog 121 = true := by kernel_rfl
@[simp] theorem und_121 : Tryd.prog.underlying 121 = some (.int .i32) := by kernel_rfl
@[simp] theorem zAV_121 : zAV Tryd.prog 9 121 = .raw (.int .i32 0) := by kernel_rfl
@[simp] theorem zeroIs_121 : zeroIs Tryd.prog 121 (.raw (.int .i32 0)) := ⟨.int .i32 0, by kernel_rfl, .inl ⟨rfl, rfl⟩⟩
@[simp] theorem tyI_122 : tyI Tryd.prog 122 = some (4, true) := by kernel_rfl
@[simp] theorem isSl_122 : isSl Tryd.prog 122 = false := by kernel_rfl
@[simp] theorem isStr_122 : isStr Tryd.prog 122 = false := by kernel_rfl
@[simp] theorem isBool_122 : isBool Tryd.prog 122 = false := by kernel_rfl
@[simp] theorem isPtr_122 : isPtr Tryd.prog 122 = false := by kernel_rfl
@[simp] theorem isIf_122 : isIf Tryd.prog 122 = false := by kernel_rfl
@[simp] theorem isIface_122 : isIface Tryd.prog 122 = false := by kernel_rfl
@[simp] theorem isArr_122 : isArr Tryd.prog 122 = false := by kernel_rfl
@[simp] theorem plainT_122 : plainT Tryd.prog 122 = true := by kernel_rfl
@[simp] theorem fldI_122_0 : fldI Tryd.prog 122 0 = some (0, 1, false) := by kernel_rfl
@[simp] theorem fldI_122_1 : fldI Tryd.prog 122 1 = some (1, 1, false) := by kernel_rfl
@[simp] theorem fldI_122_2 : fldI Tryd.prog 122 2 = some (2, 1, false) := by kernel_rfl
@[simp] theorem fldI_122_3 : fldI Tryd.prog 122 3 = some (3, 1, false) := by kernel_rfl
@[simp] theorem zAV_122 : zAV Tryd.prog 9 122 = .agg [.raw (.int .i32 0), .raw (.int .i32 0), .raw (.int .i32 0), .raw (.int .i32 0)] := by kernel_rfl
@[simp] theorem zeroIs_122 : zeroIs Tryd.prog 122 (.agg [.raw (.int .i32 0), .raw (.int .i32 0), .raw (.int .i32 0), .raw (.int .i32 0)]) := ⟨.agg #[.int .i32 0, .int .i32 0, .int .i32 0, .int .i32 0], by kernel_rfl, .inr ⟨_, _, rfl, rfl, by kernel_rfl⟩⟩
@[simp] theorem layIs_122 : layIs Tryd.prog 122 [.raw (.int .i32 0), .raw (.int .i32 0), .raw (.int .i32 0), .raw (.int .i32 0)] := layIs_of (by kernel_rfl)
@[simp] theorem tyI_123 : tyI Tryd.prog 123 = some (4, true) := by kernel_rfl
@[simp] theorem isSl_123 : isSl Tryd.prog 123 = false := by kernel_rfl
@[simp] theorem isStr_123 : isStr Tryd.prog 123 = false := by kernel_rfl
@[simp] theorem isBool_123 : isBool Tryd.prog 123 = false := by kernel_rfl
@[simp] theorem isPtr_123 : isPtr Tryd.prog 123 = false := by kernel_rfl
@[simp] theorem isIf_123 : isIf Tryd.prog 123 = false := by kernel_rfl
@[simp] theorem isIface_123 : isIface Tryd.prog 123 = false := by kernel_rfl
@[simp] theorem isArr_123 : isArr Tryd.prog 123 = false := by kernel_rfl
@[simp] theorem plainT_123 : plainT Tryd.prog 123 = true := by kernel_rfl
@[simp] theorem fldI_123_0 : fldI Tryd.prog 123 0 = some (0, 1, false) := by kernel_rfl
@[simp] theorem fldI_123_1 : fldI Tryd.prog 123 1 = some (1, 1, false) := by kernel_rfl
@[simp] theorem fldI_123_2 : fldI Tryd.prog 123 2 = some (2, 1, false) := by kernel_rfl
@[simp] theorem fldI_123_3 : fldI Tryd.prog 123 3 = some (3, 1, false) := by kernel_rfl
@[simp] theorem zAV_123 : zAV Tryd.prog 9 123 = .agg [.raw (.int .i32 0), .raw (.int .i32 0), .raw (.int .i32 0), .raw (.int .i32 0)] := by kernel_rfl
@[simp] theorem zeroIs_123 : zeroIs Tryd.prog 123 (.agg [.raw (.int .i32 0), .raw (.int .i32 0), .raw (.int .i32 0), .raw (.int .i32 0)]) := ⟨.agg #[.int .i32 0, .int .i32 0, .int .i32 0, .int .i32 0], by kernel_rfl, .inr ⟨_, _, rfl, rfl, by kernel_rfl⟩⟩
@[simp] theorem layIs_123 : layIs Tryd.prog 123 [.raw (.int .i32 0), .raw (.int .i32 0), .raw (.int .i32 0), .raw (.int .i32 0)] := layIs_of (by kernel_rfl)
@[simp] theorem tyI_124 : tyI Tryd.prog 124 = some (1, false) := by kernel_rfl
@[simp] theorem isSl_124 : isSl Tryd.prog 124 = false := by kernel_rfl
@[simp] theorem isStr_124 : isStr Tryd.prog 124 = false := by kernel_rfl
@[simp] theorem isBool_124 : isBool Tryd.prog 124 = false := by kernel_rfl
@[simp] theorem isPtr_124 : isPtr Tryd.prog 124 = true := by kernel_rfl
@[simp] theorem isIf_124 : isIf Tryd.prog 124 = false := by kernel_rfl
@[simp] theorem isIface_124 : isIface Tryd.prog 124 = false := by kernel_rfl
@[simp] theorem isArr_124 : isArr Tryd.prog 124 = false := by kernel_rfl
@[simp] theorem plainT_124 : plainT Tryd.prog 124 = false := by kernel_rfl
@[simp] theorem zAV_124 : zAV Tryd.prog 9 124 = .raw (.pointer none) := by kernel_rfl
@[simp] theorem zeroIs_124 : zeroIs Tryd.prog 124 (.raw (.pointer none)) := ⟨.pointer none, by kernel_rfl, .inl ⟨rfl, rfl⟩⟩
@[simp] theorem isFn_3 : isFn Tryd.prog 3 = true := by kernel_rfl
@[simp] theorem isFn_4 : isFn Tryd.prog 4 = true := by kernel_rfl
@[simp] theorem isFn_5 : isFn Tryd.prog 5 = true := by kernel_rfl
@[simp] theorem isFn_6 : isFn Tryd.prog 6 = true := by kernel_rfl
@[simp] theorem isFn_7 : isFn Tryd.prog 7 = true := by kernel_rfl
@[simp] theorem isFn_8 : isFn Tryd.prog 8 = true := by kernel_rfl
@[simp] theorem isFn_9 : isFn Tryd.prog 9 = true := by kernel_rfl
@[simp] theorem isFn_10 : isFn Tryd.prog 10 = true := by kernel_rfl
@[simp] theorem isFn_11 : isFn Tryd.prog 11 = true := by kernel_rfl
@[simp] theorem isFn_12 : isFn Tryd.prog 12 = true := by kernel_rfl
@[simp] theorem isFn_13 : isFn Tryd.prog 13 = true := by kernel_rfl
@[simp] theorem isFn_14 : isFn Tryd.prog 14 = true := by kernel_rfl
@[simp] theorem isFn_15 : isFn Tryd.prog 15 = true := by kernel_rfl
@[simp] theorem isFn_16 : isFn Tryd.prog 16 = true := by kernel_rfl
@[simp] theorem isFn_17 : isFn Tryd.prog 17 = true := by kernel_rfl
@[simp] theorem isFn_18 : isFn Tryd.prog 18 = true := by kernel_rfl
@[simp] theorem isFn_19 : isFn Tryd.prog 19 = true := by kernel_rfl
@[simp] theorem isFn_20 : isFn Tryd.prog 20 = true := by kernel_rfl
@[simp] theorem isFn_21 : isFn Tryd.prog 21 = true := by kernel_rfl
@[simp] theorem isFn_22 : isFn Tryd.prog 22 = true := by kernel_rfl
@[simp] theorem isFn_23 : isFn Tryd.prog 23 = true := by kernel_rfl
@[simp] theorem isFn_24 : isFn Tryd.prog 24 = true := by kernel_rfl
@[simp] theorem isFn_25 : isFn Tryd.prog 25 = true := by kernel_rfl
@[simp] theorem isFn_26 : isFn Tryd.prog 26 = true := by kernel_rfl
@[simp] theorem isFn_27 : isFn Tryd.prog 27 = true := by kernel_rfl
@[simp] theorem isFn_28 : isFn Tryd.prog 28 = true := by kernel_rfl
@[simp] theorem isFn_29 : isFn Tryd.prog 29 = true := by kernel_rfl
@[simp] theorem isFn_30 : isFn Tryd.prog 30 = true := by kernel_rfl
@[simp] theorem isFn_31 : isFn Tryd.prog 31 = true := by kernel_rfl
@[simp] theorem isFn_35 : isFn Tryd.prog 35 = true := by kernel_rfl
@[simp] theorem isFn_37 : isFn Tryd.prog 37 = true := by kernel_rfl
end Go.Proofs.YtngeckkebejhiaaDoor.Asl
