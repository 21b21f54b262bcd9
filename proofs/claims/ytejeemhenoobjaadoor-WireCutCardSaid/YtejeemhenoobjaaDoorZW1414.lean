/- Part 14 of what the row leans on: abstract values and states, their rules, and the contracts of the functions. -/
import Derived.WalkKit
import Derived.LaidEql
import Derived.Stop.Asserts
import Derived.RowKitTokens
import Derived.Elder7
import Derived.Test.YtejeemhenoobjaaDoorZW1413
namespace Go.Proofs.YtejeemhenoobjaaDoor.Errs
open Go Go.RowKit Go.Extern.Stop Go.Stop Go.Extern
open Go.Proofs.YtejeemhenoobjaaDoor.Asl (Put NoFz run_storeVar run_loadCells Reads tyI)
set_option linter.unusedVariables false
set_option linter.unusedSimpArgs false
/-- An error: a number, a need, or one with a place ahead. -/
inductive EV where
  | code (c : Int)
  | need (lo hi : ByteArray)
  | wrap (p : ByteArray) (e : EV)
inductive Chain (W : World) : Value → EV → Prop
  | code (c : Int) : Chain W (.iface 29 (.int .i64 c)) (.code c)
  | need (lo hi : ByteArray) : Chain W (.iface 41 (.agg #[.string lo, .string hi])) (.need lo hi)
  | wrap (b o : Nat) (p : ByteArray) (E : Value) (e : EV) : W.cell? ⟨b, o, none⟩ = some (.string p) → W.cell? ⟨b, o + 1, none⟩ = some E → Chain W E e → Chain W (.iface 93 (.pointer (some ⟨b, o, none⟩))) (.wrap p e)
theorem Chain.unique {W : World} {E : Value} {e e' : EV} (h : Chain W E e) (h' : Chain W E e') : e = e' := by
  induction h generalizing e' with
  | code c => cases h'; rfl
  | need lo hi => cases h'; rfl
  | wrap b o p E e h1 h2 h3 ih =>
    cases h' with
    | wrap _ _ p' E' e2 k1 k2 k3 => rw [h1] at k1; rw [h2] at k2; cases k1; cases k2; rw [ih k3]
theorem cell_lt {W : World} {a : Addr} {v : Value} (h : W.cell? a = some v) : a.block < W.heap.size := by
  rcases Nat.lt_or_ge a.block W.heap.size with h1 | h1
  · exact h1
  · simp [World.cell?, Array.getElem?_eq_none h1] at h
theorem cell_alloc {W : World} {a : Addr} {v : Value} (ob : Obj) (h : W.cell? a = some v) : (W.alloc ob).cell? a = some v := by
  rw [World.cell?_alloc_lt _ _ a (cell_lt h)]; exact h
theorem Chain.alloc {W : World} {E : Value} {e : EV} (ob : Obj) (h : Chain W E e) : Chain (W.alloc ob) E e := by
  induction h with
  | code c => exact .code c
  | need lo hi => exact .need lo hi
  | wrap b o p E e h1 h2 h3 ih => exact .wrap b o p E e (cell_alloc ob h1) (cell_alloc ob h2) ih
def EV.len : EV → Nat
  | .wrap _ e => e.len + 1
  | _ => 0
open Classical in
noncomputable def chainLen (W : World) (E : Value) : Nat := if h : ∃ e, Chain W E e then h.choose.len else 0
theorem chainLen_eq {W : World} {E : Value} {e : EV} (h : Chain W E e) : chainLen W E = e.len := by
  unfold chainLen
  rw [dif_pos ⟨e, h⟩]
  rw [Chain.unique (Exists.choose_spec ⟨e, h⟩) h]
/-- What is found: the cells of the target. -/
def EV.as_code : EV → Option (Array Value)
  | .code c => some #[.int .i64 c]
  | .need _ _ => none
  | .wrap _ e => e.as_code
def as_wrap (E : Value) : EV → Option (Array Value)
  | .wrap _ _ => match E with | .iface _ v => some #[v] | _ => none
  | _ => none
/-- The world has grown. -/
structure Gr (W W' : World) : Prop where
  os : W'.os = W.os
  tape : W'.tape = W.tape
  output : W'.output = W.output
  size : W.heap.size ≤ W'.heap.size
  old : ∀ k, k < W.heap.size → W'.heap[k]? = W.heap[k]?
theorem Gr.refl (W : World) : Gr W W := ⟨rfl, rfl, rfl, Nat.le_refl _, fun _ _ => rfl⟩
theorem Gr.trans {A B C : World} (h : Gr A B) (k : Gr B C) : Gr A C := ⟨k.os.trans h.os, k.tape.trans h.tape, k.output.trans h.output, Nat.le_trans h.size k.size, fun i hi => (k.old i (Nat.lt_of_lt_of_le hi h.size)).trans (h.old i hi)⟩
theorem Gr.alloc (W : World) (o : Obj) : Gr W (W.alloc o) := ⟨rfl, rfl, rfl, by show W.heap.size ≤ (W.heap.push o).size; rw [Array.size_push]; omega, fun k hk => Below.heap_alloc W o k hk⟩
/-- The world has grown, and one block holds other cells. -/
def Hit (W w' : World) (b : Nat) (cs : Array Value) (ty : TypeId) : Prop := ∃ W2, Gr W W2 ∧ Put W2 w' b ∧ w'.heap[b]? = some (.cells cs ty (0, 0))
abbrev hnd (t : Nat) : Value := .pointer (some ⟨1, t, none⟩)
abbrev rty (t : Nat) : Value := .iface 136 (.agg #[hnd t])
theorem rlm (z : Sem Value) (f : TypeId → Addr → Nat → Nat → Sem Value) (v : Value) :
    ReflectliteValue.method z f #[v] = (do match ← ReflectliteValue.parts v with | none => z | some (t, a, fl) => f t a fl (fl % 32)) := rfl
theorem rls (v x : Value) : ReflectliteValue.set #[v, x] = (do
    let (some (dst, a, fl), some (src, b, _)) := (← ReflectliteValue.parts v, ← ReflectliteValue.parts x)
      | unsupported (.noEntry "extern/(internal/reflectlite.Value).Set.zeroValue")
    if fl / ReflectliteValue.flagAddr % 2 == 0 then unsupported (.noEntry "extern/(internal/reflectlite.Value).Set.unaddressable")
    let val ← loadVar src b
    if ← Rtype.directlyAssignable dst src then storeVar dst a val
    else if ← Rtype.implements dst src then
      if (← Rtype.kind src) == 20 then
        match val with
        | .nilIface => unsupported (.noEntry "extern/reflectlite: a nil value of one interface type handed on as a value of another")
        | _ => storeVar dst a val
      else storeVar dst a (.iface src val)
    else panicString ("reflectlite.Set: value of type " ++ (← Rtype.spelt src) ++ " is not assignable to type " ++ (← Rtype.spelt dst))
    pure (.tuple #[])) := rfl
theorem mUnwrap (v : Value) (w : World) : (Go.method 279 93 v "Unwrap").run Tryd.prog w = .ok (91, v) w := by kernel_rfl
theorem mAssignableTo (h : Value) (w : World) : (Go.method 279 136 (.agg #[h]) "AssignableTo").run Tryd.prog w = .ok (96, .agg #[h]) w := by kernel_rfl
theorem mElem (h : Value) (w : World) : (Go.method 279 136 (.agg #[h]) "Elem").run Tryd.prog w = .ok (98, .agg #[h]) w := by kernel_rfl
theorem mImplements (h : Value) (w : World) : (Go.method 279 136 (.agg #[h]) "Implements").run Tryd.prog w = .ok (99, .agg #[h]) w := by kernel_rfl
theorem mComparable (h : Value) (w : World) : (Go.method 279 136 (.agg #[h]) "Comparable").run Tryd.prog w = .ok (97, .agg #[h]) w := by kernel_rfl
theorem mKind (h : Value) (w : World) : (Go.method 279 136 (.agg #[h]) "Kind").run Tryd.prog w = .ok (85, h) w := by kernel_rfl
theorem typeOf_code (v : Value) (w : World) : (ReflectliteType.typeOf #[.iface 29 v]).run Tryd.prog w = .ok (rty 29) w := by kernel_rfl
theorem no_code_As (v : Value) (xT : TypeId) (w : World) : (Instr.typeAssert (.iface 29 v) xT 147 true).run Tryd.prog w = .ok (.tuple #[.nilIface, .bool false]) w := run_typeAssert_lacksB Tryd.underlying147 (by kernel_rfl) (by kernel_rfl) v xT w
theorem no_code_Is (v : Value) (xT : TypeId) (w : World) : (Instr.typeAssert (.iface 29 v) xT 138 true).run Tryd.prog w = .ok (.tuple #[.nilIface, .bool false]) w := run_typeAssert_lacksB Tryd.underlying138 (by kernel_rfl) (by kernel_rfl) v xT w
theorem no_code_Unwrap1 (v : Value) (xT : TypeId) (w : World) : (Instr.typeAssert (.iface 29 v) xT 141 true).run Tryd.prog w = .ok (.tuple #[.nilIface, .bool false]) w := run_typeAssert_lacksB Tryd.underlying141 (by kernel_rfl) (by kernel_rfl) v xT w
theorem no_code_Unwrap2 (v : Value) (xT : TypeId) (w : World) : (Instr.typeAssert (.iface 29 v) xT 143 true).run Tryd.prog w = .ok (.tuple #[.nilIface, .bool false]) w := run_typeAssert_lacksB Tryd.underlying143 (by kernel_rfl) (by kernel_rfl) v xT w
theorem assign_code_code (w : World) : (ReflectliteType.relation "AssignableTo" ReflectliteType.assignableTo #[.agg #[hnd 29], rty 29]).run Tryd.prog w = .ok (.bool true) w := by kernel_rfl
theorem assign_code_wrap (w : World) : (ReflectliteType.relation "AssignableTo" ReflectliteType.assignableTo #[.agg #[hnd 29], rty 93]).run Tryd.prog w = .ok (.bool false) w := by kernel_rfl
theorem valueOfP_code (t : Addr) (w : World) : (ReflectliteValue.unpack (.iface 92 (.pointer (some t)))).run Tryd.prog w = .ok (.agg #[hnd 92, .pointer (some ⟨w.heap.size, 0, none⟩), .int .u64 150]) (w.alloc (.cells #[.pointer (some t)] 92)) := by kernel_rfl
theorem typeP_code (a : Addr) (w : World) : (ReflectliteValue.methodAny (ReflectliteValue.valueError "reflectlite.Value.Type" 0) (fun t _ _ _ => ReflectliteType.toType t) #[.agg #[hnd 92, .pointer (some a), .int .u64 150]]).run Tryd.prog w = .ok (rty 92) w := by kernel_rfl
theorem kindP_code (w : World) : ((ReflectliteType.abiMethod fun t => (fun a : Nat => Value.int IntKind.u8 (a : Int)) <$> Rtype.kind t) #[hnd 92]).run Tryd.prog w = .ok (.int .u8 22) w := by kernel_rfl
theorem kindE_code (w : World) : ((ReflectliteType.abiMethod fun t => (fun a : Nat => Value.int IntKind.u8 (a : Int)) <$> Rtype.kind t) #[hnd 29]).run Tryd.prog w = .ok (.int .u8 2) w := by kernel_rfl
theorem partsP_code (a : Addr) (w : World) : (ReflectliteValue.parts (.agg #[hnd 92, .pointer (some a), .int .u64 150])).run Tryd.prog w = .ok (some (92, a, 150)) w := by kernel_rfl
theorem partsE_code (a : Addr) (w : World) : (ReflectliteValue.parts (.agg #[hnd 29, .pointer (some a), .int .u64 386])).run Tryd.prog w = .ok (some (29, a, 386)) w := by kernel_rfl
theorem partsV_code (a : Addr) (w : World) : (ReflectliteValue.parts (.agg #[hnd 29, .pointer (some a), .int .u64 130])).run Tryd.prog w = .ok (some (29, a, 130)) w := by kernel_rfl
theorem direct_code (w : World) : (Rtype.directlyAssignable 29 29).run Tryd.prog w = .ok true w := by kernel_rfl
theorem elemOf_code (w : World) : (Rtype.elem? 92).run Tryd.prog w = .ok (some 29) w := by kernel_rfl
theorem mk_code (p : Addr) (w : World) : (ReflectliteValue.mk 29 p ReflectliteValue.flagAddr).run Tryd.prog w = .ok (.agg #[hnd 29, .pointer (some p), .int .u64 386]) w := by kernel_rfl
theorem elemT_code (w : World) : (ReflectliteType.method ReflectliteType.elem #[.agg #[hnd 92]]).run Tryd.prog w = .ok (rty 29) w := by kernel_rfl
theorem implements_code (w : World) : (ReflectliteType.relation "Implements" ReflectliteType.implements_ #[.agg #[hnd 29], rty 33]).run Tryd.prog w = .ok (.bool true) w := by kernel_rfl
theorem isNil_code (a p : Addr) (W : World) (ha : W.cell? a = some (.pointer (some p))) :
    (ReflectliteValue.method (ReflectliteValue.valueError "reflectlite.Value.IsNil" 0) ReflectliteValue.isNil #[.agg #[hnd 92, .pointer (some a), .int .u64 150]]).run Tryd.prog W = .ok (.bool false) W := by
  rw [rlm]
  simp only [Sem.run_bind, partsP_code, Result.andThen]
  simp [ReflectliteValue.isNil, loadVar, isAgg, underlying, Tryd.underlying92, ha, Result.andThen]
theorem elemV_code (a p : Addr) (W : World) (ha : W.cell? a = some (.pointer (some p))) :
    (ReflectliteValue.method (ReflectliteValue.valueError "reflectlite.Value.Elem" 0) ReflectliteValue.elem #[.agg #[hnd 92, .pointer (some a), .int .u64 150]]).run Tryd.prog W
      = .ok (.agg #[hnd 29, .pointer (some p), .int .u64 386]) W := by
  rw [rlm]
  simp only [Sem.run_bind, partsP_code, Result.andThen]
  simp [ReflectliteValue.elem, loadVar, isAgg, underlying, Tryd.underlying92, ha, Result.andThen, elemOf_code, mk_code]
theorem set_code (t b : Addr) (val : Value) (W W' : World) (hl : (loadVar 29 b).run Tryd.prog W = .ok val W) (hs : (storeVar 29 t val).run Tryd.prog W = .ok () W') :
    (ReflectliteValue.set #[.agg #[hnd 29, .pointer (some t), .int .u64 386], .agg #[hnd 29, .pointer (some b), .int .u64 130]]).run Tryd.prog W = .ok (.tuple #[]) W' := by
  rw [rls]
  simp only [Sem.run_bind, partsE_code, partsV_code, Result.andThen]
  simp [ReflectliteValue.flagAddr, hl, direct_code, hs, Result.andThen]
theorem typeOf_need (v : Value) (w : World) : (ReflectliteType.typeOf #[.iface 41 v]).run Tryd.prog w = .ok (rty 41) w := by kernel_rfl
theorem no_need_As (v : Value) (xT : TypeId) (w : World) : (Instr.typeAssert (.iface 41 v) xT 147 true).run Tryd.prog w = .ok (.tuple #[.nilIface, .bool false]) w := run_typeAssert_lacksB Tryd.underlying147 (by kernel_rfl) (by kernel_rfl) v xT w
theorem no_need_Is (v : Value) (xT : TypeId) (w : World) : (Instr.typeAssert (.iface 41 v) xT 138 true).run Tryd.prog w = .ok (.tuple #[.nilIface, .bool false]) w := run_typeAssert_lacksB Tryd.underlying138 (by kernel_rfl) (by kernel_rfl) v xT w
theorem no_need_Unwrap1 (v : Value) (xT : TypeId) (w : World) : (Instr.typeAssert (.iface 41 v) xT 141 true).run Tryd.prog w = .ok (.tuple #[.nilIface, .bool false]) w := run_typeAssert_lacksB Tryd.underlying141 (by kernel_rfl) (by kernel_rfl) v xT w
theorem no_need_Unwrap2 (v : Value) (xT : TypeId) (w : World) : (Instr.typeAssert (.iface 41 v) xT 143 true).run Tryd.prog w = .ok (.tuple #[.nilIface, .bool false]) w := run_typeAssert_lacksB Tryd.underlying143 (by kernel_rfl) (by kernel_rfl) v xT w
theorem assign_need_code (w : World) : (ReflectliteType.relation "AssignableTo" ReflectliteType.assignableTo #[.agg #[hnd 41], rty 29]).run Tryd.prog w = .ok (.bool false) w := by kernel_rfl
theorem assign_need_wrap (w : World) : (ReflectliteType.relation "AssignableTo" ReflectliteType.assignableTo #[.agg #[hnd 41], rty 93]).run Tryd.prog w = .ok (.bool false) w := by kernel_rfl
theorem typeOf_wrap (v : Value) (w : World) : (ReflectliteType.typeOf #[.iface 93 v]).run Tryd.prog w = .ok (rty 93) w := by kernel_rfl
theorem no_wrap_As (v : Value) (xT : TypeId) (w : World) : (Instr.typeAssert (.iface 93 v) xT 147 true).run Tryd.prog w = .ok (.tuple #[.nilIface, .bool false]) w := run_typeAssert_lacksB Tryd.underlying147 (by kernel_rfl) (by kernel_rfl) v xT w
theorem no_wrap_Is (v : Value) (xT : TypeId) (w : World) : (Instr.typeAssert (.iface 93 v) xT 138 true).run Tryd.prog w = .ok (.tuple #[.nilIface, .bool false]) w := run_typeAssert_lacksB Tryd.underlying138 (by kernel_rfl) (by kernel_rfl) v xT w
theorem has_wrap_Unwrap1 (v : Value) (xT : TypeId) (w : World) : (Instr.typeAssert (.iface 93 v) xT 141 true).run Tryd.prog w = .ok (.tuple #[.iface 93 v, .bool true]) w := run_typeAssert_hasB Tryd.underlying141 (by kernel_rfl) v xT w
theorem assign_wrap_code (w : World) : (ReflectliteType.relation "AssignableTo" ReflectliteType.assignableTo #[.agg #[hnd 93], rty 29]).run Tryd.prog w = .ok (.bool false) w := by kernel_rfl
theorem assign_wrap_wrap (w : World) : (ReflectliteType.relation "AssignableTo" ReflectliteType.assignableTo #[.agg #[hnd 93], rty 93]).run Tryd.prog w = .ok (.bool true) w := by kernel_rfl
theorem valueOfP_wrap (t : Addr) (w : World) : (ReflectliteValue.unpack (.iface 94 (.pointer (some t)))).run Tryd.prog w = .ok (.agg #[hnd 94, .pointer (some ⟨w.heap.size, 0, none⟩), .int .u64 150]) (w.alloc (.cells #[.pointer (some t)] 94)) := by kernel_rfl
theorem typeP_wrap (a : Addr) (w : World) : (ReflectliteValue.methodAny (ReflectliteValue.valueError "reflectlite.Value.Type" 0) (fun t _ _ _ => ReflectliteType.toType t) #[.agg #[hnd 94, .pointer (some a), .int .u64 150]]).run Tryd.prog w = .ok (rty 94) w := by kernel_rfl
theorem kindP_wrap (w : World) : ((ReflectliteType.abiMethod fun t => (fun a : Nat => Value.int IntKind.u8 (a : Int)) <$> Rtype.kind t) #[hnd 94]).run Tryd.prog w = .ok (.int .u8 22) w := by kernel_rfl
theorem kindE_wrap (w : World) : ((ReflectliteType.abiMethod fun t => (fun a : Nat => Value.int IntKind.u8 (a : Int)) <$> Rtype.kind t) #[hnd 93]).run Tryd.prog w = .ok (.int .u8 22) w := by kernel_rfl
theorem partsP_wrap (a : Addr) (w : World) : (ReflectliteValue.parts (.agg #[hnd 94, .pointer (some a), .int .u64 150])).run Tryd.prog w = .ok (some (94, a, 150)) w := by kernel_rfl
theorem partsE_wrap (a : Addr) (w : World) : (ReflectliteValue.parts (.agg #[hnd 93, .pointer (some a), .int .u64 406])).run Tryd.prog w = .ok (some (93, a, 406)) w := by kernel_rfl
theorem partsV_wrap (a : Addr) (w : World) : (ReflectliteValue.parts (.agg #[hnd 93, .pointer (some a), .int .u64 150])).run Tryd.prog w = .ok (some (93, a, 150)) w := by kernel_rfl
theorem direct_wrap (w : World) : (Rtype.directlyAssignable 93 93).run Tryd.prog w = .ok true w := by kernel_rfl
theorem elemOf_wrap (w : World) : (Rtype.elem? 94).run Tryd.prog w = .ok (some 93) w := by kernel_rfl
theorem mk_wrap (p : Addr) (w : World) : (ReflectliteValue.mk 93 p ReflectliteValue.flagAddr).run Tryd.prog w = .ok (.agg #[hnd 93, .pointer (some p), .int .u64 406]) w := by kernel_rfl
theorem elemT_wrap (w : World) : (ReflectliteType.method ReflectliteType.elem #[.agg #[hnd 94]]).run Tryd.prog w = .ok (rty 93) w := by kernel_rfl
theorem implements_wrap (w : World) : (ReflectliteType.relation "Implements" ReflectliteType.implements_ #[.agg #[hnd 93], rty 33]).run Tryd.prog w = .ok (.bool true) w := by kernel_rfl
theorem isNil_wrap (a p : Addr) (W : World) (ha : W.cell? a = some (.pointer (some p))) :
    (ReflectliteValue.method (ReflectliteValue.valueError "reflectlite.Value.IsNil" 0) ReflectliteValue.isNil #[.agg #[hnd 94, .pointer (some a), .int .u64 150]]).run Tryd.prog W = .ok (.bool false) W := by
  rw [rlm]
  simp only [Sem.run_bind, partsP_wrap, Result.andThen]
  simp [ReflectliteValue.isNil, loadVar, isAgg, underlying, Tryd.underlying94, ha, Result.andThen]
theorem elemV_wrap (a p : Addr) (W : World) (ha : W.cell? a = some (.pointer (some p))) :
    (ReflectliteValue.method (ReflectliteValue.valueError "reflectlite.Value.Elem" 0) ReflectliteValue.elem #[.agg #[hnd 94, .pointer (some a), .int .u64 150]]).run Tryd.prog W
      = .ok (.agg #[hnd 93, .pointer (some p), .int .u64 406]) W := by
  rw [rlm]
  simp only [Sem.run_bind, partsP_wrap, Result.andThen]
  simp [ReflectliteValue.elem, loadVar, isAgg, underlying, Tryd.underlying94, ha, Result.andThen, elemOf_wrap, mk_wrap]
theorem set_wrap (t b : Addr) (val : Value) (W W' : World) (hl : (loadVar 93 b).run Tryd.prog W = .ok val W) (hs : (storeVar 93 t val).run Tryd.prog W = .ok () W') :
    (ReflectliteValue.set #[.agg #[hnd 93, .pointer (some t), .int .u64 406], .agg #[hnd 93, .pointer (some b), .int .u64 150]]).run Tryd.prog W = .ok (.tuple #[]) W' := by
  rw [rls]
  simp only [Sem.run_bind, partsE_wrap, partsV_wrap, Result.andThen]
  simp [ReflectliteValue.flagAddr, hl, direct_wrap, hs, Result.andThen]
theorem valueOf_code (c : Int) (w : World) : (ReflectliteValue.unpack (.iface 29 (.int .i64 c))).run Tryd.prog w = .ok (.agg #[hnd 29, .pointer (some ⟨w.heap.size, 0, none⟩), .int .u64 130]) (w.alloc (.cells #[.int .i64 c] 29)) := by kernel_rfl
theorem valueOf_wrap (p : Addr) (w : World) : (ReflectliteValue.unpack (.iface 93 (.pointer (some p)))).run Tryd.prog w = .ok (.agg #[hnd 93, .pointer (some ⟨w.heap.size, 0, none⟩), .int .u64 150]) (w.alloc (.cells #[.pointer (some p)] 93)) := by kernel_rfl
end Go.Proofs.YtejeemhenoobjaaDoor.Errs

namespace Go.Proofs.YtejeemhenoobjaaDoor.Errs
open Go Go.RowKit Go.Extern.Stop Go.Stop Go.Extern
open Go.Proofs.YtejeemhenoobjaaDoor.Asl (Put NoFz run_storeVar Reads tyI tyI_agg tyI_size Cell)
set_option linter.unusedVariables false
set_option linter.unusedSimpArgs false
set_option linter.unnecessarySimpa false
theorem Gr.cell {W W' : World} (g : Gr W W') {a : Addr} {v : Value} (h : W.cell? a = some v) : W'.cell? a = some v := by
  have := g.old a.block (cell_lt h)
  unfold World.cell? at h ⊢
  rw [this]; exact h
theorem Gr.block {W W' : World} (g : Gr W W') {b : Nat} {ob : Obj} (h : W.heap[b]? = some ob) : W'.heap[b]? = some ob := by
  rw [g.old b (Array.getElem?_eq_some_iff.1 h).1]; exact h
theorem Chain.gr {W W' : World} (g : Gr W W') {E : Value} {e : EV} (h : Chain W E e) : Chain W' E e := by
  induction h with
  | code c => exact .code c
  | need lo hi => exact .need lo hi
  | wrap b o p E e h1 h2 h3 ih => exact .wrap b o p E e (g.cell h1) (g.cell h2) ih
theorem Hit.gr {A B w' : World} {b : Nat} {cs : Array Value} {ty : TypeId} (g : Gr A B) (h : Hit B w' b cs ty) : Hit A w' b cs ty := by
  obtain ⟨W2, h1, h2, h3⟩ := h
  exact ⟨W2, g.trans h1, h2, h3⟩
theorem load_one (t : TypeId) (W : World) (b : Nat) (x : Value) (ht : tyI Tryd.prog t = some (1, false)) (h0 : W.cell? ⟨b, 0, none⟩ = some x) : (loadVar t ⟨b, 0, none⟩).run Tryd.prog W = .ok x W := by
  simp [loadVar, tyI_agg ht, h0]
theorem cell_new (W : World) (cs : Array Value) (ty : TypeId) (i : Nat) (v : Value) (h : cs[i]? = some v) : (W.alloc (.cells cs ty)).cell? ⟨W.heap.size, i, none⟩ = some v := by
  rw [World.cell?_alloc_at _ _ _ _ (by simpa using (Array.getElem?_eq_some_iff.1 h).1)]
  exact h
theorem ty_code : tyI Tryd.prog 29 = some (1, false) := by kernel_rfl
set_option maxRecDepth 1000000 in
set_option maxHeartbeats 8000000 in
theorem as_code_c {W : World} (E : Value) (e : EV) (hch : Chain W E e) (tg : Value) (a : Addr) (b : Nat) (ha : W.cell? a = some (.pointer (some ⟨b, 0, none⟩))) (cs : Array Value) (ty : TypeId) (hb : W.heap[b]? = some (.cells cs ty (0, 0))) (hn : cs.size = 1) :
    Calls Tryd.prog 64 #[E, tg, .agg #[hnd 92, .pointer (some a), .int .u64 150], rty 29] W fun ev w' => (e.as_code = none → ev = .returned (.bool false) ∧ Gr W w') ∧ (∀ r, e.as_code = some r → ev = .returned (.bool true) ∧ Hit W w' b r ty) := by
  have hTO := @run_callFunc_extern Tryd.prog 53 _ ReflectliteType.typeOf Tryd.func53 (by kernel_rfl) (by kernel_rfl) (by kernel_rfl) (by kernel_rfl)
  have hAT := @run_callFunc_extern Tryd.prog 96 _ (ReflectliteType.relation "AssignableTo" ReflectliteType.assignableTo) Tryd.func96 (by kernel_rfl) (by kernel_rfl) (by kernel_rfl) (by kernel_rfl)
  have hEL := @run_callFunc_extern Tryd.prog 69 _ (ReflectliteValue.method (ReflectliteValue.valueError "reflectlite.Value.Elem" 0) ReflectliteValue.elem) Tryd.func69 (by kernel_rfl) (by kernel_rfl) (by kernel_rfl) (by kernel_rfl)
  have hVO := @run_callFunc_extern Tryd.prog 61 _ (fun args => ReflectliteValue.unpack (args.getD 0 (.tuple #[]))) Tryd.func61 (by kernel_rfl) (by kernel_rfl) (by kernel_rfl) (by kernel_rfl)
  have hST := @run_callFunc_extern Tryd.prog 70 _ ReflectliteValue.set Tryd.func70 (by kernel_rfl) (by kernel_rfl) (by kernel_rfl) (by kernel_rfl)
  have t1 := typeOf_code
  have t2 := typeOf_need
  have t3 := typeOf_wrap
  have mA := mAssignableTo
  have a1 := assign_code_code
  have a2 := assign_need_code
  have a3 := assign_wrap_code
  have n1 := no_code_As
  have n2 := no_code_Unwrap1
  have n3 := no_code_Unwrap2
  have n4 := no_need_As
  have n5 := no_need_Unwrap1
  have n6 := no_need_Unwrap2
  have n7 := no_wrap_As
  have n8 := has_wrap_Unwrap1
  have mU := mUnwrap
  have vO := valueOf_code
  have hE := elemV_code a ⟨b, 0, none⟩ (W.alloc (.cells #[hnd 92, .pointer (some a), .int .u64 150] 123)) (cell_alloc _ ha)
  have gr1 : Gr W (W.alloc (.cells #[hnd 92, .pointer (some a), .int .u64 150] 123)) := Gr.alloc _ _
  go_enter Tryd.func64, Tryd.ntmps64
  go_wp2
  go_loopw [0] (fun E' wl => wl = (W.alloc (.cells #[hnd 92, .pointer (some a), .int .u64 150] 123)) ∧ ∃ e', Chain wl E' e' ∧ e'.as_code = e.as_code) (fun E' wl => chainLen wl E')
  case atStart => exact ⟨rfl, e, hch.alloc _, rfl⟩
  case round =>
    obtain ⟨rfl, e', hc', hiff⟩ := hrel
    cases hc' with
    | code c =>
      have gr2 : Gr W ((W.alloc (.cells #[hnd 92, .pointer (some a), .int .u64 150] 123)).alloc (.cells #[.int .i64 c] 29)) := gr1.trans (Gr.alloc _ _)
      obtain ⟨c1, hc1⟩ : ∃ c1 : List Value, cs = c1.toArray := ⟨cs.toList, by simp⟩
      subst hc1
      have hb2 : ((W.alloc (.cells #[hnd 92, .pointer (some a), .int .u64 150] 123)).alloc (.cells #[.int .i64 c] 29)).heap[b]? = some (.cells (([] : List Value) ++ c1 ++ []).toArray ty (0, 0)) := by simpa using gr2.block hb
      obtain ⟨W3, hs, hp, hw⟩ := run_storeVar (P := Tryd.prog) (v := .int .i64 c) ty_code hb2 (by first | (intro i _ h; omega) | exact ⟨by intro i _ h; omega, by simp⟩) (by simpa using hn) (by simp [Value.cells]) (by intro x hx; simp [Value.cells] at hx; subst hx; exact ⟨by intros; simp, by intros; simp⟩)
      have hl := load_one 29 ((W.alloc (.cells #[hnd 92, .pointer (some a), .int .u64 150] 123)).alloc (.cells #[.int .i64 c] 29)) (W.alloc (.cells #[hnd 92, .pointer (some a), .int .u64 150] 123)).heap.size (.int .i64 c) ty_code (cell_new _ _ _ 0 _ rfl)
      have hS := set_code ⟨b, 0, none⟩ ⟨(W.alloc (.cells #[hnd 92, .pointer (some a), .int .u64 150] 123)).heap.size, 0, none⟩ (.int .i64 c) _ _ hl hs
      have hsz : (W.alloc (.cells #[hnd 92, .pointer (some a), .int .u64 150] 123)).heap.size = W.heap.size + 1 := by simp
      rw [hsz] at hS
      go_wp2
      go_ret
      exact ⟨fun h => by rw [← hiff] at h; simp [EV.as_code] at h, fun r h => by rw [← hiff] at h; simp [EV.as_code] at h; subst h; exact ⟨rfl, _, gr2, hp, by simpa [Value.cells] using hw⟩⟩
    | need lo hi =>
      go_wp2
      go_ret
      exact ⟨fun _ => ⟨rfl, gr1⟩, fun r h => by rw [← hiff] at h; simp [EV.as_code] at h⟩
    | wrap b0 o0 p E1 e1 h1 h2 h3 =>
      have hlen := chainLen_eq h3
      have hlen0 := chainLen_eq (Chain.wrap b0 o0 p E1 e1 h1 h2 h3)
      have hne : ∃ u v, E1 = .iface u v := by cases h3 <;> exact ⟨_, _, rfl⟩
      obtain ⟨u1, v1, rfl⟩ := hne
      have HC : Hid (Chain _ (.iface u1 v1) e1) := h3
      clear h3
      go_wp2
      refine ⟨⟨trivial, e1, HC.out, hiff⟩, ?_⟩
      show chainLen _ (.iface u1 v1) < _
      rw [hlen, hlen0]; simp [EV.len]
set_option maxRecDepth 1000000 in
set_option maxHeartbeats 8000000 in
theorem ty_wrap : tyI Tryd.prog 93 = some (1, false) := by kernel_rfl
set_option maxRecDepth 1000000 in
set_option maxHeartbeats 8000000 in
theorem as_wrap_c {W : World} (E : Value) (e : EV) (hch : Chain W E e) (tg : Value) (a : Addr) (b : Nat) (ha : W.cell? a = some (.pointer (some ⟨b, 0, none⟩))) (cs : Array Value) (ty : TypeId) (hb : W.heap[b]? = some (.cells cs ty (0, 0))) (hn : cs.size = 1) :
    Calls Tryd.prog 64 #[E, tg, .agg #[hnd 94, .pointer (some a), .int .u64 150], rty 93] W fun ev w' => ((as_wrap E e) = none → ev = .returned (.bool false) ∧ Gr W w') ∧ (∀ r, (as_wrap E e) = some r → ev = .returned (.bool true) ∧ Hit W w' b r ty) := by
  have hTO := @run_callFunc_extern Tryd.prog 53 _ ReflectliteType.typeOf Tryd.func53 (by kernel_rfl) (by kernel_rfl) (by kernel_rfl) (by kernel_rfl)
  have hAT := @run_callFunc_extern Tryd.prog 96 _ (ReflectliteType.relation "AssignableTo" ReflectliteType.assignableTo) Tryd.func96 (by kernel_rfl) (by kernel_rfl) (by kernel_rfl) (by kernel_rfl)
  have hEL := @run_callFunc_extern Tryd.prog 69 _ (ReflectliteValue.method (ReflectliteValue.valueError "reflectlite.Value.Elem" 0) ReflectliteValue.elem) Tryd.func69 (by kernel_rfl) (by kernel_rfl) (by kernel_rfl) (by kernel_rfl)
  have hVO := @run_callFunc_extern Tryd.prog 61 _ (fun args => ReflectliteValue.unpack (args.getD 0 (.tuple #[]))) Tryd.func61 (by kernel_rfl) (by kernel_rfl) (by kernel_rfl) (by kernel_rfl)
  have hST := @run_callFunc_extern Tryd.prog 70 _ ReflectliteValue.set Tryd.func70 (by kernel_rfl) (by kernel_rfl) (by kernel_rfl) (by kernel_rfl)
  have t1 := typeOf_code
  have t2 := typeOf_need
  have t3 := typeOf_wrap
  have mA := mAssignableTo
  have a1 := assign_code_wrap
  have a2 := assign_need_wrap
  have a3 := assign_wrap_wrap
  have n1 := no_code_As
  have n2 := no_code_Unwrap1
  have n3 := no_code_Unwrap2
  have n4 := no_need_As
  have n5 := no_need_Unwrap1
  have n6 := no_need_Unwrap2
  have n7 := no_wrap_As
  have n8 := has_wrap_Unwrap1
  have mU := mUnwrap
  have vO := valueOf_wrap
  have hE := elemV_wrap a ⟨b, 0, none⟩ (W.alloc (.cells #[hnd 94, .pointer (some a), .int .u64 150] 123)) (cell_alloc _ ha)
  have gr1 : Gr W (W.alloc (.cells #[hnd 94, .pointer (some a), .int .u64 150] 123)) := Gr.alloc _ _
  go_enter Tryd.func64, Tryd.ntmps64
  go_wp2
  go_loopw [0] (fun E' wl => wl = (W.alloc (.cells #[hnd 94, .pointer (some a), .int .u64 150] 123)) ∧ E' = E ∧ ∃ e', Chain wl E' e' ∧ e' = e) (fun E' wl => chainLen wl E')
  case atStart => exact ⟨rfl, rfl, e, hch.alloc _, rfl⟩
  case round =>
    obtain ⟨rfl, rfl, e', hc', rfl⟩ := hrel
    cases hc' with
    | code c =>
      go_wp2
      go_ret
      exact ⟨fun _ => ⟨rfl, gr1⟩, fun r h => by simp [as_wrap] at h⟩
    | need lo hi =>
      go_wp2
      go_ret
      exact ⟨fun _ => ⟨rfl, gr1⟩, fun r h => by simp [as_wrap] at h⟩
    | wrap b0 o0 p E1 e1 h1 h2 h3 =>
      have gr2 : Gr W ((W.alloc (.cells #[hnd 94, .pointer (some a), .int .u64 150] 123)).alloc (.cells #[.pointer (some ⟨b0, o0, none⟩)] 93)) := gr1.trans (Gr.alloc _ _)
      obtain ⟨c1, hc1⟩ : ∃ c1 : List Value, cs = c1.toArray := ⟨cs.toList, by simp⟩
      subst hc1
      have hb2 : ((W.alloc (.cells #[hnd 94, .pointer (some a), .int .u64 150] 123)).alloc (.cells #[.pointer (some ⟨b0, o0, none⟩)] 93)).heap[b]? = some (.cells (([] : List Value) ++ c1 ++ []).toArray ty (0, 0)) := by simpa using gr2.block hb
      obtain ⟨W3, hs, hp, hw⟩ := run_storeVar (P := Tryd.prog) (v := .pointer (some ⟨b0, o0, none⟩)) ty_wrap hb2 (by first | (intro i _ h; omega) | exact ⟨by intro i _ h; omega, by simp⟩) (by simpa using hn) (by simp [Value.cells]) (by intro x hx; simp [Value.cells] at hx; subst hx; exact ⟨by intros; simp, by intros; simp⟩)
      have hl := load_one 93 ((W.alloc (.cells #[hnd 94, .pointer (some a), .int .u64 150] 123)).alloc (.cells #[.pointer (some ⟨b0, o0, none⟩)] 93)) (W.alloc (.cells #[hnd 94, .pointer (some a), .int .u64 150] 123)).heap.size (.pointer (some ⟨b0, o0, none⟩)) ty_wrap (cell_new _ _ _ 0 _ rfl)
      have hS := set_wrap ⟨b, 0, none⟩ ⟨(W.alloc (.cells #[hnd 94, .pointer (some a), .int .u64 150] 123)).heap.size, 0, none⟩ (.pointer (some ⟨b0, o0, none⟩)) _ _ hl hs
      have hsz : (W.alloc (.cells #[hnd 94, .pointer (some a), .int .u64 150] 123)).heap.size = W.heap.size + 1 := by simp
      rw [hsz] at hS
      go_wp2
      go_ret
      exact ⟨fun h => by simp [as_wrap] at h, fun r h => by simp [as_wrap] at h; subst h; exact ⟨rfl, _, gr2, hp, by simpa [Value.cells] using hw⟩⟩
set_option maxRecDepth 1000000 in
set_option maxHeartbeats 8000000 in
theorem As_code {W : World} (E : Value) (e : EV) (hch : Chain W E e) (b : Nat) (cs : Array Value) (ty : TypeId) (hb : W.heap[b]? = some (.cells cs ty (0, 0))) (hn : cs.size = 1) (hg : W.cell? ⟨0, 0, none⟩ = some (rty 33)) :
    Calls Tryd.prog 42 #[E, .iface 92 (.pointer (some ⟨b, 0, none⟩))] W fun ev w' => (e.as_code = none → ev = .returned (.bool false) ∧ Gr W w') ∧ (∀ r, e.as_code = some r → ev = .returned (.bool true) ∧ Hit W w' b r ty) := by
  have hVO := @run_callFunc_extern Tryd.prog 61 _ (fun args => ReflectliteValue.unpack (args.getD 0 (.tuple #[]))) Tryd.func61 (by kernel_rfl) (by kernel_rfl) (by kernel_rfl) (by kernel_rfl)
  have hTY := @run_callFunc_extern Tryd.prog 62 _ (ReflectliteValue.methodAny (ReflectliteValue.valueError "reflectlite.Value.Type" 0) (fun t _ _ _ => ReflectliteType.toType t)) Tryd.func62 (by kernel_rfl) (by kernel_rfl) (by kernel_rfl) (by kernel_rfl)
  have hIN := @run_callFunc_extern Tryd.prog 63 _ (ReflectliteValue.method (ReflectliteValue.valueError "reflectlite.Value.IsNil" 0) ReflectliteValue.isNil) Tryd.func63 (by kernel_rfl) (by kernel_rfl) (by kernel_rfl) (by kernel_rfl)
  have hKI := @run_callFunc_extern Tryd.prog 85 _ (ReflectliteType.abiMethod fun t => do pure (.int .u8 (← Rtype.kind t))) Tryd.func85 (by kernel_rfl) (by kernel_rfl) (by kernel_rfl) (by kernel_rfl)
  have hEL := @run_callFunc_extern Tryd.prog 98 _ (ReflectliteType.method ReflectliteType.elem) Tryd.func98 (by kernel_rfl) (by kernel_rfl) (by kernel_rfl) (by kernel_rfl)
  have hIM := @run_callFunc_extern Tryd.prog 99 _ (ReflectliteType.relation "Implements" ReflectliteType.implements_) Tryd.func99 (by kernel_rfl) (by kernel_rfl) (by kernel_rfl) (by kernel_rfl)
  have f6 := valueOfP_code
  have f7 := typeP_code
  have mK := mKind
  have mE := mElem
  have mI := mImplements
  have k1 := kindP_code
  have k2 := kindE_code
  have e1 := elemT_code
  have i1 := implements_code
  have n8 := isNil_code ⟨W.heap.size, 0, none⟩ ⟨b, 0, none⟩ ((W.alloc (.cells #[.pointer (some ⟨b, 0, none⟩)] 92)).alloc (.cells #[hnd 92, .pointer (some ⟨W.heap.size, 0, none⟩), .int .u64 150] 123)) (cell_alloc _ (cell_new _ _ _ 0 _ rfl))
  have hg2 : ((W.alloc (.cells #[.pointer (some ⟨b, 0, none⟩)] 92)).alloc (.cells #[hnd 92, .pointer (some ⟨W.heap.size, 0, none⟩), .int .u64 150] 123)).cell? ⟨0, 0, none⟩ = some (rty 33) := cell_alloc _ (cell_alloc _ hg)
  have gr2 : Gr W ((W.alloc (.cells #[.pointer (some ⟨b, 0, none⟩)] 92)).alloc (.cells #[hnd 92, .pointer (some ⟨W.heap.size, 0, none⟩), .int .u64 150] 123)) := (Gr.alloc _ _).trans (Gr.alloc _ _)
  have hb2 := gr2.block hb
  have hc2 := hch.gr gr2
  have ha2 : ((W.alloc (.cells #[.pointer (some ⟨b, 0, none⟩)] 92)).alloc (.cells #[hnd 92, .pointer (some ⟨W.heap.size, 0, none⟩), .int .u64 150] 123)).cell? ⟨W.heap.size, 0, none⟩ = some (.pointer (some ⟨b, 0, none⟩)) := cell_alloc _ (cell_new _ _ _ 0 _ rfl)
  have key := as_code_c E e hc2 (.iface 92 (.pointer (some ⟨b, 0, none⟩))) ⟨W.heap.size, 0, none⟩ b ha2 cs ty hb2 hn
  have hne : ∃ u v, E = .iface u v := by cases hch <;> exact ⟨_, _, rfl⟩
  obtain ⟨u0, v0, rfl⟩ := hne
  clear hch hc2 hb hb2
  cases hk : e.as_code with
  | none =>
    go_enter Tryd.func42, Tryd.ntmps42
    go_wp2_with (first | (go_at_call 64; refine key.mono ?_; rintro ev w' ⟨q1, q2⟩; obtain ⟨rfl, q3⟩ := q1 hk) | go_in)
    go_ret
    exact ⟨fun _ => ⟨rfl, gr2.trans q3⟩, fun r h => (by cases h)⟩
  | some r =>
    go_enter Tryd.func42, Tryd.ntmps42
    go_wp2_with (first | (go_at_call 64; refine key.mono ?_; rintro ev w' ⟨q1, q2⟩; obtain ⟨rfl, q3⟩ := q2 _ hk) | go_in)
    go_ret
    exact ⟨fun h => (by cases h), fun r h => (by cases h; exact ⟨rfl, q3.gr gr2⟩)⟩
set_option maxRecDepth 1000000 in
set_option maxHeartbeats 8000000 in
set_option maxRecDepth 1000000 in
set_option maxHeartbeats 8000000 in
theorem As_wrap {W : World} (E : Value) (e : EV) (hch : Chain W E e) (b : Nat) (cs : Array Value) (ty : TypeId) (hb : W.heap[b]? = some (.cells cs ty (0, 0))) (hn : cs.size = 1) (hg : W.cell? ⟨0, 0, none⟩ = some (rty 33)) :
    Calls Tryd.prog 42 #[E, .iface 94 (.pointer (some ⟨b, 0, none⟩))] W fun ev w' => ((as_wrap E e) = none → ev = .returned (.bool false) ∧ Gr W w') ∧ (∀ r, (as_wrap E e) = some r → ev = .returned (.bool true) ∧ Hit W w' b r ty) := by
  have hVO := @run_callFunc_extern Tryd.prog 61 _ (fun args => ReflectliteValue.unpack (args.getD 0 (.tuple #[]))) Tryd.func61 (by kernel_rfl) (by kernel_rfl) (by kernel_rfl) (by kernel_rfl)
  have hTY := @run_callFunc_extern Tryd.prog 62 _ (ReflectliteValue.methodAny (ReflectliteValue.valueError "reflectlite.Value.Type" 0) (fun t _ _ _ => ReflectliteType.toType t)) Tryd.func62 (by kernel_rfl) (by kernel_rfl) (by kernel_rfl) (by kernel_rfl)
  have hIN := @run_callFunc_extern Tryd.prog 63 _ (ReflectliteValue.method (ReflectliteValue.valueError "reflectlite.Value.IsNil" 0) ReflectliteValue.isNil) Tryd.func63 (by kernel_rfl) (by kernel_rfl) (by kernel_rfl) (by kernel_rfl)
  have hKI := @run_callFunc_extern Tryd.prog 85 _ (ReflectliteType.abiMethod fun t => do pure (.int .u8 (← Rtype.kind t))) Tryd.func85 (by kernel_rfl) (by kernel_rfl) (by kernel_rfl) (by kernel_rfl)
  have hEL := @run_callFunc_extern Tryd.prog 98 _ (ReflectliteType.method ReflectliteType.elem) Tryd.func98 (by kernel_rfl) (by kernel_rfl) (by kernel_rfl) (by kernel_rfl)
  have hIM := @run_callFunc_extern Tryd.prog 99 _ (ReflectliteType.relation "Implements" ReflectliteType.implements_) Tryd.func99 (by kernel_rfl) (by kernel_rfl) (by kernel_rfl) (by kernel_rfl)
  have f6 := valueOfP_wrap
  have f7 := typeP_wrap
  have mK := mKind
  have mE := mElem
  have mI := mImplements
  have k1 := kindP_wrap
  have k2 := kindE_wrap
  have e1 := elemT_wrap
  have i1 := implements_wrap
  have n8 := isNil_wrap ⟨W.heap.size, 0, none⟩ ⟨b, 0, none⟩ ((W.alloc (.cells #[.pointer (some ⟨b, 0, none⟩)] 94)).alloc (.cells #[hnd 94, .pointer (some ⟨W.heap.size, 0, none⟩), .int .u64 150] 123)) (cell_alloc _ (cell_new _ _ _ 0 _ rfl))
  have hg2 : ((W.alloc (.cells #[.pointer (some ⟨b, 0, none⟩)] 94)).alloc (.cells #[hnd 94, .pointer (some ⟨W.heap.size, 0, none⟩), .int .u64 150] 123)).cell? ⟨0, 0, none⟩ = some (rty 33) := cell_alloc _ (cell_alloc _ hg)
  have gr2 : Gr W ((W.alloc (.cells #[.pointer (some ⟨b, 0, none⟩)] 94)).alloc (.cells #[hnd 94, .pointer (some ⟨W.heap.size, 0, none⟩), .int .u64 150] 123)) := (Gr.alloc _ _).trans (Gr.alloc _ _)
  have hb2 := gr2.block hb
  have hc2 := hch.gr gr2
  have ha2 : ((W.alloc (.cells #[.pointer (some ⟨b, 0, none⟩)] 94)).alloc (.cells #[hnd 94, .pointer (some ⟨W.heap.size, 0, none⟩), .int .u64 150] 123)).cell? ⟨W.heap.size, 0, none⟩ = some (.pointer (some ⟨b, 0, none⟩)) := cell_alloc _ (cell_new _ _ _ 0 _ rfl)
  have key := as_wrap_c E e hc2 (.iface 94 (.pointer (some ⟨b, 0, none⟩))) ⟨W.heap.size, 0, none⟩ b ha2 cs ty hb2 hn
  have hne : ∃ u v, E = .iface u v := by cases hch <;> exact ⟨_, _, rfl⟩
  obtain ⟨u0, v0, rfl⟩ := hne
  clear hch hc2 hb hb2
  cases hk : (as_wrap (.iface u0 v0) e) with
  | none =>
    go_enter Tryd.func42, Tryd.ntmps42
    go_wp2_with (first | (go_at_call 64; refine key.mono ?_; rintro ev w' ⟨q1, q2⟩; obtain ⟨rfl, q3⟩ := q1 hk) | go_in)
    go_ret
    exact ⟨fun _ => ⟨rfl, gr2.trans q3⟩, fun r h => (by cases h)⟩
  | some r =>
    go_enter Tryd.func42, Tryd.ntmps42
    go_wp2_with (first | (go_at_call 64; refine key.mono ?_; rintro ev w' ⟨q1, q2⟩; obtain ⟨rfl, q3⟩ := q2 _ hk) | go_in)
    go_ret
    exact ⟨fun h => (by cases h), fun r h => (by cases h; exact ⟨rfl, q3.gr gr2⟩)⟩
theorem As_nil (t : Value) (w : World) : Calls Tryd.prog 42 #[.nilIface, t] w fun e w' => e = .returned (.bool false) ∧ w' = w := by
  go_enter Tryd.func42, Tryd.ntmps42
  go_wp2
  go_ret
  exact ⟨rfl, rfl⟩
end Go.Proofs.YtejeemhenoobjaaDoor.Errs

namespace Go.Proofs.YtejeemhenoobjaaDoor.Errs
open Go Go.RowKit Go.Extern.Stop Go.Stop Go.Extern
set_option linter.unusedVariables false
set_option linter.unusedSimpArgs false
theorem comparable_code' (w : World) : ((ReflectliteType.method fun t => do Rtype.noPackHeld "Comparable" t; (fun a => Value.bool a.comparable) <$> typeInfo t) #[.agg #[hnd 29]]).run Tryd.prog w = .ok (.bool true) w := by kernel_rfl
def EV.num : EV → Option Int
  | .code c => some c
  | .need _ _ => none
  | .wrap _ e => e.num
theorem EV.as_num : ∀ e : EV, e.as_code = e.num.map fun c => #[.int .i64 c]
  | .code _ => rfl
  | .need _ _ => rfl
  | .wrap _ e => by simp only [EV.as_code, EV.num]; exact e.as_num
theorem eql_code (x y : Int) (w : World) : (binOp .eql 33 (.iface 29 (.int .i64 x)) (.iface 29 (.int .i64 y))).run Tryd.prog w = .ok (.bool (decide (x = y))) w := by
  obtain ⟨i, hi, hcmp⟩ := Option.map_eq_some_iff.1 (show (Tryd.prog.info? 29).map (·.comparable) = some true by kernel_rfl)
  have h : ∀ d : Nat, (Op.equalIn (d + 2) 33 (.iface 29 (.int .i64 x)) (.iface 29 (.int .i64 y))).run Tryd.prog w = .ok (decide (x = y)) w := fun d => by
    simp [Op.equalIn, run_underlying Tryd.underlying33, run_underlying Tryd.underlying29, typeInfo, hi, hcmp]
    rfl
  simp only [binOp]
  simp [Op.equal, Op.maxDepth, h 9998]
set_option maxRecDepth 1000000 in
set_option maxHeartbeats 8000000 in
theorem is_code {W : World} (E : Value) (e : EV) (hch : Chain W E e) (c : Int) :
    Calls Tryd.prog 54 #[E, .iface 29 (.int .i64 c), .bool true] W fun ev w' => ev = .returned (.bool (decide (e.num = some c))) ∧ w' = W := by
  have n1 := no_code_Is
  have n2 := no_code_Unwrap1
  have n3 := no_code_Unwrap2
  have n4 := no_need_Is
  have n5 := no_need_Unwrap1
  have n6 := no_need_Unwrap2
  have n7 := no_wrap_Is
  have n8 := has_wrap_Unwrap1
  have mU := mUnwrap
  go_enter Tryd.func54, Tryd.ntmps54
  go_wp2
  go_loopw [0] (fun E' wl => wl = W ∧ ∃ e', Chain wl E' e' ∧ e'.num = e.num) (fun E' wl => chainLen wl E')
  case atStart => exact ⟨rfl, e, hch, rfl⟩
  case round =>
    obtain ⟨rfl, e', hc', hiff⟩ := hrel
    cases hc' with
    | code c' =>
      have hq := eql_code c' c wr
      by_cases hcc : c' = c
      · subst hcc
        rw [decide_eq_true rfl] at hq
        go_wp2
        go_ret
        exact ⟨by rw [← hiff]; simp [EV.num], rfl⟩
      · rw [decide_eq_false hcc] at hq
        go_wp2
        go_ret
        exact ⟨by rw [← hiff]; simp [EV.num, hcc], rfl⟩
    | need lo hi =>
      have hty := run_eql_iface_types (P := Tryd.prog) 41 29 (.agg #[.string lo, .string hi]) (.int .i64 c) Tryd.underlying33 (by decide) wr
      go_wp2
      go_ret
      exact ⟨by rw [← hiff]; simp [EV.num], rfl⟩
    | wrap b0 o0 p E1 e1 h1 h2 h3 =>
      have hty := run_eql_iface_types (P := Tryd.prog) 93 29 (.pointer (some ⟨b0, o0, none⟩)) (.int .i64 c) Tryd.underlying33 (by decide) wr
      have hlen := chainLen_eq h3
      have hlen0 := chainLen_eq (Chain.wrap b0 o0 p E1 e1 h1 h2 h3)
      have hne : ∃ u v, E1 = .iface u v := by cases h3 <;> exact ⟨_, _, rfl⟩
      obtain ⟨u1, v1, rfl⟩ := hne
      have HC : Hid (Chain _ (.iface u1 v1) e1) := h3
      clear h3
      go_wp2
      go_roundw
      case rel => exact ⟨trivial, e1, HC.out, hiff⟩
      case measure =>
        show chainLen _ (.iface u1 v1) < _
        rw [hlen, hlen0]; simp [EV.len]
set_option maxRecDepth 1000000 in
set_option maxHeartbeats 8000000 in
theorem Is_code {W : World} (E : Value) (e : EV) (hch : Chain W E e) (c : Int) :
    Calls Tryd.prog 32 #[E, .iface 29 (.int .i64 c)] W fun ev w' => ev = .returned (.bool (decide (e.num = some c))) ∧ w' = W := by
  have hTO := @run_callFunc_extern Tryd.prog 53 _ ReflectliteType.typeOf Tryd.func53 (by kernel_rfl) (by kernel_rfl) (by kernel_rfl) (by kernel_rfl)
  have hCM := @run_callFunc_extern Tryd.prog 97 _ (ReflectliteType.method fun t => do Rtype.noPackHeld "Comparable" t; pure (.bool (← typeInfo t).comparable)) Tryd.func97 (by kernel_rfl) (by kernel_rfl) (by kernel_rfl) (by kernel_rfl)
  have t1 := typeOf_code
  have mC := mComparable
  have cc := comparable_code'
  have key := is_code E e hch c
  have hne : ∃ u v, E = .iface u v := by cases hch <;> exact ⟨_, _, rfl⟩
  obtain ⟨u0, v0, rfl⟩ := hne
  clear hch
  go_enter Tryd.func32, Tryd.ntmps32
  go_wp2_with (first | (go_at_call 54; refine key.mono ?_; rintro ev w' ⟨rfl, rfl⟩) | go_in)
  go_ret
  exact ⟨rfl, rfl⟩
end Go.Proofs.YtejeemhenoobjaaDoor.Errs

namespace Go.Proofs.YtejeemhenoobjaaDoor.Asl
open Go Go.RowKit
set_option linter.unusedVariables false
set_option linter.unusedSimpArgs false
variable {P : Program} {nt : Nat} {C : Cx} {σ : St} {a : Act} {e : Nat → AV} {h : Hp}
mutual
def AV.fzb (k : Nat) (X : AV) : AV → AV
  | .ptr id off => if id = k ∧ off = 0 then .fp X else .ptr id off
  | .agg l => .agg (AV.fzbs k X l)
  | .tup l => .tup (AV.fzbs k X l)
  | .ifc t x => .ifc t (AV.fzb k X x)
  | .fn f l m => .fn f (AV.fzbs k X l) (AV.fzbs k X m)
  | x => x
def AV.fzbs (k : Nat) (X : AV) : List AV → List AV
  | [] => []
  | x :: l => AV.fzb k X x :: AV.fzbs k X l
end
theorem AV.fzb_one (k : Nat) (X x : AV) : (AV.fzb k X x).one = x.one := by
  cases x with
  | ptr id off => simp only [AV.fzb]; split <;> simp [AV.one]
  | raw v => rfl
  | _ => simp [AV.fzb, AV.one]
mutual
theorem AV.fzb_size (k : Nat) (X : AV) : ∀ x : AV, (AV.fzb k X x).size = x.size
  | .ptr id off => by simp only [AV.fzb]; split <;> simp [AV.size]
  | .agg l => by simp [AV.fzb, AV.size, AV.fzbs_sizes k X l]
  | .ow .. | .ep .. | .tup _ | .ifc .. | .fn .. | .any | .raw _ | .sl .. | .fp _ => by simp [AV.fzb, AV.size]
theorem AV.fzbs_sizes (k : Nat) (X : AV) : ∀ l : List AV, AV.sizes (AV.fzbs k X l) = AV.sizes l
  | [] => rfl
  | x :: l => by simp [AV.fzbs, AV.sizes, AV.fzb_size k X x, AV.fzbs_sizes k X l]
end
theorem AV.fzbs_mem (k : Nat) (X : AV) : ∀ {l : List AV} {y : AV}, y ∈ AV.fzbs k X l → ∃ x ∈ l, y = AV.fzb k X x
  | x :: l, y, hy => by
    simp only [AV.fzbs, List.mem_cons] at hy
    rcases hy with rfl | hy
    · exact ⟨x, by simp, rfl⟩
    · obtain ⟨z, h1, h2⟩ := AV.fzbs_mem k X hy
      exact ⟨z, by simp [h1], h2⟩
structure FzB (C : Cx) (k : Nat) (X : AV) : Prop where
  at_ : ∃ b T cs, C.ι k = some (b, T) ∧ C.F b ∧ Reads C.W b 0 cs ∧ RC C.bare X cs
theorem FzB.ptr {k : Nat} {X : AV} (f : FzB C k X) {id off : Nat} {v : Value} (hx : RV C (.ptr id off) v) : RV C (AV.fzb k X (.ptr id off)) v := by
  simp only [AV.fzb]
  split
  · rename_i hc
    obtain ⟨rfl, rfl⟩ := hc
    obtain ⟨b, T, cs, h1, h2, h3, h4⟩ := f.at_
    cases hx with
    | ptr g => rw [h1] at g; cases g; exact .fp h4 h2 h3
  · exact hx
mutual
theorem RV.fzb {C : Cx} {k : Nat} {X : AV} (f : FzB C k X) {x : AV} {v : Value} (hx : RV C x v) : RV C (AV.fzb k X x) v :=
  match hx with
  | .any v => .any v
  | .raw v => .raw v
  | .agg q => .agg (q.fzb f)
  | .tup q => .tup (q.fzb f)
  | .sl0 => .sl0
  | .sl q hs hF hr hc => .sl q hs hF hr hc
  | .fp q hF hr => .fp q hF hr
  | .ptr q => f.ptr (.ptr q)
  | .ep q => .ep q
  | .ow q hl => .ow q hl
  | .ow0 q hl => .ow0 q hl
  | .ifc q => .ifc (q.fzb f)
  | .fn h1 h2 => .fn (h1.fzb f) (h2.fzb f)
theorem RC.fzb {C : Cx} {k : Nat} {X : AV} (f : FzB C k X) {x : AV} {cs : List Value} (hx : RC C x cs) : RC C (AV.fzb k X x) cs :=
  match hx with
  | .agg q => .agg (q.fzb f)
  | .one q h1 => .one (q.fzb f) (by rw [AV.fzb_one]; exact h1)
theorem RCs.fzb {C : Cx} {k : Nat} {X : AV} (f : FzB C k X) {l : List AV} {cs : List Value} (hx : RCs C l cs) : RCs C (AV.fzbs k X l) cs :=
  match hx with
  | .nil => .nil
  | .cons q q2 => .cons (q.fzb f) (q2.fzb f)
theorem RVs.fzb {C : Cx} {k : Nat} {X : AV} (f : FzB C k X) {l : List AV} {vs : List Value} (hx : RVs C l vs) : RVs C (AV.fzbs k X l) vs :=
  match hx with
  | .nil => .nil
  | .cons q q2 => .cons (q.fzb f) (q2.fzb f)
end
def Ob.fzb (k : Nat) (X : AV) : Ob → Ob
  | .box x => .box (AV.fzb k X x)
  | .arr s l => .arr s (AV.fzbs k X l)
  | x => x
theorem Ob.fzb_live (k : Nat) (X : AV) (ob : Ob) : (ob.fzb k X).live = ob.live := by cases ob <;> rfl
def fzbH (k : Nat) (X : AV) (h : Hp) : Hp := fun i => if i = k then some .dead else (h i).map (Ob.fzb k X)
theorem Weak.fzb {k : Nat} {X : AV} (hob : h k = some (.box X)) (hn : X.noid = true) : Weak ⟨e, h⟩ ⟨fun t => AV.fzb k X (e t), fzbH k X h⟩ := fun nt C a s => by
  obtain ⟨b, T, cs, t, h1, h2, h3, h4⟩ := s.heap.at_ k _ hob
  let C' : Cx := { W := C.W, F := fun k => C.F k ∨ k = b, O := fun k => C.O k ∧ k ≠ b, ι := C.ι }
  have u : Up C C' := ⟨fun _ h => .inl h, fun _ _ => rfl, fun _ _ h => h⟩
  have hr : Reads C.W b 0 cs.toList := Reads.of_block h3
  have f : FzB C' k X := ⟨b, T, cs.toList, h1, .inr rfl, hr, (h4.bare hn).up u.bare⟩
  refine ⟨C', rfl, ⟨rfl, rfl, rfl, Nat.le_refl _, fun _ h => .inl h, fun _ _ _ => rfl, fun k hk => ?_, fun k hk => .inl hk.1, fun _ _ _ h => h⟩, s.defers, s.size, fun t => ((s.env t).up u).fzb f, ⟨fun i q hq => ?_, fun i hi => ?_, fun i j b' T' U' o q g1 g2 g3 g4 g5 g6 => ?_, fun k hk hF => ?_, fun k hk => ?_, fun k hk => s.heap.olt k hk.1, s.heap.gl.up u⟩⟩
  · rcases hk with hk | rfl
    · exact .inl hk
    · exact .inr (.inl h2)
  · simp only [fzbH] at hq
    by_cases e : i = k
    · rw [if_pos e] at hq; cases hq; subst e
      exact ⟨b, T, h1⟩
    · rw [if_neg e] at hq
      obtain ⟨o, ho, rfl⟩ := Option.map_eq_some_iff.1 hq
      have hs : HSat C' i o := by
        refine (s.heap.at_ i o ho).up u fun b2 T2 k2 k3 k4 => ⟨⟨k3, fun e2 => ?_⟩, rfl⟩
        subst e2
        exact e (s.heap.inj i k _ _ _ o _ ho k4 hob rfl k2 h1)
      cases o with
      | box x =>
        obtain ⟨b, T, cs, t, q1, q2, q3, q4⟩ := hs
        exact ⟨b, T, cs, t, q1, q2, q3, q4.fzb f⟩
      | arr sz l =>
        obtain ⟨b, T, cs, t, fr, c1, c2, q1, q2, q3, q4, q5, q6, q7, q8, q9⟩ := hs
        refine ⟨b, T, cs, t, fr, c1, c2, q1, q2, q3, q4, q5, q6.fzb f, fun y hy => ?_, q8, q9⟩
        obtain ⟨x, hx, rfl⟩ := AV.fzbs_mem k X hy
        rw [AV.fzb_size]; exact q7 x hx
      | fz sz l => exact hs
      | dead => exact hs
  · simp only [fzbH] at hi
    by_cases e : i = k
    · rw [if_pos e] at hi; cases hi
    · rw [if_neg e] at hi; exact s.heap.no i (by simpa using hi)
  · have g : ∀ i (q : Ob), fzbH k X h i = some q → q.live = true → ∃ o, h i = some o ∧ o.live = true := by
      intro i q hk hq
      simp only [fzbH] at hk
      by_cases e2 : i = k
      · rw [if_pos e2] at hk; cases hk; simp [Ob.live] at hq
      · rw [if_neg e2] at hk
        obtain ⟨o, ho, rfl⟩ := Option.map_eq_some_iff.1 hk
        exact ⟨o, ho, by rw [Ob.fzb_live] at hq; exact hq⟩
    obtain ⟨o1, x1, x2⟩ := g i o g1 g2
    obtain ⟨o2, y1, y2⟩ := g j q g3 g4
    exact s.heap.inj i j b' T' U' o1 o2 x1 x2 y1 y2 g5 g6
  · rcases hF with hF | rfl
    · exact s.heap.apart k hk.1 hF
    · exact hk.2 rfl
  · rcases hk with hk | rfl
    · exact s.heap.lt k hk
    · exact s.heap.olt _ h2
/-- A variable that was made, handed on for reading. -/
theorem Fin.fzb {k : Nat} {X r r' : AV} (hob : h k = some (.box X)) (hn : X.noid = true) (hr : Is (AV.fzb k X r) r') (hn' : Is r'.noid true) (hb : BigIn h noHeap) (hk : k < 100000) : Fin h r noHeap r' := by
  have h1 : Fin h r (fzbH k X h) r' := by
    have := Weak.fzb (e := E1 r) hob hn
    have e : (fun t => AV.fzb k X (E1 r t)) = E1 r' := by
      funext t
      unfold E1
      split
      · exact hr
      · rfl
    rw [e] at this
    exact this
  refine h1.trans (Fin.drop hn' fun id hid h0 => ?_)
  simp only [fzbH]
  rw [if_neg (by omega), hb id hid h0]; rfl
attribute [simp] AV.fzb AV.fzbs
end Go.Proofs.YtejeemhenoobjaaDoor.Asl

namespace Go.Proofs.YtejeemhenoobjaaDoor.Asl
open Go Go.RowKit
open Go.Proofs.YtejeemhenoobjaaDoor.Errs (EV Gr Hit)
set_option linter.unusedVariables false
set_option linter.unusedSimpArgs false
def errAV : EV → AV
  | .code c => .ifc 29 (.raw (.int .i64 c))
  | .need lo hi => .ifc 41 (.agg [.raw (.string lo), .raw (.string hi)])
  | .wrap p e => .ifc 93 (.fp (.agg [.raw (.string p), errAV e]))
def errO : Option EV → AV
  | none => .raw .nilIface
  | some e => errAV e
@[simp] theorem errO_none : errO none = .raw .nilIface := rfl
@[simp] theorem errO_some {e : EV} : errO (some e) = errAV e := rfl
@[simp] theorem errAV_code {c : Int} : errAV (.code c) = .ifc 29 (.raw (.int .i64 c)) := rfl
@[simp] theorem errAV_need {lo hi : ByteArray} : errAV (.need lo hi) = .ifc 41 (.agg [.raw (.string lo), .raw (.string hi)]) := rfl
@[simp ↓ high] theorem errAV_noid : ∀ e : EV, (errAV e).noid = true
  | .code _ => by simp
  | .need _ _ => by simp
  | .wrap p e => by simp [errAV]
@[simp ↓ high] theorem errO_noid (e : Option EV) : (errO e).noid = true := by cases e <;> simp
@[simp ↓ high] theorem errAV_one : ∀ e : EV, (errAV e).one = true
  | .code _ => rfl
  | .need _ _ => rfl
  | .wrap _ _ => rfl
@[simp ↓ high] theorem errO_one (e : Option EV) : (errO e).one = true := by
  cases e with
  | none => rfl
  | some e => exact errAV_one e
@[simp ↓ high] theorem errAV_size (e : EV) : (errAV e).size = 1 := AV.size_one (errAV_one e)
@[simp ↓ high] theorem errO_size (e : Option EV) : (errO e).size = 1 := AV.size_one (errO_one e)
@[simp ↓ high] theorem errAV_isAgg (e : EV) : (errAV e).isAgg = false := by cases e <;> rfl
@[simp ↓ high] theorem errO_isAgg (e : Option EV) : (errO e).isAgg = false := by
  cases e with
  | none => rfl
  | some e => exact errAV_isAgg e
@[simp] theorem errAV_deep (h : Hp) (e : EV) : (errAV e).deep h = errAV e := noid_deep.1 _ (errAV_noid e) h
@[simp] theorem errO_deep (h : Hp) (e : Option EV) : (errO e).deep h = errO e := noid_deep.1 _ (errO_noid e) h
@[simp] theorem errAV_within (h : Hp) (e : EV) : (errAV e).within h = true := (noid_withins h).1 _ (errAV_noid e)
@[simp] theorem errO_within (h : Hp) (e : Option EV) : (errO e).within h = true := (noid_withins h).1 _ (errO_noid e)
@[simp] theorem errAV_ren (π : Nat → Nat) (e : EV) : (errAV e).ren π = errAV e := noid_ren.1 _ (errAV_noid e) π
@[simp] theorem errO_ren (π : Nat → Nat) (e : Option EV) : (errO e).ren π = errO e := noid_ren.1 _ (errO_noid e) π
@[simp] theorem errAV_rows (e : EV) : (errAV e).rowsOf = [] := noid_rows.1 _ (errAV_noid e)
@[simp] theorem errO_rows (e : Option EV) : (errO e).rowsOf = [] := noid_rows.1 _ (errO_noid e)
@[simp ↓ high] theorem errAV_top (e : EV) : (errAV e).top = none := by cases e <;> rfl
@[simp ↓ high] theorem errAV_tag (e : EV) : (errAV e).tagP = some none := by
  cases e with
  | code c => rfl
  | need lo hi => rfl
  | wrap p e => simp only [errAV, AV.tagP]; rw [if_pos (by simp)]
@[simp ↓ high] theorem errO_tag (e : Option EV) : (errO e).tagP = some none := by
  cases e with
  | none => rfl
  | some e => exact errAV_tag e
@[simp ↓ high] theorem ifNil_err (e : EV) : ifNil (errAV e) = some false := by cases e <;> rfl
theorem get_leaf {x : AV} (h : x.isAgg = false) (n : Nat) (ag : Bool) (off : Nat) : AV.get n ag x off = if off = 0 ∧ n = 1 ∧ ag = false then some x else none := by
  cases x with
  | agg l => simp [AV.isAgg] at h
  | _ => simp [AV.get]
theorem set_leaf {x : AV} (h : x.isAgg = false) (n : Nat) (y : AV) (off : Nat) : AV.set n y x off = if off = 0 ∧ n = 1 ∧ y.one = true then some y else none := by
  cases x with
  | agg l => simp [AV.isAgg] at h
  | _ => simp [AV.set]
@[simp ↓ high] theorem errAV_get (e : EV) (n : Nat) (ag : Bool) (off : Nat) : AV.get n ag (errAV e) off = if off = 0 ∧ n = 1 ∧ ag = false then some (errAV e) else none := get_leaf (errAV_isAgg e) n ag off
@[simp ↓ high] theorem errO_get (e : Option EV) (n : Nat) (ag : Bool) (off : Nat) : AV.get n ag (errO e) off = if off = 0 ∧ n = 1 ∧ ag = false then some (errO e) else none := get_leaf (errO_isAgg e) n ag off
@[simp ↓ high] theorem errAV_set (e : EV) (n : Nat) (y : AV) (off : Nat) : AV.set n y (errAV e) off = if off = 0 ∧ n = 1 ∧ y.one = true then some y else none := set_leaf (errAV_isAgg e) n y off
@[simp ↓ high] theorem errO_set (e : Option EV) (n : Nat) (y : AV) (off : Nat) : AV.set n y (errO e) off = if off = 0 ∧ n = 1 ∧ y.one = true then some y else none := set_leaf (errO_isAgg e) n y off
theorem chain_of : ∀ (e : EV) {C : Cx} {v : Value}, RV C (errAV e) v → Errs.Chain C.W v e
  | .code c, C, v, h => by
    cases h with
    | ifc h => rw [RV.raw_eq h]; exact .code c
  | .need lo hi, C, v, h => by
    cases h with
    | ifc h =>
      cases h with
      | agg h =>
        cases h with
        | cons h1 h2 =>
          cases h2 with
          | cons h2 h3 =>
            cases h3
            cases h1 with
            | one h1 _ =>
              cases h2 with
              | one h2 _ =>
                rw [RV.raw_eq h1, RV.raw_eq h2]; exact .need lo hi
  | .wrap p e, C, v, h => by
    cases h with
    | ifc h =>
      cases h with
      | fp h hF hr =>
        cases h with
        | one h h1 => simp [AV.one] at h1
        | agg h =>
          cases h with
          | cons h1 h2 =>
            cases h2 with
            | cons h2 h3 =>
              cases h3
              cases h1 with
              | one h1 _ =>
                obtain ⟨v', rfl, h2v⟩ := h2.val.2 (errAV_isAgg e)
                rw [RV.raw_eq h1] at hr
                refine .wrap _ _ p _ e ?_ ?_ (chain_of e (h2v.up (bare_up C)))
                · exact hr 0 _ rfl
                · exact hr 1 _ rfl
/-- A world that has grown. -/
theorem HOk.gr {C : Cx} {h : Hp} (hh : HOk C h) {W' : World} (g : Gr C.W W') : HOk { C with W := W' } h ∧ Ext C { C with W := W' } ∧ Up C { C with W := W' } := by
  have u : Up C { C with W := W' } := ⟨fun _ h => h, fun b hb => g.old b (hh.lt b hb), fun _ _ h => h⟩
  refine ⟨⟨fun id ob k => (hh.at_ id ob k).up u (fun b T _ hO _ => ⟨hO, g.old b (hh.olt b hO)⟩), hh.no, hh.inj, hh.apart, fun b hb => Nat.lt_of_lt_of_le (hh.lt b hb) g.size, fun b hb => Nat.lt_of_lt_of_le (hh.olt b hb) g.size, hh.gl.up u⟩,
    ⟨g.os, g.tape, g.output, g.size, fun _ h => h, fun b hb _ => g.old b hb, fun _ h => .inl h, fun _ h => .inl h, fun _ _ _ h => h⟩, u⟩
theorem HOk.hit {C : Cx} {X X' : AV} (hh : HOk C (setH noHeap 100000 (.box X))) {W' : World} {b T : Nat} {cs : Array Value} {ty : TypeId} (hι : C.ι 100000 = some (b, T)) (k : Hit C.W W' b cs ty) (hX : RC C.bare X' cs.toList) :
    HOk { C with W := W' } (setH noHeap 100000 (.box X')) ∧ Ext C { C with W := W' } ∧ Up C { C with W := W' } := by
  obtain ⟨W2, g, hp, hw⟩ := k
  obtain ⟨h1, e1, u1⟩ := hh.gr g
  have hs := h1.at_ 100000 (.box X) rfl
  obtain ⟨b', T', cs', t', k1, k2, k3, k4⟩ := hs
  have k1' : C.ι 100000 = some (b', T') := k1
  rw [hι] at k1'
  cases k1'
  have u0 := put_up h1 k2 hp
  have sat : Sat 0 { C with W := W2 } ⟨fun _ => .any, setH noHeap 100000 (.box X)⟩ { tmps := #[], defers := [] } := ⟨rfl, rfl, fun _ => .any _, h1⟩
  have s2 := upd_sat (ob' := .box X') sat rfl rfl hι k2 hp rfl ⟨b, T, cs, ty, hι, k2, hw, (hX.up ((u1.bare).trans u0.bare)).up (bare_up _)⟩
  refine ⟨?_, e1.trans (put_ext k2 hp), u1.trans u0⟩
  have e0 : setH (setH noHeap 100000 (.box X)) 100000 (.box X') = setH noHeap 100000 (.box X') := by
    funext i; simp only [setH]; split <;> rfl
  have := s2.heap
  rw [e0] at this
  exact this
theorem glob_at {C : Cx} {h : Hp} (hh : HOk C h) : C.W.cell? ⟨0, 0, none⟩ = some (Errs.rty 33) := (hh.gl _ (List.mem_cons_self)).2
theorem box_at {C : Cx} {X : AV} (hh : HOk C (setH noHeap 100000 (.box X))) : ∃ b T cs ty, C.ι 100000 = some (b, T) ∧ C.W.heap[b]? = some (.cells cs ty (0, 0)) ∧ cs.size = X.size := by
  obtain ⟨b, T, cs, t, h1, h2, h3, h4⟩ := hh.at_ 100000 (.box X) rfl
  exact ⟨b, T, cs, t, h1, h3, by rw [← Array.length_toList]; exact h4.len⟩
theorem c_AsCode (e : EV) (x : Int) : CallD Tryd.prog 42 [errAV e, .ifc 92 (.ptr 100000 0)] (setH noHeap 100000 (.box (.raw (.int .i64 x)))) (.raw (.bool e.num.isSome)) (setH noHeap 100000 (.box (.raw (.int .i64 (e.num.getD x))))) := by
  intro C vs hC hvs
  obtain ⟨b, T, cs, ty, hι, hb, hn⟩ := box_at hC
  cases hvs with
  | cons h1 h2 =>
    cases h2 with
    | cons h2 h3 =>
      cases h3
      cases h2 with
      | ifc h2 =>
        cases h2 with
        | ptr h2 =>
          rw [hι] at h2; cases h2
          refine Calls.mono (Errs.As_code _ e (chain_of e h1) b cs ty hb hn (glob_at hC)) ?_
          rintro ev W' ⟨q1, q2⟩
          rw [Errs.EV.as_num] at q1 q2
          cases hk : e.num with
          | none =>
            obtain ⟨rfl, g⟩ := q1 (by rw [hk]; rfl)
            obtain ⟨k1, k2, k3⟩ := hC.gr g
            exact ⟨_, _, rfl, rfl, k2, k1, .raw _, fun _ _ h => h⟩
          | some c =>
            obtain ⟨rfl, g⟩ := q2 _ (by rw [hk]; rfl)
            obtain ⟨k1, k2, k3⟩ := hC.hit (X' := .raw (.int .i64 c)) hι g (.one (.raw _) rfl)
            exact ⟨_, _, rfl, rfl, k2, k1, .raw _, fun _ _ h => h⟩
/-- The first link, if it has a place. -/
def EV.link : EV → Option AV
  | .wrap p e => some (.fp (.agg [.raw (.string p), errAV e]))
  | _ => none
theorem c_AsFault (e : EV) (X : AV) (hX : X.size = 1) : CallD Tryd.prog 42 [errAV e, .ifc 94 (.ptr 100000 0)] (setH noHeap 100000 (.box X)) (.raw (.bool (EV.link e).isSome)) (setH noHeap 100000 (.box ((EV.link e).getD X))) := by
  intro C vs hC hvs
  obtain ⟨b, T, cs, ty, hι, hb, hn⟩ := box_at hC
  cases hvs with
  | cons h1 h2 =>
    cases h2 with
    | cons h2 h3 =>
      cases h3
      cases h2 with
      | ifc h2 =>
        cases h2 with
        | ptr h2 =>
          rw [hι] at h2; cases h2
          refine Calls.mono (Errs.As_wrap _ e (chain_of e h1) b cs ty hb (by rw [hn, hX]) (glob_at hC)) ?_
          rintro ev W' ⟨q1, q2⟩
          cases e with
          | code c =>
            obtain ⟨rfl, g⟩ := q1 rfl
            obtain ⟨k1, k2, k3⟩ := hC.gr g
            exact ⟨_, _, rfl, rfl, k2, k1, .raw _, fun _ _ h => h⟩
          | need lo hi =>
            obtain ⟨rfl, g⟩ := q1 rfl
            obtain ⟨k1, k2, k3⟩ := hC.gr g
            exact ⟨_, _, rfl, rfl, k2, k1, .raw _, fun _ _ h => h⟩
          | wrap p e =>
            cases h1 with
            | ifc h1 =>
              obtain ⟨rfl, g⟩ := q2 _ rfl
              obtain ⟨k1, k2, k3⟩ := hC.hit (X' := .fp (.agg [.raw (.string p), errAV e])) hι g (.one (h1.bare (by simp)) rfl)
              exact ⟨_, _, rfl, rfl, k2, k1, .raw _, fun _ _ h => h⟩
theorem c_AsNil (t : Nat) (X : AV) : CallD Tryd.prog 42 [.raw .nilIface, .ifc t (.ptr 100000 0)] (setH noHeap 100000 (.box X)) (.raw (.bool false)) (setH noHeap 100000 (.box X)) := by
  intro C vs hC hvs
  cases hvs with
  | cons h1 h2 =>
    cases h2 with
    | cons h2 h3 =>
      cases h3
      rw [RV.raw_eq h1]
      refine Calls.mono (Errs.As_nil _ _) ?_
      rintro ev W' ⟨rfl, rfl⟩
      exact ⟨_, C, rfl, rfl, .refl C, hC, .raw _, fun _ _ h => h⟩
theorem c_IsCode (e : EV) (c : Int) : CallD Tryd.prog 32 [errAV e, .ifc 29 (.raw (.int .i64 c))] noHeap (.raw (.bool (decide (e.num = some c)))) noHeap := by
  intro C vs hC hvs
  cases hvs with
  | cons h1 h2 =>
    cases h2 with
    | cons h2 h3 =>
      cases h3
      cases h2 with
      | ifc h2 =>
        rw [RV.raw_eq h2]
        refine Calls.mono (Errs.Is_code _ e (chain_of e h1) c) ?_
        rintro ev W' ⟨rfl, rfl⟩
        exact ⟨_, C, rfl, rfl, .refl C, hC, .raw _, fun _ _ h => h⟩
end Go.Proofs.YtejeemhenoobjaaDoor.Asl

namespace Go.Proofs.YtejeemhenoobjaaDoor.Asl
open Go Go.RowKit
set_option linter.unusedVariables false
set_option linter.unusedSimpArgs false
def strs (ps : List ByteArray) : List AV := ps.map fun s => .raw (.string s)
@[simp] theorem strs_len (l : List ByteArray) : (strs l).length = l.length := by simp [strs]
@[simp] theorem strs_get (l : List ByteArray) (i : Nat) : (strs l)[i]? = (l[i]?).map fun p => AV.raw (.string p) := by simp [strs]
@[simp] theorem strs_noids (l : List ByteArray) : AV.noids (strs l) = true := by
  rw [AV.noids_iff]; intro x hx
  obtain ⟨n, _, rfl⟩ := List.mem_map.1 hx
  rfl
@[simp] theorem strs_rows (l : List ByteArray) : AV.rowsOfs (strs l) = [] := noid_rows.2 _ (strs_noids l)
@[simp] theorem strs_deeps (h : Hp) (l : List ByteArray) : AV.deeps h (strs l) = strs l := noid_deep.2 _ (strs_noids l) h
@[simp] theorem strs_withins (h : Hp) (l : List ByteArray) : AV.withins h (strs l) = true := (noid_withins h).2 _ (strs_noids l)
@[simp] theorem strs_rens (π : Nat → Nat) (l : List ByteArray) : AV.rens π (strs l) = strs l := noid_ren.2 _ (strs_noids l) π
@[simp] theorem strs_app1 (l : List ByteArray) (s : ByteArray) : strs l ++ [.raw (.string s)] = strs (l ++ [s]) := by simp [strs]
@[simp] theorem strs_nil : strs [] = [] := rfl
@[simp] theorem strs_cons (s : ByteArray) (l : List ByteArray) : strs (s :: l) = AV.raw (.string s) :: strs l := rfl
@[simp] theorem strs_take (l : List ByteArray) (n : Nat) : (strs l).take n = strs (l.take n) := by simp [strs, List.map_take]
@[simp] theorem strs_drop (l : List ByteArray) (n : Nat) : (strs l).drop n = strs (l.drop n) := by simp [strs, List.map_drop]
end Go.Proofs.YtejeemhenoobjaaDoor.Asl

namespace Go.Proofs.YtejeemhenoobjaaDoor.Asl
open Go Go.RowKit
open Go.Proofs.YtejeemhenoobjaaDoor.Errs (EV)
set_option linter.unusedVariables false
set_option linter.unusedSimpArgs false
set_option maxRecDepth 100000
set_option maxHeartbeats 4000000
def ofE (c : Int) : Option EV := if c = 0 then none else some (.code c)
theorem c_FOf (c : Int) : CallD Tryd.prog 21 [.raw (.int .i64 c)] noHeap (errO (ofE c)) noHeap := by
  unfold ofE
  by_cases h : c = 0
  · subst h
    rw [if_pos rfl]
    refine zzg (nt := 7) (rs := [.tmp 2]) Tryd.func21 ?_; intro Q hQ hW
    repeat' (first
 | (with_reducible refine run_n ?_; with_reducible first | refine hK _ _ (by simp) ?_ | refine hK _ _ ?_; clear hK K)
 | (refine zzc ?_)
 | (with_reducible refine awp_regT (by kernel_rfl) ?_; intro K hK)
 | (with_reducible refine a_cond (ht := ?_) (hf := ?_) <;> intro hb <;> (try simp at hb) <;> (try contradiction) <;> (try subst hb) <;> (try omega))
 | (with_reducible first | refine a_move (hr:=?_) | refine a_assign (hr:=?_) | refine a_bin (hr:=?_) | refine a_makeIf (hr:=?_) | refine a_eqI (hr:=?_) | refine a_neI (hr:=?_) | refine a_eqB (hr:=?_) | refine a_eqS (hr:=?_))
 | fail)
    all_goals ((refine zzr hQ ?_))
    all_goals (exact zzd)
  · rw [if_neg h]
    refine zzg (nt := 7) (rs := [.tmp 2]) Tryd.func21 ?_; intro Q hQ hW
    repeat' (first
 | (with_reducible refine run_n ?_; with_reducible first | refine hK _ _ (by simp) ?_ | refine hK _ _ ?_; clear hK K)
 | (refine zzc ?_)
 | (with_reducible refine awp_regT (by kernel_rfl) ?_; intro K hK)
 | (with_reducible refine a_cond (ht := ?_) (hf := ?_) <;> intro hb <;> (try simp at hb) <;> (try contradiction) <;> (try subst hb) <;> (try omega))
 | (with_reducible first | refine a_move (hr:=?_) | refine a_assign (hr:=?_) | refine a_bin (hr:=?_) | refine a_makeIf (hr:=?_) | refine a_eqI (hr:=?_) | refine a_neI (hr:=?_) | refine a_eqB (hr:=?_) | refine a_eqS (hr:=?_))
 | fail)
    all_goals ((refine zzr hQ ?_))
    all_goals (exact zzd)
theorem c_FWrap (p : ByteArray) (e : Option EV) : CallD Tryd.prog 20 [.raw (.string p), errO e] noHeap (errO (e.map (.wrap p))) noHeap := by
  cases e with
  | none =>
    refine zzg (nt := 12) (rs := [.tmp 4]) Tryd.func20 ?_; intro Q hQ hW
    repeat' (first
 | (with_reducible refine run_n ?_; with_reducible first | refine hK _ _ (by simp) ?_ | refine hK _ _ ?_; clear hK K)
 | (refine zzc ?_)
 | (with_reducible refine awp_regT (by kernel_rfl) ?_; intro K hK)
 | (with_reducible refine a_cond (ht := ?_) (hf := ?_) <;> intro hb <;> (try simp at hb) <;> (try contradiction) <;> (try subst hb) <;> (try omega))
 | (with_reducible first | refine a_move (hr:=?_) | refine a_assign (hr:=?_) | refine a_bin (hr:=?_) | refine a_box (hr:=?_) | refine a_makeIf (hr:=?_) | refine a_eqI (hr:=?_) | refine a_neI (hr:=?_) | refine a_eqB (hr:=?_) | refine a_eqS (hr:=?_) | refine a_build (hr:=?_))
 | fail)
    all_goals ((refine zzr hQ ?_))
    all_goals (exact zzd)
  | some e =>
    simp only [errO_some, Option.map_some]
    refine zzg (nt := 12) (rs := [.tmp 4]) Tryd.func20 ?_; intro Q hQ hW
    repeat' (first
 | (with_reducible refine run_n ?_; with_reducible first | refine hK _ _ (by simp) ?_ | refine hK _ _ ?_; clear hK K)
 | (refine zzc ?_)
 | (with_reducible refine awp_regT (by kernel_rfl) ?_; intro K hK)
 | (with_reducible refine a_cond (ht := ?_) (hf := ?_) <;> intro hb <;> (try simp at hb) <;> (try contradiction) <;> (try subst hb) <;> (try omega))
 | (with_reducible first | refine a_move (hr:=?_) | refine a_assign (hr:=?_) | refine a_bin (hr:=?_) | refine a_box (hr:=?_) | refine a_makeIf (hr:=?_) | refine a_eqI (hr:=?_) | refine a_neI (hr:=?_) | refine a_eqB (hr:=?_) | refine a_eqS (hr:=?_) | refine a_build (hr:=?_))
 | fail)
    (refine zzr hQ ?_)
    exact Fin.fzb (k := 10) (X := .agg [.raw (.string p), errAV e]) (by simp) (by simp) (by simp [errAV]; exact .r) (by simp [errAV]; exact .r) (by simp) (by decide)
def codeE : Option EV → Int
  | none => 0
  | some e => e.num.getD 20
theorem c_FCode (e : Option EV) : CallD Tryd.prog 13 [errO e] noHeap (.raw (.int .i64 (codeE e))) noHeap := by
  cases e with
  | none =>
    refine zzg (nt := 10) (rs := [.tmp 2]) Tryd.func13 ?_; intro Q hQ hW
    repeat' (first
 | (with_reducible refine run_n ?_; with_reducible first | refine hK _ _ (by simp) ?_ | refine hK _ _ ?_; clear hK K)
 | (refine zzc ?_)
 | (with_reducible refine awp_regT (by kernel_rfl) ?_; intro K hK)
 | (with_reducible refine a_cond (ht := ?_) (hf := ?_) <;> intro hb <;> (try simp at hb) <;> (try contradiction) <;> (try subst hb) <;> (try omega))
 | (with_reducible first | refine a_move (hr:=?_) | refine a_assign (hr:=?_) | refine a_load (hr:=?_) | refine a_bin (hr:=?_) | refine a_alloc (hr:=?_) | refine a_makeIf (hr:=?_) | refine a_eqI (hr:=?_) | refine a_neI (hr:=?_) | refine a_eqB (hr:=?_) | refine a_eqS (hr:=?_))
 | fail)
    all_goals ((refine zzr hQ ?_))
    all_goals (exact zzd)
  | some e =>
    have ha := c_AsCode e 0
    simp only [errO_some, codeE]
    generalize e.num = n at ha ⊢
    cases n with
    | none =>
      refine zzg (nt := 10) (rs := [.tmp 2]) Tryd.func13 ?_; intro Q hQ hW
      repeat' (first
 | (with_reducible refine run_n ?_; with_reducible first | refine hK _ _ (by simp) ?_ | refine hK _ _ ?_; clear hK K)
 | (refine zzc ?_)
 | (with_reducible refine awp_regT (by kernel_rfl) ?_; intro K hK)
 | (with_reducible refine a_cond (ht := ?_) (hf := ?_) <;> intro hb <;> (try simp at hb) <;> (try contradiction) <;> (try subst hb) <;> (try omega))
 | (with_reducible first | refine a_move (hr:=?_) | refine a_assign (hr:=?_) | refine a_load (hr:=?_) | refine a_bin (hr:=?_) | refine a_alloc (hr:=?_) | refine a_makeIf (hr:=?_) | refine a_eqI (hr:=?_) | refine a_neI (hr:=?_) | refine a_eqB (hr:=?_) | refine a_eqS (hr:=?_) | refine a_callP (p := 3) (hcall := ha) (hr:=?_))
 | fail)
      all_goals ((refine zzr hQ ?_))
      all_goals (exact zzd)
    | some c =>
      refine zzg (nt := 10) (rs := [.tmp 2]) Tryd.func13 ?_; intro Q hQ hW
      repeat' (first
 | (with_reducible refine run_n ?_; with_reducible first | refine hK _ _ (by simp) ?_ | refine hK _ _ ?_; clear hK K)
 | (refine zzc ?_)
 | (with_reducible refine awp_regT (by kernel_rfl) ?_; intro K hK)
 | (with_reducible refine a_cond (ht := ?_) (hf := ?_) <;> intro hb <;> (try simp at hb) <;> (try contradiction) <;> (try subst hb) <;> (try omega))
 | (with_reducible first | refine a_move (hr:=?_) | refine a_assign (hr:=?_) | refine a_load (hr:=?_) | refine a_bin (hr:=?_) | refine a_alloc (hr:=?_) | refine a_makeIf (hr:=?_) | refine a_eqI (hr:=?_) | refine a_neI (hr:=?_) | refine a_eqB (hr:=?_) | refine a_eqS (hr:=?_) | refine a_callP (p := 3) (hcall := ha) (hr:=?_))
 | fail)
      all_goals ((refine zzr hQ ?_))
      all_goals (exact zzd)
theorem num_code {e : EV} {c : Int} (h2 : c ≠ 20) : (codeE (some e) = c) ↔ (e.num = some c) := by
  simp only [codeE]
  cases h : e.num with
  | none => simp; omega
  | some d => simp
theorem c_FIs (e : Option EV) (c : Int) : CallD Tryd.prog 10 [errO e, .raw (.int .i64 c)] noHeap (.raw (.bool (decide (codeE e = c)))) noHeap := by
  have h1 := c_FCode e
  cases e with
  | none =>
    generalize codeE none = n at h1 ⊢
    refine zzg (nt := 23) (rs := [.tmp 4]) Tryd.func10 ?_; intro Q hQ hW
    repeat' (first
 | (with_reducible refine run_n ?_; with_reducible first | refine hK _ _ (by simp) ?_ | refine hK _ _ ?_; clear hK K)
 | (refine zzc ?_)
 | (with_reducible refine awp_regT (by kernel_rfl) ?_; intro K hK)
 | (with_reducible refine a_cond (ht := ?_) (hf := ?_) <;> intro hb <;> (try simp at hb) <;> (try contradiction) <;> (try subst hb) <;> (try omega))
 | (with_reducible first | refine a_move (hr:=?_) | refine a_assign (hr:=?_) | refine a_bin (hr:=?_) | refine a_pick (hr:=?_) | refine a_makeIf (hr:=?_) | refine a_eqI (hr:=?_) | refine a_neI (hr:=?_) | refine a_eqB (hr:=?_) | refine a_eqS (hr:=?_) | refine a_callF (hcall := h1) (hr:=?_) | refine a_gT (hr:=?_) | refine a_gF (hr:=?_) | refine a_gU (hr:=?_))
 | (with_reducible refine a_gB (hT := ?_) (hF := ?_) <;> intro hb <;> (try simp at hb) <;> (try contradiction) <;> (try subst hb) <;> (try omega))
 | fail)
    all_goals ((refine zzr hQ ?_))
    all_goals (exact zzd)
  | some e =>
    have h2 := c_IsCode e c
    have hn := num_code (e := e) (c := c)
    simp only [errO_some] at h1 ⊢
    by_cases hc : c = 0 ∨ c = 20
    · generalize codeE (some e) = n at h1 ⊢
      rcases hc with rfl | rfl
      · refine zzg (nt := 23) (rs := [.tmp 4]) Tryd.func10 ?_; intro Q hQ hW
        repeat' (first
 | (with_reducible refine run_n ?_; with_reducible first | refine hK _ _ (by simp) ?_ | refine hK _ _ ?_; clear hK K)
 | (refine zzc ?_)
 | (with_reducible refine awp_regT (by kernel_rfl) ?_; intro K hK)
 | (with_reducible refine a_cond (ht := ?_) (hf := ?_) <;> intro hb <;> (try simp at hb) <;> (try contradiction) <;> (try subst hb) <;> (try omega))
 | (with_reducible first | refine a_move (hr:=?_) | refine a_assign (hr:=?_) | refine a_bin (hr:=?_) | refine a_pick (hr:=?_) | refine a_makeIf (hr:=?_) | refine a_eqI (hr:=?_) | refine a_neI (hr:=?_) | refine a_eqB (hr:=?_) | refine a_eqS (hr:=?_) | refine a_callF (hcall := h1) (hr:=?_) | refine a_gT (hr:=?_) | refine a_gF (hr:=?_) | refine a_gU (hr:=?_))
 | (with_reducible refine a_gB (hT := ?_) (hF := ?_) <;> intro hb <;> (try simp at hb) <;> (try contradiction) <;> (try subst hb) <;> (try omega))
 | fail)
        all_goals ((refine zzr hQ ?_))
        all_goals (exact zzd)
      · refine zzg (nt := 23) (rs := [.tmp 4]) Tryd.func10 ?_; intro Q hQ hW
        repeat' (first
 | (with_reducible refine run_n ?_; with_reducible first | refine hK _ _ (by simp) ?_ | refine hK _ _ ?_; clear hK K)
 | (refine zzc ?_)
 | (with_reducible refine awp_regT (by kernel_rfl) ?_; intro K hK)
 | (with_reducible refine a_cond (ht := ?_) (hf := ?_) <;> intro hb <;> (try simp at hb) <;> (try contradiction) <;> (try subst hb) <;> (try omega))
 | (with_reducible first | refine a_move (hr:=?_) | refine a_assign (hr:=?_) | refine a_bin (hr:=?_) | refine a_pick (hr:=?_) | refine a_makeIf (hr:=?_) | refine a_eqI (hr:=?_) | refine a_neI (hr:=?_) | refine a_eqB (hr:=?_) | refine a_eqS (hr:=?_) | refine a_callF (hcall := h1) (hr:=?_) | refine a_gT (hr:=?_) | refine a_gF (hr:=?_) | refine a_gU (hr:=?_))
 | (with_reducible refine a_gB (hT := ?_) (hF := ?_) <;> intro hb <;> (try simp at hb) <;> (try contradiction) <;> (try subst hb) <;> (try omega))
 | fail)
        all_goals ((refine zzr hQ ?_))
        all_goals (exact zzd)
    · have hc0 : ¬ c = 0 := fun h => hc (.inl h)
      have hc2 : ¬ c = 20 := fun h => hc (.inr h)
      rw [decide_eq_decide.2 (hn hc2)]
      obtain ⟨b, hb⟩ : ∃ b, decide (e.num = some c) = b := ⟨_, rfl⟩
      rw [hb] at h2 ⊢
      refine zzg (nt := 23) (rs := [.tmp 4]) Tryd.func10 ?_; intro Q hQ hW
      repeat' (first
 | (with_reducible refine run_n ?_; with_reducible first | refine hK _ _ (by simp) ?_ | refine hK _ _ ?_; clear hK K)
 | (refine zzc ?_)
 | (with_reducible refine awp_regT (by kernel_rfl) ?_; intro K hK)
 | (with_reducible refine a_cond (ht := ?_) (hf := ?_) <;> intro hb <;> (try simp at hb) <;> (try contradiction) <;> (try subst hb) <;> (try omega))
 | (with_reducible first | refine a_move (hr:=?_) | refine a_assign (hr:=?_) | refine a_bin (hr:=?_) | refine a_pick (hr:=?_) | refine a_makeIf (hr:=?_) | refine a_eqI (hr:=?_) | refine a_neI (hr:=?_) | refine a_eqB (hr:=?_) | refine a_eqS (hr:=?_) | refine a_callF (hcall := h1) (hr:=?_) | refine a_callF (hcall := h2) (hr:=?_) | refine a_gT (hr:=?_) | refine a_gF (hr:=?_) | refine a_gU (hr:=?_))
 | (with_reducible refine a_gB (hT := ?_) (hF := ?_) <;> intro hb <;> (try simp at hb) <;> (try contradiction) <;> (try subst hb) <;> (try omega))
 | fail)
      all_goals ((refine zzr hQ ?_))
      all_goals (exact zzd)
/-- The places. -/
def placesE : EV → List ByteArray
  | .wrap p e => p :: placesE e
  | _ => []
def trailE : Option EV → List ByteArray
  | none => []
  | some e => placesE e
def fX : Option (ByteArray × EV) → AV
  | none => .raw (.pointer none)
  | some (p, e) => .fp (.agg [.raw (.string p), errAV e])
@[simp ↓ high] theorem fX_noid (x : Option (ByteArray × EV)) : (fX x).noid = true := by
  cases x with
  | none => rfl
  | some x => obtain ⟨p, e⟩ := x; simp [fX]
@[simp ↓ high] theorem fX_size (x : Option (ByteArray × EV)) : (fX x).size = 1 := by
  cases x with
  | none => rfl
  | some x => obtain ⟨p, e⟩ := x; simp [fX]
@[simp ↓ high] theorem fX_isAgg (x : Option (ByteArray × EV)) : (fX x).isAgg = false := by
  cases x with
  | none => rfl
  | some x => rfl
@[simp ↓ high] theorem fX_get (e : Option (ByteArray × EV)) (n : Nat) (ag : Bool) (off : Nat) : AV.get n ag (fX e) off = if off = 0 ∧ n = 1 ∧ ag = false then some (fX e) else none := get_leaf (fX_isAgg e) n ag off
@[simp ↓ high] theorem fX_set (e : Option (ByteArray × EV)) (n : Nat) (y : AV) (off : Nat) : AV.set n y (fX e) off = if off = 0 ∧ n = 1 ∧ y.one = true then some y else none := set_leaf (fX_isAgg e) n y off
@[simp] theorem fX_none : fX none = .raw (.pointer none) := rfl
@[simp] theorem fX_some (p : ByteArray) (e : EV) : fX (some (p, e)) = .fp (.agg [.raw (.string p), errAV e]) := rfl
@[simp] theorem fX_deep (h : Hp) (x : Option (ByteArray × EV)) : (fX x).deep h = fX x := noid_deep.1 _ (fX_noid x) h
@[simp] theorem fX_within (h : Hp) (x : Option (ByteArray × EV)) : (fX x).within h = true := (noid_withins h).1 _ (fX_noid x)
@[simp] theorem fX_ren (π : Nat → Nat) (x : Option (ByteArray × EV)) : (fX x).ren π = fX x := noid_ren.1 _ (fX_noid x) π
def lenE : EV → Nat
  | .wrap _ e => lenE e + 1
  | _ => 0
@[simp] theorem strs_ne {l : List ByteArray} : strs l = [] ↔ l = [] := by simp [strs]
theorem c_FTrail (e : Option EV) (hl : (trailE e).length ≤ 1000000) : CallD Tryd.prog 15 [errO e] noHeap (.sl 1 (strs (trailE e))) noHeap := by
  cases e with
  | none =>
    have ha := c_AsNil 58 (.raw (.pointer none))
    refine zzg (nt := 28) (rs := [.tmp 2]) Tryd.func15 ?_; intro Q hQ hW
    repeat' (first
 | (with_reducible refine run_n ?_; with_reducible first | refine hK _ _ (by simp) ?_ | refine hK _ _ ?_; clear hK K)
 | (refine zzc ?_)
 | (with_reducible refine awp_regT (by kernel_rfl) ?_; intro K hK)
 | (with_reducible refine a_cond (ht := ?_) (hf := ?_) <;> intro hb <;> (try simp at hb) <;> (try contradiction) <;> (try subst hb) <;> (try omega))
 | (with_reducible first | refine a_move (hr:=?_) | refine a_assign (hr:=?_) | refine a_load (hr:=?_) | refine a_fieldAddr (hr:=?_) | refine a_nilCheck (hr:=?_) | refine a_bin (hr:=?_) | refine a_pick (hr:=?_) | refine a_alloc (hr:=?_) | refine a_makeIf (hr:=?_) | refine a_eqI (hr:=?_) | refine a_neI (hr:=?_) | refine a_eqP (hr:=?_) | refine a_neP (hr:=?_) | refine a_neB (hr:=?_) | refine a_neS (hr:=?_) | refine a_buildSlice (hr:=?_) | refine a_append (hr:=?_) | refine a_append0 (hr:=?_) | refine a_appendX (hr:=?_) | refine a_gT (hr:=?_) | refine a_gF (hr:=?_) | refine a_gU (hr:=?_))
 | (with_reducible refine a_gB (hT := ?_) (hF := ?_) <;> intro hb <;> (try simp at hb) <;> (try contradiction) <;> (try subst hb) <;> (try omega))
 | fail)
    refine awp_inv (α := Unit) (fun _ => [(0, .raw .nilIface), (3, .raw (.slice none 0 0)), (4, .ptr 4 0)]) (fun _ => hpL [(4, .box (.raw (.pointer none)))]) (fun _ => True) (fun _ => 0) () trivial (zzw) ?_
    intro _ _
    repeat' (first
 | (with_reducible refine run_n ?_; with_reducible first | refine hK _ _ (by simp) ?_ | refine hK _ _ ?_; clear hK K)
 | (refine zzc ?_)
 | (with_reducible refine awp_regT (by kernel_rfl) ?_; intro K hK)
 | (with_reducible refine a_cond (ht := ?_) (hf := ?_) <;> intro hb <;> (try simp at hb) <;> (try contradiction) <;> (try subst hb) <;> (try omega))
 | (with_reducible first | refine a_move (hr:=?_) | refine a_assign (hr:=?_) | refine a_load (hr:=?_) | refine a_fieldAddr (hr:=?_) | refine a_nilCheck (hr:=?_) | refine a_bin (hr:=?_) | refine a_pick (hr:=?_) | refine a_alloc (hr:=?_) | refine a_makeIf (hr:=?_) | refine a_eqI (hr:=?_) | refine a_neI (hr:=?_) | refine a_eqP (hr:=?_) | refine a_neP (hr:=?_) | refine a_neB (hr:=?_) | refine a_neS (hr:=?_) | refine a_buildSlice (hr:=?_) | refine a_append (hr:=?_) | refine a_append0 (hr:=?_) | refine a_appendX (hr:=?_) | refine a_gT (hr:=?_) | refine a_gF (hr:=?_) | refine a_gU (hr:=?_))
 | (with_reducible refine a_gB (hT := ?_) (hF := ?_) <;> intro hb <;> (try simp at hb) <;> (try contradiction) <;> (try subst hb) <;> (try omega))
 | fail)
    (refine zzr hQ ?_)
    exact Fin.nil (by simp)
  | some e =>
    simp only [trailE] at hl ⊢
    simp only [errO_some]
    generalize hp : placesE e = ps at hl ⊢
    refine zzg (nt := 28) (rs := [.tmp 2]) Tryd.func15 ?_; intro Q hQ hW
    repeat' (first
 | (with_reducible refine run_n ?_; with_reducible first | refine hK _ _ (by simp) ?_ | refine hK _ _ ?_; clear hK K)
 | (refine zzc ?_)
 | (with_reducible refine awp_regT (by kernel_rfl) ?_; intro K hK)
 | (with_reducible refine a_cond (ht := ?_) (hf := ?_) <;> intro hb <;> (try simp at hb) <;> (try contradiction) <;> (try subst hb) <;> (try omega))
 | (with_reducible first | refine a_move (hr:=?_) | refine a_assign (hr:=?_) | refine a_load (hr:=?_) | refine a_fieldAddr (hr:=?_) | refine a_nilCheck (hr:=?_) | refine a_bin (hr:=?_) | refine a_pick (hr:=?_) | refine a_alloc (hr:=?_) | refine a_makeIf (hr:=?_) | refine a_eqI (hr:=?_) | refine a_neI (hr:=?_) | refine a_eqP (hr:=?_) | refine a_neP (hr:=?_) | refine a_neB (hr:=?_) | refine a_neS (hr:=?_) | refine a_buildSlice (hr:=?_) | refine a_append (hr:=?_) | refine a_append0 (hr:=?_) | refine a_appendX (hr:=?_) | refine a_gT (hr:=?_) | refine a_gF (hr:=?_) | refine a_gU (hr:=?_))
 | (with_reducible refine a_gB (hT := ?_) (hF := ?_) <;> intro hb <;> (try simp at hb) <;> (try contradiction) <;> (try subst hb) <;> (try omega))
 | fail)
    refine awp_inv (α := EV × List ByteArray × Option (ByteArray × EV)) (fun a => [(0, errAV a.1), (3, orow 60 1 (strs a.2.1)), (4, .ptr 4 0)]) (fun a => ohp 60 1 (strs a.2.1) (hpL [(4, .box (fX a.2.2))])) (fun a => a.2.1 ++ placesE a.1 = ps) (fun a => lenE a.1) (e, [], none) (by simpa using hp) (zzw) ?_
    rintro ⟨e1, l, x⟩ h1
    simp only at h1 ⊢
    have ha := c_AsFault e1 (fX x) (by simp)
    cases e1 with
    | code c =>
      simp only [EV.link, Option.isSome, Option.getD_none, placesE, List.append_nil] at ha h1
      subst h1
      by_cases hl0 : l = []
      · subst hl0
        repeat' (first
 | (with_reducible refine run_n ?_; with_reducible first | refine hK _ _ (by simp) ?_ | refine hK _ _ ?_; clear hK K)
 | (refine zzc ?_)
 | (with_reducible refine awp_regT (by kernel_rfl) ?_; intro K hK)
 | (with_reducible refine a_cond (ht := ?_) (hf := ?_) <;> intro hb <;> (try simp at hb) <;> (try contradiction) <;> (try subst hb) <;> (try omega))
 | (with_reducible first | refine a_move (hr:=?_) | refine a_assign (hr:=?_) | refine a_load (hr:=?_) | refine a_fieldAddr (hr:=?_) | refine a_nilCheck (hr:=?_) | refine a_bin (hr:=?_) | refine a_pick (hr:=?_) | refine a_alloc (hr:=?_) | refine a_makeIf (hr:=?_) | refine a_eqI (hr:=?_) | refine a_neI (hr:=?_) | refine a_eqP (hr:=?_) | refine a_neP (hr:=?_) | refine a_neB (hr:=?_) | refine a_neS (hr:=?_) | refine a_buildSlice (hr:=?_) | refine a_append (hr:=?_) | refine a_append0 (hr:=?_) | refine a_appendX (hr:=?_) | refine a_callP (p := 4) (hcall := ha) (hr:=?_) | refine a_gT (hr:=?_) | refine a_gF (hr:=?_) | refine a_gU (hr:=?_))
 | (with_reducible refine a_gB (hT := ?_) (hF := ?_) <;> intro hb <;> (try simp at hb) <;> (try contradiction) <;> (try subst hb) <;> (try omega))
 | fail)
        (refine zzr hQ ?_)
        exact Fin.nil (by simp)
      · have h60 : orow 60 1 (strs l) = .ow 60 1 0 l.length := by rw [orow_ne (by simpa [strs] using hl0)]; simp
        repeat' (first
 | (with_reducible refine run_n ?_; with_reducible first | refine hK _ _ (by simp) ?_ | refine hK _ _ ?_; clear hK K)
 | (refine zzc ?_)
 | (with_reducible refine awp_regT (by kernel_rfl) ?_; intro K hK)
 | (with_reducible refine a_cond (ht := ?_) (hf := ?_) <;> intro hb <;> (try simp at hb) <;> (try contradiction) <;> (try subst hb) <;> (try omega))
 | (with_reducible first | refine a_move (hr:=?_) | refine a_assign (hr:=?_) | refine a_load (hr:=?_) | refine a_fieldAddr (hr:=?_) | refine a_nilCheck (hr:=?_) | refine a_bin (hr:=?_) | refine a_pick (hr:=?_) | refine a_alloc (hr:=?_) | refine a_makeIf (hr:=?_) | refine a_eqI (hr:=?_) | refine a_neI (hr:=?_) | refine a_eqP (hr:=?_) | refine a_neP (hr:=?_) | refine a_neB (hr:=?_) | refine a_neS (hr:=?_) | refine a_buildSlice (hr:=?_) | refine a_append (hr:=?_) | refine a_append0 (hr:=?_) | refine a_appendX (hr:=?_) | refine a_callP (p := 4) (hcall := ha) (hr:=?_) | refine a_gT (hr:=?_) | refine a_gF (hr:=?_) | refine a_gU (hr:=?_))
 | (with_reducible refine a_gB (hT := ?_) (hF := ?_) <;> intro hb <;> (try simp at hb) <;> (try contradiction) <;> (try subst hb) <;> (try omega))
 | fail)
        (refine zzr hQ ?_)
        rw [h60]
        exact Fin.frzR (by simp [hl0, strs_ne]; exact .r) (by simp [hl0, strs_ne, List.take_of_length_le]; exact .r) (by simp; exact .r) (by simp)
    | need lo hi =>
      simp only [EV.link, Option.isSome, Option.getD_none, placesE, List.append_nil] at ha h1
      subst h1
      by_cases hl0 : l = []
      · subst hl0
        repeat' (first
 | (with_reducible refine run_n ?_; with_reducible first | refine hK _ _ (by simp) ?_ | refine hK _ _ ?_; clear hK K)
 | (refine zzc ?_)
 | (with_reducible refine awp_regT (by kernel_rfl) ?_; intro K hK)
 | (with_reducible refine a_cond (ht := ?_) (hf := ?_) <;> intro hb <;> (try simp at hb) <;> (try contradiction) <;> (try subst hb) <;> (try omega))
 | (with_reducible first | refine a_move (hr:=?_) | refine a_assign (hr:=?_) | refine a_load (hr:=?_) | refine a_fieldAddr (hr:=?_) | refine a_nilCheck (hr:=?_) | refine a_bin (hr:=?_) | refine a_pick (hr:=?_) | refine a_alloc (hr:=?_) | refine a_makeIf (hr:=?_) | refine a_eqI (hr:=?_) | refine a_neI (hr:=?_) | refine a_eqP (hr:=?_) | refine a_neP (hr:=?_) | refine a_neB (hr:=?_) | refine a_neS (hr:=?_) | refine a_buildSlice (hr:=?_) | refine a_append (hr:=?_) | refine a_append0 (hr:=?_) | refine a_appendX (hr:=?_) | refine a_callP (p := 4) (hcall := ha) (hr:=?_) | refine a_gT (hr:=?_) | refine a_gF (hr:=?_) | refine a_gU (hr:=?_))
 | (with_reducible refine a_gB (hT := ?_) (hF := ?_) <;> intro hb <;> (try simp at hb) <;> (try contradiction) <;> (try subst hb) <;> (try omega))
 | fail)
        (refine zzr hQ ?_)
        exact Fin.nil (by simp)
      · have h60 : orow 60 1 (strs l) = .ow 60 1 0 l.length := by rw [orow_ne (by simpa [strs] using hl0)]; simp
        repeat' (first
 | (with_reducible refine run_n ?_; with_reducible first | refine hK _ _ (by simp) ?_ | refine hK _ _ ?_; clear hK K)
 | (refine zzc ?_)
 | (with_reducible refine awp_regT (by kernel_rfl) ?_; intro K hK)
 | (with_reducible refine a_cond (ht := ?_) (hf := ?_) <;> intro hb <;> (try simp at hb) <;> (try contradiction) <;> (try subst hb) <;> (try omega))
 | (with_reducible first | refine a_move (hr:=?_) | refine a_assign (hr:=?_) | refine a_load (hr:=?_) | refine a_fieldAddr (hr:=?_) | refine a_nilCheck (hr:=?_) | refine a_bin (hr:=?_) | refine a_pick (hr:=?_) | refine a_alloc (hr:=?_) | refine a_makeIf (hr:=?_) | refine a_eqI (hr:=?_) | refine a_neI (hr:=?_) | refine a_eqP (hr:=?_) | refine a_neP (hr:=?_) | refine a_neB (hr:=?_) | refine a_neS (hr:=?_) | refine a_buildSlice (hr:=?_) | refine a_append (hr:=?_) | refine a_append0 (hr:=?_) | refine a_appendX (hr:=?_) | refine a_callP (p := 4) (hcall := ha) (hr:=?_) | refine a_gT (hr:=?_) | refine a_gF (hr:=?_) | refine a_gU (hr:=?_))
 | (with_reducible refine a_gB (hT := ?_) (hF := ?_) <;> intro hb <;> (try simp at hb) <;> (try contradiction) <;> (try subst hb) <;> (try omega))
 | fail)
        (refine zzr hQ ?_)
        rw [h60]
        exact Fin.frzR (by simp [hl0, strs_ne]; exact .r) (by simp [hl0, strs_ne, List.take_of_length_le]; exact .r) (by simp; exact .r) (by simp)
    | wrap p e2 =>
      simp only [EV.link, Option.isSome, Option.getD_some, placesE] at ha h1
      have hll : l.length ≤ 1000000 := by rw [← h1] at hl; simp at hl; omega
      repeat' (first
 | (with_reducible refine run_n ?_; with_reducible first | refine hK _ _ (by simp) ?_ | refine hK _ _ ?_; clear hK K)
 | (refine zzc ?_)
 | (with_reducible refine awp_regT (by kernel_rfl) ?_; intro K hK)
 | (with_reducible refine a_cond (ht := ?_) (hf := ?_) <;> intro hb <;> (try simp at hb) <;> (try contradiction) <;> (try subst hb) <;> (try omega))
 | (with_reducible first | refine a_move (hr:=?_) | refine a_assign (hr:=?_) | refine a_load (hr:=?_) | refine a_fieldAddr (hr:=?_) | refine a_nilCheck (hr:=?_) | refine a_bin (hr:=?_) | refine a_pick (hr:=?_) | refine a_alloc (hr:=?_) | refine a_makeIf (hr:=?_) | refine a_eqI (hr:=?_) | refine a_neI (hr:=?_) | refine a_eqP (hr:=?_) | refine a_neP (hr:=?_) | refine a_neB (hr:=?_) | refine a_neS (hr:=?_) | refine a_buildSlice (hr:=?_) | refine a_append (hr:=?_) | refine a_append0 (hr:=?_) | refine a_appendX (hr:=?_) | refine a_callP (p := 4) (hcall := ha) (hr:=?_) | refine a_gT (hr:=?_) | refine a_gF (hr:=?_) | refine a_gU (hr:=?_))
 | (with_reducible refine a_gB (hT := ?_) (hF := ?_) <;> intro hb <;> (try simp at hb) <;> (try contradiction) <;> (try subst hb) <;> (try omega))
 | fail)
      exact ⟨(e2, l ++ [p], some (p, e2)), by simp [lenE], by simpa using h1, zzx 60 22⟩
end Go.Proofs.YtejeemhenoobjaaDoor.Asl

namespace Go.Proofs.YtejeemhenoobjaaDoor.Asl
open Go Go.RowKit
open Go.Proofs.YtejeemhenoobjaaDoor.Errs (EV)
set_option linter.unusedVariables false
set_option linter.unusedSimpArgs false
set_option maxRecDepth 100000
set_option maxHeartbeats 4000000
/-- A number that is not below 0, in digits. -/
def nat10 : Nat → Int → List Int
  | 0, _ => []
  | f + 1, n => if n < 10 then [48 + n] else nat10 f (n / 10) ++ [48 + n % 10]
def digs10 (n : Int) : List Int := if n < 0 then 45 :: nat10 20 (-n) else nat10 20 n
theorem nat10_fuel : ∀ (f : Nat) (n : Int), 0 ≤ n → n < 10 ^ (f + 1) → nat10 (f + 1) n = nat10 (f + 2) n
  | 0, n, h0, h1 => by
    have : n < 10 := by simpa using h1
    simp [nat10, this]
  | f + 1, n, h0, h1 => by
    by_cases h : n < 10
    · simp [nat10, h]
    · have h2 : n / 10 < 10 ^ (f + 1) := by
        rw [Int.pow_succ] at h1
        exact Int.ediv_lt_of_lt_mul (by decide) h1
      have ih := nat10_fuel f (n / 10) (by omega) h2
      rw [nat10, if_neg h, ih]
      conv => rhs; rw [nat10]
      rw [if_neg h]
theorem nat10_len : ∀ (f : Nat) (n : Int), (nat10 f n).length ≤ f
  | 0, _ => by simp [nat10]
  | f + 1, n => by
    have := nat10_len f (n / 10)
    simp only [nat10]; split <;> simp <;> omega
theorem nat10_isB : ∀ (f : Nat) (n : Int), 0 ≤ n → IsB (nat10 f n)
  | 0, _, _ => isB_nil
  | f + 1, n, h => by
    simp only [nat10]; split
    · exact isB_cons.2 ⟨by omega, isB_nil⟩
    · exact isB_app.2 ⟨nat10_isB f _ (by omega), isB_cons.2 ⟨by omega, isB_nil⟩⟩
theorem pow10 : (10 : Int) ^ 19 = 10000000000000000000 := by decide
/-- The array, filled from behind. -/
def fill (s : List Int) : List Int := List.replicate (20 - s.length) 0 ++ s
theorem fill_len {s : List Int} (h : s.length ≤ 20) : (fill s).length = 20 := by simp [fill]; omega
theorem fill_set {s : List Int} (h : s.length < 20) (x : Int) : (fill s).set (19 - s.length) x = fill (x :: s) := by
  have e1 : 20 - s.length = (19 - s.length) + 1 := by omega
  have e2 : 20 - (x :: s).length = 19 - s.length := by rw [List.length_cons]; omega
  unfold fill
  rw [e2, e1, List.replicate_succ', List.append_assoc]
  have h1 : (List.replicate (19 - s.length) (0 : Int)).length = 19 - s.length := by simp
  generalize List.replicate (19 - s.length) (0 : Int) = r at h1 ⊢
  rw [← h1, List.set_append_right _ _ (Nat.le_refl _)]; simp
theorem fill_drop {s : List Int} (h : s.length ≤ 20) : (fill s).drop (20 - s.length) = s := by
  unfold fill
  rw [List.drop_append_of_le_length (by simp)]; simp
end Go.Proofs.YtejeemhenoobjaaDoor.Asl

namespace Go.Proofs.YtejeemhenoobjaaDoor.Asl
open Go Go.RowKit
open Go.Proofs.YtejeemhenoobjaaDoor.Errs (EV)
set_option linter.unusedVariables false
set_option linter.unusedSimpArgs false
set_option maxRecDepth 100000
set_option maxHeartbeats 4000000
/-- Places, each with a colon behind. -/
def joinS : List ByteArray → ByteArray → ByteArray
  | [], s => s
  | p :: l, s => joinS l (s ++ (p ++ ⟨#[58, 32]⟩))
@[simp] theorem joinS_nil (s : ByteArray) : joinS [] s = s := rfl
theorem digs10_len (n : Int) : (digs10 n).length ≤ 21 := by
  unfold digs10
  split
  · have := nat10_len 20 (-n); simp; omega
  · have := nat10_len 20 n; omega
theorem digs10_size (n : Int) : (strOfNums (digs10 n)).size ≤ 21 := by
  have := digs10_len n
  unfold strOfNums; show (List.toArray _).size ≤ _; simpa using this
instance : FlatF errO := ⟨fun x => by simp⟩
def firstE : List (Option EV) → Option EV
  | [] => none
  | none :: l => firstE l
  | some e :: _ => some e
theorem c_FFirst (l : List (Option EV)) (hl : l.length < 9223372036854775808) : CallD Tryd.prog 30 [.sl 1 (l.map errO)] noHeap (errO (firstE l)) noHeap := by
  refine zzg (nt := 15) (rs := [.tmp 2]) Tryd.func30 ?_; intro Q hQ hW
  repeat' (first
 | (with_reducible refine run_n ?_; with_reducible first | refine hK _ _ (by simp) ?_ | refine hK _ _ ?_; clear hK K)
 | (refine zzc ?_)
 | (with_reducible refine awp_regT (by kernel_rfl) ?_; intro K hK)
 | (with_reducible refine a_cond (ht := ?_) (hf := ?_) <;> intro hb <;> (try simp at hb) <;> (try contradiction) <;> (try subst hb) <;> (try omega))
 | (with_reducible first | refine a_move (hr:=?_) | refine a_assign (hr:=?_) | refine a_load (hr:=?_) | refine a_bin (hr:=?_) | refine a_lenS (hr:=?_) | refine a_lenR (hr:=?_) | refine a_eqI (hr:=?_) | refine a_neI (hr:=?_) | refine a_neB (hr:=?_) | refine a_idxArr (hr:=?_) | refine a_neS (hr:=?_) | refine a_indexAddr (hr:=?_))
 | fail)
  refine awp_inv (α := Nat) (fun i => [(5, .sl 1 (l.map errO)), (6, .raw (.int .i64 l.length)), (7, .raw (.int .i64 i))]) (fun _ => hpL []) (fun i => i ≤ l.length ∧ firstE (l.drop i) = firstE l) (fun i => l.length - i) 0 ⟨by simp, by simp⟩ (zzw) ?_
  rintro i ⟨g1, g2⟩
  rw [← g2] at hQ
  rcases Nat.lt_or_ge i l.length with hlt | hge
  · have hx := List.getElem?_eq_getElem hlt
    rw [List.drop_eq_getElem_cons hlt] at g2 hQ
    generalize l[i] = y at hx g2 hQ
    cases y with
    | none =>
      simp only [firstE] at g2 hQ
      repeat' (first
 | (with_reducible refine run_n ?_; with_reducible first | refine hK _ _ (by simp) ?_ | refine hK _ _ ?_; clear hK K)
 | (refine zzc ?_)
 | (with_reducible refine awp_regT (by kernel_rfl) ?_; intro K hK)
 | (with_reducible refine a_cond (ht := ?_) (hf := ?_) <;> intro hb <;> (try simp at hb) <;> (try contradiction) <;> (try subst hb) <;> (try omega))
 | (with_reducible first | refine a_move (hr:=?_) | refine a_assign (hr:=?_) | refine a_load (hr:=?_) | refine a_bin (hr:=?_) | refine a_lenS (hr:=?_) | refine a_lenR (hr:=?_) | refine a_eqI (hr:=?_) | refine a_neI (hr:=?_) | refine a_neB (hr:=?_) | refine a_idxArr (hr:=?_) | refine a_neS (hr:=?_) | refine a_indexAddr (hr:=?_))
 | fail)
      exact ⟨i + 1, by omega, ⟨by omega, g2⟩, zzw⟩
    | some e =>
      simp only [firstE] at g2 hQ
      repeat' (first
 | (with_reducible refine run_n ?_; with_reducible first | refine hK _ _ (by simp) ?_ | refine hK _ _ ?_; clear hK K)
 | (refine zzc ?_)
 | (with_reducible refine awp_regT (by kernel_rfl) ?_; intro K hK)
 | (with_reducible refine a_cond (ht := ?_) (hf := ?_) <;> intro hb <;> (try simp at hb) <;> (try contradiction) <;> (try subst hb) <;> (try omega))
 | (with_reducible first | refine a_move (hr:=?_) | refine a_assign (hr:=?_) | refine a_load (hr:=?_) | refine a_bin (hr:=?_) | refine a_lenS (hr:=?_) | refine a_lenR (hr:=?_) | refine a_eqI (hr:=?_) | refine a_neI (hr:=?_) | refine a_neB (hr:=?_) | refine a_idxArr (hr:=?_) | refine a_neS (hr:=?_) | refine a_indexAddr (hr:=?_))
 | fail)
      (refine zzr hQ ?_)
      exact zzd
  · obtain rfl : i = l.length := by omega
    rw [List.drop_length] at hQ
    simp only [firstE] at hQ
    repeat' (first
 | (with_reducible refine run_n ?_; with_reducible first | refine hK _ _ (by simp) ?_ | refine hK _ _ ?_; clear hK K)
 | (refine zzc ?_)
 | (with_reducible refine awp_regT (by kernel_rfl) ?_; intro K hK)
 | (with_reducible refine a_cond (ht := ?_) (hf := ?_) <;> intro hb <;> (try simp at hb) <;> (try contradiction) <;> (try subst hb) <;> (try omega))
 | (with_reducible first | refine a_move (hr:=?_) | refine a_assign (hr:=?_) | refine a_load (hr:=?_) | refine a_bin (hr:=?_) | refine a_lenS (hr:=?_) | refine a_lenR (hr:=?_) | refine a_eqI (hr:=?_) | refine a_neI (hr:=?_) | refine a_neB (hr:=?_) | refine a_idxArr (hr:=?_) | refine a_neS (hr:=?_) | refine a_indexAddr (hr:=?_))
 | fail)
    (refine zzr hQ ?_)
    exact zzd
/-- The document's error: whether there is one, its places, its number, whether it asks, and for what. -/
structure RE where
  is : Bool
  ps : List ByteArray
  c : Int
  asks : Bool
  lo : ByteArray
  hi : ByteArray
def plAV (l : List ByteArray) : AV := if l = [] then .raw (.slice none 0 0) else .sl 1 (strs l)
@[simp] theorem plAV_nil : plAV [] = .raw (.slice none 0 0) := rfl
@[simp] theorem plAV_cons (p : ByteArray) (l : List ByteArray) : plAV (p :: l) = .sl 1 (strs (p :: l)) := rfl
abbrev RE.av (x : RE) : AV := .agg [.raw (.bool x.is), plAV x.ps, .raw (.int .i64 x.c), .raw (.bool x.asks), .agg [.raw (.string x.lo), .raw (.string x.hi)]]
theorem c_ROf (c : Int) : CallD Tryd.prog 41 [.raw (.int .i64 c)] noHeap (RE.av ⟨!decide (c = 0), [], c, false, ⟨#[]⟩, ⟨#[]⟩⟩) noHeap := by
  refine zzg (nt := 7) (rs := [.cell 2 43]) Tryd.func41 ?_; intro Q hQ hW
  repeat' (first
 | (with_reducible refine run_n ?_; with_reducible first | refine hK _ _ (by simp) ?_ | refine hK _ _ ?_; clear hK K)
 | (refine zzc ?_)
 | (with_reducible refine awp_regT (by kernel_rfl) ?_; intro K hK)
 | (with_reducible refine a_cond (ht := ?_) (hf := ?_) <;> intro hb <;> (try simp at hb) <;> (try contradiction) <;> (try subst hb) <;> (try omega))
 | (with_reducible first | refine a_move (hr:=?_) | refine a_bin (hr:=?_) | refine a_store (hr:=?_) | refine a_alloc (hr:=?_) | refine a_neB (hr:=?_) | refine a_neS (hr:=?_) | refine a_build (hr:=?_))
 | fail)
  all_goals ((refine zzr hQ ?_))
  all_goals (exact zzd)
theorem c_RWrap (p : ByteArray) (x : RE) (hl : x.ps.length ≤ 1000000) : CallD Tryd.prog 55 [.raw (.string p), x.av] noHeap (RE.av (if x.is then { x with ps := p :: x.ps } else x)) noHeap := by
  obtain ⟨is, ps, c, asks, lo, hi⟩ := x
  cases is with
  | false =>
    simp only [Bool.false_eq_true, if_false]
    cases ps with
    | nil =>
      refine zzg (nt := 18) (rs := [.cell 4 43]) Tryd.func55 ?_; intro Q hQ hW
      repeat' (first
 | (with_reducible refine run_n ?_; with_reducible first | refine hK _ _ (by simp) ?_ | refine hK _ _ ?_; clear hK K)
 | (refine zzc ?_)
 | (with_reducible refine awp_regT (by kernel_rfl) ?_; intro K hK)
 | (with_reducible refine a_cond (ht := ?_) (hf := ?_) <;> intro hb <;> (try simp at hb) <;> (try contradiction) <;> (try subst hb) <;> (try omega))
 | (with_reducible first | refine a_move (hr:=?_) | refine a_assign (hr:=?_) | refine a_load (hr:=?_) | refine a_fieldAddr (hr:=?_) | refine a_un (hr:=?_) | refine a_store (hr:=?_) | refine a_box (hr:=?_) | refine a_alloc (hr:=?_) | refine a_buildSlice (hr:=?_) | refine a_append (hr:=?_) | refine a_append0 (hr:=?_) | refine a_appendX (hr:=?_))
 | fail)
      all_goals ((refine zzr hQ ?_))
      all_goals (exact zzd)
    | cons q ps =>
      simp only [RE.av, plAV_cons]
      generalize q :: ps = l at hl ⊢
      refine zzg (nt := 18) (rs := [.cell 4 43]) Tryd.func55 ?_; intro Q hQ hW
      repeat' (first
 | (with_reducible refine run_n ?_; with_reducible first | refine hK _ _ (by simp) ?_ | refine hK _ _ ?_; clear hK K)
 | (refine zzc ?_)
 | (with_reducible refine awp_regT (by kernel_rfl) ?_; intro K hK)
 | (with_reducible refine a_cond (ht := ?_) (hf := ?_) <;> intro hb <;> (try simp at hb) <;> (try contradiction) <;> (try subst hb) <;> (try omega))
 | (with_reducible first | refine a_move (hr:=?_) | refine a_assign (hr:=?_) | refine a_load (hr:=?_) | refine a_fieldAddr (hr:=?_) | refine a_un (hr:=?_) | refine a_store (hr:=?_) | refine a_box (hr:=?_) | refine a_alloc (hr:=?_) | refine a_buildSlice (hr:=?_) | refine a_append (hr:=?_) | refine a_append0 (hr:=?_) | refine a_appendX (hr:=?_))
 | fail)
      all_goals ((refine zzr hQ ?_))
      all_goals (exact zzd)
  | true =>
    simp only [if_true]
    cases ps with
    | nil =>
      refine zzg (nt := 18) (rs := [.cell 4 43]) Tryd.func55 ?_; intro Q hQ hW
      repeat' (first
 | (with_reducible refine run_n ?_; with_reducible first | refine hK _ _ (by simp) ?_ | refine hK _ _ ?_; clear hK K)
 | (refine zzc ?_)
 | (with_reducible refine awp_regT (by kernel_rfl) ?_; intro K hK)
 | (with_reducible refine a_cond (ht := ?_) (hf := ?_) <;> intro hb <;> (try simp at hb) <;> (try contradiction) <;> (try subst hb) <;> (try omega))
 | (with_reducible first | refine a_move (hr:=?_) | refine a_assign (hr:=?_) | refine a_load (hr:=?_) | refine a_fieldAddr (hr:=?_) | refine a_un (hr:=?_) | refine a_store (hr:=?_) | refine a_box (hr:=?_) | refine a_alloc (hr:=?_) | refine a_buildSlice (hr:=?_) | refine a_append (hr:=?_) | refine a_append0 (hr:=?_) | refine a_appendX (hr:=?_))
 | fail)
      (refine zzr hQ ?_)
      show Fin _ _ _ (.agg [.raw (.bool true), .sl 1 [.raw (.string p)], .raw (.int .i64 c), .raw (.bool asks), .agg [.raw (.string lo), .raw (.string hi)]])
      exact Fin.frzR (by simp; exact .r) (by simp; exact .r) (by simp; exact .r) (by simp)
    | cons q ps =>
      simp only [RE.av, plAV_cons] at hl ⊢
      generalize q :: ps = l at hl ⊢
      refine zzg (nt := 18) (rs := [.cell 4 43]) Tryd.func55 ?_; intro Q hQ hW
      repeat' (first
 | (with_reducible refine run_n ?_; with_reducible first | refine hK _ _ (by simp) ?_ | refine hK _ _ ?_; clear hK K)
 | (refine zzc ?_)
 | (with_reducible refine awp_regT (by kernel_rfl) ?_; intro K hK)
 | (with_reducible refine a_cond (ht := ?_) (hf := ?_) <;> intro hb <;> (try simp at hb) <;> (try contradiction) <;> (try subst hb) <;> (try omega))
 | (with_reducible first | refine a_move (hr:=?_) | refine a_assign (hr:=?_) | refine a_load (hr:=?_) | refine a_fieldAddr (hr:=?_) | refine a_un (hr:=?_) | refine a_store (hr:=?_) | refine a_box (hr:=?_) | refine a_alloc (hr:=?_) | refine a_buildSlice (hr:=?_) | refine a_append (hr:=?_) | refine a_append0 (hr:=?_) | refine a_appendX (hr:=?_))
 | fail)
      (refine zzr hQ ?_)
      show Fin _ _ _ (.agg [.raw (.bool true), .sl 1 (.raw (.string p) :: strs l), .raw (.int .i64 c), .raw (.bool asks), .agg [.raw (.string lo), .raw (.string hi)]])
      exact Fin.frzR (by simp; exact .r) (by simp [List.take_of_length_le, Nat.add_comm 1 l.length]; exact .r) (by simp; exact .r) (by simp)
theorem c_RSame (a b : List ByteArray) (ha : a.length < 9223372036854775808) (hb : b.length < 9223372036854775808) : CallD Tryd.prog 14 [.sl 1 (strs a), .sl 1 (strs b)] noHeap (.raw (.bool (decide (a = b)))) noHeap := by
  by_cases hl : a.length = b.length
  · refine zzg (nt := 26) (rs := [.tmp 4]) Tryd.func14 ?_; intro Q hQ hW
    repeat' (first
 | (with_reducible refine run_n ?_; with_reducible first | refine hK _ _ (by simp) ?_ | refine hK _ _ ?_; clear hK K)
 | (refine zzc ?_)
 | (with_reducible refine awp_regT (by kernel_rfl) ?_; intro K hK)
 | (with_reducible refine awp_regAM (id := 6) [] mixed (by kernel_rfl) (by kernel_rfl) ?_; intro K hK)
 | (with_reducible refine a_cond (ht := ?_) (hf := ?_) <;> intro hb <;> (try simp at hb) <;> (try contradiction) <;> (try subst hb) <;> (try omega))
 | (with_reducible first | refine a_move (hr:=?_) | refine a_assign (hr:=?_) | refine a_load (hr:=?_) | refine a_bin (hr:=?_) | refine a_lenS (hr:=?_) | refine a_lenR (hr:=?_) | refine a_neB (hr:=?_) | refine a_idxArr (hr:=?_) | refine a_neS (hr:=?_) | refine a_indexAddr (hr:=?_))
 | fail)
    refine awp_inv (α := Nat) (fun i => [(0, .sl 1 (strs a)), (1, .sl 1 (strs b)), (12, .raw (.int .i64 a.length)), (13, .raw (.int .i64 i))]) (fun _ => hpL []) (fun i => i ≤ a.length ∧ a.take i = b.take i) (fun i => a.length - i) 0 ⟨by simp, by simp⟩ (zzw) ?_
    rintro i ⟨g1, g2⟩
    rcases Nat.lt_or_ge i a.length with hlt | hge
    · have hx := List.getElem?_eq_getElem hlt
      have hx2 := List.getElem?_eq_getElem (show i < b.length by omega)
      have e1 := List.take_succ_eq_append_getElem hlt
      have e2 := List.take_succ_eq_append_getElem (show i < b.length by omega)
      generalize a[i] = y at hx e1
      generalize b[i]'(by omega) = z at hx2 e2
      by_cases he : y = z
      · subst he
        repeat' (first
 | (with_reducible refine run_n ?_; with_reducible first | refine hK _ _ (by simp) ?_ | refine hK _ _ ?_; clear hK K)
 | (refine zzc ?_)
 | (with_reducible refine awp_regT (by kernel_rfl) ?_; intro K hK)
 | (with_reducible refine awp_regAM (id := 6) [] mixed (by kernel_rfl) (by kernel_rfl) ?_; intro K hK)
 | (with_reducible refine a_cond (ht := ?_) (hf := ?_) <;> intro hb <;> (try simp at hb) <;> (try contradiction) <;> (try subst hb) <;> (try omega))
 | (with_reducible first | refine a_move (hr:=?_) | refine a_assign (hr:=?_) | refine a_load (hr:=?_) | refine a_bin (hr:=?_) | refine a_lenS (hr:=?_) | refine a_lenR (hr:=?_) | refine a_neB (hr:=?_) | refine a_idxArr (hr:=?_) | refine a_neS (hr:=?_) | refine a_indexAddr (hr:=?_))
 | fail)
        exact ⟨i + 1, by omega, ⟨by omega, by rw [e1, e2, g2]⟩, zzw⟩
      · have hne : a ≠ b := by
          intro e; subst e; rw [hx] at hx2; exact he (Option.some.inj hx2)
        rw [decide_eq_false hne] at hQ
        clear hne
        repeat' (first
 | (with_reducible refine run_n ?_; with_reducible first | refine hK _ _ (by simp) ?_ | refine hK _ _ ?_; clear hK K)
 | (refine zzc ?_)
 | (with_reducible refine awp_regT (by kernel_rfl) ?_; intro K hK)
 | (with_reducible refine awp_regAM (id := 6) [] mixed (by kernel_rfl) (by kernel_rfl) ?_; intro K hK)
 | (with_reducible refine a_cond (ht := ?_) (hf := ?_) <;> intro hb <;> (try simp at hb) <;> (try contradiction) <;> (try subst hb) <;> (try omega))
 | (with_reducible first | refine a_move (hr:=?_) | refine a_assign (hr:=?_) | refine a_load (hr:=?_) | refine a_bin (hr:=?_) | refine a_lenS (hr:=?_) | refine a_lenR (hr:=?_) | refine a_neB (hr:=?_) | refine a_idxArr (hr:=?_) | refine a_neS (hr:=?_) | refine a_indexAddr (hr:=?_))
 | fail)
        all_goals ((refine zzr hQ ?_))
        all_goals (exact zzd)
    · obtain rfl : i = a.length := by omega
      rw [List.take_length, hl, List.take_length] at g2
      subst g2
      rw [decide_eq_true rfl] at hQ
      repeat' (first
 | (with_reducible refine run_n ?_; with_reducible first | refine hK _ _ (by simp) ?_ | refine hK _ _ ?_; clear hK K)
 | (refine zzc ?_)
 | (with_reducible refine awp_regT (by kernel_rfl) ?_; intro K hK)
 | (with_reducible refine awp_regAM (id := 6) [] mixed (by kernel_rfl) (by kernel_rfl) ?_; intro K hK)
 | (with_reducible refine a_cond (ht := ?_) (hf := ?_) <;> intro hb <;> (try simp at hb) <;> (try contradiction) <;> (try subst hb) <;> (try omega))
 | (with_reducible first | refine a_move (hr:=?_) | refine a_assign (hr:=?_) | refine a_load (hr:=?_) | refine a_bin (hr:=?_) | refine a_lenS (hr:=?_) | refine a_lenR (hr:=?_) | refine a_neB (hr:=?_) | refine a_idxArr (hr:=?_) | refine a_neS (hr:=?_) | refine a_indexAddr (hr:=?_))
 | fail)
      (refine zzr hQ ?_)
      exact zzd
  · have hne : a ≠ b := fun e => hl (by rw [e])
    rw [decide_eq_false hne]
    refine zzg (nt := 26) (rs := [.tmp 4]) Tryd.func14 ?_; intro Q hQ hW
    repeat' (first
 | (with_reducible refine run_n ?_; with_reducible first | refine hK _ _ (by simp) ?_ | refine hK _ _ ?_; clear hK K)
 | (refine zzc ?_)
 | (with_reducible refine awp_regT (by kernel_rfl) ?_; intro K hK)
 | (with_reducible refine awp_regAM (id := 6) [] mixed (by kernel_rfl) (by kernel_rfl) ?_; intro K hK)
 | (with_reducible refine a_cond (ht := ?_) (hf := ?_) <;> intro hb <;> (try simp at hb) <;> (try contradiction) <;> (try subst hb) <;> (try omega))
 | (with_reducible first | refine a_move (hr:=?_) | refine a_assign (hr:=?_) | refine a_load (hr:=?_) | refine a_bin (hr:=?_) | refine a_lenS (hr:=?_) | refine a_lenR (hr:=?_) | refine a_neB (hr:=?_) | refine a_idxArr (hr:=?_) | refine a_neS (hr:=?_) | refine a_indexAddr (hr:=?_))
 | fail)
    (refine zzr hQ ?_)
    exact zzd
end Go.Proofs.YtejeemhenoobjaaDoor.Asl

