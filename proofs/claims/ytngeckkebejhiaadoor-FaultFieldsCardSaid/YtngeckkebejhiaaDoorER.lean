/- errors.As over numbers, needs and faults: Go's own text, walked. -/
import Derived.Test.YtngeckkebejhiaaDoorProg
import Derived.Test.YtngeckkebejhiaaDoorAD
import Derived.WalkKit
import Derived.LaidEql
import Derived.Stop.Asserts
import Derived.RowKitTokens
import Derived.Elder7
namespace Go.Proofs.YtngeckkebejhiaaDoor.Errs
open Go Go.RowKit Go.Extern.Stop Go.Stop Go.Extern
open Go.Proofs.YtngeckkebejhiaaDoor.Asl (Put NoFz run_storeVar run_loadCells Reads tyI)
set_option linter.unusedVariables false
set_option linter.unusedSimpArgs false
/-- An error: a number, a need, or one with a place ahead. -/
inductive EV where
  | code (c : Int)
  | need (lo hi : ByteArray)
  | wrap (p : ByteArray) (e : EV)
  | bare (p : ByteArray)
inductive Chain (W : World) : Value → EV → Prop
  | code (c : Int) : Chain W (.iface 35 (.int .i64 c)) (.code c)
  | need (lo hi : ByteArray) : Chain W (.iface 31 (.agg #[.string lo, .string hi])) (.need lo hi)
  | wrap (b o : Nat) (p : ByteArray) (E : Value) (e : EV) : W.cell? ⟨b, o, none⟩ = some (.string p) → W.cell? ⟨b, o + 1, none⟩ = some E → Chain W E e → Chain W (.iface 40 (.pointer (some ⟨b, o, none⟩))) (.wrap p e)
  | bare (b o : Nat) (p : ByteArray) : W.cell? ⟨b, o, none⟩ = some (.string p) → W.cell? ⟨b, o + 1, none⟩ = some .nilIface → Chain W (.iface 40 (.pointer (some ⟨b, o, none⟩))) (.bare p)
theorem Chain.unique {W : World} {E : Value} {e e' : EV} (h : Chain W E e) (h' : Chain W E e') : e = e' := by
  induction h generalizing e' with
  | code c => cases h'; rfl
  | need lo hi => cases h'; rfl
  | wrap b o p E e h1 h2 h3 ih =>
    cases h' with
    | wrap _ _ p' E' e2 k1 k2 k3 => rw [h1] at k1; rw [h2] at k2; cases k1; cases k2; rw [ih k3]
    | bare _ _ p' k1 k2 => rw [h2] at k2; cases k2; cases h3
  | bare b o p h1 h2 =>
    cases h' with
    | wrap _ _ p' E' e2 k1 k2 k3 => rw [h2] at k2; cases k2; cases k3
    | bare _ _ p' k1 k2 => rw [h1] at k1; cases k1; rfl
theorem cell_lt {W : World} {a : Addr} {v : Value} (h : W.cell? a = some v) : a.block < W.heap.size := by
  rcases Nat.lt_or_ge a.block W.heap.size with h1 | h1
  · exact h1
  · simp [World.cell?, Array.getElem?_eq_none h1] at h
theorem cell_alloc {W : World} {a : Addr} {v : Value} (ob : Obj) (h : W.cell? a = some v) : (W.alloc ob).cell? a = some v := by
  rw [World.cell?_alloc_lt _ _ a (cell_lt h)]; exact h
theorem Chain.alloc {W : World} {E : Value} {e : EV} (ob : Obj) (h : Chain W E e) : Chain (W.alloc ob) E e := by
  induction h with
  | code c => exact .code c
  | need lo hi => exact .need lo hi
  | wrap b o p E e h1 h2 h3 ih => exact .wrap b o p E e (cell_alloc ob h1) (cell_alloc ob h2) ih
  | bare b o p h1 h2 => exact .bare b o p (cell_alloc ob h1) (cell_alloc ob h2)
def EV.len : EV → Nat
  | .wrap _ e => e.len + 1
  | _ => 0
open Classical in
noncomputable def chainLen (W : World) (E : Value) : Nat := if h : ∃ e, Chain W E e then h.choose.len else 0
theorem chainLen_eq {W : World} {E : Value} {e : EV} (h : Chain W E e) : chainLen W E = e.len := by
  unfold chainLen
  rw [dif_pos ⟨e, h⟩]
  rw [Chain.unique (Exists.choose_spec ⟨e, h⟩) h]
/-- What is found: the cells of the target. -/
def EV.as_code : EV → Option (Array Value)
  | .code c => some #[.int .i64 c]
  | .need _ _ => none
  | .wrap _ e => e.as_code
  | .bare _ => none
def EV.as_need : EV → Option (Array Value)
  | .code _ => none
  | .need lo hi => some #[.string lo, .string hi]
  | .wrap _ e => e.as_need
  | .bare _ => none
def as_wrap (E : Value) : EV → Option (Array Value)
  | .wrap _ _ => match E with | .iface _ v => some #[v] | _ => none
  | .bare _ => match E with | .iface _ v => some #[v] | _ => none
  | _ => none
/-- The world has grown. -/
structure Gr (W W' : World) : Prop where
  os : W'.os = W.os
  tape : W'.tape = W.tape
  output : W'.output = W.output
  size : W.heap.size ≤ W'.heap.size
  old : ∀ k, k < W.heap.size → W'.heap[k]? = W.heap[k]?
theorem Gr.refl (W : World) : Gr W W := ⟨rfl, rfl, rfl, Nat.le_refl _, fun _ _ => rfl⟩
theorem Gr.trans {A B C : World} (h : Gr A B) (k : Gr B C) : Gr A C := ⟨k.os.trans h.os, k.tape.trans h.tape, k.output.trans h.output, Nat.le_trans h.size k.size, fun i hi => (k.old i (Nat.lt_of_lt_of_le hi h.size)).trans (h.old i hi)⟩
theorem Gr.alloc (W : World) (o : Obj) : Gr W (W.alloc o) := ⟨rfl, rfl, rfl, by show W.heap.size ≤ (W.heap.push o).size; rw [Array.size_push]; omega, fun k hk => Below.heap_alloc W o k hk⟩
/-- The world has grown, and one block holds other cells. -/
def Hit (W w' : World) (b : Nat) (cs : Array Value) (ty : TypeId) : Prop := ∃ W2, Gr W W2 ∧ Put W2 w' b ∧ w'.heap[b]? = some (.cells cs ty (0, 0))
abbrev hnd (t : Nat) : Value := .pointer (some ⟨1, t, none⟩)
abbrev rty (t : Nat) : Value := .iface 83 (.agg #[hnd t])
theorem rlm (z : Sem Value) (f : TypeId → Addr → Nat → Nat → Sem Value) (v : Value) :
    ReflectliteValue.method z f #[v] = (do match ← ReflectliteValue.parts v with | none => z | some (t, a, fl) => f t a fl (fl % 32)) := rfl
theorem rls (v x : Value) : ReflectliteValue.set #[v, x] = (do
    let (some (dst, a, fl), some (src, b, _)) := (← ReflectliteValue.parts v, ← ReflectliteValue.parts x)
      | unsupported (.noEntry "extern/(internal/reflectlite.Value).Set.zeroValue")
    if fl / ReflectliteValue.flagAddr % 2 == 0 then unsupported (.noEntry "extern/(internal/reflectlite.Value).Set.unaddressable")
    let val ← loadVar src b
    if ← Rtype.directlyAssignable dst src then storeVar dst a val
    else if ← Rtype.implements dst src then
      if (← Rtype.kind src) == 20 then
        match val with
        | .nilIface => unsupported (.noEntry "extern/reflectlite: a nil value of one interface type handed on as a value of another")
        | _ => storeVar dst a val
      else storeVar dst a (.iface src val)
    else panicString ("reflectlite.Set: value of type " ++ (← Rtype.spelt src) ++ " is not assignable to type " ++ (← Rtype.spelt dst))
    pure (.tuple #[])) := rfl
theorem unwrap (b o : Nat) (v : Value) (w : World) (h1 : w.cell? ⟨b, o + 1, none⟩ = some v) :
    Calls Tryd.prog 19 #[.pointer (some ⟨b, o, none⟩)] w fun e w' => e = .returned v ∧ w' = w := by
  go_enter Tryd.func19, Tryd.ntmps19
  go_wp2
  go_ret
  exact ⟨rfl, rfl⟩
theorem mUnwrap (v : Value) (w : World) : (Go.method 225 40 v "Unwrap").run Tryd.prog w = .ok (19, v) w := by kernel_rfl
theorem mAssignableTo (h : Value) (w : World) : (Go.method 225 83 (.agg #[h]) "AssignableTo").run Tryd.prog w = .ok (63, .agg #[h]) w := by kernel_rfl
theorem mElem (h : Value) (w : World) : (Go.method 225 83 (.agg #[h]) "Elem").run Tryd.prog w = .ok (65, .agg #[h]) w := by kernel_rfl
theorem mImplements (h : Value) (w : World) : (Go.method 225 83 (.agg #[h]) "Implements").run Tryd.prog w = .ok (66, .agg #[h]) w := by kernel_rfl
theorem mComparable (h : Value) (w : World) : (Go.method 225 83 (.agg #[h]) "Comparable").run Tryd.prog w = .ok (64, .agg #[h]) w := by kernel_rfl
theorem mKind (h : Value) (w : World) : (Go.method 225 83 (.agg #[h]) "Kind").run Tryd.prog w = .ok (54, h) w := by kernel_rfl
theorem comparable_code (w : World) : ((ReflectliteType.method fun t => do Rtype.noPackHeld "Comparable" t; (fun a => Value.bool a.comparable) <$> typeInfo t) #[.agg #[hnd 35]]).run Tryd.prog w = .ok (.bool true) w := by kernel_rfl
theorem typeOf_code (v : Value) (w : World) : (ReflectliteType.typeOf #[.iface 35 v]).run Tryd.prog w = .ok (rty 35) w := by kernel_rfl
theorem no_code_As (v : Value) (xT : TypeId) (w : World) : (Instr.typeAssert (.iface 35 v) xT 87 true).run Tryd.prog w = .ok (.tuple #[.nilIface, .bool false]) w := run_typeAssert_lacksB Tryd.underlying87 (by kernel_rfl) (by kernel_rfl) v xT w
theorem no_code_Is (v : Value) (xT : TypeId) (w : World) : (Instr.typeAssert (.iface 35 v) xT 93 true).run Tryd.prog w = .ok (.tuple #[.nilIface, .bool false]) w := run_typeAssert_lacksB Tryd.underlying93 (by kernel_rfl) (by kernel_rfl) v xT w
theorem no_code_Unwrap1 (v : Value) (xT : TypeId) (w : World) : (Instr.typeAssert (.iface 35 v) xT 90 true).run Tryd.prog w = .ok (.tuple #[.nilIface, .bool false]) w := run_typeAssert_lacksB Tryd.underlying90 (by kernel_rfl) (by kernel_rfl) v xT w
theorem no_code_Unwrap2 (v : Value) (xT : TypeId) (w : World) : (Instr.typeAssert (.iface 35 v) xT 91 true).run Tryd.prog w = .ok (.tuple #[.nilIface, .bool false]) w := run_typeAssert_lacksB Tryd.underlying91 (by kernel_rfl) (by kernel_rfl) v xT w
theorem assign_code_code (w : World) : (ReflectliteType.relation "AssignableTo" ReflectliteType.assignableTo #[.agg #[hnd 35], rty 35]).run Tryd.prog w = .ok (.bool true) w := by kernel_rfl
theorem assign_code_need (w : World) : (ReflectliteType.relation "AssignableTo" ReflectliteType.assignableTo #[.agg #[hnd 35], rty 31]).run Tryd.prog w = .ok (.bool false) w := by kernel_rfl
theorem assign_code_wrap (w : World) : (ReflectliteType.relation "AssignableTo" ReflectliteType.assignableTo #[.agg #[hnd 35], rty 40]).run Tryd.prog w = .ok (.bool false) w := by kernel_rfl
theorem valueOfP_code (t : Addr) (w : World) : (ReflectliteValue.unpack (.iface 59 (.pointer (some t)))).run Tryd.prog w = .ok (.agg #[hnd 59, .pointer (some ⟨w.heap.size, 0, none⟩), .int .u64 150]) (w.alloc (.cells #[.pointer (some t)] 59)) := by kernel_rfl
theorem typeP_code (a : Addr) (w : World) : (ReflectliteValue.methodAny (ReflectliteValue.valueError "reflectlite.Value.Type" 0) (fun t _ _ _ => ReflectliteType.toType t) #[.agg #[hnd 59, .pointer (some a), .int .u64 150]]).run Tryd.prog w = .ok (rty 59) w := by kernel_rfl
theorem kindP_code (w : World) : ((ReflectliteType.abiMethod fun t => (fun a : Nat => Value.int IntKind.u8 (a : Int)) <$> Rtype.kind t) #[hnd 59]).run Tryd.prog w = .ok (.int .u8 22) w := by kernel_rfl
theorem kindE_code (w : World) : ((ReflectliteType.abiMethod fun t => (fun a : Nat => Value.int IntKind.u8 (a : Int)) <$> Rtype.kind t) #[hnd 35]).run Tryd.prog w = .ok (.int .u8 2) w := by kernel_rfl
theorem partsP_code (a : Addr) (w : World) : (ReflectliteValue.parts (.agg #[hnd 59, .pointer (some a), .int .u64 150])).run Tryd.prog w = .ok (some (59, a, 150)) w := by kernel_rfl
theorem partsE_code (a : Addr) (w : World) : (ReflectliteValue.parts (.agg #[hnd 35, .pointer (some a), .int .u64 386])).run Tryd.prog w = .ok (some (35, a, 386)) w := by kernel_rfl
theorem partsV_code (a : Addr) (w : World) : (ReflectliteValue.parts (.agg #[hnd 35, .pointer (some a), .int .u64 130])).run Tryd.prog w = .ok (some (35, a, 130)) w := by kernel_rfl
theorem direct_code (w : World) : (Rtype.directlyAssignable 35 35).run Tryd.prog w = .ok true w := by kernel_rfl
theorem elemOf_code (w : World) : (Rtype.elem? 59).run Tryd.prog w = .ok (some 35) w := by kernel_rfl
theorem mk_code (p : Addr) (w : World) : (ReflectliteValue.mk 35 p ReflectliteValue.flagAddr).run Tryd.prog w = .ok (.agg #[hnd 35, .pointer (some p), .int .u64 386]) w := by kernel_rfl
theorem elemT_code (w : World) : (ReflectliteType.method ReflectliteType.elem #[.agg #[hnd 59]]).run Tryd.prog w = .ok (rty 35) w := by kernel_rfl
theorem implements_code (w : World) : (ReflectliteType.relation "Implements" ReflectliteType.implements_ #[.agg #[hnd 35], rty 27]).run Tryd.prog w = .ok (.bool true) w := by kernel_rfl
theorem isNil_code (a p : Addr) (W : World) (ha : W.cell? a = some (.pointer (some p))) :
    (ReflectliteValue.method (ReflectliteValue.valueError "reflectlite.Value.IsNil" 0) ReflectliteValue.isNil #[.agg #[hnd 59, .pointer (some a), .int .u64 150]]).run Tryd.prog W = .ok (.bool false) W := by
  rw [rlm]
  simp only [Sem.run_bind, partsP_code, Result.andThen]
  simp [ReflectliteValue.isNil, loadVar, isAgg, underlying, Tryd.underlying59, ha, Result.andThen]
theorem elemV_code (a p : Addr) (W : World) (ha : W.cell? a = some (.pointer (some p))) :
    (ReflectliteValue.method (ReflectliteValue.valueError "reflectlite.Value.Elem" 0) ReflectliteValue.elem #[.agg #[hnd 59, .pointer (some a), .int .u64 150]]).run Tryd.prog W
      = .ok (.agg #[hnd 35, .pointer (some p), .int .u64 386]) W := by
  rw [rlm]
  simp only [Sem.run_bind, partsP_code, Result.andThen]
  simp [ReflectliteValue.elem, loadVar, isAgg, underlying, Tryd.underlying59, ha, Result.andThen, elemOf_code, mk_code]
theorem set_code (t b : Addr) (val : Value) (W W' : World) (hl : (loadVar 35 b).run Tryd.prog W = .ok val W) (hs : (storeVar 35 t val).run Tryd.prog W = .ok () W') :
    (ReflectliteValue.set #[.agg #[hnd 35, .pointer (some t), .int .u64 386], .agg #[hnd 35, .pointer (some b), .int .u64 130]]).run Tryd.prog W = .ok (.tuple #[]) W' := by
  rw [rls]
  simp only [Sem.run_bind, partsE_code, partsV_code, Result.andThen]
  simp [ReflectliteValue.flagAddr, hl, direct_code, hs, Result.andThen]
theorem typeOf_need (v : Value) (w : World) : (ReflectliteType.typeOf #[.iface 31 v]).run Tryd.prog w = .ok (rty 31) w := by kernel_rfl
theorem no_need_As (v : Value) (xT : TypeId) (w : World) : (Instr.typeAssert (.iface 31 v) xT 87 true).run Tryd.prog w = .ok (.tuple #[.nilIface, .bool false]) w := run_typeAssert_lacksB Tryd.underlying87 (by kernel_rfl) (by kernel_rfl) v xT w
theorem no_need_Is (v : Value) (xT : TypeId) (w : World) : (Instr.typeAssert (.iface 31 v) xT 93 true).run Tryd.prog w = .ok (.tuple #[.nilIface, .bool false]) w := run_typeAssert_lacksB Tryd.underlying93 (by kernel_rfl) (by kernel_rfl) v xT w
theorem no_need_Unwrap1 (v : Value) (xT : TypeId) (w : World) : (Instr.typeAssert (.iface 31 v) xT 90 true).run Tryd.prog w = .ok (.tuple #[.nilIface, .bool false]) w := run_typeAssert_lacksB Tryd.underlying90 (by kernel_rfl) (by kernel_rfl) v xT w
theorem no_need_Unwrap2 (v : Value) (xT : TypeId) (w : World) : (Instr.typeAssert (.iface 31 v) xT 91 true).run Tryd.prog w = .ok (.tuple #[.nilIface, .bool false]) w := run_typeAssert_lacksB Tryd.underlying91 (by kernel_rfl) (by kernel_rfl) v xT w
theorem assign_need_code (w : World) : (ReflectliteType.relation "AssignableTo" ReflectliteType.assignableTo #[.agg #[hnd 31], rty 35]).run Tryd.prog w = .ok (.bool false) w := by kernel_rfl
theorem assign_need_need (w : World) : (ReflectliteType.relation "AssignableTo" ReflectliteType.assignableTo #[.agg #[hnd 31], rty 31]).run Tryd.prog w = .ok (.bool true) w := by kernel_rfl
theorem assign_need_wrap (w : World) : (ReflectliteType.relation "AssignableTo" ReflectliteType.assignableTo #[.agg #[hnd 31], rty 40]).run Tryd.prog w = .ok (.bool false) w := by kernel_rfl
theorem valueOfP_need (t : Addr) (w : World) : (ReflectliteValue.unpack (.iface 57 (.pointer (some t)))).run Tryd.prog w = .ok (.agg #[hnd 57, .pointer (some ⟨w.heap.size, 0, none⟩), .int .u64 150]) (w.alloc (.cells #[.pointer (some t)] 57)) := by kernel_rfl
theorem typeP_need (a : Addr) (w : World) : (ReflectliteValue.methodAny (ReflectliteValue.valueError "reflectlite.Value.Type" 0) (fun t _ _ _ => ReflectliteType.toType t) #[.agg #[hnd 57, .pointer (some a), .int .u64 150]]).run Tryd.prog w = .ok (rty 57) w := by kernel_rfl
theorem kindP_need (w : World) : ((ReflectliteType.abiMethod fun t => (fun a : Nat => Value.int IntKind.u8 (a : Int)) <$> Rtype.kind t) #[hnd 57]).run Tryd.prog w = .ok (.int .u8 22) w := by kernel_rfl
theorem kindE_need (w : World) : ((ReflectliteType.abiMethod fun t => (fun a : Nat => Value.int IntKind.u8 (a : Int)) <$> Rtype.kind t) #[hnd 31]).run Tryd.prog w = .ok (.int .u8 25) w := by kernel_rfl
theorem partsP_need (a : Addr) (w : World) : (ReflectliteValue.parts (.agg #[hnd 57, .pointer (some a), .int .u64 150])).run Tryd.prog w = .ok (some (57, a, 150)) w := by kernel_rfl
theorem partsE_need (a : Addr) (w : World) : (ReflectliteValue.parts (.agg #[hnd 31, .pointer (some a), .int .u64 409])).run Tryd.prog w = .ok (some (31, a, 409)) w := by kernel_rfl
theorem partsV_need (a : Addr) (w : World) : (ReflectliteValue.parts (.agg #[hnd 31, .pointer (some a), .int .u64 153])).run Tryd.prog w = .ok (some (31, a, 153)) w := by kernel_rfl
theorem direct_need (w : World) : (Rtype.directlyAssignable 31 31).run Tryd.prog w = .ok true w := by kernel_rfl
theorem elemOf_need (w : World) : (Rtype.elem? 57).run Tryd.prog w = .ok (some 31) w := by kernel_rfl
theorem mk_need (p : Addr) (w : World) : (ReflectliteValue.mk 31 p ReflectliteValue.flagAddr).run Tryd.prog w = .ok (.agg #[hnd 31, .pointer (some p), .int .u64 409]) w := by kernel_rfl
theorem elemT_need (w : World) : (ReflectliteType.method ReflectliteType.elem #[.agg #[hnd 57]]).run Tryd.prog w = .ok (rty 31) w := by kernel_rfl
theorem implements_need (w : World) : (ReflectliteType.relation "Implements" ReflectliteType.implements_ #[.agg #[hnd 31], rty 27]).run Tryd.prog w = .ok (.bool true) w := by kernel_rfl
theorem isNil_need (a p : Addr) (W : World) (ha : W.cell? a = some (.pointer (some p))) :
    (ReflectliteValue.method (ReflectliteValue.valueError "reflectlite.Value.IsNil" 0) ReflectliteValue.isNil #[.agg #[hnd 57, .pointer (some a), .int .u64 150]]).run Tryd.prog W = .ok (.bool false) W := by
  rw [rlm]
  simp only [Sem.run_bind, partsP_need, Result.andThen]
  simp [ReflectliteValue.isNil, loadVar, isAgg, underlying, Tryd.underlying57, ha, Result.andThen]
theorem elemV_need (a p : Addr) (W : World) (ha : W.cell? a = some (.pointer (some p))) :
    (ReflectliteValue.method (ReflectliteValue.valueError "reflectlite.Value.Elem" 0) ReflectliteValue.elem #[.agg #[hnd 57, .pointer (some a), .int .u64 150]]).run Tryd.prog W
      = .ok (.agg #[hnd 31, .pointer (some p), .int .u64 409]) W := by
  rw [rlm]
  simp only [Sem.run_bind, partsP_need, Result.andThen]
  simp [ReflectliteValue.elem, loadVar, isAgg, underlying, Tryd.underlying57, ha, Result.andThen, elemOf_need, mk_need]
theorem set_need (t b : Addr) (val : Value) (W W' : World) (hl : (loadVar 31 b).run Tryd.prog W = .ok val W) (hs : (storeVar 31 t val).run Tryd.prog W = .ok () W') :
    (ReflectliteValue.set #[.agg #[hnd 31, .pointer (some t), .int .u64 409], .agg #[hnd 31, .pointer (some b), .int .u64 153]]).run Tryd.prog W = .ok (.tuple #[]) W' := by
  rw [rls]
  simp only [Sem.run_bind, partsE_need, partsV_need, Result.andThen]
  simp [ReflectliteValue.flagAddr, hl, direct_need, hs, Result.andThen]
theorem typeOf_wrap (v : Value) (w : World) : (ReflectliteType.typeOf #[.iface 40 v]).run Tryd.prog w = .ok (rty 40) w := by kernel_rfl
theorem no_wrap_As (v : Value) (xT : TypeId) (w : World) : (Instr.typeAssert (.iface 40 v) xT 87 true).run Tryd.prog w = .ok (.tuple #[.nilIface, .bool false]) w := run_typeAssert_lacksB Tryd.underlying87 (by kernel_rfl) (by kernel_rfl) v xT w
theorem no_wrap_Is (v : Value) (xT : TypeId) (w : World) : (Instr.typeAssert (.iface 40 v) xT 93 true).run Tryd.prog w = .ok (.tuple #[.nilIface, .bool false]) w := run_typeAssert_lacksB Tryd.underlying93 (by kernel_rfl) (by kernel_rfl) v xT w
theorem has_wrap_Unwrap1 (v : Value) (xT : TypeId) (w : World) : (Instr.typeAssert (.iface 40 v) xT 90 true).run Tryd.prog w = .ok (.tuple #[.iface 40 v, .bool true]) w := run_typeAssert_hasB Tryd.underlying90 (by kernel_rfl) v xT w
theorem no_wrap_Unwrap2 (v : Value) (xT : TypeId) (w : World) : (Instr.typeAssert (.iface 40 v) xT 91 true).run Tryd.prog w = .ok (.tuple #[.nilIface, .bool false]) w := run_typeAssert_lacksB Tryd.underlying91 (by kernel_rfl) (by kernel_rfl) v xT w
theorem assign_wrap_code (w : World) : (ReflectliteType.relation "AssignableTo" ReflectliteType.assignableTo #[.agg #[hnd 40], rty 35]).run Tryd.prog w = .ok (.bool false) w := by kernel_rfl
theorem assign_wrap_need (w : World) : (ReflectliteType.relation "AssignableTo" ReflectliteType.assignableTo #[.agg #[hnd 40], rty 31]).run Tryd.prog w = .ok (.bool false) w := by kernel_rfl
theorem assign_wrap_wrap (w : World) : (ReflectliteType.relation "AssignableTo" ReflectliteType.assignableTo #[.agg #[hnd 40], rty 40]).run Tryd.prog w = .ok (.bool true) w := by kernel_rfl
theorem valueOfP_wrap (t : Addr) (w : World) : (ReflectliteValue.unpack (.iface 58 (.pointer (some t)))).run Tryd.prog w = .ok (.agg #[hnd 58, .pointer (some ⟨w.heap.size, 0, none⟩), .int .u64 150]) (w.alloc (.cells #[.pointer (some t)] 58)) := by kernel_rfl
theorem typeP_wrap (a : Addr) (w : World) : (ReflectliteValue.methodAny (ReflectliteValue.valueError "reflectlite.Value.Type" 0) (fun t _ _ _ => ReflectliteType.toType t) #[.agg #[hnd 58, .pointer (some a), .int .u64 150]]).run Tryd.prog w = .ok (rty 58) w := by kernel_rfl
theorem kindP_wrap (w : World) : ((ReflectliteType.abiMethod fun t => (fun a : Nat => Value.int IntKind.u8 (a : Int)) <$> Rtype.kind t) #[hnd 58]).run Tryd.prog w = .ok (.int .u8 22) w := by kernel_rfl
theorem kindE_wrap (w : World) : ((ReflectliteType.abiMethod fun t => (fun a : Nat => Value.int IntKind.u8 (a : Int)) <$> Rtype.kind t) #[hnd 40]).run Tryd.prog w = .ok (.int .u8 22) w := by kernel_rfl
theorem partsP_wrap (a : Addr) (w : World) : (ReflectliteValue.parts (.agg #[hnd 58, .pointer (some a), .int .u64 150])).run Tryd.prog w = .ok (some (58, a, 150)) w := by kernel_rfl
theorem partsE_wrap (a : Addr) (w : World) : (ReflectliteValue.parts (.agg #[hnd 40, .pointer (some a), .int .u64 406])).run Tryd.prog w = .ok (some (40, a, 406)) w := by kernel_rfl
theorem partsV_wrap (a : Addr) (w : World) : (ReflectliteValue.parts (.agg #[hnd 40, .pointer (some a), .int .u64 150])).run Tryd.prog w = .ok (some (40, a, 150)) w := by kernel_rfl
theorem direct_wrap (w : World) : (Rtype.directlyAssignable 40 40).run Tryd.prog w = .ok true w := by kernel_rfl
theorem elemOf_wrap (w : World) : (Rtype.elem? 58).run Tryd.prog w = .ok (some 40) w := by kernel_rfl
theorem mk_wrap (p : Addr) (w : World) : (ReflectliteValue.mk 40 p ReflectliteValue.flagAddr).run Tryd.prog w = .ok (.agg #[hnd 40, .pointer (some p), .int .u64 406]) w := by kernel_rfl
theorem elemT_wrap (w : World) : (ReflectliteType.method ReflectliteType.elem #[.agg #[hnd 58]]).run Tryd.prog w = .ok (rty 40) w := by kernel_rfl
theorem implements_wrap (w : World) : (ReflectliteType.relation "Implements" ReflectliteType.implements_ #[.agg #[hnd 40], rty 27]).run Tryd.prog w = .ok (.bool true) w := by kernel_rfl
theorem isNil_wrap (a p : Addr) (W : World) (ha : W.cell? a = some (.pointer (some p))) :
    (ReflectliteValue.method (ReflectliteValue.valueError "reflectlite.Value.IsNil" 0) ReflectliteValue.isNil #[.agg #[hnd 58, .pointer (some a), .int .u64 150]]).run Tryd.prog W = .ok (.bool false) W := by
  rw [rlm]
  simp only [Sem.run_bind, partsP_wrap, Result.andThen]
  simp [ReflectliteValue.isNil, loadVar, isAgg, underlying, Tryd.underlying58, ha, Result.andThen]
theorem elemV_wrap (a p : Addr) (W : World) (ha : W.cell? a = some (.pointer (some p))) :
    (ReflectliteValue.method (ReflectliteValue.valueError "reflectlite.Value.Elem" 0) ReflectliteValue.elem #[.agg #[hnd 58, .pointer (some a), .int .u64 150]]).run Tryd.prog W
      = .ok (.agg #[hnd 40, .pointer (some p), .int .u64 406]) W := by
  rw [rlm]
  simp only [Sem.run_bind, partsP_wrap, Result.andThen]
  simp [ReflectliteValue.elem, loadVar, isAgg, underlying, Tryd.underlying58, ha, Result.andThen, elemOf_wrap, mk_wrap]
theorem set_wrap (t b : Addr) (val : Value) (W W' : World) (hl : (loadVar 40 b).run Tryd.prog W = .ok val W) (hs : (storeVar 40 t val).run Tryd.prog W = .ok () W') :
    (ReflectliteValue.set #[.agg #[hnd 40, .pointer (some t), .int .u64 406], .agg #[hnd 40, .pointer (some b), .int .u64 150]]).run Tryd.prog W = .ok (.tuple #[]) W' := by
  rw [rls]
  simp only [Sem.run_bind, partsE_wrap, partsV_wrap, Result.andThen]
  simp [ReflectliteValue.flagAddr, hl, direct_wrap, hs, Result.andThen]
theorem valueOf_code (c : Int) (w : World) : (ReflectliteValue.unpack (.iface 35 (.int .i64 c))).run Tryd.prog w = .ok (.agg #[hnd 35, .pointer (some ⟨w.heap.size, 0, none⟩), .int .u64 130]) (w.alloc (.cells #[.int .i64 c] 35)) := by kernel_rfl
theorem valueOf_need (lo hi : ByteArray) (w : World) : (ReflectliteValue.unpack (.iface 31 (.agg #[.string lo, .string hi]))).run Tryd.prog w = .ok (.agg #[hnd 31, .pointer (some ⟨w.heap.size, 0, none⟩), .int .u64 153]) (w.alloc (.cells #[.string lo, .string hi] 31)) := by kernel_rfl
theorem valueOf_wrap (p : Addr) (w : World) : (ReflectliteValue.unpack (.iface 40 (.pointer (some p)))).run Tryd.prog w = .ok (.agg #[hnd 40, .pointer (some ⟨w.heap.size, 0, none⟩), .int .u64 150]) (w.alloc (.cells #[.pointer (some p)] 40)) := by kernel_rfl
end Go.Proofs.YtngeckkebejhiaaDoor.Errs
