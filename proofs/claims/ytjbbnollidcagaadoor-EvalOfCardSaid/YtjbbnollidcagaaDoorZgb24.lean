/- Part 24 of what the row leans on: abstract values and states, their rules, and the contracts of the functions. -/
import Derived.WalkKit
import Derived.LaidEql
import Derived.Stop.Asserts
import Derived.RowKitTokens
import Derived.Elder7
import Derived.Test.YtjbbnollidcagaaDoorZgb23
namespace Go.Proofs.YtjbbnollidcagaaDoor.Errs
open Go Go.RowKit Go.Extern.Stop Go.Stop Go.Extern
open Go.Proofs.YtjbbnollidcagaaDoor.Asl (Put NoFz run_storeVar run_loadCells Reads tyI)
set_option linter.unusedVariables false
set_option linter.unusedSimpArgs false
/-- An error: a number, a need, or one with a place ahead. -/
inductive EV where
  | code (c : Int)
  | need (lo hi : ByteArray)
  | wrap (p : ByteArray) (e : EV)
inductive Chain (W : World) : Value → EV → Prop
  | code (c : Int) : Chain W (.iface 25 (.int .i64 c)) (.code c)
  | need (lo hi : ByteArray) : Chain W (.iface 48 (.agg #[.string lo, .string hi])) (.need lo hi)
  | wrap (b o : Nat) (p : ByteArray) (E : Value) (e : EV) : W.cell? ⟨b, o, none⟩ = some (.string p) → W.cell? ⟨b, o + 1, none⟩ = some E → Chain W E e → Chain W (.iface 86 (.pointer (some ⟨b, o, none⟩))) (.wrap p e)
theorem Chain.unique {W : World} {E : Value} {e e' : EV} (h : Chain W E e) (h' : Chain W E e') : e = e' := by
  induction h generalizing e' with
  | code c => cases h'; rfl
  | need lo hi => cases h'; rfl
  | wrap b o p E e h1 h2 h3 ih =>
    cases h' with
    | wrap _ _ p' E' e2 k1 k2 k3 => rw [h1] at k1; rw [h2] at k2; cases k1; cases k2; rw [ih k3]
theorem cell_lt {W : World} {a : Addr} {v : Value} (h : W.cell? a = some v) : a.block < W.heap.size := by
  rcases Nat.lt_or_ge a.block W.heap.size with h1 | h1
  · exact h1
  · simp [World.cell?, Array.getElem?_eq_none h1] at h
theorem cell_alloc {W : World} {a : Addr} {v : Value} (ob : Obj) (h : W.cell? a = some v) : (W.alloc ob).cell? a = some v := by
  rw [World.cell?_alloc_lt _ _ a (cell_lt h)]; exact h
theorem Chain.alloc {W : World} {E : Value} {e : EV} (ob : Obj) (h : Chain W E e) : Chain (W.alloc ob) E e := by
  induction h with
  | code c => exact .code c
  | need lo hi => exact .need lo hi
  | wrap b o p E e h1 h2 h3 ih => exact .wrap b o p E e (cell_alloc ob h1) (cell_alloc ob h2) ih
def EV.len : EV → Nat
  | .wrap _ e => e.len + 1
  | _ => 0
open Classical in
noncomputable def chainLen (W : World) (E : Value) : Nat := if h : ∃ e, Chain W E e then h.choose.len else 0
theorem chainLen_eq {W : World} {E : Value} {e : EV} (h : Chain W E e) : chainLen W E = e.len := by
  unfold chainLen
  rw [dif_pos ⟨e, h⟩]
  rw [Chain.unique (Exists.choose_spec ⟨e, h⟩) h]
/-- What is found: the cells of the target. -/
def EV.as_code : EV → Option (Array Value)
  | .code c => some #[.int .i64 c]
  | .need _ _ => none
  | .wrap _ e => e.as_code
def as_wrap (E : Value) : EV → Option (Array Value)
  | .wrap _ _ => match E with | .iface _ v => some #[v] | _ => none
  | _ => none
/-- The world has grown. -/
structure Gr (W W' : World) : Prop where
  os : W'.os = W.os
  tape : W'.tape = W.tape
  output : W'.output = W.output
  size : W.heap.size ≤ W'.heap.size
  old : ∀ k, k < W.heap.size → W'.heap[k]? = W.heap[k]?
theorem Gr.refl (W : World) : Gr W W := ⟨rfl, rfl, rfl, Nat.le_refl _, fun _ _ => rfl⟩
theorem Gr.trans {A B C : World} (h : Gr A B) (k : Gr B C) : Gr A C := ⟨k.os.trans h.os, k.tape.trans h.tape, k.output.trans h.output, Nat.le_trans h.size k.size, fun i hi => (k.old i (Nat.lt_of_lt_of_le hi h.size)).trans (h.old i hi)⟩
theorem Gr.alloc (W : World) (o : Obj) : Gr W (W.alloc o) := ⟨rfl, rfl, rfl, by show W.heap.size ≤ (W.heap.push o).size; rw [Array.size_push]; omega, fun k hk => Below.heap_alloc W o k hk⟩
/-- The world has grown, and one block holds other cells. -/
def Hit (W w' : World) (b : Nat) (cs : Array Value) (ty : TypeId) : Prop := ∃ W2, Gr W W2 ∧ Put W2 w' b ∧ w'.heap[b]? = some (.cells cs ty (0, 0))
abbrev hnd (t : Nat) : Value := .pointer (some ⟨1, t, none⟩)
abbrev rty (t : Nat) : Value := .iface 135 (.agg #[hnd t])
theorem rlm (z : Sem Value) (f : TypeId → Addr → Nat → Nat → Sem Value) (v : Value) :
    ReflectliteValue.method z f #[v] = (do match ← ReflectliteValue.parts v with | none => z | some (t, a, fl) => f t a fl (fl % 32)) := rfl
theorem rls (v x : Value) : ReflectliteValue.set #[v, x] = (do
    let (some (dst, a, fl), some (src, b, _)) := (← ReflectliteValue.parts v, ← ReflectliteValue.parts x)
      | unsupported (.noEntry "extern/(internal/reflectlite.Value).Set.zeroValue")
    if fl / ReflectliteValue.flagAddr % 2 == 0 then unsupported (.noEntry "extern/(internal/reflectlite.Value).Set.unaddressable")
    let val ← loadVar src b
    if ← Rtype.directlyAssignable dst src then storeVar dst a val
    else if ← Rtype.implements dst src then
      if (← Rtype.kind src) == 20 then
        match val with
        | .nilIface => unsupported (.noEntry "extern/reflectlite: a nil value of one interface type handed on as a value of another")
        | _ => storeVar dst a val
      else storeVar dst a (.iface src val)
    else panicString ("reflectlite.Set: value of type " ++ (← Rtype.spelt src) ++ " is not assignable to type " ++ (← Rtype.spelt dst))
    pure (.tuple #[])) := rfl
theorem mUnwrap (v : Value) (w : World) : (Go.method 286 86 v "Unwrap").run Tryd.prog w = .ok (122, v) w := by kernel_rfl
theorem mAssignableTo (h : Value) (w : World) : (Go.method 286 135 (.agg #[h]) "AssignableTo").run Tryd.prog w = .ok (127, .agg #[h]) w := by kernel_rfl
theorem mElem (h : Value) (w : World) : (Go.method 286 135 (.agg #[h]) "Elem").run Tryd.prog w = .ok (129, .agg #[h]) w := by kernel_rfl
theorem mImplements (h : Value) (w : World) : (Go.method 286 135 (.agg #[h]) "Implements").run Tryd.prog w = .ok (130, .agg #[h]) w := by kernel_rfl
theorem mKind (h : Value) (w : World) : (Go.method 286 135 (.agg #[h]) "Kind").run Tryd.prog w = .ok (116, h) w := by kernel_rfl
theorem typeOf_code (v : Value) (w : World) : (ReflectliteType.typeOf #[.iface 25 v]).run Tryd.prog w = .ok (rty 25) w := by kernel_rfl
theorem no_code_As (v : Value) (xT : TypeId) (w : World) : (Instr.typeAssert (.iface 25 v) xT 139 true).run Tryd.prog w = .ok (.tuple #[.nilIface, .bool false]) w := run_typeAssert_lacksB Tryd.underlying139 (by kernel_rfl) (by kernel_rfl) v xT w
theorem no_code_Unwrap1 (v : Value) (xT : TypeId) (w : World) : (Instr.typeAssert (.iface 25 v) xT 142 true).run Tryd.prog w = .ok (.tuple #[.nilIface, .bool false]) w := run_typeAssert_lacksB Tryd.underlying142 (by kernel_rfl) (by kernel_rfl) v xT w
theorem no_code_Unwrap2 (v : Value) (xT : TypeId) (w : World) : (Instr.typeAssert (.iface 25 v) xT 144 true).run Tryd.prog w = .ok (.tuple #[.nilIface, .bool false]) w := run_typeAssert_lacksB Tryd.underlying144 (by kernel_rfl) (by kernel_rfl) v xT w
theorem assign_code_code (w : World) : (ReflectliteType.relation "AssignableTo" ReflectliteType.assignableTo #[.agg #[hnd 25], rty 25]).run Tryd.prog w = .ok (.bool true) w := by kernel_rfl
theorem assign_code_wrap (w : World) : (ReflectliteType.relation "AssignableTo" ReflectliteType.assignableTo #[.agg #[hnd 25], rty 86]).run Tryd.prog w = .ok (.bool false) w := by kernel_rfl
theorem valueOfP_code (t : Addr) (w : World) : (ReflectliteValue.unpack (.iface 82 (.pointer (some t)))).run Tryd.prog w = .ok (.agg #[hnd 82, .pointer (some ⟨w.heap.size, 0, none⟩), .int .u64 150]) (w.alloc (.cells #[.pointer (some t)] 82)) := by kernel_rfl
theorem typeP_code (a : Addr) (w : World) : (ReflectliteValue.methodAny (ReflectliteValue.valueError "reflectlite.Value.Type" 0) (fun t _ _ _ => ReflectliteType.toType t) #[.agg #[hnd 82, .pointer (some a), .int .u64 150]]).run Tryd.prog w = .ok (rty 82) w := by kernel_rfl
theorem kindP_code (w : World) : ((ReflectliteType.abiMethod fun t => (fun a : Nat => Value.int IntKind.u8 (a : Int)) <$> Rtype.kind t) #[hnd 82]).run Tryd.prog w = .ok (.int .u8 22) w := by kernel_rfl
theorem kindE_code (w : World) : ((ReflectliteType.abiMethod fun t => (fun a : Nat => Value.int IntKind.u8 (a : Int)) <$> Rtype.kind t) #[hnd 25]).run Tryd.prog w = .ok (.int .u8 2) w := by kernel_rfl
theorem partsP_code (a : Addr) (w : World) : (ReflectliteValue.parts (.agg #[hnd 82, .pointer (some a), .int .u64 150])).run Tryd.prog w = .ok (some (82, a, 150)) w := by kernel_rfl
theorem partsE_code (a : Addr) (w : World) : (ReflectliteValue.parts (.agg #[hnd 25, .pointer (some a), .int .u64 386])).run Tryd.prog w = .ok (some (25, a, 386)) w := by kernel_rfl
theorem partsV_code (a : Addr) (w : World) : (ReflectliteValue.parts (.agg #[hnd 25, .pointer (some a), .int .u64 130])).run Tryd.prog w = .ok (some (25, a, 130)) w := by kernel_rfl
theorem direct_code (w : World) : (Rtype.directlyAssignable 25 25).run Tryd.prog w = .ok true w := by kernel_rfl
theorem elemOf_code (w : World) : (Rtype.elem? 82).run Tryd.prog w = .ok (some 25) w := by kernel_rfl
theorem mk_code (p : Addr) (w : World) : (ReflectliteValue.mk 25 p ReflectliteValue.flagAddr).run Tryd.prog w = .ok (.agg #[hnd 25, .pointer (some p), .int .u64 386]) w := by kernel_rfl
theorem elemT_code (w : World) : (ReflectliteType.method ReflectliteType.elem #[.agg #[hnd 82]]).run Tryd.prog w = .ok (rty 25) w := by kernel_rfl
theorem implements_code (w : World) : (ReflectliteType.relation "Implements" ReflectliteType.implements_ #[.agg #[hnd 25], rty 38]).run Tryd.prog w = .ok (.bool true) w := by kernel_rfl
theorem isNil_code (a p : Addr) (W : World) (ha : W.cell? a = some (.pointer (some p))) :
    (ReflectliteValue.method (ReflectliteValue.valueError "reflectlite.Value.IsNil" 0) ReflectliteValue.isNil #[.agg #[hnd 82, .pointer (some a), .int .u64 150]]).run Tryd.prog W = .ok (.bool false) W := by
  rw [rlm]
  simp only [Sem.run_bind, partsP_code, Result.andThen]
  simp [ReflectliteValue.isNil, loadVar, isAgg, underlying, Tryd.underlying82, ha, Result.andThen]
theorem elemV_code (a p : Addr) (W : World) (ha : W.cell? a = some (.pointer (some p))) :
    (ReflectliteValue.method (ReflectliteValue.valueError "reflectlite.Value.Elem" 0) ReflectliteValue.elem #[.agg #[hnd 82, .pointer (some a), .int .u64 150]]).run Tryd.prog W
      = .ok (.agg #[hnd 25, .pointer (some p), .int .u64 386]) W := by
  rw [rlm]
  simp only [Sem.run_bind, partsP_code, Result.andThen]
  simp [ReflectliteValue.elem, loadVar, isAgg, underlying, Tryd.underlying82, ha, Result.andThen, elemOf_code, mk_code]
theorem set_code (t b : Addr) (val : Value) (W W' : World) (hl : (loadVar 25 b).run Tryd.prog W = .ok val W) (hs : (storeVar 25 t val).run Tryd.prog W = .ok () W') :
    (ReflectliteValue.set #[.agg #[hnd 25, .pointer (some t), .int .u64 386], .agg #[hnd 25, .pointer (some b), .int .u64 130]]).run Tryd.prog W = .ok (.tuple #[]) W' := by
  rw [rls]
  simp only [Sem.run_bind, partsE_code, partsV_code, Result.andThen]
  simp [ReflectliteValue.flagAddr, hl, direct_code, hs, Result.andThen]
theorem typeOf_need (v : Value) (w : World) : (ReflectliteType.typeOf #[.iface 48 v]).run Tryd.prog w = .ok (rty 48) w := by kernel_rfl
theorem no_need_As (v : Value) (xT : TypeId) (w : World) : (Instr.typeAssert (.iface 48 v) xT 139 true).run Tryd.prog w = .ok (.tuple #[.nilIface, .bool false]) w := run_typeAssert_lacksB Tryd.underlying139 (by kernel_rfl) (by kernel_rfl) v xT w
theorem no_need_Unwrap1 (v : Value) (xT : TypeId) (w : World) : (Instr.typeAssert (.iface 48 v) xT 142 true).run Tryd.prog w = .ok (.tuple #[.nilIface, .bool false]) w := run_typeAssert_lacksB Tryd.underlying142 (by kernel_rfl) (by kernel_rfl) v xT w
theorem no_need_Unwrap2 (v : Value) (xT : TypeId) (w : World) : (Instr.typeAssert (.iface 48 v) xT 144 true).run Tryd.prog w = .ok (.tuple #[.nilIface, .bool false]) w := run_typeAssert_lacksB Tryd.underlying144 (by kernel_rfl) (by kernel_rfl) v xT w
theorem assign_need_code (w : World) : (ReflectliteType.relation "AssignableTo" ReflectliteType.assignableTo #[.agg #[hnd 48], rty 25]).run Tryd.prog w = .ok (.bool false) w := by kernel_rfl
theorem assign_need_wrap (w : World) : (ReflectliteType.relation "AssignableTo" ReflectliteType.assignableTo #[.agg #[hnd 48], rty 86]).run Tryd.prog w = .ok (.bool false) w := by kernel_rfl
theorem typeOf_wrap (v : Value) (w : World) : (ReflectliteType.typeOf #[.iface 86 v]).run Tryd.prog w = .ok (rty 86) w := by kernel_rfl
theorem no_wrap_As (v : Value) (xT : TypeId) (w : World) : (Instr.typeAssert (.iface 86 v) xT 139 true).run Tryd.prog w = .ok (.tuple #[.nilIface, .bool false]) w := run_typeAssert_lacksB Tryd.underlying139 (by kernel_rfl) (by kernel_rfl) v xT w
theorem has_wrap_Unwrap1 (v : Value) (xT : TypeId) (w : World) : (Instr.typeAssert (.iface 86 v) xT 142 true).run Tryd.prog w = .ok (.tuple #[.iface 86 v, .bool true]) w := run_typeAssert_hasB Tryd.underlying142 (by kernel_rfl) v xT w
theorem assign_wrap_code (w : World) : (ReflectliteType.relation "AssignableTo" ReflectliteType.assignableTo #[.agg #[hnd 86], rty 25]).run Tryd.prog w = .ok (.bool false) w := by kernel_rfl
theorem assign_wrap_wrap (w : World) : (ReflectliteType.relation "AssignableTo" ReflectliteType.assignableTo #[.agg #[hnd 86], rty 86]).run Tryd.prog w = .ok (.bool true) w := by kernel_rfl
theorem valueOfP_wrap (t : Addr) (w : World) : (ReflectliteValue.unpack (.iface 87 (.pointer (some t)))).run Tryd.prog w = .ok (.agg #[hnd 87, .pointer (some ⟨w.heap.size, 0, none⟩), .int .u64 150]) (w.alloc (.cells #[.pointer (some t)] 87)) := by kernel_rfl
theorem typeP_wrap (a : Addr) (w : World) : (ReflectliteValue.methodAny (ReflectliteValue.valueError "reflectlite.Value.Type" 0) (fun t _ _ _ => ReflectliteType.toType t) #[.agg #[hnd 87, .pointer (some a), .int .u64 150]]).run Tryd.prog w = .ok (rty 87) w := by kernel_rfl
theorem kindP_wrap (w : World) : ((ReflectliteType.abiMethod fun t => (fun a : Nat => Value.int IntKind.u8 (a : Int)) <$> Rtype.kind t) #[hnd 87]).run Tryd.prog w = .ok (.int .u8 22) w := by kernel_rfl
theorem kindE_wrap (w : World) : ((ReflectliteType.abiMethod fun t => (fun a : Nat => Value.int IntKind.u8 (a : Int)) <$> Rtype.kind t) #[hnd 86]).run Tryd.prog w = .ok (.int .u8 22) w := by kernel_rfl
theorem partsP_wrap (a : Addr) (w : World) : (ReflectliteValue.parts (.agg #[hnd 87, .pointer (some a), .int .u64 150])).run Tryd.prog w = .ok (some (87, a, 150)) w := by kernel_rfl
theorem partsE_wrap (a : Addr) (w : World) : (ReflectliteValue.parts (.agg #[hnd 86, .pointer (some a), .int .u64 406])).run Tryd.prog w = .ok (some (86, a, 406)) w := by kernel_rfl
theorem partsV_wrap (a : Addr) (w : World) : (ReflectliteValue.parts (.agg #[hnd 86, .pointer (some a), .int .u64 150])).run Tryd.prog w = .ok (some (86, a, 150)) w := by kernel_rfl
theorem direct_wrap (w : World) : (Rtype.directlyAssignable 86 86).run Tryd.prog w = .ok true w := by kernel_rfl
theorem elemOf_wrap (w : World) : (Rtype.elem? 87).run Tryd.prog w = .ok (some 86) w := by kernel_rfl
theorem mk_wrap (p : Addr) (w : World) : (ReflectliteValue.mk 86 p ReflectliteValue.flagAddr).run Tryd.prog w = .ok (.agg #[hnd 86, .pointer (some p), .int .u64 406]) w := by kernel_rfl
theorem elemT_wrap (w : World) : (ReflectliteType.method ReflectliteType.elem #[.agg #[hnd 87]]).run Tryd.prog w = .ok (rty 86) w := by kernel_rfl
theorem implements_wrap (w : World) : (ReflectliteType.relation "Implements" ReflectliteType.implements_ #[.agg #[hnd 86], rty 38]).run Tryd.prog w = .ok (.bool true) w := by kernel_rfl
theorem isNil_wrap (a p : Addr) (W : World) (ha : W.cell? a = some (.pointer (some p))) :
    (ReflectliteValue.method (ReflectliteValue.valueError "reflectlite.Value.IsNil" 0) ReflectliteValue.isNil #[.agg #[hnd 87, .pointer (some a), .int .u64 150]]).run Tryd.prog W = .ok (.bool false) W := by
  rw [rlm]
  simp only [Sem.run_bind, partsP_wrap, Result.andThen]
  simp [ReflectliteValue.isNil, loadVar, isAgg, underlying, Tryd.underlying87, ha, Result.andThen]
theorem elemV_wrap (a p : Addr) (W : World) (ha : W.cell? a = some (.pointer (some p))) :
    (ReflectliteValue.method (ReflectliteValue.valueError "reflectlite.Value.Elem" 0) ReflectliteValue.elem #[.agg #[hnd 87, .pointer (some a), .int .u64 150]]).run Tryd.prog W
      = .ok (.agg #[hnd 86, .pointer (some p), .int .u64 406]) W := by
  rw [rlm]
  simp only [Sem.run_bind, partsP_wrap, Result.andThen]
  simp [ReflectliteValue.elem, loadVar, isAgg, underlying, Tryd.underlying87, ha, Result.andThen, elemOf_wrap, mk_wrap]
theorem set_wrap (t b : Addr) (val : Value) (W W' : World) (hl : (loadVar 86 b).run Tryd.prog W = .ok val W) (hs : (storeVar 86 t val).run Tryd.prog W = .ok () W') :
    (ReflectliteValue.set #[.agg #[hnd 86, .pointer (some t), .int .u64 406], .agg #[hnd 86, .pointer (some b), .int .u64 150]]).run Tryd.prog W = .ok (.tuple #[]) W' := by
  rw [rls]
  simp only [Sem.run_bind, partsE_wrap, partsV_wrap, Result.andThen]
  simp [ReflectliteValue.flagAddr, hl, direct_wrap, hs, Result.andThen]
theorem valueOf_code (c : Int) (w : World) : (ReflectliteValue.unpack (.iface 25 (.int .i64 c))).run Tryd.prog w = .ok (.agg #[hnd 25, .pointer (some ⟨w.heap.size, 0, none⟩), .int .u64 130]) (w.alloc (.cells #[.int .i64 c] 25)) := by kernel_rfl
theorem valueOf_wrap (p : Addr) (w : World) : (ReflectliteValue.unpack (.iface 86 (.pointer (some p)))).run Tryd.prog w = .ok (.agg #[hnd 86, .pointer (some ⟨w.heap.size, 0, none⟩), .int .u64 150]) (w.alloc (.cells #[.pointer (some p)] 86)) := by kernel_rfl
end Go.Proofs.YtjbbnollidcagaaDoor.Errs

namespace Go.Proofs.YtjbbnollidcagaaDoor.Errs
open Go Go.RowKit Go.Extern.Stop Go.Stop Go.Extern
open Go.Proofs.YtjbbnollidcagaaDoor.Asl (Put NoFz run_storeVar Reads tyI tyI_agg tyI_size Cell)
set_option linter.unusedVariables false
set_option linter.unusedSimpArgs false
set_option linter.unnecessarySimpa false
theorem Gr.cell {W W' : World} (g : Gr W W') {a : Addr} {v : Value} (h : W.cell? a = some v) : W'.cell? a = some v := by
  have := g.old a.block (cell_lt h)
  unfold World.cell? at h ⊢
  rw [this]; exact h
theorem Gr.block {W W' : World} (g : Gr W W') {b : Nat} {ob : Obj} (h : W.heap[b]? = some ob) : W'.heap[b]? = some ob := by
  rw [g.old b (Array.getElem?_eq_some_iff.1 h).1]; exact h
theorem Chain.gr {W W' : World} (g : Gr W W') {E : Value} {e : EV} (h : Chain W E e) : Chain W' E e := by
  induction h with
  | code c => exact .code c
  | need lo hi => exact .need lo hi
  | wrap b o p E e h1 h2 h3 ih => exact .wrap b o p E e (g.cell h1) (g.cell h2) ih
theorem Hit.gr {A B w' : World} {b : Nat} {cs : Array Value} {ty : TypeId} (g : Gr A B) (h : Hit B w' b cs ty) : Hit A w' b cs ty := by
  obtain ⟨W2, h1, h2, h3⟩ := h
  exact ⟨W2, g.trans h1, h2, h3⟩
theorem load_one (t : TypeId) (W : World) (b : Nat) (x : Value) (ht : tyI Tryd.prog t = some (1, false)) (h0 : W.cell? ⟨b, 0, none⟩ = some x) : (loadVar t ⟨b, 0, none⟩).run Tryd.prog W = .ok x W := by
  simp [loadVar, tyI_agg ht, h0]
theorem cell_new (W : World) (cs : Array Value) (ty : TypeId) (i : Nat) (v : Value) (h : cs[i]? = some v) : (W.alloc (.cells cs ty)).cell? ⟨W.heap.size, i, none⟩ = some v := by
  rw [World.cell?_alloc_at _ _ _ _ (by simpa using (Array.getElem?_eq_some_iff.1 h).1)]
  exact h
theorem ty_code : tyI Tryd.prog 25 = some (1, false) := by kernel_rfl
set_option maxRecDepth 1000000 in
set_option maxHeartbeats 8000000 in
theorem as_code_c {W : World} (E : Value) (e : EV) (hch : Chain W E e) (tg : Value) (a : Addr) (b : Nat) (ha : W.cell? a = some (.pointer (some ⟨b, 0, none⟩))) (cs : Array Value) (ty : TypeId) (hb : W.heap[b]? = some (.cells cs ty (0, 0))) (hn : cs.size = 1) :
    Calls Tryd.prog 74 #[E, tg, .agg #[hnd 82, .pointer (some a), .int .u64 150], rty 25] W fun ev w' => (e.as_code = none → ev = .returned (.bool false) ∧ Gr W w') ∧ (∀ r, e.as_code = some r → ev = .returned (.bool true) ∧ Hit W w' b r ty) := by
  have hTO := @run_callFunc_extern Tryd.prog 77 _ ReflectliteType.typeOf Tryd.func77 (by kernel_rfl) (by kernel_rfl) (by kernel_rfl) (by kernel_rfl)
  have hAT := @run_callFunc_extern Tryd.prog 127 _ (ReflectliteType.relation "AssignableTo" ReflectliteType.assignableTo) Tryd.func127 (by kernel_rfl) (by kernel_rfl) (by kernel_rfl) (by kernel_rfl)
  have hEL := @run_callFunc_extern Tryd.prog 83 _ (ReflectliteValue.method (ReflectliteValue.valueError "reflectlite.Value.Elem" 0) ReflectliteValue.elem) Tryd.func83 (by kernel_rfl) (by kernel_rfl) (by kernel_rfl) (by kernel_rfl)
  have hVO := @run_callFunc_extern Tryd.prog 71 _ (fun args => ReflectliteValue.unpack (args.getD 0 (.tuple #[]))) Tryd.func71 (by kernel_rfl) (by kernel_rfl) (by kernel_rfl) (by kernel_rfl)
  have hST := @run_callFunc_extern Tryd.prog 84 _ ReflectliteValue.set Tryd.func84 (by kernel_rfl) (by kernel_rfl) (by kernel_rfl) (by kernel_rfl)
  have t1 := typeOf_code
  have t2 := typeOf_need
  have t3 := typeOf_wrap
  have mA := mAssignableTo
  have a1 := assign_code_code
  have a2 := assign_need_code
  have a3 := assign_wrap_code
  have n1 := no_code_As
  have n2 := no_code_Unwrap1
  have n3 := no_code_Unwrap2
  have n4 := no_need_As
  have n5 := no_need_Unwrap1
  have n6 := no_need_Unwrap2
  have n7 := no_wrap_As
  have n8 := has_wrap_Unwrap1
  have mU := mUnwrap
  have vO := valueOf_code
  have hE := elemV_code a ⟨b, 0, none⟩ (W.alloc (.cells #[hnd 82, .pointer (some a), .int .u64 150] 110)) (cell_alloc _ ha)
  have gr1 : Gr W (W.alloc (.cells #[hnd 82, .pointer (some a), .int .u64 150] 110)) := Gr.alloc _ _
  go_enter Tryd.func74, Tryd.ntmps74
  go_wp2
  go_loopw [0] (fun E' wl => wl = (W.alloc (.cells #[hnd 82, .pointer (some a), .int .u64 150] 110)) ∧ ∃ e', Chain wl E' e' ∧ e'.as_code = e.as_code) (fun E' wl => chainLen wl E')
  case atStart => exact ⟨rfl, e, hch.alloc _, rfl⟩
  case round =>
    obtain ⟨rfl, e', hc', hiff⟩ := hrel
    cases hc' with
    | code c =>
      have gr2 : Gr W ((W.alloc (.cells #[hnd 82, .pointer (some a), .int .u64 150] 110)).alloc (.cells #[.int .i64 c] 25)) := gr1.trans (Gr.alloc _ _)
      obtain ⟨c1, hc1⟩ : ∃ c1 : List Value, cs = c1.toArray := ⟨cs.toList, by simp⟩
      subst hc1
      have hb2 : ((W.alloc (.cells #[hnd 82, .pointer (some a), .int .u64 150] 110)).alloc (.cells #[.int .i64 c] 25)).heap[b]? = some (.cells (([] : List Value) ++ c1 ++ []).toArray ty (0, 0)) := by simpa using gr2.block hb
      obtain ⟨W3, hs, hp, hw⟩ := run_storeVar (P := Tryd.prog) (v := .int .i64 c) ty_code hb2 (by intro i _ h; omega) (by simpa using hn) (by simp [Value.cells]) (by intro x hx; simp [Value.cells] at hx; subst hx; exact ⟨by intros; simp, by intros; simp⟩)
      have hl := load_one 25 ((W.alloc (.cells #[hnd 82, .pointer (some a), .int .u64 150] 110)).alloc (.cells #[.int .i64 c] 25)) (W.alloc (.cells #[hnd 82, .pointer (some a), .int .u64 150] 110)).heap.size (.int .i64 c) ty_code (cell_new _ _ _ 0 _ rfl)
      have hS := set_code ⟨b, 0, none⟩ ⟨(W.alloc (.cells #[hnd 82, .pointer (some a), .int .u64 150] 110)).heap.size, 0, none⟩ (.int .i64 c) _ _ hl hs
      have hsz : (W.alloc (.cells #[hnd 82, .pointer (some a), .int .u64 150] 110)).heap.size = W.heap.size + 1 := by simp
      rw [hsz] at hS
      go_wp2
      go_ret
      exact ⟨fun h => by rw [← hiff] at h; simp [EV.as_code] at h, fun r h => by rw [← hiff] at h; simp [EV.as_code] at h; subst h; exact ⟨rfl, _, gr2, hp, by simpa [Value.cells] using hw⟩⟩
    | need lo hi =>
      go_wp2
      go_ret
      exact ⟨fun _ => ⟨rfl, gr1⟩, fun r h => by rw [← hiff] at h; simp [EV.as_code] at h⟩
    | wrap b0 o0 p E1 e1 h1 h2 h3 =>
      have hlen := chainLen_eq h3
      have hlen0 := chainLen_eq (Chain.wrap b0 o0 p E1 e1 h1 h2 h3)
      have hne : ∃ u v, E1 = .iface u v := by cases h3 <;> exact ⟨_, _, rfl⟩
      obtain ⟨u1, v1, rfl⟩ := hne
      have HC : Hid (Chain _ (.iface u1 v1) e1) := h3
      clear h3
      go_wp2
      refine ⟨⟨trivial, e1, HC.out, hiff⟩, ?_⟩
      show chainLen _ (.iface u1 v1) < _
      rw [hlen, hlen0]; simp [EV.len]
theorem ty_wrap : tyI Tryd.prog 86 = some (1, false) := by kernel_rfl
set_option maxRecDepth 1000000 in
set_option maxHeartbeats 8000000 in
theorem as_wrap_c {W : World} (E : Value) (e : EV) (hch : Chain W E e) (tg : Value) (a : Addr) (b : Nat) (ha : W.cell? a = some (.pointer (some ⟨b, 0, none⟩))) (cs : Array Value) (ty : TypeId) (hb : W.heap[b]? = some (.cells cs ty (0, 0))) (hn : cs.size = 1) :
    Calls Tryd.prog 74 #[E, tg, .agg #[hnd 87, .pointer (some a), .int .u64 150], rty 86] W fun ev w' => ((as_wrap E e) = none → ev = .returned (.bool false) ∧ Gr W w') ∧ (∀ r, (as_wrap E e) = some r → ev = .returned (.bool true) ∧ Hit W w' b r ty) := by
  have hTO := @run_callFunc_extern Tryd.prog 77 _ ReflectliteType.typeOf Tryd.func77 (by kernel_rfl) (by kernel_rfl) (by kernel_rfl) (by kernel_rfl)
  have hAT := @run_callFunc_extern Tryd.prog 127 _ (ReflectliteType.relation "AssignableTo" ReflectliteType.assignableTo) Tryd.func127 (by kernel_rfl) (by kernel_rfl) (by kernel_rfl) (by kernel_rfl)
  have hEL := @run_callFunc_extern Tryd.prog 83 _ (ReflectliteValue.method (ReflectliteValue.valueError "reflectlite.Value.Elem" 0) ReflectliteValue.elem) Tryd.func83 (by kernel_rfl) (by kernel_rfl) (by kernel_rfl) (by kernel_rfl)
  have hVO := @run_callFunc_extern Tryd.prog 71 _ (fun args => ReflectliteValue.unpack (args.getD 0 (.tuple #[]))) Tryd.func71 (by kernel_rfl) (by kernel_rfl) (by kernel_rfl) (by kernel_rfl)
  have hST := @run_callFunc_extern Tryd.prog 84 _ ReflectliteValue.set Tryd.func84 (by kernel_rfl) (by kernel_rfl) (by kernel_rfl) (by kernel_rfl)
  have t1 := typeOf_code
  have t2 := typeOf_need
  have t3 := typeOf_wrap
  have mA := mAssignableTo
  have a1 := assign_code_wrap
  have a2 := assign_need_wrap
  have a3 := assign_wrap_wrap
  have n1 := no_code_As
  have n2 := no_code_Unwrap1
  have n3 := no_code_Unwrap2
  have n4 := no_need_As
  have n5 := no_need_Unwrap1
  have n6 := no_need_Unwrap2
  have n7 := no_wrap_As
  have n8 := has_wrap_Unwrap1
  have mU := mUnwrap
  have vO := valueOf_wrap
  have hE := elemV_wrap a ⟨b, 0, none⟩ (W.alloc (.cells #[hnd 87, .pointer (some a), .int .u64 150] 110)) (cell_alloc _ ha)
  have gr1 : Gr W (W.alloc (.cells #[hnd 87, .pointer (some a), .int .u64 150] 110)) := Gr.alloc _ _
  go_enter Tryd.func74, Tryd.ntmps74
  go_wp2
  go_loopw [0] (fun E' wl => wl = (W.alloc (.cells #[hnd 87, .pointer (some a), .int .u64 150] 110)) ∧ E' = E ∧ ∃ e', Chain wl E' e' ∧ e' = e) (fun E' wl => chainLen wl E')
  case atStart => exact ⟨rfl, rfl, e, hch.alloc _, rfl⟩
  case round =>
    obtain ⟨rfl, rfl, e', hc', rfl⟩ := hrel
    cases hc' with
    | code c =>
      go_wp2
      go_ret
      exact ⟨fun _ => ⟨rfl, gr1⟩, fun r h => by simp [as_wrap] at h⟩
    | need lo hi =>
      go_wp2
      go_ret
      exact ⟨fun _ => ⟨rfl, gr1⟩, fun r h => by simp [as_wrap] at h⟩
    | wrap b0 o0 p E1 e1 h1 h2 h3 =>
      have gr2 : Gr W ((W.alloc (.cells #[hnd 87, .pointer (some a), .int .u64 150] 110)).alloc (.cells #[.pointer (some ⟨b0, o0, none⟩)] 86)) := gr1.trans (Gr.alloc _ _)
      obtain ⟨c1, hc1⟩ : ∃ c1 : List Value, cs = c1.toArray := ⟨cs.toList, by simp⟩
      subst hc1
      have hb2 : ((W.alloc (.cells #[hnd 87, .pointer (some a), .int .u64 150] 110)).alloc (.cells #[.pointer (some ⟨b0, o0, none⟩)] 86)).heap[b]? = some (.cells (([] : List Value) ++ c1 ++ []).toArray ty (0, 0)) := by simpa using gr2.block hb
      obtain ⟨W3, hs, hp, hw⟩ := run_storeVar (P := Tryd.prog) (v := .pointer (some ⟨b0, o0, none⟩)) ty_wrap hb2 (by intro i _ h; omega) (by simpa using hn) (by simp [Value.cells]) (by intro x hx; simp [Value.cells] at hx; subst hx; exact ⟨by intros; simp, by intros; simp⟩)
      have hl := load_one 86 ((W.alloc (.cells #[hnd 87, .pointer (some a), .int .u64 150] 110)).alloc (.cells #[.pointer (some ⟨b0, o0, none⟩)] 86)) (W.alloc (.cells #[hnd 87, .pointer (some a), .int .u64 150] 110)).heap.size (.pointer (some ⟨b0, o0, none⟩)) ty_wrap (cell_new _ _ _ 0 _ rfl)
      have hS := set_wrap ⟨b, 0, none⟩ ⟨(W.alloc (.cells #[hnd 87, .pointer (some a), .int .u64 150] 110)).heap.size, 0, none⟩ (.pointer (some ⟨b0, o0, none⟩)) _ _ hl hs
      have hsz : (W.alloc (.cells #[hnd 87, .pointer (some a), .int .u64 150] 110)).heap.size = W.heap.size + 1 := by simp
      rw [hsz] at hS
      go_wp2
      go_ret
      exact ⟨fun h => by simp [as_wrap] at h, fun r h => by simp [as_wrap] at h; subst h; exact ⟨rfl, _, gr2, hp, by simpa [Value.cells] using hw⟩⟩
set_option maxRecDepth 1000000 in
set_option maxHeartbeats 8000000 in
theorem As_code {W : World} (E : Value) (e : EV) (hch : Chain W E e) (b : Nat) (cs : Array Value) (ty : TypeId) (hb : W.heap[b]? = some (.cells cs ty (0, 0))) (hn : cs.size = 1) (hg : W.cell? ⟨0, 0, none⟩ = some (rty 38)) :
    Calls Tryd.prog 49 #[E, .iface 82 (.pointer (some ⟨b, 0, none⟩))] W fun ev w' => (e.as_code = none → ev = .returned (.bool false) ∧ Gr W w') ∧ (∀ r, e.as_code = some r → ev = .returned (.bool true) ∧ Hit W w' b r ty) := by
  have hVO := @run_callFunc_extern Tryd.prog 71 _ (fun args => ReflectliteValue.unpack (args.getD 0 (.tuple #[]))) Tryd.func71 (by kernel_rfl) (by kernel_rfl) (by kernel_rfl) (by kernel_rfl)
  have hTY := @run_callFunc_extern Tryd.prog 72 _ (ReflectliteValue.methodAny (ReflectliteValue.valueError "reflectlite.Value.Type" 0) (fun t _ _ _ => ReflectliteType.toType t)) Tryd.func72 (by kernel_rfl) (by kernel_rfl) (by kernel_rfl) (by kernel_rfl)
  have hIN := @run_callFunc_extern Tryd.prog 73 _ (ReflectliteValue.method (ReflectliteValue.valueError "reflectlite.Value.IsNil" 0) ReflectliteValue.isNil) Tryd.func73 (by kernel_rfl) (by kernel_rfl) (by kernel_rfl) (by kernel_rfl)
  have hKI := @run_callFunc_extern Tryd.prog 116 _ (ReflectliteType.abiMethod fun t => do pure (.int .u8 (← Rtype.kind t))) Tryd.func116 (by kernel_rfl) (by kernel_rfl) (by kernel_rfl) (by kernel_rfl)
  have hEL := @run_callFunc_extern Tryd.prog 129 _ (ReflectliteType.method ReflectliteType.elem) Tryd.func129 (by kernel_rfl) (by kernel_rfl) (by kernel_rfl) (by kernel_rfl)
  have hIM := @run_callFunc_extern Tryd.prog 130 _ (ReflectliteType.relation "Implements" ReflectliteType.implements_) Tryd.func130 (by kernel_rfl) (by kernel_rfl) (by kernel_rfl) (by kernel_rfl)
  have f6 := valueOfP_code
  have f7 := typeP_code
  have mK := mKind
  have mE := mElem
  have mI := mImplements
  have k1 := kindP_code
  have k2 := kindE_code
  have e1 := elemT_code
  have i1 := implements_code
  have n8 := isNil_code ⟨W.heap.size, 0, none⟩ ⟨b, 0, none⟩ ((W.alloc (.cells #[.pointer (some ⟨b, 0, none⟩)] 82)).alloc (.cells #[hnd 82, .pointer (some ⟨W.heap.size, 0, none⟩), .int .u64 150] 110)) (cell_alloc _ (cell_new _ _ _ 0 _ rfl))
  have hg2 : ((W.alloc (.cells #[.pointer (some ⟨b, 0, none⟩)] 82)).alloc (.cells #[hnd 82, .pointer (some ⟨W.heap.size, 0, none⟩), .int .u64 150] 110)).cell? ⟨0, 0, none⟩ = some (rty 38) := cell_alloc _ (cell_alloc _ hg)
  have gr2 : Gr W ((W.alloc (.cells #[.pointer (some ⟨b, 0, none⟩)] 82)).alloc (.cells #[hnd 82, .pointer (some ⟨W.heap.size, 0, none⟩), .int .u64 150] 110)) := (Gr.alloc _ _).trans (Gr.alloc _ _)
  have hb2 := gr2.block hb
  have hc2 := hch.gr gr2
  have ha2 : ((W.alloc (.cells #[.pointer (some ⟨b, 0, none⟩)] 82)).alloc (.cells #[hnd 82, .pointer (some ⟨W.heap.size, 0, none⟩), .int .u64 150] 110)).cell? ⟨W.heap.size, 0, none⟩ = some (.pointer (some ⟨b, 0, none⟩)) := cell_alloc _ (cell_new _ _ _ 0 _ rfl)
  have key := as_code_c E e hc2 (.iface 82 (.pointer (some ⟨b, 0, none⟩))) ⟨W.heap.size, 0, none⟩ b ha2 cs ty hb2 hn
  have hne : ∃ u v, E = .iface u v := by cases hch <;> exact ⟨_, _, rfl⟩
  obtain ⟨u0, v0, rfl⟩ := hne
  clear hch hc2 hb hb2
  cases hk : e.as_code with
  | none =>
    go_enter Tryd.func49, Tryd.ntmps49
    go_wp2_with (first | (go_at_call 74; refine key.mono ?_; rintro ev w' ⟨q1, q2⟩; obtain ⟨rfl, q3⟩ := q1 hk) | go_in)
    go_ret
    exact ⟨fun _ => ⟨rfl, gr2.trans q3⟩, fun r h => (by cases h)⟩
  | some r =>
    go_enter Tryd.func49, Tryd.ntmps49
    go_wp2_with (first | (go_at_call 74; refine key.mono ?_; rintro ev w' ⟨q1, q2⟩; obtain ⟨rfl, q3⟩ := q2 _ hk) | go_in)
    go_ret
    exact ⟨fun h => (by cases h), fun r h => (by cases h; exact ⟨rfl, q3.gr gr2⟩)⟩
set_option maxRecDepth 1000000 in
set_option maxHeartbeats 8000000 in
theorem As_wrap {W : World} (E : Value) (e : EV) (hch : Chain W E e) (b : Nat) (cs : Array Value) (ty : TypeId) (hb : W.heap[b]? = some (.cells cs ty (0, 0))) (hn : cs.size = 1) (hg : W.cell? ⟨0, 0, none⟩ = some (rty 38)) :
    Calls Tryd.prog 49 #[E, .iface 87 (.pointer (some ⟨b, 0, none⟩))] W fun ev w' => ((as_wrap E e) = none → ev = .returned (.bool false) ∧ Gr W w') ∧ (∀ r, (as_wrap E e) = some r → ev = .returned (.bool true) ∧ Hit W w' b r ty) := by
  have hVO := @run_callFunc_extern Tryd.prog 71 _ (fun args => ReflectliteValue.unpack (args.getD 0 (.tuple #[]))) Tryd.func71 (by kernel_rfl) (by kernel_rfl) (by kernel_rfl) (by kernel_rfl)
  have hTY := @run_callFunc_extern Tryd.prog 72 _ (ReflectliteValue.methodAny (ReflectliteValue.valueError "reflectlite.Value.Type" 0) (fun t _ _ _ => ReflectliteType.toType t)) Tryd.func72 (by kernel_rfl) (by kernel_rfl) (by kernel_rfl) (by kernel_rfl)
  have hIN := @run_callFunc_extern Tryd.prog 73 _ (ReflectliteValue.method (ReflectliteValue.valueError "reflectlite.Value.IsNil" 0) ReflectliteValue.isNil) Tryd.func73 (by kernel_rfl) (by kernel_rfl) (by kernel_rfl) (by kernel_rfl)
  have hKI := @run_callFunc_extern Tryd.prog 116 _ (ReflectliteType.abiMethod fun t => do pure (.int .u8 (← Rtype.kind t))) Tryd.func116 (by kernel_rfl) (by kernel_rfl) (by kernel_rfl) (by kernel_rfl)
  have hEL := @run_callFunc_extern Tryd.prog 129 _ (ReflectliteType.method ReflectliteType.elem) Tryd.func129 (by kernel_rfl) (by kernel_rfl) (by kernel_rfl) (by kernel_rfl)
  have hIM := @run_callFunc_extern Tryd.prog 130 _ (ReflectliteType.relation "Implements" ReflectliteType.implements_) Tryd.func130 (by kernel_rfl) (by kernel_rfl) (by kernel_rfl) (by kernel_rfl)
  have f6 := valueOfP_wrap
  have f7 := typeP_wrap
  have mK := mKind
  have mE := mElem
  have mI := mImplements
  have k1 := kindP_wrap
  have k2 := kindE_wrap
  have e1 := elemT_wrap
  have i1 := implements_wrap
  have n8 := isNil_wrap ⟨W.heap.size, 0, none⟩ ⟨b, 0, none⟩ ((W.alloc (.cells #[.pointer (some ⟨b, 0, none⟩)] 87)).alloc (.cells #[hnd 87, .pointer (some ⟨W.heap.size, 0, none⟩), .int .u64 150] 110)) (cell_alloc _ (cell_new _ _ _ 0 _ rfl))
  have hg2 : ((W.alloc (.cells #[.pointer (some ⟨b, 0, none⟩)] 87)).alloc (.cells #[hnd 87, .pointer (some ⟨W.heap.size, 0, none⟩), .int .u64 150] 110)).cell? ⟨0, 0, none⟩ = some (rty 38) := cell_alloc _ (cell_alloc _ hg)
  have gr2 : Gr W ((W.alloc (.cells #[.pointer (some ⟨b, 0, none⟩)] 87)).alloc (.cells #[hnd 87, .pointer (some ⟨W.heap.size, 0, none⟩), .int .u64 150] 110)) := (Gr.alloc _ _).trans (Gr.alloc _ _)
  have hb2 := gr2.block hb
  have hc2 := hch.gr gr2
  have ha2 : ((W.alloc (.cells #[.pointer (some ⟨b, 0, none⟩)] 87)).alloc (.cells #[hnd 87, .pointer (some ⟨W.heap.size, 0, none⟩), .int .u64 150] 110)).cell? ⟨W.heap.size, 0, none⟩ = some (.pointer (some ⟨b, 0, none⟩)) := cell_alloc _ (cell_new _ _ _ 0 _ rfl)
  have key := as_wrap_c E e hc2 (.iface 87 (.pointer (some ⟨b, 0, none⟩))) ⟨W.heap.size, 0, none⟩ b ha2 cs ty hb2 hn
  have hne : ∃ u v, E = .iface u v := by cases hch <;> exact ⟨_, _, rfl⟩
  obtain ⟨u0, v0, rfl⟩ := hne
  clear hch hc2 hb hb2
  cases hk : (as_wrap (.iface u0 v0) e) with
  | none =>
    go_enter Tryd.func49, Tryd.ntmps49
    go_wp2_with (first | (go_at_call 74; refine key.mono ?_; rintro ev w' ⟨q1, q2⟩; obtain ⟨rfl, q3⟩ := q1 hk) | go_in)
    go_ret
    exact ⟨fun _ => ⟨rfl, gr2.trans q3⟩, fun r h => (by cases h)⟩
  | some r =>
    go_enter Tryd.func49, Tryd.ntmps49
    go_wp2_with (first | (go_at_call 74; refine key.mono ?_; rintro ev w' ⟨q1, q2⟩; obtain ⟨rfl, q3⟩ := q2 _ hk) | go_in)
    go_ret
    exact ⟨fun h => (by cases h), fun r h => (by cases h; exact ⟨rfl, q3.gr gr2⟩)⟩
theorem As_nil (t : Value) (w : World) : Calls Tryd.prog 49 #[.nilIface, t] w fun e w' => e = .returned (.bool false) ∧ w' = w := by
  go_enter Tryd.func49, Tryd.ntmps49
  go_wp2
  go_ret
  exact ⟨rfl, rfl⟩
end Go.Proofs.YtjbbnollidcagaaDoor.Errs

namespace Go.Proofs.YtjbbnollidcagaaDoor.Errs
open Go Go.RowKit Go.Extern.Stop Go.Stop Go.Extern
set_option linter.unusedVariables false
set_option linter.unusedSimpArgs false
def EV.num : EV → Option Int
  | .code c => some c
  | .need _ _ => none
  | .wrap _ e => e.num
theorem EV.as_num : ∀ e : EV, e.as_code = e.num.map fun c => #[.int .i64 c]
  | .code _ => rfl
  | .need _ _ => rfl
  | .wrap _ e => by simp only [EV.as_code, EV.num]; exact e.as_num
end Go.Proofs.YtjbbnollidcagaaDoor.Errs

namespace Go.Proofs.YtjbbnollidcagaaDoor.Asl
open Go Go.RowKit
set_option linter.unusedVariables false
set_option linter.unusedSimpArgs false
variable {P : Program} {nt : Nat} {C : Cx} {σ : St} {a : Act} {e : Nat → AV} {h : Hp}
mutual
def AV.fzb (k : Nat) (X : AV) : AV → AV
  | .ptr id off => if id = k ∧ off = 0 then .fp X else .ptr id off
  | .agg l => .agg (AV.fzbs k X l)
  | .tup l => .tup (AV.fzbs k X l)
  | .ifc t x => .ifc t (AV.fzb k X x)
  | .fn f l m => .fn f (AV.fzbs k X l) (AV.fzbs k X m)
  | x => x
def AV.fzbs (k : Nat) (X : AV) : List AV → List AV
  | [] => []
  | x :: l => AV.fzb k X x :: AV.fzbs k X l
end
theorem AV.fzb_one (k : Nat) (X x : AV) : (AV.fzb k X x).one = x.one := by
  cases x with
  | ptr id off => simp only [AV.fzb]; split <;> simp [AV.one]
  | raw v => rfl
  | _ => simp [AV.fzb, AV.one]
mutual
theorem AV.fzb_size (k : Nat) (X : AV) : ∀ x : AV, (AV.fzb k X x).size = x.size
  | .ptr id off => by simp only [AV.fzb]; split <;> simp [AV.size]
  | .agg l => by simp [AV.fzb, AV.size, AV.fzbs_sizes k X l]
  | .ow .. | .ep .. | .tup _ | .ifc .. | .fn .. | .any | .raw _ | .sl .. | .fp _ => by simp [AV.fzb, AV.size]
theorem AV.fzbs_sizes (k : Nat) (X : AV) : ∀ l : List AV, AV.sizes (AV.fzbs k X l) = AV.sizes l
  | [] => rfl
  | x :: l => by simp [AV.fzbs, AV.sizes, AV.fzb_size k X x, AV.fzbs_sizes k X l]
end
theorem AV.fzbs_mem (k : Nat) (X : AV) : ∀ {l : List AV} {y : AV}, y ∈ AV.fzbs k X l → ∃ x ∈ l, y = AV.fzb k X x
  | x :: l, y, hy => by
    simp only [AV.fzbs, List.mem_cons] at hy
    rcases hy with rfl | hy
    · exact ⟨x, by simp, rfl⟩
    · obtain ⟨z, h1, h2⟩ := AV.fzbs_mem k X hy
      exact ⟨z, by simp [h1], h2⟩
structure FzB (C : Cx) (k : Nat) (X : AV) : Prop where
  at_ : ∃ b T cs, C.ι k = some (b, T) ∧ C.F b ∧ Reads C.W b 0 cs ∧ RC C.bare X cs
theorem FzB.ptr {k : Nat} {X : AV} (f : FzB C k X) {id off : Nat} {v : Value} (hx : RV C (.ptr id off) v) : RV C (AV.fzb k X (.ptr id off)) v := by
  simp only [AV.fzb]
  split
  · rename_i hc
    obtain ⟨rfl, rfl⟩ := hc
    obtain ⟨b, T, cs, h1, h2, h3, h4⟩ := f.at_
    cases hx with
    | ptr g => rw [h1] at g; cases g; exact .fp h4 h2 h3
  · exact hx
mutual
theorem RV.fzb {C : Cx} {k : Nat} {X : AV} (f : FzB C k X) {x : AV} {v : Value} (hx : RV C x v) : RV C (AV.fzb k X x) v :=
  match hx with
  | .any v => .any v
  | .raw v => .raw v
  | .agg q => .agg (q.fzb f)
  | .tup q => .tup (q.fzb f)
  | .sl0 => .sl0
  | .sl q hs hF hr hc => .sl q hs hF hr hc
  | .fp q hF hr => .fp q hF hr
  | .ptr q => f.ptr (.ptr q)
  | .ep q => .ep q
  | .ow q hl => .ow q hl
  | .ow0 q hl => .ow0 q hl
  | .ifc q => .ifc (q.fzb f)
  | .fn h1 h2 => .fn (h1.fzb f) (h2.fzb f)
theorem RC.fzb {C : Cx} {k : Nat} {X : AV} (f : FzB C k X) {x : AV} {cs : List Value} (hx : RC C x cs) : RC C (AV.fzb k X x) cs :=
  match hx with
  | .agg q => .agg (q.fzb f)
  | .one q h1 => .one (q.fzb f) (by rw [AV.fzb_one]; exact h1)
theorem RCs.fzb {C : Cx} {k : Nat} {X : AV} (f : FzB C k X) {l : List AV} {cs : List Value} (hx : RCs C l cs) : RCs C (AV.fzbs k X l) cs :=
  match hx with
  | .nil => .nil
  | .cons q q2 => .cons (q.fzb f) (q2.fzb f)
theorem RVs.fzb {C : Cx} {k : Nat} {X : AV} (f : FzB C k X) {l : List AV} {vs : List Value} (hx : RVs C l vs) : RVs C (AV.fzbs k X l) vs :=
  match hx with
  | .nil => .nil
  | .cons q q2 => .cons (q.fzb f) (q2.fzb f)
end
def Ob.fzb (k : Nat) (X : AV) : Ob → Ob
  | .box x => .box (AV.fzb k X x)
  | .arr s l => .arr s (AV.fzbs k X l)
  | x => x
theorem Ob.fzb_live (k : Nat) (X : AV) (ob : Ob) : (ob.fzb k X).live = ob.live := by cases ob <;> rfl
def fzbH (k : Nat) (X : AV) (h : Hp) : Hp := fun i => if i = k then some .dead else (h i).map (Ob.fzb k X)
theorem Weak.fzb {k : Nat} {X : AV} (hob : h k = some (.box X)) (hn : X.noid = true) : Weak ⟨e, h⟩ ⟨fun t => AV.fzb k X (e t), fzbH k X h⟩ := fun nt C a s => by
  obtain ⟨b, T, cs, t, h1, h2, h3, h4⟩ := s.heap.at_ k _ hob
  let C' : Cx := { W := C.W, F := fun k => C.F k ∨ k = b, O := fun k => C.O k ∧ k ≠ b, ι := C.ι }
  have u : Up C C' := ⟨fun _ h => .inl h, fun _ _ => rfl, fun _ _ h => h⟩
  have hr : Reads C.W b 0 cs.toList := Reads.of_block h3
  have f : FzB C' k X := ⟨b, T, cs.toList, h1, .inr rfl, hr, (h4.bare hn).up u.bare⟩
  refine ⟨C', rfl, ⟨rfl, rfl, rfl, Nat.le_refl _, fun _ h => .inl h, fun _ _ _ => rfl, fun k hk => ?_, fun k hk => .inl hk.1, fun _ _ _ h => h⟩, s.defers, s.size, fun t => ((s.env t).up u).fzb f, ⟨fun i q hq => ?_, fun i hi => ?_, fun i j b' T' U' o q g1 g2 g3 g4 g5 g6 => ?_, fun k hk hF => ?_, fun k hk => ?_, fun k hk => s.heap.olt k hk.1, s.heap.gl.up u⟩⟩
  · rcases hk with hk | rfl
    · exact .inl hk
    · exact .inr (.inl h2)
  · simp only [fzbH] at hq
    by_cases e : i = k
    · rw [if_pos e] at hq; cases hq; subst e
      exact ⟨b, T, h1⟩
    · rw [if_neg e] at hq
      obtain ⟨o, ho, rfl⟩ := Option.map_eq_some_iff.1 hq
      have hs : HSat C' i o := by
        refine (s.heap.at_ i o ho).up u fun b2 T2 k2 k3 k4 => ⟨⟨k3, fun e2 => ?_⟩, rfl⟩
        subst e2
        exact e (s.heap.inj i k _ _ _ o _ ho k4 hob rfl k2 h1)
      cases o with
      | box x =>
        obtain ⟨b, T, cs, t, q1, q2, q3, q4⟩ := hs
        exact ⟨b, T, cs, t, q1, q2, q3, q4.fzb f⟩
      | arr sz l =>
        obtain ⟨b, T, cs, t, fr, c1, c2, q1, q2, q3, q4, q5, q6, q7, q8, q9⟩ := hs
        refine ⟨b, T, cs, t, fr, c1, c2, q1, q2, q3, q4, q5, q6.fzb f, fun y hy => ?_, q8, q9⟩
        obtain ⟨x, hx, rfl⟩ := AV.fzbs_mem k X hy
        rw [AV.fzb_size]; exact q7 x hx
      | fz sz l => exact hs
      | dead => exact hs
  · simp only [fzbH] at hi
    by_cases e : i = k
    · rw [if_pos e] at hi; cases hi
    · rw [if_neg e] at hi; exact s.heap.no i (by simpa using hi)
  · have g : ∀ i (q : Ob), fzbH k X h i = some q → q.live = true → ∃ o, h i = some o ∧ o.live = true := by
      intro i q hk hq
      simp only [fzbH] at hk
      by_cases e2 : i = k
      · rw [if_pos e2] at hk; cases hk; simp [Ob.live] at hq
      · rw [if_neg e2] at hk
        obtain ⟨o, ho, rfl⟩ := Option.map_eq_some_iff.1 hk
        exact ⟨o, ho, by rw [Ob.fzb_live] at hq; exact hq⟩
    obtain ⟨o1, x1, x2⟩ := g i o g1 g2
    obtain ⟨o2, y1, y2⟩ := g j q g3 g4
    exact s.heap.inj i j b' T' U' o1 o2 x1 x2 y1 y2 g5 g6
  · rcases hF with hF | rfl
    · exact s.heap.apart k hk.1 hF
    · exact hk.2 rfl
  · rcases hk with hk | rfl
    · exact s.heap.lt k hk
    · exact s.heap.olt _ h2
/-- A variable that was made, handed on for reading. -/
theorem Fin.fzb {k : Nat} {X r r' : AV} (hob : h k = some (.box X)) (hn : X.noid = true) (hr : Is (AV.fzb k X r) r') (hn' : Is r'.noid true) (hb : BigIn h noHeap) (hk : k < 100000) : Fin h r noHeap r' := by
  have h1 : Fin h r (fzbH k X h) r' := by
    have := Weak.fzb (e := E1 r) hob hn
    have e : (fun t => AV.fzb k X (E1 r t)) = E1 r' := by
      funext t
      unfold E1
      split
      · exact hr
      · rfl
    rw [e] at this
    exact this
  refine h1.trans (Fin.drop hn' fun id hid h0 => ?_)
  simp only [fzbH]
  rw [if_neg (by omega), hb id hid h0]; rfl
attribute [simp] AV.fzb AV.fzbs
end Go.Proofs.YtjbbnollidcagaaDoor.Asl

