/- Part 24 of what the row leans on: abstract values and states, their rules, and the contracts of the functions. -/
import Derived.WalkKit
import Derived.LaidEql
import Derived.Stop.Asserts
import Derived.RowKitTokens
import Derived.Elder7
import Derived.Test.YtjbbnollidcagaaGreatDoorZgz23
namespace Go.Proofs.YtjbbnollidcagaaGreatDoor.Errs
open Go Go.RowKit Go.Extern.Stop Go.Stop Go.Extern
open Go.Proofs.YtjbbnollidcagaaGreatDoor.Asl (Put NoFz run_storeVar run_loadCells Reads tyI)
set_option linter.unusedVariables false
set_option linter.unusedSimpArgs false
/-- An error: a number, a need, or one with a place ahead. -/
inductive EV where
  | code (c : Int)
  | need (lo hi : ByteArray)
  | wrap (p : ByteArray) (e : EV)
inductive Chain (W : World) : Value → EV → Prop
  | code (c : Int) : Chain W (.iface 38 (.int .i64 c)) (.code c)
  | need (lo hi : ByteArray) : Chain W (.iface 40 (.agg #[.string lo, .string hi])) (.need lo hi)
  | wrap (b o : Nat) (p : ByteArray) (E : Value) (e : EV) : W.cell? ⟨b, o, none⟩ = some (.string p) → W.cell? ⟨b, o + 1, none⟩ = some E → Chain W E e → Chain W (.iface 121 (.pointer (some ⟨b, o, none⟩))) (.wrap p e)
theorem Chain.unique {W : World} {E : Value} {e e' : EV} (h : Chain W E e) (h' : Chain W E e') : e = e' := by
  induction h generalizing e' with
  | code c => cases h'; rfl
  | need lo hi => cases h'; rfl
  | wrap b o p E e h1 h2 h3 ih =>
    cases h' with
    | wrap _ _ p' E' e2 k1 k2 k3 => rw [h1] at k1; rw [h2] at k2; cases k1; cases k2; rw [ih k3]
theorem cell_lt {W : World} {a : Addr} {v : Value} (h : W.cell? a = some v) : a.block < W.heap.size := by
  rcases Nat.lt_or_ge a.block W.heap.size with h1 | h1
  · exact h1
  · simp [World.cell?, Array.getElem?_eq_none h1] at h
theorem cell_alloc {W : World} {a : Addr} {v : Value} (ob : Obj) (h : W.cell? a = some v) : (W.alloc ob).cell? a = some v := by
  rw [World.cell?_alloc_lt _ _ a (cell_lt h)]; exact h
theorem Chain.alloc {W : World} {E : Value} {e : EV} (ob : Obj) (h : Chain W E e) : Chain (W.alloc ob) E e := by
  induction h with
  | code c => exact .code c
  | need lo hi => exact .need lo hi
  | wrap b o p E e h1 h2 h3 ih => exact .wrap b o p E e (cell_alloc ob h1) (cell_alloc ob h2) ih
def EV.len : EV → Nat
  | .wrap _ e => e.len + 1
  | _ => 0
open Classical in
noncomputable def chainLen (W : World) (E : Value) : Nat := if h : ∃ e, Chain W E e then h.choose.len else 0
theorem chainLen_eq {W : World} {E : Value} {e : EV} (h : Chain W E e) : chainLen W E = e.len := by
  unfold chainLen
  rw [dif_pos ⟨e, h⟩]
  rw [Chain.unique (Exists.choose_spec ⟨e, h⟩) h]
/-- What is found: the cells of the target. -/
def EV.as_code : EV → Option (Array Value)
  | .code c => some #[.int .i64 c]
  | .need _ _ => none
  | .wrap _ e => e.as_code
/-- The world has grown. -/
structure Gr (W W' : World) : Prop where
  os : W'.os = W.os
  tape : W'.tape = W.tape
  output : W'.output = W.output
  size : W.heap.size ≤ W'.heap.size
  old : ∀ k, k < W.heap.size → W'.heap[k]? = W.heap[k]?
theorem Gr.refl (W : World) : Gr W W := ⟨rfl, rfl, rfl, Nat.le_refl _, fun _ _ => rfl⟩
theorem Gr.trans {A B C : World} (h : Gr A B) (k : Gr B C) : Gr A C := ⟨k.os.trans h.os, k.tape.trans h.tape, k.output.trans h.output, Nat.le_trans h.size k.size, fun i hi => (k.old i (Nat.lt_of_lt_of_le hi h.size)).trans (h.old i hi)⟩
theorem Gr.alloc (W : World) (o : Obj) : Gr W (W.alloc o) := ⟨rfl, rfl, rfl, by show W.heap.size ≤ (W.heap.push o).size; rw [Array.size_push]; omega, fun k hk => Below.heap_alloc W o k hk⟩
/-- The world has grown, and one block holds other cells. -/
def Hit (W w' : World) (b : Nat) (cs : Array Value) (ty : TypeId) : Prop := ∃ W2, Gr W W2 ∧ Put W2 w' b ∧ w'.heap[b]? = some (.cells cs ty (0, 0))
abbrev hnd (t : Nat) : Value := .pointer (some ⟨1, t, none⟩)
abbrev rty (t : Nat) : Value := .iface 96 (.agg #[hnd t])
theorem rlm (z : Sem Value) (f : TypeId → Addr → Nat → Nat → Sem Value) (v : Value) :
    ReflectliteValue.method z f #[v] = (do match ← ReflectliteValue.parts v with | none => z | some (t, a, fl) => f t a fl (fl % 32)) := rfl
theorem rls (v x : Value) : ReflectliteValue.set #[v, x] = (do
    let (some (dst, a, fl), some (src, b, _)) := (← ReflectliteValue.parts v, ← ReflectliteValue.parts x)
      | unsupported (.noEntry "extern/(internal/reflectlite.Value).Set.zeroValue")
    if fl / ReflectliteValue.flagAddr % 2 == 0 then unsupported (.noEntry "extern/(internal/reflectlite.Value).Set.unaddressable")
    let val ← loadVar src b
    if ← Rtype.directlyAssignable dst src then storeVar dst a val
    else if ← Rtype.implements dst src then
      if (← Rtype.kind src) == 20 then
        match val with
        | .nilIface => unsupported (.noEntry "extern/reflectlite: a nil value of one interface type handed on as a value of another")
        | _ => storeVar dst a val
      else storeVar dst a (.iface src val)
    else panicString ("reflectlite.Set: value of type " ++ (← Rtype.spelt src) ++ " is not assignable to type " ++ (← Rtype.spelt dst))
    pure (.tuple #[])) := rfl
theorem mUnwrap (v : Value) (w : World) : (Go.method 272 121 v "Unwrap").run Tryz.prog w = .ok (121, v) w := by kernel_rfl
theorem mAssignableTo (h : Value) (w : World) : (Go.method 272 96 (.agg #[h]) "AssignableTo").run Tryz.prog w = .ok (110, .agg #[h]) w := by kernel_rfl
theorem mElem (h : Value) (w : World) : (Go.method 272 96 (.agg #[h]) "Elem").run Tryz.prog w = .ok (112, .agg #[h]) w := by kernel_rfl
theorem mImplements (h : Value) (w : World) : (Go.method 272 96 (.agg #[h]) "Implements").run Tryz.prog w = .ok (113, .agg #[h]) w := by kernel_rfl
theorem mComparable (h : Value) (w : World) : (Go.method 272 96 (.agg #[h]) "Comparable").run Tryz.prog w = .ok (111, .agg #[h]) w := by kernel_rfl
theorem mKind (h : Value) (w : World) : (Go.method 272 96 (.agg #[h]) "Kind").run Tryz.prog w = .ok (101, h) w := by kernel_rfl
theorem typeOf_code (v : Value) (w : World) : (ReflectliteType.typeOf #[.iface 38 v]).run Tryz.prog w = .ok (rty 38) w := by kernel_rfl
theorem no_code_As (v : Value) (xT : TypeId) (w : World) : (Instr.typeAssert (.iface 38 v) xT 113 true).run Tryz.prog w = .ok (.tuple #[.nilIface, .bool false]) w := run_typeAssert_lacksB Tryz.underlying113 (by kernel_rfl) (by kernel_rfl) v xT w
theorem no_code_Is (v : Value) (xT : TypeId) (w : World) : (Instr.typeAssert (.iface 38 v) xT 98 true).run Tryz.prog w = .ok (.tuple #[.nilIface, .bool false]) w := run_typeAssert_lacksB Tryz.underlying98 (by kernel_rfl) (by kernel_rfl) v xT w
theorem no_code_Unwrap1 (v : Value) (xT : TypeId) (w : World) : (Instr.typeAssert (.iface 38 v) xT 101 true).run Tryz.prog w = .ok (.tuple #[.nilIface, .bool false]) w := run_typeAssert_lacksB Tryz.underlying101 (by kernel_rfl) (by kernel_rfl) v xT w
theorem no_code_Unwrap2 (v : Value) (xT : TypeId) (w : World) : (Instr.typeAssert (.iface 38 v) xT 103 true).run Tryz.prog w = .ok (.tuple #[.nilIface, .bool false]) w := run_typeAssert_lacksB Tryz.underlying103 (by kernel_rfl) (by kernel_rfl) v xT w
theorem assign_code_code (w : World) : (ReflectliteType.relation "AssignableTo" ReflectliteType.assignableTo #[.agg #[hnd 38], rty 38]).run Tryz.prog w = .ok (.bool true) w := by kernel_rfl
theorem valueOfP_code (t : Addr) (w : World) : (ReflectliteValue.unpack (.iface 61 (.pointer (some t)))).run Tryz.prog w = .ok (.agg #[hnd 61, .pointer (some ⟨w.heap.size, 0, none⟩), .int .u64 150]) (w.alloc (.cells #[.pointer (some t)] 61)) := by kernel_rfl
theorem typeP_code (a : Addr) (w : World) : (ReflectliteValue.methodAny (ReflectliteValue.valueError "reflectlite.Value.Type" 0) (fun t _ _ _ => ReflectliteType.toType t) #[.agg #[hnd 61, .pointer (some a), .int .u64 150]]).run Tryz.prog w = .ok (rty 61) w := by kernel_rfl
theorem kindP_code (w : World) : ((ReflectliteType.abiMethod fun t => (fun a : Nat => Value.int IntKind.u8 (a : Int)) <$> Rtype.kind t) #[hnd 61]).run Tryz.prog w = .ok (.int .u8 22) w := by kernel_rfl
theorem kindE_code (w : World) : ((ReflectliteType.abiMethod fun t => (fun a : Nat => Value.int IntKind.u8 (a : Int)) <$> Rtype.kind t) #[hnd 38]).run Tryz.prog w = .ok (.int .u8 2) w := by kernel_rfl
theorem partsP_code (a : Addr) (w : World) : (ReflectliteValue.parts (.agg #[hnd 61, .pointer (some a), .int .u64 150])).run Tryz.prog w = .ok (some (61, a, 150)) w := by kernel_rfl
theorem partsE_code (a : Addr) (w : World) : (ReflectliteValue.parts (.agg #[hnd 38, .pointer (some a), .int .u64 386])).run Tryz.prog w = .ok (some (38, a, 386)) w := by kernel_rfl
theorem partsV_code (a : Addr) (w : World) : (ReflectliteValue.parts (.agg #[hnd 38, .pointer (some a), .int .u64 130])).run Tryz.prog w = .ok (some (38, a, 130)) w := by kernel_rfl
theorem direct_code (w : World) : (Rtype.directlyAssignable 38 38).run Tryz.prog w = .ok true w := by kernel_rfl
theorem elemOf_code (w : World) : (Rtype.elem? 61).run Tryz.prog w = .ok (some 38) w := by kernel_rfl
theorem mk_code (p : Addr) (w : World) : (ReflectliteValue.mk 38 p ReflectliteValue.flagAddr).run Tryz.prog w = .ok (.agg #[hnd 38, .pointer (some p), .int .u64 386]) w := by kernel_rfl
theorem elemT_code (w : World) : (ReflectliteType.method ReflectliteType.elem #[.agg #[hnd 61]]).run Tryz.prog w = .ok (rty 38) w := by kernel_rfl
theorem implements_code (w : World) : (ReflectliteType.relation "Implements" ReflectliteType.implements_ #[.agg #[hnd 38], rty 27]).run Tryz.prog w = .ok (.bool true) w := by kernel_rfl
theorem isNil_code (a p : Addr) (W : World) (ha : W.cell? a = some (.pointer (some p))) :
    (ReflectliteValue.method (ReflectliteValue.valueError "reflectlite.Value.IsNil" 0) ReflectliteValue.isNil #[.agg #[hnd 61, .pointer (some a), .int .u64 150]]).run Tryz.prog W = .ok (.bool false) W := by
  rw [rlm]
  simp only [Sem.run_bind, partsP_code, Result.andThen]
  simp [ReflectliteValue.isNil, loadVar, isAgg, underlying, Tryz.underlying61, ha, Result.andThen]
theorem elemV_code (a p : Addr) (W : World) (ha : W.cell? a = some (.pointer (some p))) :
    (ReflectliteValue.method (ReflectliteValue.valueError "reflectlite.Value.Elem" 0) ReflectliteValue.elem #[.agg #[hnd 61, .pointer (some a), .int .u64 150]]).run Tryz.prog W
      = .ok (.agg #[hnd 38, .pointer (some p), .int .u64 386]) W := by
  rw [rlm]
  simp only [Sem.run_bind, partsP_code, Result.andThen]
  simp [ReflectliteValue.elem, loadVar, isAgg, underlying, Tryz.underlying61, ha, Result.andThen, elemOf_code, mk_code]
theorem set_code (t b : Addr) (val : Value) (W W' : World) (hl : (loadVar 38 b).run Tryz.prog W = .ok val W) (hs : (storeVar 38 t val).run Tryz.prog W = .ok () W') :
    (ReflectliteValue.set #[.agg #[hnd 38, .pointer (some t), .int .u64 386], .agg #[hnd 38, .pointer (some b), .int .u64 130]]).run Tryz.prog W = .ok (.tuple #[]) W' := by
  rw [rls]
  simp only [Sem.run_bind, partsE_code, partsV_code, Result.andThen]
  simp [ReflectliteValue.flagAddr, hl, direct_code, hs, Result.andThen]
theorem typeOf_need (v : Value) (w : World) : (ReflectliteType.typeOf #[.iface 40 v]).run Tryz.prog w = .ok (rty 40) w := by kernel_rfl
theorem no_need_As (v : Value) (xT : TypeId) (w : World) : (Instr.typeAssert (.iface 40 v) xT 113 true).run Tryz.prog w = .ok (.tuple #[.nilIface, .bool false]) w := run_typeAssert_lacksB Tryz.underlying113 (by kernel_rfl) (by kernel_rfl) v xT w
theorem no_need_Is (v : Value) (xT : TypeId) (w : World) : (Instr.typeAssert (.iface 40 v) xT 98 true).run Tryz.prog w = .ok (.tuple #[.nilIface, .bool false]) w := run_typeAssert_lacksB Tryz.underlying98 (by kernel_rfl) (by kernel_rfl) v xT w
theorem no_need_Unwrap1 (v : Value) (xT : TypeId) (w : World) : (Instr.typeAssert (.iface 40 v) xT 101 true).run Tryz.prog w = .ok (.tuple #[.nilIface, .bool false]) w := run_typeAssert_lacksB Tryz.underlying101 (by kernel_rfl) (by kernel_rfl) v xT w
theorem no_need_Unwrap2 (v : Value) (xT : TypeId) (w : World) : (Instr.typeAssert (.iface 40 v) xT 103 true).run Tryz.prog w = .ok (.tuple #[.nilIface, .bool false]) w := run_typeAssert_lacksB Tryz.underlying103 (by kernel_rfl) (by kernel_rfl) v xT w
theorem assign_need_code (w : World) : (ReflectliteType.relation "AssignableTo" ReflectliteType.assignableTo #[.agg #[hnd 40], rty 38]).run Tryz.prog w = .ok (.bool false) w := by kernel_rfl
theorem typeOf_wrap (v : Value) (w : World) : (ReflectliteType.typeOf #[.iface 121 v]).run Tryz.prog w = .ok (rty 121) w := by kernel_rfl
theorem no_wrap_As (v : Value) (xT : TypeId) (w : World) : (Instr.typeAssert (.iface 121 v) xT 113 true).run Tryz.prog w = .ok (.tuple #[.nilIface, .bool false]) w := run_typeAssert_lacksB Tryz.underlying113 (by kernel_rfl) (by kernel_rfl) v xT w
theorem no_wrap_Is (v : Value) (xT : TypeId) (w : World) : (Instr.typeAssert (.iface 121 v) xT 98 true).run Tryz.prog w = .ok (.tuple #[.nilIface, .bool false]) w := run_typeAssert_lacksB Tryz.underlying98 (by kernel_rfl) (by kernel_rfl) v xT w
theorem has_wrap_Unwrap1 (v : Value) (xT : TypeId) (w : World) : (Instr.typeAssert (.iface 121 v) xT 101 true).run Tryz.prog w = .ok (.tuple #[.iface 121 v, .bool true]) w := run_typeAssert_hasB Tryz.underlying101 (by kernel_rfl) v xT w
theorem assign_wrap_code (w : World) : (ReflectliteType.relation "AssignableTo" ReflectliteType.assignableTo #[.agg #[hnd 121], rty 38]).run Tryz.prog w = .ok (.bool false) w := by kernel_rfl
theorem valueOf_code (c : Int) (w : World) : (ReflectliteValue.unpack (.iface 38 (.int .i64 c))).run Tryz.prog w = .ok (.agg #[hnd 38, .pointer (some ⟨w.heap.size, 0, none⟩), .int .u64 130]) (w.alloc (.cells #[.int .i64 c] 38)) := by kernel_rfl
end Go.Proofs.YtjbbnollidcagaaGreatDoor.Errs

namespace Go.Proofs.YtjbbnollidcagaaGreatDoor.Errs
open Go Go.RowKit Go.Extern.Stop Go.Stop Go.Extern
open Go.Proofs.YtjbbnollidcagaaGreatDoor.Asl (Put NoFz run_storeVar Reads tyI tyI_agg tyI_size Cell)
set_option linter.unusedVariables false
set_option linter.unusedSimpArgs false
set_option linter.unnecessarySimpa false
theorem Gr.cell {W W' : World} (g : Gr W W') {a : Addr} {v : Value} (h : W.cell? a = some v) : W'.cell? a = some v := by
  have := g.old a.block (cell_lt h)
  unfold World.cell? at h ⊢
  rw [this]; exact h
theorem Gr.block {W W' : World} (g : Gr W W') {b : Nat} {ob : Obj} (h : W.heap[b]? = some ob) : W'.heap[b]? = some ob := by
  rw [g.old b (Array.getElem?_eq_some_iff.1 h).1]; exact h
theorem Chain.gr {W W' : World} (g : Gr W W') {E : Value} {e : EV} (h : Chain W E e) : Chain W' E e := by
  induction h with
  | code c => exact .code c
  | need lo hi => exact .need lo hi
  | wrap b o p E e h1 h2 h3 ih => exact .wrap b o p E e (g.cell h1) (g.cell h2) ih
theorem Hit.gr {A B w' : World} {b : Nat} {cs : Array Value} {ty : TypeId} (g : Gr A B) (h : Hit B w' b cs ty) : Hit A w' b cs ty := by
  obtain ⟨W2, h1, h2, h3⟩ := h
  exact ⟨W2, g.trans h1, h2, h3⟩
theorem load_one (t : TypeId) (W : World) (b : Nat) (x : Value) (ht : tyI Tryz.prog t = some (1, false)) (h0 : W.cell? ⟨b, 0, none⟩ = some x) : (loadVar t ⟨b, 0, none⟩).run Tryz.prog W = .ok x W := by
  simp [loadVar, tyI_agg ht, h0]
theorem cell_new (W : World) (cs : Array Value) (ty : TypeId) (i : Nat) (v : Value) (h : cs[i]? = some v) : (W.alloc (.cells cs ty)).cell? ⟨W.heap.size, i, none⟩ = some v := by
  rw [World.cell?_alloc_at _ _ _ _ (by simpa using (Array.getElem?_eq_some_iff.1 h).1)]
  exact h
theorem ty_code : tyI Tryz.prog 38 = some (1, false) := by kernel_rfl
set_option maxRecDepth 1000000 in
set_option maxHeartbeats 8000000 in
theorem as_code_c {W : World} (E : Value) (e : EV) (hch : Chain W E e) (tg : Value) (a : Addr) (b : Nat) (ha : W.cell? a = some (.pointer (some ⟨b, 0, none⟩))) (cs : Array Value) (ty : TypeId) (hb : W.heap[b]? = some (.cells cs ty (0, 0))) (hn : cs.size = 1) :
    Calls Tryz.prog 40 #[E, tg, .agg #[hnd 61, .pointer (some a), .int .u64 150], rty 38] W fun ev w' => (e.as_code = none → ev = .returned (.bool false) ∧ Gr W w') ∧ (∀ r, e.as_code = some r → ev = .returned (.bool true) ∧ Hit W w' b r ty) := by
  have hTO := @run_callFunc_extern Tryz.prog 30 _ ReflectliteType.typeOf Tryz.func30 (by kernel_rfl) (by kernel_rfl) (by kernel_rfl) (by kernel_rfl)
  have hAT := @run_callFunc_extern Tryz.prog 110 _ (ReflectliteType.relation "AssignableTo" ReflectliteType.assignableTo) Tryz.func110 (by kernel_rfl) (by kernel_rfl) (by kernel_rfl) (by kernel_rfl)
  have hEL := @run_callFunc_extern Tryz.prog 53 _ (ReflectliteValue.method (ReflectliteValue.valueError "reflectlite.Value.Elem" 0) ReflectliteValue.elem) Tryz.func53 (by kernel_rfl) (by kernel_rfl) (by kernel_rfl) (by kernel_rfl)
  have hVO := @run_callFunc_extern Tryz.prog 37 _ (fun args => ReflectliteValue.unpack (args.getD 0 (.tuple #[]))) Tryz.func37 (by kernel_rfl) (by kernel_rfl) (by kernel_rfl) (by kernel_rfl)
  have hST := @run_callFunc_extern Tryz.prog 54 _ ReflectliteValue.set Tryz.func54 (by kernel_rfl) (by kernel_rfl) (by kernel_rfl) (by kernel_rfl)
  have t1 := typeOf_code
  have t2 := typeOf_need
  have t3 := typeOf_wrap
  have mA := mAssignableTo
  have a1 := assign_code_code
  have a2 := assign_need_code
  have a3 := assign_wrap_code
  have n1 := no_code_As
  have n2 := no_code_Unwrap1
  have n3 := no_code_Unwrap2
  have n4 := no_need_As
  have n5 := no_need_Unwrap1
  have n6 := no_need_Unwrap2
  have n7 := no_wrap_As
  have n8 := has_wrap_Unwrap1
  have mU := mUnwrap
  have vO := valueOf_code
  have hE := elemV_code a ⟨b, 0, none⟩ (W.alloc (.cells #[hnd 61, .pointer (some a), .int .u64 150] 80)) (cell_alloc _ ha)
  have gr1 : Gr W (W.alloc (.cells #[hnd 61, .pointer (some a), .int .u64 150] 80)) := Gr.alloc _ _
  go_enter Tryz.func40, Tryz.ntmps40
  go_wp2
  go_loopw [0] (fun E' wl => wl = (W.alloc (.cells #[hnd 61, .pointer (some a), .int .u64 150] 80)) ∧ ∃ e', Chain wl E' e' ∧ e'.as_code = e.as_code) (fun E' wl => chainLen wl E')
  case atStart => exact ⟨rfl, e, hch.alloc _, rfl⟩
  case round =>
    obtain ⟨rfl, e', hc', hiff⟩ := hrel
    cases hc' with
    | code c =>
      have gr2 : Gr W ((W.alloc (.cells #[hnd 61, .pointer (some a), .int .u64 150] 80)).alloc (.cells #[.int .i64 c] 38)) := gr1.trans (Gr.alloc _ _)
      obtain ⟨c1, hc1⟩ : ∃ c1 : List Value, cs = c1.toArray := ⟨cs.toList, by simp⟩
      subst hc1
      have hb2 : ((W.alloc (.cells #[hnd 61, .pointer (some a), .int .u64 150] 80)).alloc (.cells #[.int .i64 c] 38)).heap[b]? = some (.cells (([] : List Value) ++ c1 ++ []).toArray ty (0, 0)) := by simpa using gr2.block hb
      obtain ⟨W3, hs, hp, hw⟩ := run_storeVar (P := Tryz.prog) (v := .int .i64 c) ty_code hb2 (by intro i _ h; omega) (by simpa using hn) (by simp [Value.cells]) (by intro x hx; simp [Value.cells] at hx; subst hx; exact ⟨by intros; simp, by intros; simp⟩)
      have hl := load_one 38 ((W.alloc (.cells #[hnd 61, .pointer (some a), .int .u64 150] 80)).alloc (.cells #[.int .i64 c] 38)) (W.alloc (.cells #[hnd 61, .pointer (some a), .int .u64 150] 80)).heap.size (.int .i64 c) ty_code (cell_new _ _ _ 0 _ rfl)
      have hS := set_code ⟨b, 0, none⟩ ⟨(W.alloc (.cells #[hnd 61, .pointer (some a), .int .u64 150] 80)).heap.size, 0, none⟩ (.int .i64 c) _ _ hl hs
      have hsz : (W.alloc (.cells #[hnd 61, .pointer (some a), .int .u64 150] 80)).heap.size = W.heap.size + 1 := by simp
      rw [hsz] at hS
      go_wp2
      go_ret
      exact ⟨fun h => by rw [← hiff] at h; simp [EV.as_code] at h, fun r h => by rw [← hiff] at h; simp [EV.as_code] at h; subst h; exact ⟨rfl, _, gr2, hp, by simpa [Value.cells] using hw⟩⟩
    | need lo hi =>
      go_wp2
      go_ret
      exact ⟨fun _ => ⟨rfl, gr1⟩, fun r h => by rw [← hiff] at h; simp [EV.as_code] at h⟩
    | wrap b0 o0 p E1 e1 h1 h2 h3 =>
      have hlen := chainLen_eq h3
      have hlen0 := chainLen_eq (Chain.wrap b0 o0 p E1 e1 h1 h2 h3)
      have hne : ∃ u v, E1 = .iface u v := by cases h3 <;> exact ⟨_, _, rfl⟩
      obtain ⟨u1, v1, rfl⟩ := hne
      have HC : Hid (Chain _ (.iface u1 v1) e1) := h3
      clear h3
      go_wp2
      refine ⟨⟨trivial, e1, HC.out, hiff⟩, ?_⟩
      show chainLen _ (.iface u1 v1) < _
      rw [hlen, hlen0]; simp [EV.len]
set_option maxRecDepth 1000000 in
set_option maxHeartbeats 8000000 in
set_option maxRecDepth 1000000 in
set_option maxHeartbeats 8000000 in
theorem As_code {W : World} (E : Value) (e : EV) (hch : Chain W E e) (b : Nat) (cs : Array Value) (ty : TypeId) (hb : W.heap[b]? = some (.cells cs ty (0, 0))) (hn : cs.size = 1) (hg : W.cell? ⟨0, 0, none⟩ = some (rty 27)) :
    Calls Tryz.prog 19 #[E, .iface 61 (.pointer (some ⟨b, 0, none⟩))] W fun ev w' => (e.as_code = none → ev = .returned (.bool false) ∧ Gr W w') ∧ (∀ r, e.as_code = some r → ev = .returned (.bool true) ∧ Hit W w' b r ty) := by
  have hVO := @run_callFunc_extern Tryz.prog 37 _ (fun args => ReflectliteValue.unpack (args.getD 0 (.tuple #[]))) Tryz.func37 (by kernel_rfl) (by kernel_rfl) (by kernel_rfl) (by kernel_rfl)
  have hTY := @run_callFunc_extern Tryz.prog 38 _ (ReflectliteValue.methodAny (ReflectliteValue.valueError "reflectlite.Value.Type" 0) (fun t _ _ _ => ReflectliteType.toType t)) Tryz.func38 (by kernel_rfl) (by kernel_rfl) (by kernel_rfl) (by kernel_rfl)
  have hIN := @run_callFunc_extern Tryz.prog 39 _ (ReflectliteValue.method (ReflectliteValue.valueError "reflectlite.Value.IsNil" 0) ReflectliteValue.isNil) Tryz.func39 (by kernel_rfl) (by kernel_rfl) (by kernel_rfl) (by kernel_rfl)
  have hKI := @run_callFunc_extern Tryz.prog 101 _ (ReflectliteType.abiMethod fun t => do pure (.int .u8 (← Rtype.kind t))) Tryz.func101 (by kernel_rfl) (by kernel_rfl) (by kernel_rfl) (by kernel_rfl)
  have hEL := @run_callFunc_extern Tryz.prog 112 _ (ReflectliteType.method ReflectliteType.elem) Tryz.func112 (by kernel_rfl) (by kernel_rfl) (by kernel_rfl) (by kernel_rfl)
  have hIM := @run_callFunc_extern Tryz.prog 113 _ (ReflectliteType.relation "Implements" ReflectliteType.implements_) Tryz.func113 (by kernel_rfl) (by kernel_rfl) (by kernel_rfl) (by kernel_rfl)
  have f6 := valueOfP_code
  have f7 := typeP_code
  have mK := mKind
  have mE := mElem
  have mI := mImplements
  have k1 := kindP_code
  have k2 := kindE_code
  have e1 := elemT_code
  have i1 := implements_code
  have n8 := isNil_code ⟨W.heap.size, 0, none⟩ ⟨b, 0, none⟩ ((W.alloc (.cells #[.pointer (some ⟨b, 0, none⟩)] 61)).alloc (.cells #[hnd 61, .pointer (some ⟨W.heap.size, 0, none⟩), .int .u64 150] 80)) (cell_alloc _ (cell_new _ _ _ 0 _ rfl))
  have hg2 : ((W.alloc (.cells #[.pointer (some ⟨b, 0, none⟩)] 61)).alloc (.cells #[hnd 61, .pointer (some ⟨W.heap.size, 0, none⟩), .int .u64 150] 80)).cell? ⟨0, 0, none⟩ = some (rty 27) := cell_alloc _ (cell_alloc _ hg)
  have gr2 : Gr W ((W.alloc (.cells #[.pointer (some ⟨b, 0, none⟩)] 61)).alloc (.cells #[hnd 61, .pointer (some ⟨W.heap.size, 0, none⟩), .int .u64 150] 80)) := (Gr.alloc _ _).trans (Gr.alloc _ _)
  have hb2 := gr2.block hb
  have hc2 := hch.gr gr2
  have ha2 : ((W.alloc (.cells #[.pointer (some ⟨b, 0, none⟩)] 61)).alloc (.cells #[hnd 61, .pointer (some ⟨W.heap.size, 0, none⟩), .int .u64 150] 80)).cell? ⟨W.heap.size, 0, none⟩ = some (.pointer (some ⟨b, 0, none⟩)) := cell_alloc _ (cell_new _ _ _ 0 _ rfl)
  have key := as_code_c E e hc2 (.iface 61 (.pointer (some ⟨b, 0, none⟩))) ⟨W.heap.size, 0, none⟩ b ha2 cs ty hb2 hn
  have hne : ∃ u v, E = .iface u v := by cases hch <;> exact ⟨_, _, rfl⟩
  obtain ⟨u0, v0, rfl⟩ := hne
  clear hch hc2 hb hb2
  cases hk : e.as_code with
  | none =>
    go_enter Tryz.func19, Tryz.ntmps19
    go_wp2_with (first | (go_at_call 40; refine key.mono ?_; rintro ev w' ⟨q1, q2⟩; obtain ⟨rfl, q3⟩ := q1 hk) | go_in)
    go_ret
    exact ⟨fun _ => ⟨rfl, gr2.trans q3⟩, fun r h => (by cases h)⟩
  | some r =>
    go_enter Tryz.func19, Tryz.ntmps19
    go_wp2_with (first | (go_at_call 40; refine key.mono ?_; rintro ev w' ⟨q1, q2⟩; obtain ⟨rfl, q3⟩ := q2 _ hk) | go_in)
    go_ret
    exact ⟨fun h => (by cases h), fun r h => (by cases h; exact ⟨rfl, q3.gr gr2⟩)⟩
end Go.Proofs.YtjbbnollidcagaaGreatDoor.Errs

namespace Go.Proofs.YtjbbnollidcagaaGreatDoor.Errs
open Go Go.RowKit Go.Extern.Stop Go.Stop Go.Extern
set_option linter.unusedVariables false
set_option linter.unusedSimpArgs false
theorem comparable_code' (w : World) : ((ReflectliteType.method fun t => do Rtype.noPackHeld "Comparable" t; (fun a => Value.bool a.comparable) <$> typeInfo t) #[.agg #[hnd 38]]).run Tryz.prog w = .ok (.bool true) w := by kernel_rfl
def EV.num : EV → Option Int
  | .code c => some c
  | .need _ _ => none
  | .wrap _ e => e.num
theorem EV.as_num : ∀ e : EV, e.as_code = e.num.map fun c => #[.int .i64 c]
  | .code _ => rfl
  | .need _ _ => rfl
  | .wrap _ e => by simp only [EV.as_code, EV.num]; exact e.as_num
theorem eql_code (x y : Int) (w : World) : (binOp .eql 27 (.iface 38 (.int .i64 x)) (.iface 38 (.int .i64 y))).run Tryz.prog w = .ok (.bool (decide (x = y))) w := by
  obtain ⟨i, hi, hcmp⟩ := Option.map_eq_some_iff.1 (show (Tryz.prog.info? 38).map (·.comparable) = some true by kernel_rfl)
  have h : ∀ d : Nat, (Op.equalIn (d + 2) 27 (.iface 38 (.int .i64 x)) (.iface 38 (.int .i64 y))).run Tryz.prog w = .ok (decide (x = y)) w := fun d => by
    simp [Op.equalIn, run_underlying Tryz.underlying27, run_underlying Tryz.underlying38, typeInfo, hi, hcmp]
    rfl
  simp only [binOp]
  simp [Op.equal, Op.maxDepth, h 9998]
set_option maxRecDepth 1000000 in
set_option maxHeartbeats 8000000 in
theorem is_code {W : World} (E : Value) (e : EV) (hch : Chain W E e) (c : Int) :
    Calls Tryz.prog 31 #[E, .iface 38 (.int .i64 c), .bool true] W fun ev w' => ev = .returned (.bool (decide (e.num = some c))) ∧ w' = W := by
  have n1 := no_code_Is
  have n2 := no_code_Unwrap1
  have n3 := no_code_Unwrap2
  have n4 := no_need_Is
  have n5 := no_need_Unwrap1
  have n6 := no_need_Unwrap2
  have n7 := no_wrap_Is
  have n8 := has_wrap_Unwrap1
  have mU := mUnwrap
  go_enter Tryz.func31, Tryz.ntmps31
  go_wp2
  go_loopw [0] (fun E' wl => wl = W ∧ ∃ e', Chain wl E' e' ∧ e'.num = e.num) (fun E' wl => chainLen wl E')
  case atStart => exact ⟨rfl, e, hch, rfl⟩
  case round =>
    obtain ⟨rfl, e', hc', hiff⟩ := hrel
    cases hc' with
    | code c' =>
      have hq := eql_code c' c wr
      by_cases hcc : c' = c
      · subst hcc
        rw [decide_eq_true rfl] at hq
        go_wp2
        go_ret
        exact ⟨by rw [← hiff]; simp [EV.num], rfl⟩
      · rw [decide_eq_false hcc] at hq
        go_wp2
        go_ret
        exact ⟨by rw [← hiff]; simp [EV.num, hcc], rfl⟩
    | need lo hi =>
      have hty := run_eql_iface_types (P := Tryz.prog) 40 38 (.agg #[.string lo, .string hi]) (.int .i64 c) Tryz.underlying27 (by decide) wr
      go_wp2
      go_ret
      exact ⟨by rw [← hiff]; simp [EV.num], rfl⟩
    | wrap b0 o0 p E1 e1 h1 h2 h3 =>
      have hty := run_eql_iface_types (P := Tryz.prog) 121 38 (.pointer (some ⟨b0, o0, none⟩)) (.int .i64 c) Tryz.underlying27 (by decide) wr
      have hlen := chainLen_eq h3
      have hlen0 := chainLen_eq (Chain.wrap b0 o0 p E1 e1 h1 h2 h3)
      have hne : ∃ u v, E1 = .iface u v := by cases h3 <;> exact ⟨_, _, rfl⟩
      obtain ⟨u1, v1, rfl⟩ := hne
      have HC : Hid (Chain _ (.iface u1 v1) e1) := h3
      clear h3
      go_wp2
      go_roundw
      case rel => exact ⟨trivial, e1, HC.out, hiff⟩
      case measure =>
        show chainLen _ (.iface u1 v1) < _
        rw [hlen, hlen0]; simp [EV.len]
set_option maxRecDepth 1000000 in
set_option maxHeartbeats 8000000 in
theorem Is_code {W : World} (E : Value) (e : EV) (hch : Chain W E e) (c : Int) :
    Calls Tryz.prog 16 #[E, .iface 38 (.int .i64 c)] W fun ev w' => ev = .returned (.bool (decide (e.num = some c))) ∧ w' = W := by
  have hTO := @run_callFunc_extern Tryz.prog 30 _ ReflectliteType.typeOf Tryz.func30 (by kernel_rfl) (by kernel_rfl) (by kernel_rfl) (by kernel_rfl)
  have hCM := @run_callFunc_extern Tryz.prog 111 _ (ReflectliteType.method fun t => do Rtype.noPackHeld "Comparable" t; pure (.bool (← typeInfo t).comparable)) Tryz.func111 (by kernel_rfl) (by kernel_rfl) (by kernel_rfl) (by kernel_rfl)
  have t1 := typeOf_code
  have mC := mComparable
  have cc := comparable_code'
  have key := is_code E e hch c
  have hne : ∃ u v, E = .iface u v := by cases hch <;> exact ⟨_, _, rfl⟩
  obtain ⟨u0, v0, rfl⟩ := hne
  clear hch
  go_enter Tryz.func16, Tryz.ntmps16
  go_wp2_with (first | (go_at_call 31; refine key.mono ?_; rintro ev w' ⟨rfl, rfl⟩) | go_in)
  go_ret
  exact ⟨rfl, rfl⟩
end Go.Proofs.YtjbbnollidcagaaGreatDoor.Errs

namespace Go.Proofs.YtjbbnollidcagaaGreatDoor.Asl
open Go Go.RowKit
set_option linter.unusedVariables false
set_option linter.unusedSimpArgs false
variable {P : Program} {nt : Nat} {C : Cx} {σ : St} {a : Act} {e : Nat → AV} {h : Hp}
mutual
def AV.fzb (k : Nat) (X : AV) : AV → AV
  | .ptr id off => if id = k ∧ off = 0 then .fp X else .ptr id off
  | .agg l => .agg (AV.fzbs k X l)
  | .tup l => .tup (AV.fzbs k X l)
  | .ifc t x => .ifc t (AV.fzb k X x)
  | .fn f l m => .fn f (AV.fzbs k X l) (AV.fzbs k X m)
  | x => x
def AV.fzbs (k : Nat) (X : AV) : List AV → List AV
  | [] => []
  | x :: l => AV.fzb k X x :: AV.fzbs k X l
end
theorem AV.fzb_one (k : Nat) (X x : AV) : (AV.fzb k X x).one = x.one := by
  cases x with
  | ptr id off => simp only [AV.fzb]; split <;> simp [AV.one]
  | raw v => rfl
  | _ => simp [AV.fzb, AV.one]
mutual
theorem AV.fzb_size (k : Nat) (X : AV) : ∀ x : AV, (AV.fzb k X x).size = x.size
  | .ptr id off => by simp only [AV.fzb]; split <;> simp [AV.size]
  | .agg l => by simp [AV.fzb, AV.size, AV.fzbs_sizes k X l]
  | .ow .. | .ep .. | .tup _ | .ifc .. | .fn .. | .any | .raw _ | .sl .. | .fp _ => by simp [AV.fzb, AV.size]
theorem AV.fzbs_sizes (k : Nat) (X : AV) : ∀ l : List AV, AV.sizes (AV.fzbs k X l) = AV.sizes l
  | [] => rfl
  | x :: l => by simp [AV.fzbs, AV.sizes, AV.fzb_size k X x, AV.fzbs_sizes k X l]
end
theorem AV.fzbs_mem (k : Nat) (X : AV) : ∀ {l : List AV} {y : AV}, y ∈ AV.fzbs k X l → ∃ x ∈ l, y = AV.fzb k X x
  | x :: l, y, hy => by
    simp only [AV.fzbs, List.mem_cons] at hy
    rcases hy with rfl | hy
    · exact ⟨x, by simp, rfl⟩
    · obtain ⟨z, h1, h2⟩ := AV.fzbs_mem k X hy
      exact ⟨z, by simp [h1], h2⟩
structure FzB (C : Cx) (k : Nat) (X : AV) : Prop where
  at_ : ∃ b T cs, C.ι k = some (b, T) ∧ C.F b ∧ Reads C.W b 0 cs ∧ RC C.bare X cs
theorem FzB.ptr {k : Nat} {X : AV} (f : FzB C k X) {id off : Nat} {v : Value} (hx : RV C (.ptr id off) v) : RV C (AV.fzb k X (.ptr id off)) v := by
  simp only [AV.fzb]
  split
  · rename_i hc
    obtain ⟨rfl, rfl⟩ := hc
    obtain ⟨b, T, cs, h1, h2, h3, h4⟩ := f.at_
    cases hx with
    | ptr g => rw [h1] at g; cases g; exact .fp h4 h2 h3
  · exact hx
mutual
theorem RV.fzb {C : Cx} {k : Nat} {X : AV} (f : FzB C k X) {x : AV} {v : Value} (hx : RV C x v) : RV C (AV.fzb k X x) v :=
  match hx with
  | .any v => .any v
  | .raw v => .raw v
  | .agg q => .agg (q.fzb f)
  | .tup q => .tup (q.fzb f)
  | .sl0 => .sl0
  | .sl q hs hF hr hc => .sl q hs hF hr hc
  | .fp q hF hr => .fp q hF hr
  | .ptr q => f.ptr (.ptr q)
  | .ep q => .ep q
  | .ow q hl => .ow q hl
  | .ow0 q hl => .ow0 q hl
  | .ifc q => .ifc (q.fzb f)
  | .fn h1 h2 => .fn (h1.fzb f) (h2.fzb f)
theorem RC.fzb {C : Cx} {k : Nat} {X : AV} (f : FzB C k X) {x : AV} {cs : List Value} (hx : RC C x cs) : RC C (AV.fzb k X x) cs :=
  match hx with
  | .agg q => .agg (q.fzb f)
  | .one q h1 => .one (q.fzb f) (by rw [AV.fzb_one]; exact h1)
theorem RCs.fzb {C : Cx} {k : Nat} {X : AV} (f : FzB C k X) {l : List AV} {cs : List Value} (hx : RCs C l cs) : RCs C (AV.fzbs k X l) cs :=
  match hx with
  | .nil => .nil
  | .cons q q2 => .cons (q.fzb f) (q2.fzb f)
theorem RVs.fzb {C : Cx} {k : Nat} {X : AV} (f : FzB C k X) {l : List AV} {vs : List Value} (hx : RVs C l vs) : RVs C (AV.fzbs k X l) vs :=
  match hx with
  | .nil => .nil
  | .cons q q2 => .cons (q.fzb f) (q2.fzb f)
end
def Ob.fzb (k : Nat) (X : AV) : Ob → Ob
  | .box x => .box (AV.fzb k X x)
  | .arr s l => .arr s (AV.fzbs k X l)
  | x => x
theorem Ob.fzb_live (k : Nat) (X : AV) (ob : Ob) : (ob.fzb k X).live = ob.live := by cases ob <;> rfl
def fzbH (k : Nat) (X : AV) (h : Hp) : Hp := fun i => if i = k then some .dead else (h i).map (Ob.fzb k X)
theorem Weak.fzb {k : Nat} {X : AV} (hob : h k = some (.box X)) (hn : X.noid = true) : Weak ⟨e, h⟩ ⟨fun t => AV.fzb k X (e t), fzbH k X h⟩ := fun nt C a s => by
  obtain ⟨b, T, cs, t, h1, h2, h3, h4⟩ := s.heap.at_ k _ hob
  let C' : Cx := { W := C.W, F := fun k => C.F k ∨ k = b, O := fun k => C.O k ∧ k ≠ b, ι := C.ι }
  have u : Up C C' := ⟨fun _ h => .inl h, fun _ _ => rfl, fun _ _ h => h⟩
  have hr : Reads C.W b 0 cs.toList := Reads.of_block h3
  have f : FzB C' k X := ⟨b, T, cs.toList, h1, .inr rfl, hr, (h4.bare hn).up u.bare⟩
  refine ⟨C', rfl, ⟨rfl, rfl, rfl, Nat.le_refl _, fun _ h => .inl h, fun _ _ _ => rfl, fun k hk => ?_, fun k hk => .inl hk.1, fun _ _ _ h => h⟩, s.defers, s.size, fun t => ((s.env t).up u).fzb f, ⟨fun i q hq => ?_, fun i hi => ?_, fun i j b' T' U' o q g1 g2 g3 g4 g5 g6 => ?_, fun k hk hF => ?_, fun k hk => ?_, fun k hk => s.heap.olt k hk.1, s.heap.gl.up u⟩⟩
  · rcases hk with hk | rfl
    · exact .inl hk
    · exact .inr (.inl h2)
  · simp only [fzbH] at hq
    by_cases e : i = k
    · rw [if_pos e] at hq; cases hq; subst e
      exact ⟨b, T, h1⟩
    · rw [if_neg e] at hq
      obtain ⟨o, ho, rfl⟩ := Option.map_eq_some_iff.1 hq
      have hs : HSat C' i o := by
        refine (s.heap.at_ i o ho).up u fun b2 T2 k2 k3 k4 => ⟨⟨k3, fun e2 => ?_⟩, rfl⟩
        subst e2
        exact e (s.heap.inj i k _ _ _ o _ ho k4 hob rfl k2 h1)
      cases o with
      | box x =>
        obtain ⟨b, T, cs, t, q1, q2, q3, q4⟩ := hs
        exact ⟨b, T, cs, t, q1, q2, q3, q4.fzb f⟩
      | arr sz l =>
        obtain ⟨b, T, cs, t, fr, c1, c2, q1, q2, q3, q4, q5, q6, q7, q8, q9⟩ := hs
        refine ⟨b, T, cs, t, fr, c1, c2, q1, q2, q3, q4, q5, q6.fzb f, fun y hy => ?_, q8, q9⟩
        obtain ⟨x, hx, rfl⟩ := AV.fzbs_mem k X hy
        rw [AV.fzb_size]; exact q7 x hx
      | fz sz l => exact hs
      | dead => exact hs
  · simp only [fzbH] at hi
    by_cases e : i = k
    · rw [if_pos e] at hi; cases hi
    · rw [if_neg e] at hi; exact s.heap.no i (by simpa using hi)
  · have g : ∀ i (q : Ob), fzbH k X h i = some q → q.live = true → ∃ o, h i = some o ∧ o.live = true := by
      intro i q hk hq
      simp only [fzbH] at hk
      by_cases e2 : i = k
      · rw [if_pos e2] at hk; cases hk; simp [Ob.live] at hq
      · rw [if_neg e2] at hk
        obtain ⟨o, ho, rfl⟩ := Option.map_eq_some_iff.1 hk
        exact ⟨o, ho, by rw [Ob.fzb_live] at hq; exact hq⟩
    obtain ⟨o1, x1, x2⟩ := g i o g1 g2
    obtain ⟨o2, y1, y2⟩ := g j q g3 g4
    exact s.heap.inj i j b' T' U' o1 o2 x1 x2 y1 y2 g5 g6
  · rcases hF with hF | rfl
    · exact s.heap.apart k hk.1 hF
    · exact hk.2 rfl
  · rcases hk with hk | rfl
    · exact s.heap.lt k hk
    · exact s.heap.olt _ h2
/-- A variable that was made, handed on for reading. -/
theorem Fin.fzb {k : Nat} {X r r' : AV} (hob : h k = some (.box X)) (hn : X.noid = true) (hr : Is (AV.fzb k X r) r') (hn' : Is r'.noid true) (hb : BigIn h noHeap) (hk : k < 100000) : Fin h r noHeap r' := by
  have h1 : Fin h r (fzbH k X h) r' := by
    have := Weak.fzb (e := E1 r) hob hn
    have e : (fun t => AV.fzb k X (E1 r t)) = E1 r' := by
      funext t
      unfold E1
      split
      · exact hr
      · rfl
    rw [e] at this
    exact this
  refine h1.trans (Fin.drop hn' fun id hid h0 => ?_)
  simp only [fzbH]
  rw [if_neg (by omega), hb id hid h0]; rfl
attribute [simp] AV.fzb AV.fzbs
end Go.Proofs.YtjbbnollidcagaaGreatDoor.Asl

namespace Go.Proofs.YtjbbnollidcagaaGreatDoor.Asl
open Go Go.RowKit
open Go.Proofs.YtjbbnollidcagaaGreatDoor.Errs (EV Gr Hit)
set_option linter.unusedVariables false
set_option linter.unusedSimpArgs false
def errAV : EV → AV
  | .code c => .ifc 38 (.raw (.int .i64 c))
  | .need lo hi => .ifc 40 (.agg [.raw (.string lo), .raw (.string hi)])
  | .wrap p e => .ifc 121 (.fp (.agg [.raw (.string p), errAV e]))
def errO : Option EV → AV
  | none => .raw .nilIface
  | some e => errAV e
@[simp] theorem errO_none : errO none = .raw .nilIface := rfl
@[simp] theorem errO_some {e : EV} : errO (some e) = errAV e := rfl
@[simp] theorem errAV_code {c : Int} : errAV (.code c) = .ifc 38 (.raw (.int .i64 c)) := rfl
@[simp] theorem errAV_need {lo hi : ByteArray} : errAV (.need lo hi) = .ifc 40 (.agg [.raw (.string lo), .raw (.string hi)]) := rfl
@[simp ↓ high] theorem errAV_noid : ∀ e : EV, (errAV e).noid = true
  | .code _ => by simp
  | .need _ _ => by simp
  | .wrap p e => by simp [errAV]
@[simp ↓ high] theorem errO_noid (e : Option EV) : (errO e).noid = true := by cases e <;> simp
@[simp ↓ high] theorem errAV_one : ∀ e : EV, (errAV e).one = true
  | .code _ => rfl
  | .need _ _ => rfl
  | .wrap _ _ => rfl
@[simp ↓ high] theorem errO_one (e : Option EV) : (errO e).one = true := by
  cases e with
  | none => rfl
  | some e => exact errAV_one e
@[simp ↓ high] theorem errAV_size (e : EV) : (errAV e).size = 1 := AV.size_one (errAV_one e)
@[simp ↓ high] theorem errO_size (e : Option EV) : (errO e).size = 1 := AV.size_one (errO_one e)
@[simp ↓ high] theorem errAV_isAgg (e : EV) : (errAV e).isAgg = false := by cases e <;> rfl
@[simp ↓ high] theorem errO_isAgg (e : Option EV) : (errO e).isAgg = false := by
  cases e with
  | none => rfl
  | some e => exact errAV_isAgg e
@[simp] theorem errAV_deep (h : Hp) (e : EV) : (errAV e).deep h = errAV e := noid_deep.1 _ (errAV_noid e) h
@[simp] theorem errO_deep (h : Hp) (e : Option EV) : (errO e).deep h = errO e := noid_deep.1 _ (errO_noid e) h
@[simp] theorem errAV_within (h : Hp) (e : EV) : (errAV e).within h = true := (noid_withins h).1 _ (errAV_noid e)
@[simp] theorem errO_within (h : Hp) (e : Option EV) : (errO e).within h = true := (noid_withins h).1 _ (errO_noid e)
@[simp] theorem errAV_ren (π : Nat → Nat) (e : EV) : (errAV e).ren π = errAV e := noid_ren.1 _ (errAV_noid e) π
@[simp] theorem errO_ren (π : Nat → Nat) (e : Option EV) : (errO e).ren π = errO e := noid_ren.1 _ (errO_noid e) π
@[simp] theorem errAV_rows (e : EV) : (errAV e).rowsOf = [] := noid_rows.1 _ (errAV_noid e)
@[simp] theorem errO_rows (e : Option EV) : (errO e).rowsOf = [] := noid_rows.1 _ (errO_noid e)
@[simp ↓ high] theorem errAV_top (e : EV) : (errAV e).top = none := by cases e <;> rfl
@[simp ↓ high] theorem errAV_tag (e : EV) : (errAV e).tagP = some none := by
  cases e with
  | code c => rfl
  | need lo hi => rfl
  | wrap p e => simp only [errAV, AV.tagP]; rw [if_pos (by simp)]
@[simp ↓ high] theorem errO_tag (e : Option EV) : (errO e).tagP = some none := by
  cases e with
  | none => rfl
  | some e => exact errAV_tag e
@[simp ↓ high] theorem ifNil_err (e : EV) : ifNil (errAV e) = some false := by cases e <;> rfl
theorem get_leaf {x : AV} (h : x.isAgg = false) (n : Nat) (ag : Bool) (off : Nat) : AV.get n ag x off = if off = 0 ∧ n = 1 ∧ ag = false then some x else none := by
  cases x with
  | agg l => simp [AV.isAgg] at h
  | _ => simp [AV.get]
theorem set_leaf {x : AV} (h : x.isAgg = false) (n : Nat) (y : AV) (off : Nat) : AV.set n y x off = if off = 0 ∧ n = 1 ∧ y.one = true then some y else none := by
  cases x with
  | agg l => simp [AV.isAgg] at h
  | _ => simp [AV.set]
@[simp ↓ high] theorem errAV_get (e : EV) (n : Nat) (ag : Bool) (off : Nat) : AV.get n ag (errAV e) off = if off = 0 ∧ n = 1 ∧ ag = false then some (errAV e) else none := get_leaf (errAV_isAgg e) n ag off
@[simp ↓ high] theorem errO_get (e : Option EV) (n : Nat) (ag : Bool) (off : Nat) : AV.get n ag (errO e) off = if off = 0 ∧ n = 1 ∧ ag = false then some (errO e) else none := get_leaf (errO_isAgg e) n ag off
@[simp ↓ high] theorem errAV_set (e : EV) (n : Nat) (y : AV) (off : Nat) : AV.set n y (errAV e) off = if off = 0 ∧ n = 1 ∧ y.one = true then some y else none := set_leaf (errAV_isAgg e) n y off
@[simp ↓ high] theorem errO_set (e : Option EV) (n : Nat) (y : AV) (off : Nat) : AV.set n y (errO e) off = if off = 0 ∧ n = 1 ∧ y.one = true then some y else none := set_leaf (errO_isAgg e) n y off
theorem chain_of : ∀ (e : EV) {C : Cx} {v : Value}, RV C (errAV e) v → Errs.Chain C.W v e
  | .code c, C, v, h => by
    cases h with
    | ifc h => rw [RV.raw_eq h]; exact .code c
  | .need lo hi, C, v, h => by
    cases h with
    | ifc h =>
      cases h with
      | agg h =>
        cases h with
        | cons h1 h2 =>
          cases h2 with
          | cons h2 h3 =>
            cases h3
            cases h1 with
            | one h1 _ =>
              cases h2 with
              | one h2 _ =>
                rw [RV.raw_eq h1, RV.raw_eq h2]; exact .need lo hi
  | .wrap p e, C, v, h => by
    cases h with
    | ifc h =>
      cases h with
      | fp h hF hr =>
        cases h with
        | one h h1 => simp [AV.one] at h1
        | agg h =>
          cases h with
          | cons h1 h2 =>
            cases h2 with
            | cons h2 h3 =>
              cases h3
              cases h1 with
              | one h1 _ =>
                obtain ⟨v', rfl, h2v⟩ := h2.val.2 (errAV_isAgg e)
                rw [RV.raw_eq h1] at hr
                refine .wrap _ _ p _ e ?_ ?_ (chain_of e (h2v.up (bare_up C)))
                · exact hr 0 _ rfl
                · exact hr 1 _ rfl
/-- A world that has grown. -/
theorem HOk.gr {C : Cx} {h : Hp} (hh : HOk C h) {W' : World} (g : Gr C.W W') : HOk { C with W := W' } h ∧ Ext C { C with W := W' } ∧ Up C { C with W := W' } := by
  have u : Up C { C with W := W' } := ⟨fun _ h => h, fun b hb => g.old b (hh.lt b hb), fun _ _ h => h⟩
  refine ⟨⟨fun id ob k => (hh.at_ id ob k).up u (fun b T _ hO _ => ⟨hO, g.old b (hh.olt b hO)⟩), hh.no, hh.inj, hh.apart, fun b hb => Nat.lt_of_lt_of_le (hh.lt b hb) g.size, fun b hb => Nat.lt_of_lt_of_le (hh.olt b hb) g.size, hh.gl.up u⟩,
    ⟨g.os, g.tape, g.output, g.size, fun _ h => h, fun b hb _ => g.old b hb, fun _ h => .inl h, fun _ h => .inl h, fun _ _ _ h => h⟩, u⟩
theorem HOk.hit {C : Cx} {X X' : AV} (hh : HOk C (setH noHeap 100000 (.box X))) {W' : World} {b T : Nat} {cs : Array Value} {ty : TypeId} (hι : C.ι 100000 = some (b, T)) (k : Hit C.W W' b cs ty) (hX : RC C.bare X' cs.toList) :
    HOk { C with W := W' } (setH noHeap 100000 (.box X')) ∧ Ext C { C with W := W' } ∧ Up C { C with W := W' } := by
  obtain ⟨W2, g, hp, hw⟩ := k
  obtain ⟨h1, e1, u1⟩ := hh.gr g
  have hs := h1.at_ 100000 (.box X) rfl
  obtain ⟨b', T', cs', t', k1, k2, k3, k4⟩ := hs
  have k1' : C.ι 100000 = some (b', T') := k1
  rw [hι] at k1'
  cases k1'
  have u0 := put_up h1 k2 hp
  have sat : Sat 0 { C with W := W2 } ⟨fun _ => .any, setH noHeap 100000 (.box X)⟩ { tmps := #[], defers := [] } := ⟨rfl, rfl, fun _ => .any _, h1⟩
  have s2 := upd_sat (ob' := .box X') sat rfl rfl hι k2 hp rfl ⟨b, T, cs, ty, hι, k2, hw, (hX.up ((u1.bare).trans u0.bare)).up (bare_up _)⟩
  refine ⟨?_, e1.trans (put_ext k2 hp), u1.trans u0⟩
  have e0 : setH (setH noHeap 100000 (.box X)) 100000 (.box X') = setH noHeap 100000 (.box X') := by
    funext i; simp only [setH]; split <;> rfl
  have := s2.heap
  rw [e0] at this
  exact this
theorem glob_at {C : Cx} {h : Hp} (hh : HOk C h) : C.W.cell? ⟨0, 0, none⟩ = some (Errs.rty 27) := (hh.gl _ (List.mem_cons_self)).2
theorem box_at {C : Cx} {X : AV} (hh : HOk C (setH noHeap 100000 (.box X))) : ∃ b T cs ty, C.ι 100000 = some (b, T) ∧ C.W.heap[b]? = some (.cells cs ty (0, 0)) ∧ cs.size = X.size := by
  obtain ⟨b, T, cs, t, h1, h2, h3, h4⟩ := hh.at_ 100000 (.box X) rfl
  exact ⟨b, T, cs, t, h1, h3, by rw [← Array.length_toList]; exact h4.len⟩
theorem c_AsCode (e : EV) (x : Int) : CallD Tryz.prog 19 [errAV e, .ifc 61 (.ptr 100000 0)] (setH noHeap 100000 (.box (.raw (.int .i64 x)))) (.raw (.bool e.num.isSome)) (setH noHeap 100000 (.box (.raw (.int .i64 (e.num.getD x))))) := by
  intro C vs hC hvs
  obtain ⟨b, T, cs, ty, hι, hb, hn⟩ := box_at hC
  cases hvs with
  | cons h1 h2 =>
    cases h2 with
    | cons h2 h3 =>
      cases h3
      cases h2 with
      | ifc h2 =>
        cases h2 with
        | ptr h2 =>
          rw [hι] at h2; cases h2
          refine Calls.mono (Errs.As_code _ e (chain_of e h1) b cs ty hb hn (glob_at hC)) ?_
          rintro ev W' ⟨q1, q2⟩
          rw [Errs.EV.as_num] at q1 q2
          cases hk : e.num with
          | none =>
            obtain ⟨rfl, g⟩ := q1 (by rw [hk]; rfl)
            obtain ⟨k1, k2, k3⟩ := hC.gr g
            exact ⟨_, _, rfl, rfl, k2, k1, .raw _, fun _ _ h => h⟩
          | some c =>
            obtain ⟨rfl, g⟩ := q2 _ (by rw [hk]; rfl)
            obtain ⟨k1, k2, k3⟩ := hC.hit (X' := .raw (.int .i64 c)) hι g (.one (.raw _) rfl)
            exact ⟨_, _, rfl, rfl, k2, k1, .raw _, fun _ _ h => h⟩
theorem c_IsCode (e : EV) (c : Int) : CallD Tryz.prog 16 [errAV e, .ifc 38 (.raw (.int .i64 c))] noHeap (.raw (.bool (decide (e.num = some c)))) noHeap := by
  intro C vs hC hvs
  cases hvs with
  | cons h1 h2 =>
    cases h2 with
    | cons h2 h3 =>
      cases h3
      cases h2 with
      | ifc h2 =>
        rw [RV.raw_eq h2]
        refine Calls.mono (Errs.Is_code _ e (chain_of e h1) c) ?_
        rintro ev W' ⟨rfl, rfl⟩
        exact ⟨_, C, rfl, rfl, .refl C, hC, .raw _, fun _ _ h => h⟩
end Go.Proofs.YtjbbnollidcagaaGreatDoor.Asl

namespace Go.Proofs.YtjbbnollidcagaaGreatDoor.Asl
open Go Go.RowKit
set_option linter.unusedVariables false
set_option linter.unusedSimpArgs false
def strs (ps : List ByteArray) : List AV := ps.map fun s => .raw (.string s)
@[simp] theorem strs_len (l : List ByteArray) : (strs l).length = l.length := by simp [strs]
@[simp] theorem strs_get (l : List ByteArray) (i : Nat) : (strs l)[i]? = (l[i]?).map fun p => AV.raw (.string p) := by simp [strs]
@[simp] theorem strs_noids (l : List ByteArray) : AV.noids (strs l) = true := by
  rw [AV.noids_iff]; intro x hx
  obtain ⟨n, _, rfl⟩ := List.mem_map.1 hx
  rfl
@[simp] theorem strs_rows (l : List ByteArray) : AV.rowsOfs (strs l) = [] := noid_rows.2 _ (strs_noids l)
@[simp] theorem strs_deeps (h : Hp) (l : List ByteArray) : AV.deeps h (strs l) = strs l := noid_deep.2 _ (strs_noids l) h
@[simp] theorem strs_withins (h : Hp) (l : List ByteArray) : AV.withins h (strs l) = true := (noid_withins h).2 _ (strs_noids l)
@[simp] theorem strs_rens (π : Nat → Nat) (l : List ByteArray) : AV.rens π (strs l) = strs l := noid_ren.2 _ (strs_noids l) π
@[simp] theorem strs_app1 (l : List ByteArray) (s : ByteArray) : strs l ++ [.raw (.string s)] = strs (l ++ [s]) := by simp [strs]
@[simp] theorem strs_nil : strs [] = [] := rfl
@[simp] theorem strs_cons (s : ByteArray) (l : List ByteArray) : strs (s :: l) = AV.raw (.string s) :: strs l := rfl
@[simp] theorem strs_take (l : List ByteArray) (n : Nat) : (strs l).take n = strs (l.take n) := by simp [strs, List.map_take]
@[simp] theorem strs_drop (l : List ByteArray) (n : Nat) : (strs l).drop n = strs (l.drop n) := by simp [strs, List.map_drop]
end Go.Proofs.YtjbbnollidcagaaGreatDoor.Asl

namespace Go.Proofs.YtjbbnollidcagaaGreatDoor.Asl
open Go Go.RowKit
set_option linter.unusedVariables false
set_option linter.unusedSimpArgs false
/-- A kind of values that lead to no object. -/
class FlatF {α : Type} (f : α → AV) : Prop where
  noid : ∀ x, (f x).noid = true
section
variable {α : Type} {f : α → AV} [hf : FlatF f]
@[simp] theorem map_noids (l : List α) : AV.noids (l.map f) = true := by
  rw [AV.noids_iff]; intro x hx
  obtain ⟨n, _, rfl⟩ := List.mem_map.1 hx
  exact hf.noid n
@[simp] theorem map_rows (l : List α) : AV.rowsOfs (l.map f) = [] := noid_rows.2 _ (map_noids l)
@[simp] theorem map_deeps (h : Hp) (l : List α) : AV.deeps h (l.map f) = l.map f := noid_deep.2 _ (map_noids l) h
@[simp] theorem map_withins (h : Hp) (l : List α) : AV.withins h (l.map f) = true := (noid_withins h).2 _ (map_noids l)
@[simp] theorem map_rens (π : Nat → Nat) (l : List α) : AV.rens π (l.map f) = l.map f := noid_ren.2 _ (map_noids l) π
theorem nds_app (a b : List AV) : AV.noids (a ++ b) = (AV.noids a && AV.noids b) := by
  induction a with
  | nil => rfl
  | cons x a ih => simp only [List.cons_append, AV.noids, ih, Bool.and_assoc]
theorem rws_app (a b : List AV) : AV.rowsOfs (a ++ b) = AV.rowsOfs a ++ AV.rowsOfs b := by
  induction a with
  | nil => rfl
  | cons x a ih => simp only [List.cons_append, AV.rowsOfs, ih, List.append_assoc]
theorem dps_app (h : Hp) (a b : List AV) : AV.deeps h (a ++ b) = AV.deeps h a ++ AV.deeps h b := by
  induction a with
  | nil => rfl
  | cons x a ih => simp only [List.cons_append, AV.deeps, ih]
theorem wth_app (h : Hp) (a b : List AV) : AV.withins h (a ++ b) = (AV.withins h a && AV.withins h b) := by
  induction a with
  | nil => rfl
  | cons x a ih => simp only [List.cons_append, AV.withins, ih, Bool.and_assoc]
theorem rns_app (π : Nat → Nat) (a b : List AV) : AV.rens π (a ++ b) = AV.rens π a ++ AV.rens π b := by
  induction a with
  | nil => rfl
  | cons x a ih => simp only [List.cons_append, AV.rens, ih]
@[simp] theorem mapp_noids (l : List α) (m : List AV) : AV.noids (l.map f ++ m) = AV.noids m := by rw [nds_app, map_noids, Bool.true_and]
@[simp] theorem mapp_rows (l : List α) (m : List AV) : AV.rowsOfs (l.map f ++ m) = AV.rowsOfs m := by rw [rws_app, map_rows, List.nil_append]
@[simp] theorem mapp_deeps (h : Hp) (l : List α) (m : List AV) : AV.deeps h (l.map f ++ m) = l.map f ++ AV.deeps h m := by rw [dps_app, map_deeps]
@[simp] theorem mapp_withins (h : Hp) (l : List α) (m : List AV) : AV.withins h (l.map f ++ m) = AV.withins h m := by rw [wth_app, map_withins, Bool.true_and]
@[simp] theorem mapp_rens (π : Nat → Nat) (l : List α) (m : List AV) : AV.rens π (l.map f ++ m) = l.map f ++ AV.rens π m := by rw [rns_app, map_rens]
end
end Go.Proofs.YtjbbnollidcagaaGreatDoor.Asl

