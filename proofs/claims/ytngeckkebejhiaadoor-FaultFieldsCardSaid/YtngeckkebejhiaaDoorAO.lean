/- One rule for each operation, for walking. -/
import Derived.Test.YtngeckkebejhiaaDoorAP
import Derived.Scope
namespace Go.Proofs.YtngeckkebejhiaaDoor.Asl
open Go Go.RowKit
set_option linter.unusedVariables false
set_option linter.unusedSimpArgs false
variable {P : Program} {nt : Nat} {σ : St} {Q : Exit → St → Prop} {e : Nat → AV} {h : Hp} {K : (Nat → AV) → Hp → Prop} {ops : Array Oper} {o : Oper} {l : List Oper}

/-- Equality that no simplifier takes apart. -/
def Is {α : Sort _} (x y : α) : Prop := x = y
theorem Is.r {α : Sort _} {x : α} : Is x x := rfl
theorem Is.t {x : Bool} (h : x = true) : Is x true := h
def IsO {α : Type _} (x : Option α) (y : α) : Prop := x = some y
theorem IsO.r {α : Type _} {y : α} : IsO (some y) y := rfl
theorem IsO.of {α : Type _} {x : Option α} {y : α} (h : x = some y) : IsO x y := h
theorem Is.of {α : Sort _} {x y : α} (h : x = y) : Is x y := h

theorem wrap_i64 {x : Int} (h1 : -9223372036854775808 ≤ x) (h2 : x < 9223372036854775808) : IntKind.wrap .i64 x = x := by
  simp [IntKind.wrap, IntKind.bits, IntKind.signed]; omega
theorem wrap_u8 {x : Int} (h1 : 0 ≤ x) (h2 : x < 256) : IntKind.wrap .u8 x = x := by
  simp [IntKind.wrap, IntKind.bits, IntKind.signed]; omega
attribute [simp] evE_tmp evE_const evE_func putE_at putE_none envOf_cons envOf_nil setH_at noHeap_at
attribute [simp] AV.top ptrNil ifNil ptrLike faddr ldAt stAt AV.isAgg AV.one AV.get AV.getL AV.set AV.setL AV.size AV.sizes rowOf elemAt cutOf lenOfAV setAll pmap binV unV convV calleeOf nilSl srcOf minV maxV eqV eqVs eqB eqI eqS AV.parts

variable {r X Y : AV} {h' : Hp}
theorem v_move {x : Operand} (ho : o.op = .move x) (hg : o.guard = none) (hx : Is (evE e x) X) (hr : RunK P ops l (putE e o.dst X) h K) : RunK P ops (o :: l) e h K :=
  run_c hg ⟨_, _, by unfold D; rw [ho]; exact ⟨rfl, rfl⟩, by rw [hx]; exact hr⟩
theorem v_assign {x : Operand} (ho : o.op = .assign x) (hg : o.guard = none) (hx : Is (evE e x) X) (hr : RunK P ops l (putE e o.dst X) h K) : RunK P ops (o :: l) e h K :=
  run_c hg ⟨_, _, by unfold D; rw [ho]; exact ⟨rfl, rfl⟩, by rw [hx]; exact hr⟩
theorem v_pick {c x y : Operand} {b : Bool} (ho : o.op = .pick c x y) (hg : o.guard = none) (hc : Is (evE e c) (.raw (.bool b))) (hx : Is (if b then evE e x else evE e y) X) (hr : RunK P ops l (putE e o.dst X) h K) : RunK P ops (o :: l) e h K :=
  run_c hg ⟨_, _, by unfold D; rw [ho]; exact ⟨⟨b, hc, hx.symm⟩, rfl⟩, hr⟩
theorem v_nilCheck {x : Operand} (ho : o.op = .nilCheck x) (hg : o.guard = none) (hx : Is (evE e x) X) (hp : Is (ptrLike X) true) (hr : RunK P ops l (putE e o.dst X) h K) : RunK P ops (o :: l) e h K :=
  run_c hg ⟨_, _, by unfold D; rw [ho]; exact ⟨⟨by rw [hx]; exact hp, hx.symm⟩, rfl⟩, hr⟩
theorem v_extract {x : Operand} {i : Nat} {ys : List AV} (ho : o.op = .extract x i) (hg : o.guard = none) (hx : Is (evE e x) (.tup ys)) (hi : IsO ys[i]? X) (hr : RunK P ops l (putE e o.dst X) h K) : RunK P ops (o :: l) e h K :=
  run_c hg ⟨_, _, by unfold D; rw [ho]; exact ⟨⟨_, hx, hi⟩, rfl⟩, hr⟩
theorem v_makeIf {x : Operand} {t : TypeId} (ho : o.op = .makeInterface t x) (hg : o.guard = none) (ht : Is (isIface P t) false) (hx : Is (evE e x) X) (hr : RunK P ops l (putE e o.dst (.ifc t X)) h K) : RunK P ops (o :: l) e h K :=
  run_c hg ⟨_, _, by unfold D; rw [ho]; exact ⟨⟨ht, by rw [hx]⟩, rfl⟩, hr⟩
theorem v_makeFunc {f : Fn} {first cap : Array Operand} {fs cs : List AV} (ho : o.op = .makeFunc f first cap) (hg : o.guard = none) (h1 : Is (first.toList.map (evE e)) fs) (h2 : Is (cap.toList.map (evE e)) cs) (hr : RunK P ops l (putE e o.dst (.fn f fs cs)) h K) : RunK P ops (o :: l) e h K :=
  run_c hg ⟨_, _, by unfold D; rw [ho]; exact ⟨by rw [h1, h2], rfl⟩, hr⟩
theorem v_fieldAddr {t : TypeId} {x : Operand} {f off n : Nat} {ag : Bool} (ho : o.op = .fieldAddr t x f) (hg : o.guard = none) (ht : IsO (fldI P t f) (off, n, ag)) (hx : Is (evE e x) X) (hf : IsO (faddr off n ag X) Y) (hr : RunK P ops l (putE e o.dst Y) h K) : RunK P ops (o :: l) e h K :=
  run_c hg ⟨_, _, by unfold D; rw [ho]; exact ⟨⟨_, _, _, ht, by rw [hx]; exact hf⟩, rfl⟩, hr⟩
theorem v_field {t : TypeId} {x : Operand} {f off n : Nat} {ag : Bool} {xs : List AV} (ho : o.op = .field t x f) (hg : o.guard = none) (ht : IsO (fldI P t f) (off, n, ag)) (hx : Is (evE e x) (.agg xs)) (hf : IsO (AV.getL n ag xs off) Y) (hr : RunK P ops l (putE e o.dst Y) h K) : RunK P ops (o :: l) e h K :=
  run_c hg ⟨_, _, by unfold D; rw [ho]; exact ⟨⟨_, _, _, _, ht, hx, hf⟩, rfl⟩, hr⟩
theorem v_load {t : TypeId} {x : Operand} {n : Nat} {ag : Bool} (ho : o.op = .load t x) (hg : o.guard = none) (ht : IsO (tyI P t) (n, ag)) (hx : Is (evE e x) X) (hf : IsO (ldAt h n ag X) Y) (hr : RunK P ops l (putE e o.dst Y) h K) : RunK P ops (o :: l) e h K :=
  run_c hg ⟨_, _, by unfold D; rw [ho]; exact ⟨⟨_, _, ht, by rw [hx]; exact hf⟩, rfl⟩, hr⟩
theorem v_store {t : TypeId} {x y : Operand} {n : Nat} {ag : Bool} (ho : o.op = .store t x y) (hg : o.guard = none) (ht : IsO (tyI P t) (n, ag)) (hx : Is (evE e x) X) (hy : Is (evE e y) Y) (hn : Is Y.size n) (h1 : Is (Y.isAgg || Y.one) true) (hs : IsO (stAt h n Y X) h') (hr : RunK P ops l (putE e o.dst (.raw undef)) h' K) : RunK P ops (o :: l) e h K :=
  run_c hg ⟨_, _, by
    unfold D; rw [ho]
    refine ⟨_, _, ht, by rw [hy]; exact hn, ?_, by rw [hx, hy]; exact hs, rfl⟩
    rw [hy]; simpa [Is] using h1, hr⟩
theorem v_box {t : TypeId} {x : Operand} {q : Nat} (ho : o.op = .box t x) (hg : o.guard = none) (hd : o.dst = some q) (hq : Is (h q) none) (hx : Is (evE e x) X) (h1 : Is (X.isAgg || X.one) true) (hr : RunK P ops l (putE e (some q) (.ptr q 0)) (setH h q (.box X)) K) : RunK P ops (o :: l) e h K :=
  run_c hg ⟨_, _, by
    unfold D; rw [ho]
    refine ⟨q, hd, hq, ?_, rfl, rfl⟩
    rw [hx]; simpa [Is] using h1, by rw [hx, hd]; exact hr⟩
theorem v_alloc {t : TypeId} {q : Nat} {z : AV} (ho : o.op = .alloc t) (hg : o.guard = none) (hd : o.dst = some q) (hq : Is (h q) none) (hz : Is (zAV P 9 t) z) (hz1 : zeroIs P t z) (hr : RunK P ops l (putE e (some q) (.ptr q 0)) (setH h q (.box z)) K) : RunK P ops (o :: l) e h K :=
  run_c hg ⟨_, _, by
    unfold D; rw [ho]
    exact ⟨q, hd, hq, by rw [hz]; exact hz1, rfl, rfl⟩, by rw [hz, hd]; exact hr⟩
theorem v_bin {op : BinOp} {t ty : TypeId} {x y : Operand} {v u w : Value} (ho : o.op = .binOp op t x y ty) (hg : o.guard = none) (hx : Is (evE e x) (.raw v)) (hy : Is (evE e y) (.raw u)) (hw : IsO (binV op v u) w) (hr : RunK P ops l (putE e o.dst (.raw w)) h K) : RunK P ops (o :: l) e h K :=
  run_c hg ⟨_, _, by unfold D; rw [ho]; exact ⟨.inl ⟨v, u, w, hx, hy, hw, rfl⟩, rfl⟩, hr⟩
theorem v_eqB {t ty : TypeId} {x y : Operand} {v u w : Bool} (ho : o.op = .binOp .eql t x y ty) (hg : o.guard = none) (hb : Is (isBool P t) true) (hx : Is (evE e x) (.raw (.bool v))) (hy : Is (evE e y) (.raw (.bool u))) (hw : Is (v == u) w) (hr : RunK P ops l (putE e o.dst (.raw (.bool w))) h K) : RunK P ops (o :: l) e h K :=
  run_c hg ⟨_, _, by unfold D; rw [ho]; exact ⟨.inr (.inl ⟨v, u, hx, hy, hb, .inl ⟨rfl, by rw [hw]⟩⟩), rfl⟩, hr⟩
theorem v_neB {t ty : TypeId} {x y : Operand} {v u w : Bool} (ho : o.op = .binOp .neq t x y ty) (hg : o.guard = none) (hb : Is (isBool P t) true) (hx : Is (evE e x) (.raw (.bool v))) (hy : Is (evE e y) (.raw (.bool u))) (hw : Is (!(v == u)) w) (hr : RunK P ops l (putE e o.dst (.raw (.bool w))) h K) : RunK P ops (o :: l) e h K :=
  run_c hg ⟨_, _, by unfold D; rw [ho]; exact ⟨.inr (.inl ⟨v, u, hx, hy, hb, .inr ⟨rfl, by rw [hw]⟩⟩), rfl⟩, hr⟩
theorem v_eqP {t ty : TypeId} {x y : Operand} {w : Bool} (ho : o.op = .binOp .eql t x y ty) (hg : o.guard = none) (hb : Is (isPtr P t) true) (hy : Is (evE e y) (.raw (.pointer none))) (hx : Is (evE e x) X) (hw : IsO (ptrNil X) w) (hr : RunK P ops l (putE e o.dst (.raw (.bool w))) h K) : RunK P ops (o :: l) e h K :=
  run_c hg ⟨_, _, by unfold D; rw [ho]; exact ⟨.inr (.inr (.inl ⟨w, hb, hy, by rw [hx]; exact hw, .inl ⟨rfl, rfl⟩⟩)), rfl⟩, hr⟩
theorem v_neP {t ty : TypeId} {x y : Operand} {w w' : Bool} (ho : o.op = .binOp .neq t x y ty) (hg : o.guard = none) (hb : Is (isPtr P t) true) (hy : Is (evE e y) (.raw (.pointer none))) (hx : Is (evE e x) X) (hw : IsO (ptrNil X) w) (hw' : Is (!w) w') (hr : RunK P ops l (putE e o.dst (.raw (.bool w'))) h K) : RunK P ops (o :: l) e h K :=
  run_c hg ⟨_, _, by unfold D; rw [ho]; exact ⟨.inr (.inr (.inl ⟨w, hb, hy, by rw [hx]; exact hw, .inr ⟨rfl, by rw [hw']⟩⟩)), rfl⟩, hr⟩
theorem v_eqI {t ty : TypeId} {x : Operand} {w : Bool} (ho : o.op = .binOp .eql t x (.const .nilIface) ty) (hg : o.guard = none) (hb : Is (isIf P t) true) (hx : Is (evE e x) X) (hw : IsO (ifNil X) w) (hr : RunK P ops l (putE e o.dst (.raw (.bool w))) h K) : RunK P ops (o :: l) e h K :=
  run_c hg ⟨_, _, by unfold D; rw [ho]; exact ⟨.inr (.inr (.inr (.inl ⟨w, hb, rfl, by rw [hx]; exact hw, .inl ⟨rfl, rfl⟩⟩))), rfl⟩, hr⟩
theorem v_neI {t ty : TypeId} {x : Operand} {w w' : Bool} (ho : o.op = .binOp .neq t x (.const .nilIface) ty) (hg : o.guard = none) (hb : Is (isIf P t) true) (hx : Is (evE e x) X) (hw : IsO (ifNil X) w) (hw' : Is (!w) w') (hr : RunK P ops l (putE e o.dst (.raw (.bool w'))) h K) : RunK P ops (o :: l) e h K :=
  run_c hg ⟨_, _, by unfold D; rw [ho]; exact ⟨.inr (.inr (.inr (.inl ⟨w, hb, rfl, by rw [hx]; exact hw, .inr ⟨rfl, by rw [hw']⟩⟩))), rfl⟩, hr⟩
theorem v_un {op : UnOp} {t : TypeId} {x : Operand} {v w : Value} (ho : o.op = .unOp op t x) (hg : o.guard = none) (hx : Is (evE e x) (.raw v)) (hw : IsO (unV op v) w) (hr : RunK P ops l (putE e o.dst (.raw w)) h K) : RunK P ops (o :: l) e h K :=
  run_c hg ⟨_, _, by unfold D; rw [ho]; exact ⟨⟨v, w, hx, hw, rfl⟩, rfl⟩, hr⟩
theorem v_conv {s t : TypeId} {x : Operand} {v w : Value} (ho : o.op = .convert s t x) (hg : o.guard = none) (h1 : Is (isSl P s) false) (h2 : Is (isSl P t) false) (h3 : Is (P.underlying s).isSome true) (hx : Is (evE e x) (.raw v)) (hw : IsO (convV P t v) w) (hr : RunK P ops l (putE e o.dst (.raw w)) h K) : RunK P ops (o :: l) e h K :=
  run_c hg ⟨_, _, by
    unfold D; rw [ho]; unfold Is at h1 h2
    show DConv _ _ _ _ _ _ _ _
    unfold DConv
    rw [if_neg (by simp [h1]), if_neg (by simp [h2])]
    exact ⟨v, w, h3, hx, hw, rfl, rfl⟩, hr⟩
theorem v_bytesStr {s t el b : Nat} {x : Operand} {ys : List AV} {bs : List UInt8} (ho : o.op = .convert s t x) (hg : o.guard = none) (h1 : Is (isSl P s) true) (h2 : IsO (rowI P s) (el, 1, b)) (h3 : IsO (P.underlying el) (.int .u8)) (h4 : Is (isStr P t) true) (hx : Is (evE e x) X) (hy : IsO (rowOf h 1 X) ys) (hs : IsO (strOf ys) bs) (hr : RunK P ops l (putE e o.dst (.raw (.string ⟨bs.toArray⟩))) h K) : RunK P ops (o :: l) e h K :=
  run_c hg ⟨_, _, by
    unfold D; rw [ho]; unfold Is at h1
    show DConv _ _ _ _ _ _ _ _
    unfold DConv
    rw [if_pos h1]
    exact .inl ⟨el, b, ys, bs, h2, h3, h4, by rw [hx]; exact hy, hs, rfl, rfl⟩, hr⟩
theorem v_sameSl {t el b id len : Nat} {x : Operand} {ys : List AV} (ho : o.op = .convert t t x) (hg : o.guard = none) (h1 : Is (isSl P t) true) (h2 : IsO (rowI P t) (el, 1, b)) (h3 : IsO (P.underlying el) (.int .u8)) (hx : Is (evE e x) (.ow id 1 0 len)) (hy : IsO (h id) (.arr 1 ys)) (h0 : 0 < len) (hr : RunK P ops l (putE e o.dst (.ow id 1 0 len)) h K) : RunK P ops (o :: l) e h K :=
  run_c hg ⟨_, _, by
    unfold D; rw [ho]; unfold Is at h1
    show DConv _ _ _ _ _ _ _ _
    unfold DConv
    rw [if_pos h1]
    exact .inr ⟨el, b, id, len, ys, rfl, h2, h3, hx, hy, h0, rfl, rfl⟩, hr⟩
theorem v_strBytes {s t el b q : Nat} {x : Operand} {c : ByteArray} (ho : o.op = .convert s t x) (hg : o.guard = none) (h1 : Is (isSl P s) false) (h1' : Is (isSl P t) true) (h2 : IsO (rowI P t) (el, 1, b)) (h3 : IsO (P.underlying el) (.int .u8)) (h4 : Is (isStr P s) true) (hx : Is (evE e x) (.raw (.string c))) (hd : o.dst = some q) (hq : Is (h q) none) (hr : RunK P ops l (putE e (some q) (.ow q 1 0 c.size)) (setH h q (.arr 1 (strCellsAV c))) K) : RunK P ops (o :: l) e h K :=
  run_c hg ⟨_, _, by
    unfold D; rw [ho]; unfold Is at h1 h1'
    show DConv _ _ _ _ _ _ _ _
    unfold DConv
    rw [if_neg (by simp [h1]), if_pos h1']
    exact ⟨el, b, c, q, h2, h3, h4, hx, hd, hq, rfl, rfl⟩, by rw [hd]; exact hr⟩
theorem v_index {t : TypeId} {x i : Operand} {b : ByteArray} {k : IntKind} {n : Int} {w : Int} (ho : o.op = .index t x i) (hg : o.guard = none) (h1 : Is (isStr P t) true) (hx : Is (evE e x) (.raw (.string b))) (hi : Is (evE e i) (.raw (.int k n))) (h0 : 0 ≤ n) (hn : n < b.size) (hw : Is (byteAt b n) w) (hr : RunK P ops l (putE e o.dst (.raw (.int .u8 w))) h K) : RunK P ops (o :: l) e h K :=
  run_c hg ⟨_, _, by unfold D; rw [ho]; exact ⟨⟨b, k, n, h1, hx, hi, h0, hn, by rw [hw]⟩, rfl⟩, hr⟩
/-- The bound of a cut. -/
def BndV (e : Nat → AV) (y : Option Operand) (d : Int) : Option Int := match y with
  | none => some d
  | some y => match evE e y with
    | .raw (.int _ n) => some n
    | _ => none
attribute [simp] BndV
theorem BndV.is {y : Option Operand} {d n : Int} (hb : BndV e y d = some n) : Bnd (evE e) y d n := by
  cases y with
  | none => simp [BndV] at hb; exact hb.symm
  | some y =>
    simp only [BndV] at hb
    split at hb
    · cases hb; exact ⟨_, ‹_›⟩
    · cases hb
theorem v_sliceS {t : TypeId} {x : Operand} {lo hi : Option Operand} {b : ByteArray} {i k : Int} {w : ByteArray} (ho : o.op = .slice t x lo hi none) (hg : o.guard = none) (h9 : Is (isArr P t) false) (h1 : Is (isStr P t) true) (hx : Is (evE e x) (.raw (.string b))) (hl : IsO (BndV e lo 0) i) (hh : IsO (BndV e hi b.size) k) (h0 : 0 ≤ i) (h2 : i ≤ k) (h3 : k ≤ b.size) (hw : Is (b.extract i.toNat k.toNat) w) (hr : RunK P ops l (putE e o.dst (.raw (.string w))) h K) : RunK P ops (o :: l) e h K :=
  run_c hg ⟨_, _, by
    unfold D; rw [ho]
    unfold Is at h1 h9
    simp only
    rw [if_neg (by simp [h9])]
    refine ⟨?_, trivial⟩
    unfold DSlice; rw [if_pos h1]
    exact ⟨b, i, k, hx, BndV.is hl, BndV.is hh, h0, h2, h3, by rw [hw]⟩, hr⟩
theorem v_sliceR {t : TypeId} {x : Operand} {lo hi : Option Operand} {el sz b : Nat} {i k : Int} (ho : o.op = .slice t x lo hi none) (hg : o.guard = none) (h9 : Is (isArr P t) false) (h1 : Is (isStr P t) false) (ht : IsO (rowI P t) (el, sz, b)) (hx : Is (evE e x) X) (hl : IsO (BndV e lo 0) i) (hh : IsO (BndV e hi (lenOfAV X)) k) (h0 : 0 ≤ i) (h2 : i ≤ k) (hw : IsO (cutOf sz i.toNat k.toNat X) Y) (hr : RunK P ops l (putE e o.dst Y) h K) : RunK P ops (o :: l) e h K :=
  run_c hg ⟨_, _, by
    unfold D; rw [ho]
    unfold Is at h1 h9
    simp only
    rw [if_neg (by simp [h9])]
    refine ⟨?_, trivial⟩
    unfold DSlice; rw [if_neg (by simp [h1]), hx]
    exact ⟨el, sz, b, i, k, ht, BndV.is hl, BndV.is hh, h0, h2, .inl hw⟩, hr⟩
theorem v_sliceN {t : TypeId} {x : Operand} {lo hi : Option Operand} {el sz b : Nat} {i k : Int} (ho : o.op = .slice t x lo hi none) (hg : o.guard = none) (h9 : Is (isArr P t) false) (h1 : Is (isStr P t) false) (ht : IsO (rowI P t) (el, sz, b)) (hx : Is (evE e x) (.raw (.slice none 0 0))) (hl : IsO (BndV e lo 0) i) (hh : IsO (BndV e hi 0) k) (h0 : 0 ≤ i) (h2 : i ≤ k) (hk : k ≤ 0) (hr : RunK P ops l (putE e o.dst (.raw (.slice none 0 0))) h K) : RunK P ops (o :: l) e h K :=
  run_c hg ⟨_, _, by
    unfold D; rw [ho]
    unfold Is at h1 h9
    simp only
    rw [if_neg (by simp [h9])]
    refine ⟨?_, trivial⟩
    unfold DSlice; rw [if_neg (by simp [h1]), hx]
    exact ⟨el, sz, b, i, k, ht, BndV.is hl, BndV.is hh, h0, h2, .inr ⟨rfl, by omega, rfl⟩⟩, hr⟩
theorem v_indexAddr {t : TypeId} {x i : Operand} {el sz b : Nat} {k : IntKind} {n : Int} (ho : o.op = .indexAddr t x i) (hg : o.guard = none) (ht : IsO (rowI P t) (el, sz, b)) (hx : Is (evE e x) X) (hi : Is (evE e i) (.raw (.int k n))) (h0 : 0 ≤ n) (hw : IsO (elemAt noHeap sz n.toNat X) Y) (hr : RunK P ops l (putE e o.dst Y) h K) : RunK P ops (o :: l) e h K :=
  run_c hg ⟨_, _, by unfold D; rw [ho]; exact ⟨.inl ⟨el, sz, b, k, n, ht, hi, h0, by rw [hx]; exact hw⟩, rfl⟩, hr⟩
theorem v_idxArr {t : TypeId} {x i : Operand} {m sz : Nat} {k : IntKind} {n : Int} {id off z : Nat} (ho : o.op = .indexAddr t x i) (hg : o.guard = none) (ht : IsO (arrI P t) (m, sz)) (hx : Is (evE e x) (.ptr id off)) (hi : Is (evE e i) (.raw (.int k n))) (h0 : 0 ≤ n) (h1 : n < (m : Int)) (hz : Is (off + n.toNat * sz) z) (hr : RunK P ops l (putE e o.dst (.ptr id z)) h K) : RunK P ops (o :: l) e h K :=
  run_c hg ⟨_, _, by unfold D; rw [ho]; exact ⟨.inr ⟨m, sz, k, n, id, off, ht, hi, h0, h1, hx, rfl⟩, rfl⟩, by rw [hz]; exact hr⟩
theorem v_sliceArr {t : TypeId} {x : Operand} {lo : Option Operand} {m sz id q off len : Nat} {k : Int} {ys : List AV} (ho : o.op = .slice t x lo none none) (hg : o.guard = none) (ht : IsO (arrI P t) (m, sz)) (hx : Is (evE e x) (.ptr id 0)) (hb : IsO (h id) (.box (.agg ys))) (hl : Is ys.length m) (hs : ∀ x ∈ ys, x.size = sz) (hd : o.dst = some q) (hq : Is (h q) none) (hlo : IsO (BndV e lo 0) k) (hk0 : 0 ≤ k) (hk : k < (m : Nat)) (ho1 : Is k.toNat off) (ho2 : Is (m - off) len) (hr : RunK P ops l (putE e (some q) (.ow q sz off len)) (setH (setH h id .dead) q (.arr sz ys)) K) : RunK P ops (o :: l) e h K :=
  run_c hg ⟨_, _, by
    unfold D; rw [ho]
    simp only
    unfold IsO at ht
    rw [if_pos (by simp [isArr, ht])]
    exact ⟨rfl, m, sz, id, q, ys, k, ht, hx, hb, hl, hs, hd, hq, BndV.is hlo, hk0, hk, rfl, rfl⟩, by unfold Is at ho1 ho2; rw [hd, ho1, ho2]; exact hr⟩
theorem v_makeSlice {t : TypeId} {x y : Operand} {el sz b q m : Nat} {k k' : IntKind} {n c : Int} {z : AV} {ys : List AV} (ho : o.op = .makeSlice t x y) (hg : o.guard = none) (ht : IsO (rowI P t) (el, sz, b)) (hx : Is (evE e x) (.raw (.int k n))) (hy : Is (evE e y) (.raw (.int k' c))) (h0 : 0 ≤ n) (h1 : n ≤ c) (h2 : c * b ≤ 140737488355328) (h3 : c ≤ 140737488355328) (hz : Is (zAV P 9 el) z) (hz1 : zeroIs P el z) (hsz : Is z.size sz) (hd : o.dst = some q) (hq : Is (h q) none) (hm : Is n.toNat m) (hys : Is (List.replicate m z) ys) (hr : RunK P ops l (putE e (some q) (.ow q sz 0 m)) (setH h q (.arr sz ys)) K) : RunK P ops (o :: l) e h K :=
  run_c hg ⟨_, _, by
    unfold D; rw [ho]; unfold Is at hz; rw [← hz] at hz1 hsz
    exact ⟨el, sz, b, n, c, k, k', q, ht, hx, hy, h0, h1, h2, h3, hz1, hsz, hd, hq, rfl, rfl⟩, by rw [hd, hz, hm, hys]; exact hr⟩
theorem v_eqS {t ty : TypeId} {x y : Operand} {ds : List Eqd} {w : Bool} (ho : o.op = .binOp .eql t x y ty) (hg : o.guard = none) (ht : IsO (eqd P 9 t) (.st ds)) (hn : Is (guardless P t) true) (hx : Is (evE e x) X) (hy : Is (evE e y) Y) (hw : IsO (eqV (.st ds) X Y) w) (hr : RunK P ops l (putE e o.dst (.raw (.bool w))) h K) : RunK P ops (o :: l) e h K :=
  run_c hg ⟨_, _, by unfold D; rw [ho]; exact ⟨.inr (.inr (.inr (.inr ⟨ds, w, ht, hn, by rw [hx, hy]; exact hw, .inl ⟨rfl, rfl⟩⟩))), rfl⟩, hr⟩
theorem v_neS {t ty : TypeId} {x y : Operand} {ds : List Eqd} {w w' : Bool} (ho : o.op = .binOp .neq t x y ty) (hg : o.guard = none) (ht : IsO (eqd P 9 t) (.st ds)) (hn : Is (guardless P t) true) (hx : Is (evE e x) X) (hy : Is (evE e y) Y) (hw : IsO (eqV (.st ds) X Y) w) (hw' : Is (!w) w') (hr : RunK P ops l (putE e o.dst (.raw (.bool w'))) h K) : RunK P ops (o :: l) e h K :=
  run_c hg ⟨_, _, by unfold D; rw [ho]; exact ⟨.inr (.inr (.inr (.inr ⟨ds, w, ht, hn, by rw [hx, hy]; exact hw, .inr ⟨rfl, by rw [hw']⟩⟩))), rfl⟩, hr⟩
theorem v_build {t : TypeId} {ps : Array (Nat × Operand)} {zs ys : List AV} (ho : o.op = .build t ps) (hg : o.guard = none) (hz : Is (zAV P 9 t) (.agg zs)) (hz1 : zeroIs P t (.agg zs)) (hl : layIs P t zs) (hy : IsO (setAll zs (pmap (evE e) ps)) ys) (hr : RunK P ops l (putE e o.dst (.agg ys)) h K) : RunK P ops (o :: l) e h K :=
  run_c hg ⟨_, _, by unfold D; rw [ho]; exact ⟨⟨zs, ys, hz, hz1, hl, hy, rfl⟩, rfl⟩, hr⟩
theorem v_buildSlice {t : TypeId} {ps : Array (Nat × Operand)} {n el sz b q : Nat} {z : AV} {ys : List AV} (ho : o.op = .buildSlice t n ps) (hg : o.guard = none) (ht : IsO (rowI P t) (el, sz, b)) (hz : Is (zAV P 9 el) z) (hz1 : zeroIs P el z) (hsz : Is z.size sz) (hn : n * sz ≤ 16777216) (hy : IsO (setAll (List.replicate n z) (pmap (evE e) ps)) ys) (hd : o.dst = some q) (hq : Is (h q) none) (hr : RunK P ops l (putE e (some q) (.ow q sz 0 n)) (setH h q (.arr sz ys)) K) : RunK P ops (o :: l) e h K :=
  run_c hg ⟨_, _, by
    unfold D; rw [ho]; unfold Is at hz; rw [← hz] at hz1 hsz hy
    exact ⟨el, sz, b, ys, q, ht, hz1, hsz, hn, hy, hd, hq, rfl, rfl⟩, by rw [hd]; exact hr⟩
theorem v_asY {t xt : TypeId} {x : Operand} (ho : o.op = .typeAssert x xt t true) (hg : o.guard = none) (ht : Is (isIface P t) false) (hx : Is (evE e x) (.ifc t X)) (hr : RunK P ops l (putE e o.dst (.tup [X, .raw (.bool true)])) h K) : RunK P ops (o :: l) e h K :=
  run_c hg ⟨_, _, by unfold D; rw [ho]; exact ⟨⟨ht, .inl ⟨X, hx, rfl⟩⟩, rfl⟩, hr⟩
theorem v_asN {t t' xt : TypeId} {x : Operand} {z : AV} (ho : o.op = .typeAssert x xt t true) (hg : o.guard = none) (ht : Is (isIface P t) false) (hx : Is (evE e x) (.ifc t' X)) (hne : t' ≠ t) (hz : Is (zAV P 9 t) z) (hz1 : zeroIs P t z) (hr : RunK P ops l (putE e o.dst (.tup [z, .raw (.bool false)])) h K) : RunK P ops (o :: l) e h K :=
  run_c hg ⟨_, _, by unfold D; rw [ho]; unfold Is at hz; subst hz; exact ⟨⟨ht, .inr (.inl ⟨t', X, hx, hne, rfl, hz1, rfl⟩)⟩, rfl⟩, hr⟩
theorem v_as0 {t xt : TypeId} {x : Operand} {z : AV} (ho : o.op = .typeAssert x xt t true) (hg : o.guard = none) (ht : Is (isIface P t) false) (hx : Is (evE e x) (.raw .nilIface)) (hz : Is (zAV P 9 t) z) (hz1 : zeroIs P t z) (hr : RunK P ops l (putE e o.dst (.tup [z, .raw (.bool false)])) h K) : RunK P ops (o :: l) e h K :=
  run_c hg ⟨_, _, by unfold D; rw [ho]; unfold Is at hz; subst hz; exact ⟨⟨ht, .inr (.inr ⟨hx, rfl, hz1, rfl⟩)⟩, rfl⟩, hr⟩
theorem v_as {t xt : TypeId} {x : Operand} (ho : o.op = .typeAssert x xt t false) (hg : o.guard = none) (ht : Is (isIface P t) false) (hx : Is (evE e x) (.ifc t X)) (hr : RunK P ops l (putE e o.dst X) h K) : RunK P ops (o :: l) e h K :=
  run_c hg ⟨_, _, by unfold D; rw [ho]; exact ⟨⟨ht, .inl ⟨X, hx, rfl⟩⟩, rfl⟩, hr⟩
theorem v_lenS {x : Operand} {t : TypeId} {b : ByteArray} (ho : o.op = .call { callee := .builtin .len, args := #[x], argTypes := #[t] }) (hg : o.guard = none) (h1 : Is (isStr P t) true) (hx : Is (evE e x) (.raw (.string b))) (hr : RunK P ops l (putE e o.dst (.raw (.int .i64 b.size))) h K) : RunK P ops (o :: l) e h K :=
  run_c hg ⟨_, _, by
    unfold D; rw [ho]; show DBuiltin _ _ _ _ _ _ _ _ _; unfold DBuiltin; unfold Is at h1
    simp only; rw [if_pos h1]; exact ⟨b, hx, rfl, trivial⟩, hr⟩
theorem v_lenR {x : Operand} {t el sz b : Nat} {xs : List AV} (ho : o.op = .call { callee := .builtin .len, args := #[x], argTypes := #[t] }) (hg : o.guard = none) (h1 : Is (isStr P t) false) (ht : IsO (rowI P t) (el, sz, b)) (hx : Is (evE e x) X) (hy : IsO (rowOf h sz X) xs) {n : Nat} (hn : Is xs.length n) (hr : RunK P ops l (putE e o.dst (.raw (.int .i64 n))) h K) : RunK P ops (o :: l) e h K :=
  run_c hg ⟨_, _, by
    unfold D; rw [ho]; show DBuiltin _ _ _ _ _ _ _ _ _; unfold DBuiltin; unfold Is at h1
    simp only; rw [if_neg (by simp [h1])]; exact ⟨el, sz, b, xs, ht, by rw [hx]; exact hy, rfl, rfl⟩, by rw [hn]; exact hr⟩
theorem v_append {x y : Operand} {t u el sz b q id len : Nat} {ys xs zs : List AV} {m : Nat} (ho : o.op = .call { callee := .builtin .append, args := #[x, y], argTypes := #[t, u] }) (hg : o.guard = none) (ht : IsO (rowI P t) (el, sz, b)) (hx : Is (evE e x) (.ow id sz 0 len)) (hi : IsO (h id) (.arr sz xs)) (hY : Is (evE e y) Y) (hy : IsO (srcOf P h sz u Y) ys) (hd : o.dst = some q) (hq : Is (h q) none) (hl : len ≤ xs.length) (h1 : (len + ys.length) * b ≤ 140737488355328) (h2 : len + ys.length ≤ 140737488355328) (hz : Is (xs.take len ++ ys) zs) (hm : Is (len + ys.length) m) (hr : RunK P ops l (putE e (some q) (.ow q sz 0 m)) (setH (setH h id .dead) q (.arr sz zs)) K) : RunK P ops (o :: l) e h K :=
  run_c hg ⟨_, _, by
    unfold D; rw [ho]; show DBuiltin _ _ _ _ _ _ _ _ _; unfold DBuiltin
    exact ⟨el, sz, b, ys, q, ht, by rw [hY]; exact hy, hd, hq, .inl ⟨id, len, xs, hx, hi, hl, h1, h2, rfl, rfl⟩⟩, by rw [hd, hz, hm]; exact hr⟩
theorem v_append0 {x y : Operand} {t u el sz b q : Nat} {v : Value} {ys : List AV} {m : Nat} (ho : o.op = .call { callee := .builtin .append, args := #[x, y], argTypes := #[t, u] }) (hg : o.guard = none) (ht : IsO (rowI P t) (el, sz, b)) (hx : Is (evE e x) (.raw v)) (hv : Is (nilSl v) true) (hY : Is (evE e y) Y) (hy : IsO (srcOf P h sz u Y) ys) (hd : o.dst = some q) (hq : Is (h q) none) (hne : ys ≠ []) (h1 : ys.length * b ≤ 140737488355328) (h2 : ys.length ≤ 140737488355328) (hm : Is ys.length m) (hr : RunK P ops l (putE e (some q) (.ow q sz 0 m)) (setH h q (.arr sz ys)) K) : RunK P ops (o :: l) e h K :=
  run_c hg ⟨_, _, by
    unfold D; rw [ho]; show DBuiltin _ _ _ _ _ _ _ _ _; unfold DBuiltin
    exact ⟨el, sz, b, ys, q, ht, by rw [hY]; exact hy, hd, hq, .inr ⟨v, hx, hv, hne, h1, h2, rfl, rfl⟩⟩, by rw [hd, hm]; exact hr⟩
theorem v_copy {x y : Operand} {t u el sz b id off len : Nat} {ys xs zs : List AV} {m : Nat} (ho : o.op = .call { callee := .builtin .copy, args := #[x, y], argTypes := #[t, u] }) (hg : o.guard = none) (ht : IsO (rowI P t) (el, sz, b)) (hx : Is (evE e x) (.ow id sz off len)) (hi : IsO (h id) (.arr sz xs)) (hY : Is (evE e y) Y) (hy : IsO (rowOf h sz Y) ys) (hl : off + len ≤ xs.length) (hm : Is (min ys.length len) m) (hz : Is (xs.take off ++ ys.take m ++ xs.drop (off + m)) zs) (hr : RunK P ops l (putE e o.dst (.raw (.int .i64 m))) (setH h id (.arr sz zs)) K) : RunK P ops (o :: l) e h K :=
  run_c hg ⟨_, _, by
    unfold D; rw [ho]; show DBuiltin _ _ _ _ _ _ _ _ _; unfold DBuiltin
    exact ⟨el, sz, b, ys, id, off, len, xs, ht, by rw [hY]; exact hy, hx, hi, hl, rfl, rfl⟩, by unfold Is at hm hz; rw [hm, hz]; exact hr⟩
theorem v_min {c : Call} (ho : o.op = .call c) (hc : c.callee = .builtin .min) (hg : o.guard = none) (hx : IsO (minV (c.args.toList.map (evE e))) X) (hr : RunK P ops l (putE e o.dst X) h K) : RunK P ops (o :: l) e h K :=
  run_c hg ⟨_, _, by unfold D; rw [ho]; simp only [hc]; unfold DBuiltin; exact ⟨hx, rfl⟩, hr⟩
theorem v_max {c : Call} (ho : o.op = .call c) (hc : c.callee = .builtin .max) (hg : o.guard = none) (hx : IsO (maxV (c.args.toList.map (evE e))) X) (hr : RunK P ops l (putE e o.dst X) h K) : RunK P ops (o :: l) e h K :=
  run_c hg ⟨_, _, by unfold D; rw [ho]; simp only [hc]; unfold DBuiltin; exact ⟨hx, rfl⟩, hr⟩
/-! Calls: of values, with rows lent or frozen, with objects. -/
theorem noid_ren : (∀ y : AV, y.noid = true → ∀ π, y.ren π = y) ∧ ∀ l : List AV, AV.noids l = true → ∀ π, AV.rens π l = l := by
  refine ⟨fun y => ?_, fun y => ?_⟩
  · refine AV.rec (motive_1 := fun y => y.noid = true → ∀ π, y.ren π = y) (motive_2 := fun l => AV.noids l = true → ∀ π, AV.rens π l = l) ?_ ?_ ?_ ?_ ?_ ?_ ?_ ?_ ?_ ?_ ?_ ?_ ?_ y <;> intros <;> simp_all [AV.noid, AV.ren, AV.noids, AV.rens]
  · refine AV.rec_1 (motive_1 := fun y => y.noid = true → ∀ π, y.ren π = y) (motive_2 := fun l => AV.noids l = true → ∀ π, AV.rens π l = l) ?_ ?_ ?_ ?_ ?_ ?_ ?_ ?_ ?_ ?_ ?_ ?_ ?_ y <;> intros <;> simp_all [AV.noid, AV.ren, AV.noids, AV.rens]
variable {c : Call} {x : Operand} {f : FuncId} {xs : List AV}
/-- A row that was made, under another name. -/
theorem CallD.own {sz n : Nat} {ys : List AV} (hn : AV.noids xs = true) (hy : AV.noids ys = true) (q : Nat) (hc : CallD P f xs noHeap (.ow 99999 sz 0 n) (setH noHeap 99999 (.arr sz ys))) : CallD P f xs noHeap (.ow q sz 0 n) (setH noHeap q (.arr sz ys)) := by
  have := hc.sw 99999 q
  rw [noid_ren.2 _ hn, renH_no, renH_set, renH_no] at this
  simp only [AV.ren, Ob.ren, noid_ren.2 _ hy, sw, if_true] at this
  exact this
theorem v_call0 (ho : o.op = .call c) (hc : c.callee = .value x) (hg : o.guard = none) (hp : Is (plainCall P c) true) (hsl : Is (isSl P o.type) false) (ha : IsO (argsOf (evE e) x c.args) (f, xs)) (hf : Is (isFn P f) true) (hn : Is (AV.noids xs) true) (hcall : CallD P f xs noHeap r noHeap) (hr : RunK P ops l (putE e o.dst r) h K) : RunK P ops (o :: l) e h K :=
  run_c hg ⟨_, _, by unfold D; rw [ho]; simp only [hc]; rw [if_pos (by exact hp), if_neg (by unfold Is at hsl; simp [hsl])]; exact ⟨f, xs, ha, hf, hn, hcall, rfl⟩, hr⟩
theorem v_callN {q : Nat} (ho : o.op = .call c) (hc : c.callee = .value x) (hg : o.guard = none) (hd : o.dst = some q) (hp : Is (plainCall P c) true) (hsl : Is (isSl P o.type) true) (ha : IsO (argsOf (evE e) x c.args) (f, xs)) (hf : Is (isFn P f) true) (hn : Is (AV.noids xs) true) (hq : Is (h q) none) (hcall : CallD P f xs noHeap r noHeap) (hr : RunK P ops l (putE e (some q) r) (setH h q .dead) K) : RunK P ops (o :: l) e h K :=
  run_c hg ⟨_, _, by unfold D; rw [ho]; simp only [hc]; rw [if_pos (by exact hp), if_pos (by exact hsl)]; exact ⟨f, xs, q, ha, hf, hn, hd, hq, .inl ⟨hcall, rfl⟩⟩, by rw [hd]; exact hr⟩
theorem v_callO {q sz n : Nat} {ys : List AV} (ho : o.op = .call c) (hc : c.callee = .value x) (hg : o.guard = none) (hd : o.dst = some q) (hp : Is (plainCall P c) true) (hsl : Is (isSl P o.type) true) (ha : IsO (argsOf (evE e) x c.args) (f, xs)) (hf : Is (isFn P f) true) (hn : Is (AV.noids xs) true) (hq : Is (h q) none) (hcall : CallD P f xs noHeap (.ow 99999 sz 0 n) (setH noHeap 99999 (.arr sz ys))) (hy : Is (AV.noids ys) true) (hr : RunK P ops l (putE e (some q) (.ow q sz 0 n)) (setH h q (.arr sz ys)) K) : RunK P ops (o :: l) e h K :=
  run_c hg ⟨_, _, by unfold D; rw [ho]; simp only [hc]; rw [if_pos (by exact hp), if_pos (by exact hsl)]; exact ⟨f, xs, q, ha, hf, hn, hd, hq, .inr ⟨_, hcall.own hn hy q, rfl⟩⟩, by rw [hd]; exact hr⟩
theorem noid_rows : (∀ x : AV, x.noid = true → x.rowsOf = []) ∧ ∀ l : List AV, AV.noids l = true → AV.rowsOfs l = [] := by
  refine ⟨fun x => ?_, fun l => ?_⟩
  · refine AV.rec (motive_1 := fun x => x.noid = true → x.rowsOf = []) (motive_2 := fun l => AV.noids l = true → AV.rowsOfs l = []) ?_ ?_ ?_ ?_ ?_ ?_ ?_ ?_ ?_ ?_ ?_ ?_ ?_ x <;> intros <;> simp_all [AV.noid, AV.rowsOf, AV.noids, AV.rowsOfs]
  · refine AV.rec_1 (motive_1 := fun x => x.noid = true → x.rowsOf = []) (motive_2 := fun l => AV.noids l = true → AV.rowsOfs l = []) ?_ ?_ ?_ ?_ ?_ ?_ ?_ ?_ ?_ ?_ ?_ ?_ ?_ l <;> intros <;> simp_all [AV.noid, AV.rowsOf, AV.noids, AV.rowsOfs]
theorem tag_rows {xs : List AV} (ht : ∀ x ∈ xs, x.tagP ≠ none) : AV.rowsOfs xs = [] := by
  induction xs with
  | nil => rfl
  | cons x l ih =>
    rw [AV.rowsOfs, ih (fun y hy => ht y (List.mem_cons_of_mem _ hy)), List.append_nil]
    have := ht x List.mem_cons_self
    cases x <;> simp only [AV.tagP] at this <;> first | rfl | exact absurd rfl this | skip
    · split at this
      · rename_i hn; rw [AV.rowsOf]; exact noid_rows.2 _ hn
      · exact absurd rfl this
    · split at this
      · rename_i hn; rw [AV.rowsOf]; exact noid_rows.1 _ hn
      · exact absurd rfl this
theorem touch_none {d : Option Tmp} {xs : List AV} : touch d xs noHeap noHeap := fun _ => ⟨fun id h => (by cases h), fun id h => (by cases h)⟩
theorem touch_new {q : Nat} {ob : Ob} {xs : List AV} : touch (some q) xs noHeap (setH noHeap q ob) := fun _ => ⟨fun id h => (by cases h), fun id h => by
  by_cases e : id = q
  · exact .inr (by rw [e])
  · simp [setH, e, noHeap] at h⟩
theorem v_callS {hs hs' g : Hp} {ys : List AV} (ho : o.op = .call c) (hc : c.callee = .value x) (hg : o.guard = none) (hp : Is (plainCall P c) false) (ha : IsO (argsOf (evE e) x c.args) (f, xs)) (hf : Is (isFn P f) true) (hfr : Is (frzA h (AV.rowsOfs xs)) g) (hys : Is (AV.deeps g xs) ys) (h1 : ∀ id ob, hs id = some ob → g id = some ob ∧ ob.within hs = true) (h2 : Is (AV.withins hs ys) true) (hcall : CallD P f ys hs r hs') (h3 : ∀ id, (hs' id).isSome = true → (hs id).isSome = true ∨ g id = none) (h4 : Is (backH g hs hs') h') (htc : touch o.dst xs hs hs') (hr : RunK P ops l (putE e o.dst r) h' K) : RunK P ops (o :: l) e h K :=
  run_c hg ⟨_, _, by
    unfold D; rw [ho]; simp only [hc]; rw [if_neg (by unfold Is at hp; simp [hp])]
    unfold Is at hfr hys; subst hfr; subst hys
    exact ⟨f, xs, ha, hf, .inr ⟨hs, hs', htc, h1, h2, hcall, h3, rfl⟩⟩, by unfold Is at hfr; rw [hfr, h4]; exact hr⟩
theorem v_callL {ys : List AV} {g : Hp} (ho : o.op = .call c) (hc : c.callee = .value x) (hg : o.guard = none) (hp : Is (plainCall P c) false) (ha : IsO (argsOf (evE e) x c.args) (f, xs)) (hf : Is (isFn P f) true) (hfr : Is (frzA h (AV.rowsOfs xs)) g) (hs : Is (AV.deeps g xs) ys) (hn : Is (AV.noids ys) true) (hcall : CallD P f ys noHeap r noHeap) (hfl : Is r.flat true) (hr : RunK P ops l (putE e o.dst r) h K) : RunK P ops (o :: l) e h K :=
  run_c hg ⟨_, _, by
    unfold D; rw [ho]; simp only [hc]; rw [if_neg (by unfold Is at hp; simp [hp])]
    unfold Is at hfr hs; subst hfr; subst hs
    exact ⟨f, xs, ha, hf, .inl ⟨hn, hcall, hfl, rfl⟩⟩, hr⟩
theorem backH_none {h : Hp} : backH h noHeap noHeap = h := by
  funext id; simp [backH, noHeap]
theorem v_callF {ys : List AV} {g : Hp} (ho : o.op = .call c) (hc : c.callee = .value x) (hg : o.guard = none) (hp : Is (plainCall P c) false) (ha : IsO (argsOf (evE e) x c.args) (f, xs)) (hf : Is (isFn P f) true) (hfr : Is (frzA h (AV.rowsOfs xs)) g) (hs : Is (AV.deeps g xs) ys) (hn : Is (AV.noids ys) true) (hcall : CallD P f ys noHeap r noHeap) (hr : RunK P ops l (putE e o.dst r) g K) : RunK P ops (o :: l) e h K :=
  v_callS (hs := noHeap) (hs' := noHeap) ho hc hg hp ha hf hfr hs (fun id ob h => by cases h) (noid_within.2 _ hn) hcall (fun id h => by cases h) backH_none touch_none hr
theorem v_callR {ys zs : List AV} {g : Hp} {q sz n : Nat} (ho : o.op = .call c) (hc : c.callee = .value x) (hg : o.guard = none) (hd : o.dst = some q) (hp : Is (plainCall P c) false) (ha : IsO (argsOf (evE e) x c.args) (f, xs)) (hf : Is (isFn P f) true) (hfr : Is (frzA h (AV.rowsOfs xs)) g) (hs : Is (AV.deeps g xs) ys) (hn : Is (AV.noids ys) true) (hq : Is (g q) none) (hcall : CallD P f ys noHeap (.ow 99999 sz 0 n) (setH noHeap 99999 (.arr sz zs))) (hz : Is (AV.noids zs) true) (hr : RunK P ops l (putE e (some q) (.ow q sz 0 n)) (setH g q (.arr sz zs)) K) : RunK P ops (o :: l) e h K :=
  v_callS (hs := noHeap) (hs' := setH noHeap q (.arr sz zs)) ho hc hg hp ha hf hfr hs (fun id ob h => by cases h) (noid_within.2 _ hn) (hcall.own hn hz q) (fun id hi => by
    by_cases e : id = q
    · subst e; exact .inr hq
    · simp [setH, e, noHeap] at hi) backH_new (by rw [hd]; exact touch_new) (by rw [hd]; exact hr)
/-! Guards -/
theorem v_gT {j : Nat} {w : Bool} {t : Tmp} (hg : o.guard = some (j, w)) (ht : (ops[j]?).bind (·.dst) = some t) (he : Is (e t) (.raw (.bool w))) (hr : RunK P ops ({ o with guard := none } :: l) e h K) : RunK P ops (o :: l) e h K := by
  obtain ⟨r, h1, hd, hr⟩ := hr
  exact run_gT hg ht he ⟨r, h1, hd, hr⟩
theorem v_gF {j : Nat} {w : Bool} {t : Tmp} (hg : o.guard = some (j, w)) (ht : (ops[j]?).bind (·.dst) = some t) (he : Is (e t) (.raw (.bool (!w)))) (hr : RunK P ops l (putE e o.dst (.raw undef)) h K) : RunK P ops (o :: l) e h K :=
  run_gF hg ht he (by cases w <;> simp) hr
theorem v_gB {j : Nat} {w b : Bool} {t : Tmp} (hg : o.guard = some (j, w)) (ht : (ops[j]?).bind (·.dst) = some t) (he : Is (e t) (.raw (.bool b))) (hT : b = true → RunK P ops (o :: l) (putE e (some t) (.raw (.bool true))) h K) (hF : b = false → RunK P ops (o :: l) (putE e (some t) (.raw (.bool false))) h K) : RunK P ops (o :: l) e h K := run_gB hg ht he hT hF
theorem w_cond {b : Bool} {a : Operand} {y z : Code} (hc : Is (evE e a) (.raw (.bool b))) (ht : b = true → AWP P nt y Q ⟨e, h⟩) (hf : b = false → AWP P nt z Q ⟨e, h⟩) : AWP P nt (.cond a y z) Q ⟨e, h⟩ := awp_condB hc ht hf
theorem w_move {ty' : TypeId} {pos : String} {af : Array Edge} {dd : Option Tmp} {x : Operand} (hx : Is (evE e x) X) (hr : RunK P ops l (putE e dd X) h K) : RunK P ops (⟨dd, .move x, ty', pos, af, none⟩ :: l) e h K :=
  v_move rfl rfl hx hr
theorem w_assign {ty' : TypeId} {pos : String} {af : Array Edge} {dd : Option Tmp} {x : Operand} (hx : Is (evE e x) X) (hr : RunK P ops l (putE e dd X) h K) : RunK P ops (⟨dd, .assign x, ty', pos, af, none⟩ :: l) e h K :=
  v_assign rfl rfl hx hr
theorem w_pick {ty' : TypeId} {pos : String} {af : Array Edge} {dd : Option Tmp} {c x y : Operand} {b : Bool} (hc : Is (evE e c) (.raw (.bool b))) (hx : Is (if b then evE e x else evE e y) X) (hr : RunK P ops l (putE e dd X) h K) : RunK P ops (⟨dd, .pick c x y, ty', pos, af, none⟩ :: l) e h K :=
  v_pick rfl rfl hc hx hr
theorem w_nilCheck {ty' : TypeId} {pos : String} {af : Array Edge} {dd : Option Tmp} {x : Operand} (hx : Is (evE e x) X) (hp : Is (ptrLike X) true) (hr : RunK P ops l (putE e dd X) h K) : RunK P ops (⟨dd, .nilCheck x, ty', pos, af, none⟩ :: l) e h K :=
  v_nilCheck rfl rfl hx hp hr
theorem w_extract {ty' : TypeId} {pos : String} {af : Array Edge} {dd : Option Tmp} {x : Operand} {i : Nat} {ys : List AV} (hx : Is (evE e x) (.tup ys)) (hi : IsO ys[i]? X) (hr : RunK P ops l (putE e dd X) h K) : RunK P ops (⟨dd, .extract x i, ty', pos, af, none⟩ :: l) e h K :=
  v_extract rfl rfl hx hi hr
theorem w_makeIf {ty' : TypeId} {pos : String} {af : Array Edge} {dd : Option Tmp} {x : Operand} {t : TypeId} (ht : Is (isIface P t) false) (hx : Is (evE e x) X) (hr : RunK P ops l (putE e dd (.ifc t X)) h K) : RunK P ops (⟨dd, .makeInterface t x, ty', pos, af, none⟩ :: l) e h K :=
  v_makeIf rfl rfl ht hx hr
theorem w_makeFunc {ty' : TypeId} {pos : String} {af : Array Edge} {dd : Option Tmp} {f : Fn} {first cap : Array Operand} {fs cs : List AV} (h1 : Is (first.toList.map (evE e)) fs) (h2 : Is (cap.toList.map (evE e)) cs) (hr : RunK P ops l (putE e dd (.fn f fs cs)) h K) : RunK P ops (⟨dd, .makeFunc f first cap, ty', pos, af, none⟩ :: l) e h K :=
  v_makeFunc rfl rfl h1 h2 hr
theorem w_fieldAddr {ty' : TypeId} {pos : String} {af : Array Edge} {dd : Option Tmp} {t : TypeId} {x : Operand} {f off n : Nat} {ag : Bool} (ht : IsO (fldI P t f) (off, n, ag)) (hx : Is (evE e x) X) (hf : IsO (faddr off n ag X) Y) (hr : RunK P ops l (putE e dd Y) h K) : RunK P ops (⟨dd, .fieldAddr t x f, ty', pos, af, none⟩ :: l) e h K :=
  v_fieldAddr rfl rfl ht hx hf hr
theorem w_field {ty' : TypeId} {pos : String} {af : Array Edge} {dd : Option Tmp} {t : TypeId} {x : Operand} {f off n : Nat} {ag : Bool} {xs : List AV} (ht : IsO (fldI P t f) (off, n, ag)) (hx : Is (evE e x) (.agg xs)) (hf : IsO (AV.getL n ag xs off) Y) (hr : RunK P ops l (putE e dd Y) h K) : RunK P ops (⟨dd, .field t x f, ty', pos, af, none⟩ :: l) e h K :=
  v_field rfl rfl ht hx hf hr
theorem w_load {ty' : TypeId} {pos : String} {af : Array Edge} {dd : Option Tmp} {t : TypeId} {x : Operand} {n : Nat} {ag : Bool} (ht : IsO (tyI P t) (n, ag)) (hx : Is (evE e x) X) (hf : IsO (ldAt h n ag X) Y) (hr : RunK P ops l (putE e dd Y) h K) : RunK P ops (⟨dd, .load t x, ty', pos, af, none⟩ :: l) e h K :=
  v_load rfl rfl ht hx hf hr
theorem w_store {ty' : TypeId} {pos : String} {af : Array Edge} {dd : Option Tmp} {t : TypeId} {x y : Operand} {n : Nat} {ag : Bool} (ht : IsO (tyI P t) (n, ag)) (hx : Is (evE e x) X) (hy : Is (evE e y) Y) (hn : Is Y.size n) (h1 : Is (Y.isAgg || Y.one) true) (hs : IsO (stAt h n Y X) h') (hr : RunK P ops l (putE e dd (.raw undef)) h' K) : RunK P ops (⟨dd, .store t x y, ty', pos, af, none⟩ :: l) e h K :=
  v_store rfl rfl ht hx hy hn h1 hs hr
theorem w_box {ty' : TypeId} {pos : String} {af : Array Edge} {t : TypeId} {x : Operand} {q : Nat} (hq : Is (h q) none) (hx : Is (evE e x) X) (h1 : Is (X.isAgg || X.one) true) (hr : RunK P ops l (putE e (some q) (.ptr q 0)) (setH h q (.box X)) K) : RunK P ops (⟨(some q), .box t x, ty', pos, af, none⟩ :: l) e h K :=
  v_box rfl rfl rfl hq hx h1 hr
theorem w_alloc {ty' : TypeId} {pos : String} {af : Array Edge} {t : TypeId} {q : Nat} {z : AV} (hq : Is (h q) none) (hz : Is (zAV P 9 t) z) (hz1 : zeroIs P t z) (hr : RunK P ops l (putE e (some q) (.ptr q 0)) (setH h q (.box z)) K) : RunK P ops (⟨(some q), .alloc t, ty', pos, af, none⟩ :: l) e h K :=
  v_alloc rfl rfl rfl hq hz hz1 hr
theorem w_bin {ty' : TypeId} {pos : String} {af : Array Edge} {dd : Option Tmp} {op : BinOp} {t ty : TypeId} {x y : Operand} {v u w : Value} (hx : Is (evE e x) (.raw v)) (hy : Is (evE e y) (.raw u)) (hw : IsO (binV op v u) w) (hr : RunK P ops l (putE e dd (.raw w)) h K) : RunK P ops (⟨dd, .binOp op t x y ty, ty', pos, af, none⟩ :: l) e h K :=
  v_bin rfl rfl hx hy hw hr
theorem w_eqB {ty' : TypeId} {pos : String} {af : Array Edge} {dd : Option Tmp} {t ty : TypeId} {x y : Operand} {v u w : Bool} (hb : Is (isBool P t) true) (hx : Is (evE e x) (.raw (.bool v))) (hy : Is (evE e y) (.raw (.bool u))) (hw : Is (v == u) w) (hr : RunK P ops l (putE e dd (.raw (.bool w))) h K) : RunK P ops (⟨dd, .binOp .eql t x y ty, ty', pos, af, none⟩ :: l) e h K :=
  v_eqB rfl rfl hb hx hy hw hr
theorem w_neB {ty' : TypeId} {pos : String} {af : Array Edge} {dd : Option Tmp} {t ty : TypeId} {x y : Operand} {v u w : Bool} (hb : Is (isBool P t) true) (hx : Is (evE e x) (.raw (.bool v))) (hy : Is (evE e y) (.raw (.bool u))) (hw : Is (!(v == u)) w) (hr : RunK P ops l (putE e dd (.raw (.bool w))) h K) : RunK P ops (⟨dd, .binOp .neq t x y ty, ty', pos, af, none⟩ :: l) e h K :=
  v_neB rfl rfl hb hx hy hw hr
theorem w_eqP {ty' : TypeId} {pos : String} {af : Array Edge} {dd : Option Tmp} {t ty : TypeId} {x y : Operand} {w : Bool} (hb : Is (isPtr P t) true) (hy : Is (evE e y) (.raw (.pointer none))) (hx : Is (evE e x) X) (hw : IsO (ptrNil X) w) (hr : RunK P ops l (putE e dd (.raw (.bool w))) h K) : RunK P ops (⟨dd, .binOp .eql t x y ty, ty', pos, af, none⟩ :: l) e h K :=
  v_eqP rfl rfl hb hy hx hw hr
theorem w_neP {ty' : TypeId} {pos : String} {af : Array Edge} {dd : Option Tmp} {t ty : TypeId} {x y : Operand} {w w' : Bool} (hb : Is (isPtr P t) true) (hy : Is (evE e y) (.raw (.pointer none))) (hx : Is (evE e x) X) (hw : IsO (ptrNil X) w) (hw' : Is (!w) w') (hr : RunK P ops l (putE e dd (.raw (.bool w'))) h K) : RunK P ops (⟨dd, .binOp .neq t x y ty, ty', pos, af, none⟩ :: l) e h K :=
  v_neP rfl rfl hb hy hx hw hw' hr
theorem w_eqI {ty' : TypeId} {pos : String} {af : Array Edge} {dd : Option Tmp} {t ty : TypeId} {x : Operand} {w : Bool} (hb : Is (isIf P t) true) (hx : Is (evE e x) X) (hw : IsO (ifNil X) w) (hr : RunK P ops l (putE e dd (.raw (.bool w))) h K) : RunK P ops (⟨dd, .binOp .eql t x (.const .nilIface) ty, ty', pos, af, none⟩ :: l) e h K :=
  v_eqI rfl rfl hb hx hw hr
theorem w_neI {ty' : TypeId} {pos : String} {af : Array Edge} {dd : Option Tmp} {t ty : TypeId} {x : Operand} {w w' : Bool} (hb : Is (isIf P t) true) (hx : Is (evE e x) X) (hw : IsO (ifNil X) w) (hw' : Is (!w) w') (hr : RunK P ops l (putE e dd (.raw (.bool w'))) h K) : RunK P ops (⟨dd, .binOp .neq t x (.const .nilIface) ty, ty', pos, af, none⟩ :: l) e h K :=
  v_neI rfl rfl hb hx hw hw' hr
theorem w_un {ty' : TypeId} {pos : String} {af : Array Edge} {dd : Option Tmp} {op : UnOp} {t : TypeId} {x : Operand} {v w : Value} (hx : Is (evE e x) (.raw v)) (hw : IsO (unV op v) w) (hr : RunK P ops l (putE e dd (.raw w)) h K) : RunK P ops (⟨dd, .unOp op t x, ty', pos, af, none⟩ :: l) e h K :=
  v_un rfl rfl hx hw hr
theorem w_conv {ty' : TypeId} {pos : String} {af : Array Edge} {dd : Option Tmp} {s t : TypeId} {x : Operand} {v w : Value} (h1 : Is (isSl P s) false) (h2 : Is (isSl P t) false) (h3 : Is (P.underlying s).isSome true) (hx : Is (evE e x) (.raw v)) (hw : IsO (convV P t v) w) (hr : RunK P ops l (putE e dd (.raw w)) h K) : RunK P ops (⟨dd, .convert s t x, ty', pos, af, none⟩ :: l) e h K :=
  v_conv rfl rfl h1 h2 h3 hx hw hr
theorem w_bytesStr {ty' : TypeId} {pos : String} {af : Array Edge} {dd : Option Tmp} {s t el b : Nat} {x : Operand} {ys : List AV} {bs : List UInt8} (h1 : Is (isSl P s) true) (h2 : IsO (rowI P s) (el, 1, b)) (h3 : IsO (P.underlying el) (.int .u8)) (h4 : Is (isStr P t) true) (hx : Is (evE e x) X) (hy : IsO (rowOf h 1 X) ys) (hs : IsO (strOf ys) bs) (hr : RunK P ops l (putE e dd (.raw (.string ⟨bs.toArray⟩))) h K) : RunK P ops (⟨dd, .convert s t x, ty', pos, af, none⟩ :: l) e h K :=
  v_bytesStr rfl rfl h1 h2 h3 h4 hx hy hs hr
theorem w_sameSl {ty' : TypeId} {pos : String} {af : Array Edge} {dd : Option Tmp} {t el b id len : Nat} {x : Operand} {ys : List AV} (h1 : Is (isSl P t) true) (h2 : IsO (rowI P t) (el, 1, b)) (h3 : IsO (P.underlying el) (.int .u8)) (hx : Is (evE e x) (.ow id 1 0 len)) (hy : IsO (h id) (.arr 1 ys)) (h0 : 0 < len) (hr : RunK P ops l (putE e dd (.ow id 1 0 len)) h K) : RunK P ops (⟨dd, .convert t t x, ty', pos, af, none⟩ :: l) e h K :=
  v_sameSl rfl rfl h1 h2 h3 hx hy h0 hr
theorem w_strBytes {ty' : TypeId} {pos : String} {af : Array Edge} {s t el b q : Nat} {x : Operand} {c : ByteArray} (h1 : Is (isSl P s) false) (h1' : Is (isSl P t) true) (h2 : IsO (rowI P t) (el, 1, b)) (h3 : IsO (P.underlying el) (.int .u8)) (h4 : Is (isStr P s) true) (hx : Is (evE e x) (.raw (.string c))) (hq : Is (h q) none) (hr : RunK P ops l (putE e (some q) (.ow q 1 0 c.size)) (setH h q (.arr 1 (strCellsAV c))) K) : RunK P ops (⟨(some q), .convert s t x, ty', pos, af, none⟩ :: l) e h K :=
  v_strBytes rfl rfl h1 h1' h2 h3 h4 hx rfl hq hr
theorem w_index {ty' : TypeId} {pos : String} {af : Array Edge} {dd : Option Tmp} {t : TypeId} {x i : Operand} {b : ByteArray} {k : IntKind} {n : Int} {w : Int} (h1 : Is (isStr P t) true) (hx : Is (evE e x) (.raw (.string b))) (hi : Is (evE e i) (.raw (.int k n))) (h0 : 0 ≤ n) (hn : n < b.size) (hw : Is (byteAt b n) w) (hr : RunK P ops l (putE e dd (.raw (.int .u8 w))) h K) : RunK P ops (⟨dd, .index t x i, ty', pos, af, none⟩ :: l) e h K :=
  v_index rfl rfl h1 hx hi h0 hn hw hr
theorem w_sliceS {ty' : TypeId} {pos : String} {af : Array Edge} {dd : Option Tmp} {t : TypeId} {x : Operand} {lo hi : Option Operand} {b : ByteArray} {i k : Int} {w : ByteArray} (h9 : Is (isArr P t) false) (h1 : Is (isStr P t) true) (hx : Is (evE e x) (.raw (.string b))) (hl : IsO (BndV e lo 0) i) (hh : IsO (BndV e hi b.size) k) (h0 : 0 ≤ i) (h2 : i ≤ k) (h3 : k ≤ b.size) (hw : Is (b.extract i.toNat k.toNat) w) (hr : RunK P ops l (putE e dd (.raw (.string w))) h K) : RunK P ops (⟨dd, .slice t x lo hi none, ty', pos, af, none⟩ :: l) e h K :=
  v_sliceS rfl rfl h9 h1 hx hl hh h0 h2 h3 hw hr
theorem w_sliceR {ty' : TypeId} {pos : String} {af : Array Edge} {dd : Option Tmp} {t : TypeId} {x : Operand} {lo hi : Option Operand} {el sz b : Nat} {i k : Int} (h9 : Is (isArr P t) false) (h1 : Is (isStr P t) false) (ht : IsO (rowI P t) (el, sz, b)) (hx : Is (evE e x) X) (hl : IsO (BndV e lo 0) i) (hh : IsO (BndV e hi (lenOfAV X)) k) (h0 : 0 ≤ i) (h2 : i ≤ k) (hw : IsO (cutOf sz i.toNat k.toNat X) Y) (hr : RunK P ops l (putE e dd Y) h K) : RunK P ops (⟨dd, .slice t x lo hi none, ty', pos, af, none⟩ :: l) e h K :=
  v_sliceR rfl rfl h9 h1 ht hx hl hh h0 h2 hw hr
theorem w_sliceN {ty' : TypeId} {pos : String} {af : Array Edge} {dd : Option Tmp} {t : TypeId} {x : Operand} {lo hi : Option Operand} {el sz b : Nat} {i k : Int} (h9 : Is (isArr P t) false) (h1 : Is (isStr P t) false) (ht : IsO (rowI P t) (el, sz, b)) (hx : Is (evE e x) (.raw (.slice none 0 0))) (hl : IsO (BndV e lo 0) i) (hh : IsO (BndV e hi 0) k) (h0 : 0 ≤ i) (h2 : i ≤ k) (hk : k ≤ 0) (hr : RunK P ops l (putE e dd (.raw (.slice none 0 0))) h K) : RunK P ops (⟨dd, .slice t x lo hi none, ty', pos, af, none⟩ :: l) e h K :=
  v_sliceN rfl rfl h9 h1 ht hx hl hh h0 h2 hk hr
theorem w_indexAddr {ty' : TypeId} {pos : String} {af : Array Edge} {dd : Option Tmp} {t : TypeId} {x i : Operand} {el sz b : Nat} {k : IntKind} {n : Int} (ht : IsO (rowI P t) (el, sz, b)) (hx : Is (evE e x) X) (hi : Is (evE e i) (.raw (.int k n))) (h0 : 0 ≤ n) (hw : IsO (elemAt noHeap sz n.toNat X) Y) (hr : RunK P ops l (putE e dd Y) h K) : RunK P ops (⟨dd, .indexAddr t x i, ty', pos, af, none⟩ :: l) e h K :=
  v_indexAddr rfl rfl ht hx hi h0 hw hr
theorem w_idxArr {ty' : TypeId} {pos : String} {af : Array Edge} {dd : Option Tmp} {t : TypeId} {x i : Operand} {m sz : Nat} {k : IntKind} {n : Int} {id off z : Nat} (ht : IsO (arrI P t) (m, sz)) (hx : Is (evE e x) (.ptr id off)) (hi : Is (evE e i) (.raw (.int k n))) (h0 : 0 ≤ n) (h1 : n < (m : Int)) (hz : Is (off + n.toNat * sz) z) (hr : RunK P ops l (putE e dd (.ptr id z)) h K) : RunK P ops (⟨dd, .indexAddr t x i, ty', pos, af, none⟩ :: l) e h K :=
  v_idxArr rfl rfl ht hx hi h0 h1 hz hr
theorem w_sliceArr {ty' : TypeId} {pos : String} {af : Array Edge} {t : TypeId} {x : Operand} {lo : Option Operand} {m sz id q off len : Nat} {k : Int} {ys : List AV} (ht : IsO (arrI P t) (m, sz)) (hx : Is (evE e x) (.ptr id 0)) (hb : IsO (h id) (.box (.agg ys))) (hl : Is ys.length m) (hs : ∀ x ∈ ys, x.size = sz) (hq : Is (h q) none) (hlo : IsO (BndV e lo 0) k) (hk0 : 0 ≤ k) (hk : k < (m : Nat)) (ho1 : Is k.toNat off) (ho2 : Is (m - off) len) (hr : RunK P ops l (putE e (some q) (.ow q sz off len)) (setH (setH h id .dead) q (.arr sz ys)) K) : RunK P ops (⟨(some q), .slice t x lo none none, ty', pos, af, none⟩ :: l) e h K :=
  v_sliceArr rfl rfl ht hx hb hl hs rfl hq hlo hk0 hk ho1 ho2 hr
theorem w_makeSlice {ty' : TypeId} {pos : String} {af : Array Edge} {t : TypeId} {x y : Operand} {el sz b q m : Nat} {k k' : IntKind} {n c : Int} {z : AV} {ys : List AV} (ht : IsO (rowI P t) (el, sz, b)) (hx : Is (evE e x) (.raw (.int k n))) (hy : Is (evE e y) (.raw (.int k' c))) (h0 : 0 ≤ n) (h1 : n ≤ c) (h2 : c * b ≤ 140737488355328) (h3 : c ≤ 140737488355328) (hz : Is (zAV P 9 el) z) (hz1 : zeroIs P el z) (hsz : Is z.size sz) (hq : Is (h q) none) (hm : Is n.toNat m) (hys : Is (List.replicate m z) ys) (hr : RunK P ops l (putE e (some q) (.ow q sz 0 m)) (setH h q (.arr sz ys)) K) : RunK P ops (⟨(some q), .makeSlice t x y, ty', pos, af, none⟩ :: l) e h K :=
  v_makeSlice rfl rfl ht hx hy h0 h1 h2 h3 hz hz1 hsz rfl hq hm hys hr
theorem w_eqS {ty' : TypeId} {pos : String} {af : Array Edge} {dd : Option Tmp} {t ty : TypeId} {x y : Operand} {ds : List Eqd} {w : Bool} (ht : IsO (eqd P 9 t) (.st ds)) (hn : Is (guardless P t) true) (hx : Is (evE e x) X) (hy : Is (evE e y) Y) (hw : IsO (eqV (.st ds) X Y) w) (hr : RunK P ops l (putE e dd (.raw (.bool w))) h K) : RunK P ops (⟨dd, .binOp .eql t x y ty, ty', pos, af, none⟩ :: l) e h K :=
  v_eqS rfl rfl ht hn hx hy hw hr
theorem w_neS {ty' : TypeId} {pos : String} {af : Array Edge} {dd : Option Tmp} {t ty : TypeId} {x y : Operand} {ds : List Eqd} {w w' : Bool} (ht : IsO (eqd P 9 t) (.st ds)) (hn : Is (guardless P t) true) (hx : Is (evE e x) X) (hy : Is (evE e y) Y) (hw : IsO (eqV (.st ds) X Y) w) (hw' : Is (!w) w') (hr : RunK P ops l (putE e dd (.raw (.bool w'))) h K) : RunK P ops (⟨dd, .binOp .neq t x y ty, ty', pos, af, none⟩ :: l) e h K :=
  v_neS rfl rfl ht hn hx hy hw hw' hr
theorem w_build {ty' : TypeId} {pos : String} {af : Array Edge} {dd : Option Tmp} {t : TypeId} {ps : Array (Nat × Operand)} {zs ys : List AV} (hz : Is (zAV P 9 t) (.agg zs)) (hz1 : zeroIs P t (.agg zs)) (hl : layIs P t zs) (hy : IsO (setAll zs (pmap (evE e) ps)) ys) (hr : RunK P ops l (putE e dd (.agg ys)) h K) : RunK P ops (⟨dd, .build t ps, ty', pos, af, none⟩ :: l) e h K :=
  v_build rfl rfl hz hz1 hl hy hr
theorem w_buildSlice {ty' : TypeId} {pos : String} {af : Array Edge} {t : TypeId} {ps : Array (Nat × Operand)} {n el sz b q : Nat} {z : AV} {ys : List AV} (ht : IsO (rowI P t) (el, sz, b)) (hz : Is (zAV P 9 el) z) (hz1 : zeroIs P el z) (hsz : Is z.size sz) (hn : n * sz ≤ 16777216) (hy : IsO (setAll (List.replicate n z) (pmap (evE e) ps)) ys) (hq : Is (h q) none) (hr : RunK P ops l (putE e (some q) (.ow q sz 0 n)) (setH h q (.arr sz ys)) K) : RunK P ops (⟨(some q), .buildSlice t n ps, ty', pos, af, none⟩ :: l) e h K :=
  v_buildSlice rfl rfl ht hz hz1 hsz hn hy rfl hq hr
theorem w_asY {ty' : TypeId} {pos : String} {af : Array Edge} {dd : Option Tmp} {t xt : TypeId} {x : Operand} (ht : Is (isIface P t) false) (hx : Is (evE e x) (.ifc t X)) (hr : RunK P ops l (putE e dd (.tup [X, .raw (.bool true)])) h K) : RunK P ops (⟨dd, .typeAssert x xt t true, ty', pos, af, none⟩ :: l) e h K :=
  v_asY rfl rfl ht hx hr
theorem w_asN {ty' : TypeId} {pos : String} {af : Array Edge} {dd : Option Tmp} {t t' xt : TypeId} {x : Operand} {z : AV} (ht : Is (isIface P t) false) (hx : Is (evE e x) (.ifc t' X)) (hne : t' ≠ t) (hz : Is (zAV P 9 t) z) (hz1 : zeroIs P t z) (hr : RunK P ops l (putE e dd (.tup [z, .raw (.bool false)])) h K) : RunK P ops (⟨dd, .typeAssert x xt t true, ty', pos, af, none⟩ :: l) e h K :=
  v_asN rfl rfl ht hx hne hz hz1 hr
theorem w_as0 {ty' : TypeId} {pos : String} {af : Array Edge} {dd : Option Tmp} {t xt : TypeId} {x : Operand} {z : AV} (ht : Is (isIface P t) false) (hx : Is (evE e x) (.raw .nilIface)) (hz : Is (zAV P 9 t) z) (hz1 : zeroIs P t z) (hr : RunK P ops l (putE e dd (.tup [z, .raw (.bool false)])) h K) : RunK P ops (⟨dd, .typeAssert x xt t true, ty', pos, af, none⟩ :: l) e h K :=
  v_as0 rfl rfl ht hx hz hz1 hr
theorem w_as {ty' : TypeId} {pos : String} {af : Array Edge} {dd : Option Tmp} {t xt : TypeId} {x : Operand} (ht : Is (isIface P t) false) (hx : Is (evE e x) (.ifc t X)) (hr : RunK P ops l (putE e dd X) h K) : RunK P ops (⟨dd, .typeAssert x xt t false, ty', pos, af, none⟩ :: l) e h K :=
  v_as rfl rfl ht hx hr
theorem w_lenS {ty' : TypeId} {pos : String} {af : Array Edge} {dd : Option Tmp} {x : Operand} {t : TypeId} {b : ByteArray} (h1 : Is (isStr P t) true) (hx : Is (evE e x) (.raw (.string b))) (hr : RunK P ops l (putE e dd (.raw (.int .i64 b.size))) h K) : RunK P ops (⟨dd, .call { callee := .builtin .len, args := #[x], argTypes := #[t] }, ty', pos, af, none⟩ :: l) e h K :=
  v_lenS rfl rfl h1 hx hr
theorem w_lenR {ty' : TypeId} {pos : String} {af : Array Edge} {dd : Option Tmp} {x : Operand} {t el sz b : Nat} {xs : List AV} (h1 : Is (isStr P t) false) (ht : IsO (rowI P t) (el, sz, b)) (hx : Is (evE e x) X) (hy : IsO (rowOf h sz X) xs) {n : Nat} (hn : Is xs.length n) (hr : RunK P ops l (putE e dd (.raw (.int .i64 n))) h K) : RunK P ops (⟨dd, .call { callee := .builtin .len, args := #[x], argTypes := #[t] }, ty', pos, af, none⟩ :: l) e h K :=
  v_lenR rfl rfl h1 ht hx hy hn hr
theorem w_append {ty' : TypeId} {pos : String} {af : Array Edge} {x y : Operand} {t u el sz b q id len : Nat} {ys xs zs : List AV} {m : Nat} (ht : IsO (rowI P t) (el, sz, b)) (hx : Is (evE e x) (.ow id sz 0 len)) (hi : IsO (h id) (.arr sz xs)) (hY : Is (evE e y) Y) (hy : IsO (srcOf P h sz u Y) ys) (hq : Is (h q) none) (hl : len ≤ xs.length) (h1 : (len + ys.length) * b ≤ 140737488355328) (h2 : len + ys.length ≤ 140737488355328) (hz : Is (xs.take len ++ ys) zs) (hm : Is (len + ys.length) m) (hr : RunK P ops l (putE e (some q) (.ow q sz 0 m)) (setH (setH h id .dead) q (.arr sz zs)) K) : RunK P ops (⟨(some q), .call { callee := .builtin .append, args := #[x, y], argTypes := #[t, u] }, ty', pos, af, none⟩ :: l) e h K :=
  v_append rfl rfl ht hx hi hY hy rfl hq hl h1 h2 hz hm hr
theorem w_append0 {ty' : TypeId} {pos : String} {af : Array Edge} {x y : Operand} {t u el sz b q : Nat} {v : Value} {ys : List AV} {m : Nat} (ht : IsO (rowI P t) (el, sz, b)) (hx : Is (evE e x) (.raw v)) (hv : Is (nilSl v) true) (hY : Is (evE e y) Y) (hy : IsO (srcOf P h sz u Y) ys) (hq : Is (h q) none) (hne : ys ≠ []) (h1 : ys.length * b ≤ 140737488355328) (h2 : ys.length ≤ 140737488355328) (hm : Is ys.length m) (hr : RunK P ops l (putE e (some q) (.ow q sz 0 m)) (setH h q (.arr sz ys)) K) : RunK P ops (⟨(some q), .call { callee := .builtin .append, args := #[x, y], argTypes := #[t, u] }, ty', pos, af, none⟩ :: l) e h K :=
  v_append0 rfl rfl ht hx hv hY hy rfl hq hne h1 h2 hm hr
theorem w_copy {ty' : TypeId} {pos : String} {af : Array Edge} {dd : Option Tmp} {x y : Operand} {t u el sz b id off len : Nat} {ys xs zs : List AV} {m : Nat} (ht : IsO (rowI P t) (el, sz, b)) (hx : Is (evE e x) (.ow id sz off len)) (hi : IsO (h id) (.arr sz xs)) (hY : Is (evE e y) Y) (hy : IsO (rowOf h sz Y) ys) (hl : off + len ≤ xs.length) (hm : Is (min ys.length len) m) (hz : Is (xs.take off ++ ys.take m ++ xs.drop (off + m)) zs) (hr : RunK P ops l (putE e dd (.raw (.int .i64 m))) (setH h id (.arr sz zs)) K) : RunK P ops (⟨dd, .call { callee := .builtin .copy, args := #[x, y], argTypes := #[t, u] }, ty', pos, af, none⟩ :: l) e h K :=
  v_copy rfl rfl ht hx hi hY hy hl hm hz hr
theorem w_min {ty' : TypeId} {pos : String} {af : Array Edge} {dd : Option Tmp} {args : Array Operand} {ats : Array TypeId} {c : Call} (hx : IsO (minV (args.toList.map (evE e))) X) (hr : RunK P ops l (putE e dd X) h K) : RunK P ops (⟨dd, .call ⟨.builtin .min, args, ats⟩, ty', pos, af, none⟩ :: l) e h K :=
  v_min rfl rfl rfl hx hr
theorem w_max {ty' : TypeId} {pos : String} {af : Array Edge} {dd : Option Tmp} {args : Array Operand} {ats : Array TypeId} {c : Call} (hx : IsO (maxV (args.toList.map (evE e))) X) (hr : RunK P ops l (putE e dd X) h K) : RunK P ops (⟨dd, .call ⟨.builtin .max, args, ats⟩, ty', pos, af, none⟩ :: l) e h K :=
  v_max rfl rfl rfl hx hr
theorem w_call0 {ty' : TypeId} {pos : String} {af : Array Edge} {dd : Option Tmp} {args : Array Operand} {ats : Array TypeId} (hp : Is (plainCall P ⟨.value x, args, ats⟩) true) (hsl : Is (isSl P ty') false) (ha : IsO (argsOf (evE e) x args) (f, xs)) (hf : Is (isFn P f) true) (hn : Is (AV.noids xs) true) (hcall : CallD P f xs noHeap r noHeap) (hr : RunK P ops l (putE e dd r) h K) : RunK P ops (⟨dd, .call ⟨.value x, args, ats⟩, ty', pos, af, none⟩ :: l) e h K :=
  v_call0 rfl rfl rfl hp hsl ha hf hn hcall hr
theorem w_callN {ty' : TypeId} {pos : String} {af : Array Edge} {args : Array Operand} {ats : Array TypeId} {q : Nat} (hp : Is (plainCall P ⟨.value x, args, ats⟩) true) (hsl : Is (isSl P ty') true) (ha : IsO (argsOf (evE e) x args) (f, xs)) (hf : Is (isFn P f) true) (hn : Is (AV.noids xs) true) (hq : Is (h q) none) (hcall : CallD P f xs noHeap r noHeap) (hr : RunK P ops l (putE e (some q) r) (setH h q .dead) K) : RunK P ops (⟨(some q), .call ⟨.value x, args, ats⟩, ty', pos, af, none⟩ :: l) e h K :=
  v_callN rfl rfl rfl rfl hp hsl ha hf hn hq hcall hr
theorem w_callO {ty' : TypeId} {pos : String} {af : Array Edge} {args : Array Operand} {ats : Array TypeId} {q sz n : Nat} {ys : List AV} (hp : Is (plainCall P ⟨.value x, args, ats⟩) true) (hsl : Is (isSl P ty') true) (ha : IsO (argsOf (evE e) x args) (f, xs)) (hf : Is (isFn P f) true) (hn : Is (AV.noids xs) true) (hq : Is (h q) none) (hcall : CallD P f xs noHeap (.ow 99999 sz 0 n) (setH noHeap 99999 (.arr sz ys))) (hy : Is (AV.noids ys) true) (hr : RunK P ops l (putE e (some q) (.ow q sz 0 n)) (setH h q (.arr sz ys)) K) : RunK P ops (⟨(some q), .call ⟨.value x, args, ats⟩, ty', pos, af, none⟩ :: l) e h K :=
  v_callO rfl rfl rfl rfl hp hsl ha hf hn hq hcall hy hr
theorem w_callS {ty' : TypeId} {pos : String} {af : Array Edge} {dd : Option Tmp} {args : Array Operand} {ats : Array TypeId} {hs hs' g : Hp} {ys : List AV} (hp : Is (plainCall P ⟨.value x, args, ats⟩) false) (ha : IsO (argsOf (evE e) x args) (f, xs)) (hf : Is (isFn P f) true) (hfr : Is (frzA h (AV.rowsOfs xs)) g) (hys : Is (AV.deeps g xs) ys) (h1 : ∀ id ob, hs id = some ob → g id = some ob ∧ ob.within hs = true) (h2 : Is (AV.withins hs ys) true) (hcall : CallD P f ys hs r hs') (h3 : ∀ id, (hs' id).isSome = true → (hs id).isSome = true ∨ g id = none) (h4 : Is (backH g hs hs') h') (htc : touch dd xs hs hs') (hr : RunK P ops l (putE e dd r) h' K) : RunK P ops (⟨dd, .call ⟨.value x, args, ats⟩, ty', pos, af, none⟩ :: l) e h K :=
  v_callS rfl rfl rfl hp ha hf hfr hys h1 h2 hcall h3 h4 htc hr
theorem w_callL {ty' : TypeId} {pos : String} {af : Array Edge} {dd : Option Tmp} {args : Array Operand} {ats : Array TypeId} {ys : List AV} {g : Hp} (hp : Is (plainCall P ⟨.value x, args, ats⟩) false) (ha : IsO (argsOf (evE e) x args) (f, xs)) (hf : Is (isFn P f) true) (hfr : Is (frzA h (AV.rowsOfs xs)) g) (hs : Is (AV.deeps g xs) ys) (hn : Is (AV.noids ys) true) (hcall : CallD P f ys noHeap r noHeap) (hfl : Is r.flat true) (hr : RunK P ops l (putE e dd r) h K) : RunK P ops (⟨dd, .call ⟨.value x, args, ats⟩, ty', pos, af, none⟩ :: l) e h K :=
  v_callL rfl rfl rfl hp ha hf hfr hs hn hcall hfl hr
theorem w_callF {ty' : TypeId} {pos : String} {af : Array Edge} {dd : Option Tmp} {args : Array Operand} {ats : Array TypeId} {ys : List AV} {g : Hp} (hp : Is (plainCall P ⟨.value x, args, ats⟩) false) (ha : IsO (argsOf (evE e) x args) (f, xs)) (hf : Is (isFn P f) true) (hfr : Is (frzA h (AV.rowsOfs xs)) g) (hs : Is (AV.deeps g xs) ys) (hn : Is (AV.noids ys) true) (hcall : CallD P f ys noHeap r noHeap) (hr : RunK P ops l (putE e dd r) g K) : RunK P ops (⟨dd, .call ⟨.value x, args, ats⟩, ty', pos, af, none⟩ :: l) e h K :=
  v_callF rfl rfl rfl hp ha hf hfr hs hn hcall hr
theorem w_callR {ty' : TypeId} {pos : String} {af : Array Edge} {args : Array Operand} {ats : Array TypeId} {ys zs : List AV} {g : Hp} {q sz n : Nat} (hp : Is (plainCall P ⟨.value x, args, ats⟩) false) (ha : IsO (argsOf (evE e) x args) (f, xs)) (hf : Is (isFn P f) true) (hfr : Is (frzA h (AV.rowsOfs xs)) g) (hs : Is (AV.deeps g xs) ys) (hn : Is (AV.noids ys) true) (hq : Is (g q) none) (hcall : CallD P f ys noHeap (.ow 99999 sz 0 n) (setH noHeap 99999 (.arr sz zs))) (hz : Is (AV.noids zs) true) (hr : RunK P ops l (putE e (some q) (.ow q sz 0 n)) (setH g q (.arr sz zs)) K) : RunK P ops (⟨(some q), .call ⟨.value x, args, ats⟩, ty', pos, af, none⟩ :: l) e h K :=
  v_callR rfl rfl rfl rfl hp ha hf hfr hs hn hq hcall hz hr
theorem w_gT {ty' : TypeId} {pos : String} {af : Array Edge} {dd : Option Tmp} {op : Op} {j : Nat} {w : Bool} {t : Tmp} (ht : (ops[j]?).bind (·.dst) = some t) (he : Is (e t) (.raw (.bool w))) (hr : RunK P ops (⟨dd, op, ty', pos, af, none⟩ :: l) e h K) : RunK P ops (⟨dd, op, ty', pos, af, some (j, w)⟩ :: l) e h K :=
  v_gT rfl ht he hr
theorem w_gF {ty' : TypeId} {pos : String} {af : Array Edge} {dd : Option Tmp} {op : Op} {j : Nat} {w : Bool} {t : Tmp} (ht : (ops[j]?).bind (·.dst) = some t) (he : Is (e t) (.raw (.bool (!w)))) (hr : RunK P ops l (putE e dd (.raw undef)) h K) : RunK P ops (⟨dd, op, ty', pos, af, some (j, w)⟩ :: l) e h K :=
  v_gF rfl ht he hr
theorem w_gB {ty' : TypeId} {pos : String} {af : Array Edge} {dd : Option Tmp} {op : Op} {j : Nat} {w b : Bool} {t : Tmp} (ht : (ops[j]?).bind (·.dst) = some t) (he : Is (e t) (.raw (.bool b))) (hT : b = true → RunK P ops (⟨dd, op, ty', pos, af, some (j, w)⟩ :: l) (putE e (some t) (.raw (.bool true))) h K) (hF : b = false → RunK P ops (⟨dd, op, ty', pos, af, some (j, w)⟩ :: l) (putE e (some t) (.raw (.bool false))) h K) : RunK P ops (⟨dd, op, ty', pos, af, some (j, w)⟩ :: l) e h K :=
  v_gB rfl ht he hT hF
/-! Scopes -/
def NoGo (Q : Exit → St → Prop) : Exit → St → Prop
  | .goto _, _ => False
  | e, σ => Q e σ
theorem awp_scope {y : Code} (hy : AWP P nt y (NoGo Q) σ) : AWP P nt (.scope y) Q σ := by
  intro C0 C a he hs
  refine wp_scope_straight (wp_mono (hy C0 C a he hs) ?_)
  rintro e' a' w' ⟨σ', C', hw, q, ex, sat⟩
  cases e' with
  | goto l => exact q.elim
  | _ => exact ⟨σ', C', hw, q, ex, sat⟩
theorem ng_n (hh : Q .normal σ) : NoGo Q .normal σ := hh
theorem ng_r (hh : Q .ret σ) : NoGo Q .ret σ := hh
theorem ng_e {id : Nat} (hh : Q (.exit id) σ) : NoGo Q (.exit id) σ := hh
theorem awp_regL {id : Nat} {ls : List Oper} (depth : Nat) (hm : P.follows .mixedOrders = true) (hok : okRegion (sys P) nt ls.toArray depth = true)
    (hh : ∀ K : (Nat → AV) → Hp → Prop, (∀ e h, Q .normal ⟨e, h⟩ → K e h) → RunK P ls.toArray ls e h K) : AWP P nt (.region id ls.toArray false) Q ⟨e, h⟩ :=
  awp_reg depth hm hok (hh _ fun _ _ x => x)
theorem awp_regAL {id : Nat} {ls : List Oper} (an : List (Tmp × Option Nat)) (depth : Nat) (hm : P.follows .mixedOrders = true) (hok : okRegion (sysA P (annL an)) nt ls.toArray depth = true) (honce : once ls.toArray = true)
    (hh : ∀ K : (Nat → AV) → Hp → Prop, (∀ e h, (∀ p ∈ an, (e p.1).top = p.2) → Q .normal ⟨e, h⟩ → K e h) → RunK P ls.toArray ls e h K) : AWP P nt (.region id ls.toArray true) Q ⟨e, h⟩ :=
  awp_regA an depth hm hok honce (hh _ fun _ _ x y => ⟨x, y⟩)
/-! Temporaries at a loop's head -/
def envA : List (Nat × AV) → Nat → AV
  | [], _ => .any
  | (u, v) :: l, t => if t = u then v else envA l t
@[simp] theorem envA_nil {t : Nat} : envA [] t = .any := rfl
@[simp] theorem envA_cons {u t : Nat} {v : AV} {l : List (Nat × AV)} : envA ((u, v) :: l) t = if t = u then v else envA l t := rfl
theorem envA_weak : ∀ {l : List (Nat × AV)} {e : Nat → AV}, (∀ p ∈ l, e p.1 = p.2) → ∀ t, envA l t = .any ∨ envA l t = e t
  | [], _, _, _ => .inl rfl
  | (u, v) :: l, e, hl, t => by
    simp only [envA]
    split
    · rename_i ht; subst ht; exact .inr (hl (t, v) (by simp)).symm
    · exact envA_weak (fun p hp => hl p (by simp [hp])) t
/-- Forgetting all temporaries but these. -/
theorem awp_forget {y : Code} (l : List (Nat × AV)) (hl : ∀ p ∈ l, e p.1 = p.2) (hy : AWP P nt y Q ⟨envA l, h⟩) : AWP P nt y Q ⟨e, h⟩ :=
  AWP.weak (σ2 := ⟨envA l, h⟩) (Weak.env (σ := ⟨e, h⟩) (σ2 := ⟨envA l, h⟩) (envA_weak hl) rfl) hy
end Go.Proofs.YtngeckkebejhiaaDoor.Asl
