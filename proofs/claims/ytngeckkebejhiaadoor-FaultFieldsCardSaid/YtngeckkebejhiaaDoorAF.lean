/- Operations that make no row, the rest: numbers, texts, interface values, zero values, structs built. -/
import Derived.Test.YtngeckkebejhiaaDoorAE
import Derived.Laws.Strings
namespace Go.Proofs.YtngeckkebejhiaaDoor.Asl
open Go Go.RowKit
set_option linter.unusedVariables false
variable {P : Program} {nt : Nat} {C : Cx} {σ : St} {a : Act} {o : Oper}

theorem toList_inj {x y : ByteArray} (h : x.toList = y.toList) : x = y := by
  rw [ByteArray.toList_eq, ByteArray.toList_eq] at h
  exact ByteArray.ext (Array.toList_inj.1 h)
theorem beq_str (x y : ByteArray) : (x.toList == y.toList) = decide (x = y) := by
  rw [Bool.eq_iff_iff, beq_iff_eq, decide_eq_true_iff]
  exact ⟨toList_inj, fun h => by rw [h]⟩
/-- A text lies ahead of another one. -/
def sless (x y : ByteArray) : Bool := Op.bytesLess x.toList y.toList

theorem snd_move (s : Sat nt C σ a) {x : Operand} (ho : o.op = .move x ∨ o.op = .assign x) : Res P nt C σ a o (evE σ.env x) σ.heap := by
  refine .mk s (v := a.eval x) ?_ (s.ev x)
  rcases ho with ho | ho <;> simp [execOp, ho]
theorem snd_pick (s : Sat nt C σ a) {c x y : Operand} (ho : o.op = .pick c x y) {b : Bool} (hc : evE σ.env c = .raw (.bool b)) : Res P nt C σ a o (if b then evE σ.env x else evE σ.env y) σ.heap := by
  have h := s.raw hc
  cases b
  · exact .mk s (v := a.eval y) (by simp [execOp, ho, h, asBool]) (s.ev y)
  · exact .mk s (v := a.eval x) (by simp [execOp, ho, h, asBool]) (s.ev x)
def ptrLike : AV → Bool
  | .ptr .. | .ep .. | .fp _ | .ifc .. => true
  | _ => false
theorem snd_nilCheck (s : Sat nt C σ a) {x : Operand} (ho : o.op = .nilCheck x) (hx : ptrLike (evE σ.env x) = true) : Res P nt C σ a o (evE σ.env x) σ.heap := by
  have h := s.ev x
  refine .mk s (v := a.eval x) ?_ h
  generalize evE σ.env x = y at h hx
  generalize hv : a.eval x = v at h
  cases y <;> simp [ptrLike] at hx <;> cases h <;> simp [execOp, ho, hv]
theorem snd_extract (s : Sat nt C σ a) {x : Operand} {i : Nat} (ho : o.op = .extract x i) {l : List AV} {r : AV} (hx : evE σ.env x = .tup l) (hi : l[i]? = some r) : Res P nt C σ a o r σ.heap := by
  have h := s.ev x
  rw [hx] at h
  obtain ⟨vs, hv, hvs⟩ := h.tup_inv
  obtain ⟨v, h1, h2⟩ := hvs.at hi
  exact .mk s (v := v) (by simp [execOp, ho, Instr.extract, hv, h1]) h2
def isIface (P : Program) (t : TypeId) : Bool := match P.underlying t with | some (.interface _) => true | none => true | _ => false
theorem isIface_not {t : TypeId} (h : isIface P t = false) : ∃ d, P.underlying t = some d ∧ ∀ m, d ≠ .interface m := by
  unfold isIface at h
  split at h
  · cases h
  · cases h
  · rename_i h1 h2
    cases hd : P.underlying t with
    | none => exact absurd hd h2
    | some d => exact ⟨d, rfl, fun m e => h1 m (by rw [hd, e])⟩
theorem snd_makeInterface (s : Sat nt C σ a) {t : TypeId} {x : Operand} (ho : o.op = .makeInterface t x) (ht : isIface P t = false) : Res P nt C σ a o (.ifc t (evE σ.env x)) σ.heap := by
  obtain ⟨d, hd, hn⟩ := isIface_not ht
  refine .mk s (v := .iface t (a.eval x)) ?_ (.ifc (s.ev x))
  cases d <;> first | exact absurd rfl (hn _) | simp [execOp, ho, Instr.makeInterface, underlying, program, Sem.run, hd]
theorem snd_makeFunc (s : Sat nt C σ a) {f : Fn} {first cap : Array Operand} (ho : o.op = .makeFunc f first cap) : Res P nt C σ a o (.fn f (first.toList.map (evE σ.env)) (cap.toList.map (evE σ.env))) σ.heap := by
  refine .mk s (v := .func f (first.map a.eval) (cap.map a.eval)) (by simp [execOp, ho, Instr.makeFunc]) ?_
  have h1 := s.evs first.toList
  have h2 := s.evs cap.toList
  have e1 : first.map a.eval = (first.toList.map a.eval).toArray := by rw [← Array.toList_map]
  have e2 : cap.map a.eval = (cap.toList.map a.eval).toArray := by rw [← Array.toList_map]
  rw [e1, e2]
  exact .fn h1 h2

/-! ### Zero values -/
mutual
def AV.cellsOf : AV → Option (List Value)
  | .raw v => if (AV.raw v).one then some [v] else none
  | .agg l => AV.cellsOfs l
  | _ => none
def AV.cellsOfs : List AV → Option (List Value)
  | [] => some []
  | x :: l => match x.cellsOf, AV.cellsOfs l with
    | some c, some d => some (c ++ d)
    | _, _ => none
end
mutual
theorem RC.of_cells {C : Cx} : ∀ {x : AV} {cs : List Value}, x.cellsOf = some cs → RC C x cs
  | .raw v, cs, h => by
    rw [AV.cellsOf] at h
    split at h
    · rename_i h1; cases h; exact .one (.raw v) h1
    · cases h
  | .agg l, cs, h => .agg (RCs.of_cells (by rw [AV.cellsOf] at h; exact h))
  | .any, cs, h => by cases h
  | .tup l, cs, h => by cases h
  | .sl sz l, cs, h => by cases h
  | .fp x, cs, h => by cases h
  | .ptr _ _, cs, h => by cases h
  | .ep _ _ _ _, cs, h => by cases h
  | .ow _ _ _ _, cs, h => by cases h
  | .ifc _ _, cs, h => by cases h
  | .fn _ _ _, cs, h => by cases h
theorem RCs.of_cells {C : Cx} : ∀ {l : List AV} {cs : List Value}, AV.cellsOfs l = some cs → RCs C l cs
  | [], cs, h => by simp [AV.cellsOfs] at h; subst h; exact .nil
  | x :: l, cs, h => by
    rw [AV.cellsOfs] at h
    split at h
    · rename_i c d h1 h2
      cases h
      exact .cons (RC.of_cells h1) (RCs.of_cells h2)
    · cases h
end
/-- What a type's zero value reads as. -/
def zAV (P : Program) : Nat → TypeId → AV
  | 0, _ => .any
  | k + 1, t => match P.underlying t with
    | some (.struct fs) => .agg (fs.toList.map fun f => zAV P k f.type)
    | some (.array n e) => .agg (List.replicate n (zAV P k e))
    | _ => match (P.info? t).bind (·.zero) with
      | some v => .raw v
      | none => .any
def zeroIs (P : Program) (t : TypeId) (z : AV) : Prop := ∃ v, (P.info? t).bind (·.zero) = some v ∧ ((z = .raw v ∧ z.one = true) ∨ ∃ l cs, z = .agg l ∧ v = .agg cs ∧ AV.cellsOfs l = some cs.toList)
theorem zeroIs.run {t : TypeId} {z : AV} (h : zeroIs P t z) (w : World) : ∃ v, (zeroValue t).run P w = .ok v w ∧ RV C z v ∧ (z.isAgg = true ∨ z.one = true) := by
  obtain ⟨v, hv, hz⟩ := h
  obtain ⟨i, hi, hz2⟩ := Option.bind_eq_some_iff.1 hv
  refine ⟨v, by simp [zeroValue, typeInfo, program, Sem.run, hi, hz2], ?_⟩
  rcases hz with ⟨rfl, h1⟩ | ⟨l, cs, rfl, rfl, hc⟩
  · exact ⟨.raw v, .inr h1⟩
  · exact ⟨.agg (cs := cs.toList) (RCs.of_cells hc), .inl rfl⟩
theorem snd_alloc (s : Sat nt C σ a) {t : TypeId} (ho : o.op = .alloc t) {d : Nat} {z : AV} (hd : σ.heap d = none) (hz : zeroIs P t z) : Res P nt C σ a o (.ptr d 0) (setH σ.heap d (.box z)) := by
  obtain ⟨v, hrun, hv, h1⟩ := hz.run (C := C) C.W
  have hc := hv.cells h1
  have hg := Grow.alloc C.W (.cells v.cells t)
  refine ⟨_, .pointer (some ⟨C.W.heap.size, 0, none⟩), newC C (C.W.alloc (.cells v.cells t)) d 0, ?_, .inl rfl, newC_ext s.heap hg hd 0, ?_, .ptr (T := 0) (by simp [newC])⟩
  · simp [execOp, ho, Instr.alloc, hrun, newVar, newRow, newObj, Sem.run, newC]
  · refine new_sat s hd hg ⟨C.W.heap.size, 0, v.cells, t, by simp [newC], .inr rfl, ?_, hc.up (newC_up s.heap hg hd)⟩
    show (C.W.heap.push _)[C.W.heap.size]? = _
    simp

/-! ### Numbers, truths, texts -/
def binV (op : BinOp) : Value → Value → Option Value
  | .int k x, .int k' y => match op with
    | .shl => if y < 0 then none else some (.int k (k.wrap (x * 2 ^ (min y.toNat k.bits))))
    | .shr => if y < 0 then none else some (.int k (x.fdiv (2 ^ (min y.toNat k.bits))))
    | .add => if k = k' then some (.int k (k.wrap (x + y))) else none
    | .sub => if k = k' then some (.int k (k.wrap (x - y))) else none
    | .mul => if k = k' then some (.int k (k.wrap (x * y))) else none
    | .quo => if k = k' ∧ y ≠ 0 then some (.int k (k.wrap (x.tdiv y))) else none
    | .rem => if k = k' ∧ y ≠ 0 then some (.int k (x.tmod y)) else none
    | .and => if k = k' then some (.int k (k.wrap ((BitVec.ofInt k.bits x) &&& (BitVec.ofInt k.bits y)).toNat)) else none
    | .or => if k = k' then some (.int k (k.wrap ((BitVec.ofInt k.bits x) ||| (BitVec.ofInt k.bits y)).toNat)) else none
    | .xor => if k = k' then some (.int k (k.wrap ((BitVec.ofInt k.bits x) ^^^ (BitVec.ofInt k.bits y)).toNat)) else none
    | .eql => if k = k' then some (.bool (decide (x = y))) else none
    | .neq => if k = k' then some (.bool (!decide (x = y))) else none
    | .lss => if k = k' then some (.bool (decide (x < y))) else none
    | .leq => if k = k' then some (.bool (decide (x ≤ y))) else none
    | .gtr => if k = k' then some (.bool (decide (y < x))) else none
    | .geq => if k = k' then some (.bool (decide (y ≤ x))) else none
    | _ => none
  | .string x, .string y => match op with
    | .add => if x.size + y.size ≤ 9223372036854775807 then some (.string (x ++ y)) else none
    | .eql => some (.bool (decide (x = y)))
    | .neq => some (.bool (!decide (x = y)))
    | .lss => some (.bool (sless x y))
    | .gtr => some (.bool (sless y x))
    | .leq => some (.bool (!sless y x))
    | .geq => some (.bool (!sless x y))
    | _ => none
  | _, _ => none

theorem less_flip : ∀ a b : List UInt8, (!(Op.bytesLess a b || a == b)) = Op.bytesLess b a
  | [], [] => rfl
  | [], y :: b => by simp [Op.bytesLess]
  | x :: a, [] => by simp [Op.bytesLess]
  | x :: a, y :: b => by
    have ih := less_flip a b
    simp only [Op.bytesLess]
    by_cases h : x = y
    · subst h
      rw [← ih]
      simp
    · have h1 : (x == y) = false := by simp [h]
      have h2 : (y == x) = false := by simp [Ne.symm h]
      have h3 : (x :: a == y :: b) = false := by simp [h]
      rw [h1, h2, h3]
      simp only [Bool.false_and, Bool.or_false]
      rcases UInt8.lt_or_lt_of_ne h with h4 | h4
      · have h5 : ¬ y < x := fun h6 => UInt8.lt_asymm h4 h6
        simp [h4, h5]
      · have h5 : ¬ x < y := fun h6 => UInt8.lt_asymm h4 h6
        simp [h4, h5]

theorem beq_int (x y : Int) : (x == y) = decide (x = y) := by rw [Bool.eq_iff_iff]; simp
theorem bin_run (op : BinOp) (t : TypeId) (x y : Value) {v : Value} (h : binV op x y = some v) (w : World) : (binOp op t x y).run P w = .ok v w := by
  unfold binV at h
  split at h
  · rename_i k x k' y
    cases op <;> simp only [reduceCtorEq] at h <;>
      first
        | (split at h
           · cases h
           · rename_i hn; cases h; simp [binOp, Op.shift, hn])
        | (split at h
           · rename_i hk
             cases h
             obtain ⟨rfl, h0⟩ := hk
             simp [binOp, Op.intDiv, h0]
           · cases h)
        | (split at h
           · rename_i hk
             cases h
             subst hk
             simp [binOp, Op.intArith, Op.intBits, Op.intCmp, beq_int, bne]
           · cases h)
  · rename_i x y
    cases op <;> simp only [reduceCtorEq, Option.some.injEq] at h
    case add =>
      split at h
      · rename_i hk
        cases h
        have : ¬ (((x.size + y.size : Nat) : Int) > IntKind.i64.max) := by simp [IntKind.max, IntKind.bits, IntKind.signed]; omega
        simp [binOp, Op.stringOp, IntKind.max, IntKind.bits, IntKind.signed] at this ⊢
        omega
      · cases h
    case eql => subst h; simp [binOp, Op.stringOp, beq_str]
    case neq => subst h; simp [binOp, Op.stringOp, beq_str]
    case lss => subst h; simp [binOp, Op.stringOp, sless]
    case gtr => subst h; rw [show sless y x = _ from (less_flip x.toList y.toList).symm]; simp [binOp, Op.stringOp]
    case leq => subst h; rw [show sless y x = _ from (less_flip x.toList y.toList).symm]; simp [binOp, Op.stringOp]
    case geq => subst h; simp [binOp, Op.stringOp, sless]
  · cases h
theorem binV_noguard {op : BinOp} {t : TypeId} {x y : Operand} {v u r : Value} (h : binV op v u = some r) (w : World) : (eqGuard op t x y v u).run P w = .ok () w := by
  cases v <;> cases u <;> first | (simp [binV] at h; done) | (cases op <;> rfl)
theorem snd_binOp (s : Sat nt C σ a) {op : BinOp} {t ty : TypeId} {x y : Operand} (ho : o.op = .binOp op t x y ty) {v u r : Value} (hx : evE σ.env x = .raw v) (hy : evE σ.env y = .raw u) (h : binV op v u = some r) : Res P nt C σ a o (.raw r) σ.heap := by
  refine .mk s (v := r) ?_ (.raw r)
  simp [execOp, ho, s.raw hx, s.raw hy, binV_noguard h, bin_run op t v u h]
def isBool (P : Program) (t : TypeId) : Bool := match P.underlying t with | some .bool => true | _ => false
theorem snd_boolEq (s : Sat nt C σ a) {op : BinOp} {t ty : TypeId} {x y : Operand} (ho : o.op = .binOp op t x y ty) {v u : Bool} (hx : evE σ.env x = .raw (.bool v)) (hy : evE σ.env y = .raw (.bool u)) (ht : isBool P t = true) :
    (op = .eql → Res P nt C σ a o (.raw (.bool (v == u))) σ.heap) ∧ (op = .neq → Res P nt C σ a o (.raw (.bool (!(v == u)))) σ.heap) := by
  have hu : P.underlying t = some .bool := by
    unfold isBool at ht; split at ht
    · assumption
    · cases ht
  have he : ∀ w, (Op.equal t (.bool v) (.bool u)).run P w = .ok (v == u) w := by
    intro w
    have : ∀ d, (Op.equalIn (d + 1) t (.bool v) (.bool u)).run P w = .ok (v == u) w := by
      intro d
      simp [Op.equalIn, underlying, program, Sem.run, hu]
    exact this 9999
  refine ⟨?_, ?_⟩ <;> rintro rfl
  · exact .mk s (v := .bool (v == u)) (by simp [execOp, ho, s.raw hx, s.raw hy, eqGuard, binOp, he]) (.raw _)
  · exact .mk s (v := .bool (!(v == u))) (by simp [execOp, ho, s.raw hx, s.raw hy, eqGuard, binOp, he]) (.raw _)
def unV (op : UnOp) : Value → Option Value
  | .int k x => match op with
    | .neg => some (.int k (k.wrap (0 - x)))
    | .xor => some (.int k (k.wrap ((BitVec.ofInt k.bits (if k.signed then -1 else k.max)) ^^^ (BitVec.ofInt k.bits x)).toNat))
    | _ => none
  | .bool b => match op with
    | .not => some (.bool !b)
    | _ => none
  | _ => none
theorem snd_unOp (s : Sat nt C σ a) {op : UnOp} {t : TypeId} {x : Operand} (ho : o.op = .unOp op t x) {v r : Value} (hx : evE σ.env x = .raw v) (h : unV op v = some r) : Res P nt C σ a o (.raw r) σ.heap := by
  refine .mk s (v := r) ?_ (.raw r)
  cases v <;> cases op <;> simp [unV] at h <;> subst h <;> simp [execOp, ho, s.raw hx, Op.unary, Op.intArith, Op.intBits]
def convV (P : Program) (dst : TypeId) : Value → Option Value
  | .int _ n => match P.underlying dst with
    | some (.int k) => some (.int k (k.wrap n))
    | _ => none
  | .string s => match P.underlying dst with
    | some .string => some (.string s)
    | _ => none
  | _ => none
theorem snd_convert (s : Sat nt C σ a) {src dst : TypeId} {x : Operand} (ho : o.op = .convert src dst x) {v r : Value} (hs : (P.underlying src).isSome = true) (hx : evE σ.env x = .raw v) (h : convV P dst v = some r) : Res P nt C σ a o (.raw r) σ.heap := by
  refine .mk s (v := r) ?_ (.raw r)
  obtain ⟨d, hd⟩ := Option.isSome_iff_exists.1 hs
  cases v <;> simp only [convV, reduceCtorEq] at h
  · split at h
    · rename_i k hk
      cases h
      simp [execOp, ho, s.raw hx, convert, underlying, program, Sem.run, hd, hk, Conv.intToInt]
    · cases h
  · split at h
    · rename_i hk
      cases h
      simp [execOp, ho, s.raw hx, convert, underlying, program, Sem.run, hd, hk]
    · cases h

/-! ### Texts -/
def isStr (P : Program) (t : TypeId) : Bool := match P.underlying t with | some .string => true | _ => false
theorem isStr_at {t : TypeId} (h : isStr P t = true) : P.underlying t = some .string := by
  unfold isStr at h; split at h
  · assumption
  · cases h
/-- The byte at a place. -/
def byteAt (x : ByteArray) (i : Int) : Int := ((x.data.toList[i.toNat]?).map fun b => (b.toNat : Int)).getD 0
theorem snd_index (s : Sat nt C σ a) {t : TypeId} {x i : Operand} (ho : o.op = .index t x i) {k : IntKind} {n : Int} {b : ByteArray} (ht : isStr P t = true) (hx : evE σ.env x = .raw (.string b)) (hi : evE σ.env i = .raw (.int k n)) (h0 : 0 ≤ n) (h1 : n < b.size) : Res P nt C σ a o (.raw (.int .u8 (byteAt b n))) σ.heap := by
  refine .mk s (v := .int .u8 (byteAt b n)) ?_ (.raw _)
  have hlt : n.toNat < b.size := by omega
  have hb : b[n.toNat]? = some b[n.toNat] := by simp [hlt]
  have hd : byteAt b n = b[n.toNat].toNat := by
    unfold byteAt
    have : b.data.toList[n.toNat]? = some b[n.toNat] := by
      rw [Array.getElem?_toList, Array.getElem?_eq_getElem (by exact hlt)]; rfl
    rw [this]; rfl
  simp [execOp, ho, s.raw hx, s.raw hi, Instr.index, asIntOf, underlying, program, Sem.run, isStr_at ht, h0, hb, hd]
/-- The bounds of a cut, told as numbers. -/
def Bnd (e : Operand → AV) (y : Option Operand) (dflt : Int) (n : Int) : Prop := match y with
  | none => n = dflt
  | some y => ∃ k, e y = .raw (.int k n)
theorem bounds_run (s : Sat nt C σ a) {lo hi : Option Operand} {len cap : Nat} {isS : Bool} {l h : Int} (hlo : Bnd (evE σ.env) lo 0 l) (hhi : Bnd (evE σ.env) hi len h) (h0 : 0 ≤ l) (h1 : l ≤ h) (h2 : h ≤ len) (h3 : len ≤ cap) (w : World) :
    (Instr.sliceBounds isS len cap (lo.map a.eval) (hi.map a.eval) none).run P w = .ok (l.toNat, h.toNat, cap) w := by
  have hb : ∀ (v : Value) (k : IntKind) (n : Int) (m : Nat) (c : BoundsCode), v = .int k n → 0 ≤ n → n ≤ m → (Instr.sliceBound v m c).run P w = .ok n.toNat w := by
    intro v k n m c hv a1 a2
    simp [Instr.sliceBound, hv, asIntOf, a1, a2]
  have e1 : ∀ y, hi = some y → ∃ k, a.eval y = .int k h := by
    intro y hy; subst hy
    obtain ⟨k, hk⟩ := hhi
    exact ⟨k, s.raw hk⟩
  have e2 : ∀ y, lo = some y → ∃ k, a.eval y = .int k l := by
    intro y hy; subst hy
    obtain ⟨k, hk⟩ := hlo
    exact ⟨k, s.raw hk⟩
  cases hi with
  | none =>
    have hh : h = (len : Int) := hhi
    subst hh
    cases lo with
    | none =>
      have hl : l = 0 := hlo
      subst hl
      simp [Instr.sliceBounds]
    | some y =>
      obtain ⟨k, hk⟩ := e2 y rfl
      simp [Instr.sliceBounds, hb _ k l len _ hk h0 h1]
  | some z =>
    obtain ⟨k2, hk2⟩ := e1 z rfl
    have q : ∀ c, (Instr.sliceBound (a.eval z) cap c).run P w = .ok h.toNat w := fun c => hb _ k2 h cap c hk2 (by omega) (by omega)
    cases lo with
    | none =>
      have hl : l = 0 := hlo
      subst hl
      simp [Instr.sliceBounds, q]
    | some y =>
      obtain ⟨k, hk⟩ := e2 y rfl
      have q2 : ∀ c, (Instr.sliceBound (a.eval y) h.toNat c).run P w = .ok l.toNat w := fun c => hb _ k l _ c hk h0 (by omega)
      simp [Instr.sliceBounds, q, q2]
/-- A cut of a text. -/
theorem snd_sliceStr (s : Sat nt C σ a) {t : TypeId} {x : Operand} {lo hi : Option Operand} (ho : o.op = .slice t x lo hi none) {b : ByteArray} {l h : Int} (ht : isStr P t = true) (hx : evE σ.env x = .raw (.string b))
    (hlo : Bnd (evE σ.env) lo 0 l) (hhi : Bnd (evE σ.env) hi b.size h) (h0 : 0 ≤ l) (h1 : l ≤ h) (h2 : h ≤ b.size) : Res P nt C σ a o (.raw (.string (b.extract l.toNat h.toNat))) σ.heap := by
  refine .mk s (v := .string (b.extract l.toNat h.toNat)) ?_ (.raw _)
  have hb := bounds_run (P := P) (isS := false) (cap := b.size) s hlo hhi h0 h1 h2 (Nat.le_refl _) C.W
  simp [execOp, ho, s.raw hx, Instr.sliceAt, Instr.slice, underlying, program, Sem.run, isStr_at ht, hb]
end Go.Proofs.YtngeckkebejhiaaDoor.Asl
