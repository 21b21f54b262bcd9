/- What each operation does, in one word, and the rules for functions. -/
import Derived.Test.YtngeckkebejhiaaDoorAR
import Derived.Test.YtngeckkebejhiaaDoorXD
namespace Go.Proofs.YtngeckkebejhiaaDoor.Asl
open Go Go.RowKit
set_option linter.unusedVariables false
set_option linter.unusedSimpArgs false

/-- Types at which a call is told without memory. -/
def refT (P : Program) : Nat → TypeId → Bool
  | 0, _ => false
  | k + 1, t => match P.underlying t with
    | some (.slice _) | some (.pointer _) | some (.func _ _ _) | some (.interface _) => true
    | some (.struct fs) => fs.any fun f => refT P k f.type
    | _ => false
def plainT (P : Program) (t : TypeId) : Bool := !refT P 4 t

def minV : List AV → Option AV
  | [.raw (.int k x), .raw (.int _ y)] => some (.raw (.int k (if y < x then y else x)))
  | _ => none
def maxV : List AV → Option AV
  | [.raw (.int k x), .raw (.int _ y)] => some (.raw (.int k (if y > x then y else x)))
  | _ => none

def DBin (P : Program) (op : BinOp) (t : TypeId) (y : Operand) (X Y : AV) (r : AV) : Prop :=
  (∃ v u w, X = .raw v ∧ Y = .raw u ∧ binV op v u = some w ∧ r = .raw w) ∨
  (∃ v u, X = .raw (.bool v) ∧ Y = .raw (.bool u) ∧ isBool P t = true ∧ ((op = .eql ∧ r = .raw (.bool (v == u))) ∨ (op = .neq ∧ r = .raw (.bool (!(v == u)))))) ∨
  (∃ b, isPtr P t = true ∧ Y = .raw (.pointer none) ∧ ptrNil X = some b ∧ ((op = .eql ∧ r = .raw (.bool b)) ∨ (op = .neq ∧ r = .raw (.bool (!b))))) ∨
  (∃ b, isIf P t = true ∧ y = .const .nilIface ∧ ifNil X = some b ∧ ((op = .eql ∧ r = .raw (.bool b)) ∨ (op = .neq ∧ r = .raw (.bool (!b))))) ∨
  (∃ ds b, eqd P 9 t = some (.st ds) ∧ guardless P t = true ∧ eqV (.st ds) X Y = some b ∧ ((op = .eql ∧ r = .raw (.bool b)) ∨ (op = .neq ∧ r = .raw (.bool (!b)))))
def isArr (P : Program) (t : TypeId) : Bool := (arrI P t).isSome
def DArr (P : Program) (e : Operand → AV) (t : TypeId) (x : Operand) (lo hi : Option Operand) (d : Option Tmp) (h : Hp) (r : AV) (h' : Hp) : Prop :=
  hi = none ∧ ∃ m sz id q l k, arrI P t = some (m, sz) ∧ e x = .ptr id 0 ∧ h id = some (.box (.agg l)) ∧ l.length = m ∧ (∀ x ∈ l, x.size = sz) ∧ d = some q ∧ h q = none ∧ Bnd e lo 0 k ∧ 0 ≤ k ∧ k < (m : Nat) ∧ r = .ow q sz k.toNat (m - k.toNat) ∧ h' = setH (setH h id .dead) q (.arr sz l)
def DConv (P : Program) (d : Option Tmp) (s t : TypeId) (X : AV) (h : Hp) (r : AV) (h' : Hp) : Prop :=
  if isSl P s = true then (∃ e b l bs, rowI P s = some (e, 1, b) ∧ P.underlying e = some (.int .u8) ∧ isStr P t = true ∧ rowOf h 1 X = some l ∧ strOf l = some bs ∧ r = .raw (.string ⟨bs.toArray⟩) ∧ h' = h) ∨ (∃ e b id len l, s = t ∧ rowI P s = some (e, 1, b) ∧ P.underlying e = some (.int .u8) ∧ X = .ow id 1 0 len ∧ h id = some (.arr 1 l) ∧ 0 < len ∧ r = .ow id 1 0 len ∧ h' = h)
  else if isSl P t = true then ∃ e b x q, rowI P t = some (e, 1, b) ∧ P.underlying e = some (.int .u8) ∧ isStr P s = true ∧ X = .raw (.string x) ∧ d = some q ∧ h q = none ∧ r = .ow q 1 0 x.size ∧ h' = setH h q (.arr 1 (strCellsAV x))
  else ∃ v w, (P.underlying s).isSome = true ∧ X = .raw v ∧ convV P t v = some w ∧ r = .raw w ∧ h' = h
def cutAny (sz l h : Nat) (x r : AV) : Prop := cutOf sz l h x = some r ∨ (x = .raw (.slice none 0 0) ∧ h = 0 ∧ r = .raw (.slice none 0 0))
def DSlice (P : Program) (e : Operand → AV) (t : TypeId) (x : Operand) (lo hi : Option Operand) (r : AV) : Prop :=
  if isStr P t = true then ∃ b l k, e x = .raw (.string b) ∧ Bnd e lo 0 l ∧ Bnd e hi b.size k ∧ 0 ≤ l ∧ l ≤ k ∧ k ≤ b.size ∧ r = .raw (.string (b.extract l.toNat k.toNat))
  else ∃ el sz by_ l k, rowI P t = some (el, sz, by_) ∧ Bnd e lo 0 l ∧ Bnd e hi (lenOfAV (e x)) k ∧ 0 ≤ l ∧ l ≤ k ∧ cutAny sz l.toNat k.toNat (e x) r
/-- A call's function and arguments. -/
def argsOf (e : Operand → AV) (x : Operand) (args : Array Operand) : Option (FuncId × List AV) := (calleeOf (e x)).map fun p => (p.1, p.2.1 ++ args.toList.map e ++ p.2.2)
def DCall0 (P : Program) (e : Operand → AV) (x : Operand) (args : Array Operand) (h : Hp) (r : AV) (h' : Hp) : Prop :=
  ∃ f xs, argsOf e x args = some (f, xs) ∧ isFn P f = true ∧ AV.noids xs = true ∧ CallD P f xs noHeap r noHeap ∧ h' = h
def DCallN (P : Program) (e : Operand → AV) (x : Operand) (args : Array Operand) (d : Option Tmp) (h : Hp) (r : AV) (h' : Hp) : Prop :=
  ∃ f xs q, argsOf e x args = some (f, xs) ∧ isFn P f = true ∧ AV.noids xs = true ∧ d = some q ∧ h q = none ∧ ((CallD P f xs noHeap r noHeap ∧ h' = setH h q .dead) ∨ (∃ ob, CallD P f xs noHeap r (setH noHeap q ob) ∧ h' = setH h q ob))
/-- What a value may lead to: no object; one variable. -/
def AV.tagP : AV → Option (Option Nat)
  | .ptr p _ => if p < 90000 ∨ p = 100000 then some (some p) else none
  | .raw _ | .sl _ _ | .fp _ => some none
  | .agg l => if AV.noids l = true then some none else none
  | .ifc _ x => if x.noid = true then some none else none
  | _ => none
/-- A call acts at what it is handed, and at what it makes. -/
def touch (d : Option Tmp) (xs : List AV) (hs hs' : Hp) : Prop := (∀ x ∈ xs, x.tagP ≠ none) → (∀ id, (hs id).isSome = true → ∃ x ∈ xs, x.tagP = some (some id)) ∧ ∀ id, (hs' id).isSome = true → (hs id).isSome = true ∨ d = some id
def DCall1 (P : Program) (e : Operand → AV) (x : Operand) (args : Array Operand) (d : Option Tmp) (h : Hp) (r : AV) (h' : Hp) : Prop :=
  ∃ f xs, argsOf e x args = some (f, xs) ∧ isFn P f = true ∧
    ((AV.noids (AV.deeps (frzA h (AV.rowsOfs xs)) xs) = true ∧ CallD P f (AV.deeps (frzA h (AV.rowsOfs xs)) xs) noHeap r noHeap ∧ r.flat = true ∧ h' = h) ∨
     (∃ hs hs', touch d xs hs hs' ∧ (∀ id ob, hs id = some ob → frzA h (AV.rowsOfs xs) id = some ob ∧ ob.within hs = true) ∧ AV.withins hs (AV.deeps (frzA h (AV.rowsOfs xs)) xs) = true ∧ CallD P f (AV.deeps (frzA h (AV.rowsOfs xs)) xs) hs r hs' ∧ (∀ id, (hs' id).isSome = true → (hs id).isSome = true ∨ frzA h (AV.rowsOfs xs) id = none) ∧ h' = backH (frzA h (AV.rowsOfs xs)) hs hs'))
def DBuiltin (P : Program) (e : Operand → AV) (b : Builtin) (args : Array Operand) (ts : Array TypeId) (d : Option Tmp) (h : Hp) (r : AV) (h' : Hp) : Prop :=
  match b, args.toList, ts.toList with
  | .len, [x], [t] => if isStr P t = true then ∃ b, e x = .raw (.string b) ∧ r = .raw (.int .i64 b.size) ∧ h' = h
      else ∃ el sz by_ l, rowI P t = some (el, sz, by_) ∧ rowOf h sz (e x) = some l ∧ r = .raw (.int .i64 l.length) ∧ h' = h
  | .append, [x, y], [t, u] => ∃ el sz by_ ys q, rowI P t = some (el, sz, by_) ∧ srcOf P h sz u (e y) = some ys ∧ d = some q ∧ h q = none ∧
      ((∃ id len l, e x = .ow id sz 0 len ∧ h id = some (.arr sz l) ∧ len ≤ l.length ∧ (len + ys.length) * by_ ≤ 140737488355328 ∧ len + ys.length ≤ 140737488355328 ∧ r = .ow q sz 0 (len + ys.length) ∧ h' = setH (setH h id .dead) q (.arr sz (l.take len ++ ys))) ∨
       (∃ v, e x = .raw v ∧ nilSl v = true ∧ ys ≠ [] ∧ ys.length * by_ ≤ 140737488355328 ∧ ys.length ≤ 140737488355328 ∧ r = .ow q sz 0 ys.length ∧ h' = setH h q (.arr sz ys)))
  | .copy, [x, y], [t, _] => ∃ el sz by_ ys id off len l, rowI P t = some (el, sz, by_) ∧ rowOf h sz (e y) = some ys ∧ e x = .ow id sz off len ∧ h id = some (.arr sz l) ∧ off + len ≤ l.length ∧ r = .raw (.int .i64 (min ys.length len : Nat)) ∧ h' = setH h id (.arr sz (l.take off ++ ys.take (min ys.length len) ++ l.drop (off + min ys.length len)))
  | .min, xs, _ => minV (xs.map e) = some r ∧ h' = h
  | .max, xs, _ => maxV (xs.map e) = some r ∧ h' = h
  | _, _, _ => False
def plainCall (P : Program) (c : Call) : Bool := (match c.callee with | .value (.func _) => true | _ => false) && c.argTypes.toList.all (plainT P)
def D (P : Program) (e : Operand → AV) (o : Oper) (h : Hp) (r : AV) (h' : Hp) : Prop :=
  match o.op with
  | .move x => r = e x ∧ h' = h
  | .assign x => r = e x ∧ h' = h
  | .pick c x y => (∃ b, e c = .raw (.bool b) ∧ r = (if b then e x else e y)) ∧ h' = h
  | .nilCheck x => (ptrLike (e x) = true ∧ r = e x) ∧ h' = h
  | .extract x i => (∃ l, e x = .tup l ∧ l[i]? = some r) ∧ h' = h
  | .makeInterface t x => (isIface P t = false ∧ r = .ifc t (e x)) ∧ h' = h
  | .makeFunc f first cap => r = .fn f (first.toList.map e) (cap.toList.map e) ∧ h' = h
  | .fieldAddr t x f => (∃ off n ag, fldI P t f = some (off, n, ag) ∧ faddr off n ag (e x) = some r) ∧ h' = h
  | .field t x f => (∃ off n ag l, fldI P t f = some (off, n, ag) ∧ e x = .agg l ∧ AV.getL n ag l off = some r) ∧ h' = h
  | .load t x => (∃ n ag, tyI P t = some (n, ag) ∧ ldAt h n ag (e x) = some r) ∧ h' = h
  | .store t x y => ∃ n ag, tyI P t = some (n, ag) ∧ (e y).size = n ∧ ((e y).isAgg = true ∨ (e y).one = true) ∧ stAt h n (e y) (e x) = some h' ∧ r = .raw undef
  | .box t x => ∃ q, o.dst = some q ∧ h q = none ∧ ((e x).isAgg = true ∨ (e x).one = true) ∧ r = .ptr q 0 ∧ h' = setH h q (.box (e x))
  | .alloc t => ∃ q, o.dst = some q ∧ h q = none ∧ zeroIs P t (zAV P 9 t) ∧ r = .ptr q 0 ∧ h' = setH h q (.box (zAV P 9 t))
  | .binOp op t x y _ => DBin P op t y (e x) (e y) r ∧ h' = h
  | .unOp op _ x => (∃ v w, e x = .raw v ∧ unV op v = some w ∧ r = .raw w) ∧ h' = h
  | .convert s t x => DConv P o.dst s t (e x) h r h'
  | .index t x i => (∃ b k n, isStr P t = true ∧ e x = .raw (.string b) ∧ e i = .raw (.int k n) ∧ 0 ≤ n ∧ n < b.size ∧ r = .raw (.int .u8 (byteAt b n))) ∧ h' = h
  | .slice t x lo hi none => if isArr P t = true then DArr P e t x lo hi o.dst h r h' else DSlice P e t x lo hi r ∧ h' = h
  | .makeSlice t x y => ∃ el sz by_ n c k k' q, rowI P t = some (el, sz, by_) ∧ e x = .raw (.int k n) ∧ e y = .raw (.int k' c) ∧ 0 ≤ n ∧ n ≤ c ∧ c * by_ ≤ 140737488355328 ∧ c ≤ 140737488355328 ∧ zeroIs P el (zAV P 9 el) ∧ (zAV P 9 el).size = sz ∧ o.dst = some q ∧ h q = none ∧ r = .ow q sz 0 n.toNat ∧ h' = setH h q (.arr sz (List.replicate n.toNat (zAV P 9 el)))
  | .indexAddr t x i => ((∃ el sz by_ k n, rowI P t = some (el, sz, by_) ∧ e i = .raw (.int k n) ∧ 0 ≤ n ∧ elemAt noHeap sz n.toNat (e x) = some r) ∨ (∃ m sz k n id off, arrI P t = some (m, sz) ∧ e i = .raw (.int k n) ∧ 0 ≤ n ∧ n < (m : Nat) ∧ e x = .ptr id off ∧ r = .ptr id (off + n.toNat * sz))) ∧ h' = h
  | .build t ps => (∃ zs l, zAV P 9 t = .agg zs ∧ zeroIs P t (.agg zs) ∧ layIs P t zs ∧ setAll zs (pmap e ps) = some l ∧ r = .agg l) ∧ h' = h
  | .buildSlice t n ps => ∃ el sz by_ l q, rowI P t = some (el, sz, by_) ∧ zeroIs P el (zAV P 9 el) ∧ (zAV P 9 el).size = sz ∧ n * sz ≤ 16777216 ∧ setAll (List.replicate n (zAV P 9 el)) (pmap e ps) = some l ∧ o.dst = some q ∧ h q = none ∧ r = .ow q sz 0 n ∧ h' = setH h q (.arr sz l)
  | .typeAssert x _ t ok => (isIface P t = false ∧ ((∃ y, e x = .ifc t y ∧ r = (if ok then .tup [y, .raw (.bool true)] else y)) ∨ (∃ t' y, e x = .ifc t' y ∧ t' ≠ t ∧ ok = true ∧ zeroIs P t (zAV P 9 t) ∧ r = .tup [zAV P 9 t, .raw (.bool false)]) ∨ (e x = .raw .nilIface ∧ ok = true ∧ zeroIs P t (zAV P 9 t) ∧ r = .tup [zAV P 9 t, .raw (.bool false)]))) ∧ h' = h
  | .call c => match c.callee with
    | .builtin b => DBuiltin P e b c.args c.argTypes o.dst h r h'
    | .value x => if plainCall P c = true then (if isSl P o.type = true then DCallN P e x c.args o.dst h r h' else DCall0 P e x c.args h r h') else DCall1 P e x c.args o.dst h r h'
    | _ => False
  | _ => False
def cls (P : Program) (o : Oper) : Nat :=
  match o.op with
  | .load .. => 1
  | .box .. | .alloc .. | .buildSlice .. | .makeSlice .. => 2
  | .slice t _ _ _ _ => if isArr P t = true then 3 else 0
  | .convert s t _ => if isSl P s = true then 1 else if isSl P t = true then 2 else 0
  | .store .. => 3
  | .call c => match c.callee with
    | .builtin .len => 1
    | .builtin .min | .builtin .max => 0
    | .value _ => if plainCall P c = true then (if isSl P o.type = true then 2 else 0) else 3
    | _ => 3
  | _ => 0

variable {P : Program}
theorem Bnd.congr {e e' : Operand → AV} {y : Option Operand} {d n : Int} (h : ∀ x, y = some x → e x = e' x) (hb : Bnd e y d n) : Bnd e' y d n := by
  cases y with
  | none => exact hb
  | some x => obtain ⟨k, hk⟩ := hb; exact ⟨k, by rw [← h x rfl]; exact hk⟩
theorem argsOf_congr {e e' : Operand → AV} {x : Operand} {args : Array Operand} (hx : e x = e' x) (ha : ∀ y ∈ args, e y = e' y) : argsOf e x args = argsOf e' x args := by
  unfold argsOf
  rw [hx, List.map_congr_left (fun y hy => ha y (Array.mem_toList_iff.1 hy))]
theorem D_congr {e e' : Operand → AV} {o : Oper} {h h' : Hp} {r : AV} (hx : ∀ x ∈ o.op.operands, e x = e' x) (hd : D P e o h r h') : D P e' o h r h' := by
  unfold D at hd ⊢
  revert hx hd
  cases o.op with
  | call c =>
    intro hx hd
    simp only at hd ⊢
    cases hc : c.callee with
    | builtin b =>
      rw [hc] at hd
      simp only at hd ⊢
      have ha : ∀ y ∈ c.args.toList, e y = e' y := fun y hy => hx y (by simp [Op.operands, Call.operands, hc]; exact Array.mem_toList_iff.1 hy)
      unfold DBuiltin at hd ⊢
      generalize c.args.toList = as at hd ha ⊢
      generalize c.argTypes.toList = ts at hd ⊢
      split at hd
      · have h1 := ha _ (List.mem_cons_self)
        simp only [← h1]; exact hd
      · have h1 := ha _ (List.mem_cons_self)
        have h2 := ha _ (List.mem_cons_of_mem _ (List.mem_cons_self))
        simp only [← h1, ← h2]; exact hd
      · have h1 := ha _ (List.mem_cons_self)
        have h2 := ha _ (List.mem_cons_of_mem _ (List.mem_cons_self))
        simp only [← h1, ← h2]; exact hd
      · simp only [← List.map_congr_left ha]; exact hd
      · simp only [← List.map_congr_left ha]; exact hd
      · exact hd.elim
    | value x =>
      rw [hc] at hd
      simp only at hd ⊢
      have h0 : e x = e' x := hx x (by simp [Op.operands, Call.operands, hc])
      have ha : ∀ y ∈ c.args, e y = e' y := fun y hy => hx y (by simp [Op.operands, Call.operands, hc, hy])
      have := argsOf_congr h0 ha
      unfold DCall0 DCallN DCall1 at hd ⊢
      rw [← this]; exact hd
    | invoke r m => rw [hc] at hd; exact hd
  | slice t x lo hi mx =>
    intro hx hd
    cases mx with
    | some y => exact hd
    | none =>
      simp only at hd ⊢
      have h0 : e x = e' x := hx x (by simp [Op.operands])
      have h1 : ∀ y, lo = some y → e y = e' y := fun y hy => hx y (by simp [Op.operands, hy])
      have h2 : ∀ y, hi = some y → e y = e' y := fun y hy => hx y (by simp [Op.operands, hy])
      by_cases ha : isArr P t = true
      · rw [if_pos ha] at hd ⊢
        unfold DArr at hd ⊢
        obtain ⟨g1, m, sz, id, q, l, k, g2, g3, g4, g5, g6, g7, g8, g9, g10⟩ := hd
        exact ⟨g1, m, sz, id, q, l, k, g2, by rw [← h0]; exact g3, g4, g5, g6, g7, g8, g9.congr h1, g10⟩
      rw [if_neg ha] at hd ⊢
      refine ⟨?_, hd.2⟩
      have hd := hd.1
      unfold DSlice at hd ⊢
      rw [← h0]
      split
      · rename_i hc
        rw [if_pos hc] at hd
        obtain ⟨b, l, k, q1, q2, q3, q4⟩ := hd
        exact ⟨b, l, k, q1, q2.congr h1, q3.congr h2, q4⟩
      · rename_i hc
        rw [if_neg hc] at hd
        obtain ⟨el, sz, b, l, k, q1, q2, q3, q4⟩ := hd
        exact ⟨el, sz, b, l, k, q1, q2.congr h1, q3.congr h2, q4⟩
  | build t ps =>
    intro hx hd
    have : pmap e ps = pmap e' ps := List.map_congr_left fun p hp => by rw [hx p.2 (by simp [Op.operands]; exact ⟨p.1, Array.mem_toList_iff.1 hp⟩)]
    simp only at hd ⊢
    rw [← this]; exact hd
  | buildSlice t n ps =>
    intro hx hd
    have : pmap e ps = pmap e' ps := List.map_congr_left fun p hp => by rw [hx p.2 (by simp [Op.operands]; exact ⟨p.1, Array.mem_toList_iff.1 hp⟩)]
    simp only at hd ⊢
    rw [← this]; exact hd
  | makeFunc f first cap =>
    intro hx hd
    simp only at hd ⊢
    rw [← List.map_congr_left (fun y hy => hx y (by simp [Op.operands]; exact .inl (Array.mem_toList_iff.1 hy))), ← List.map_congr_left (fun y hy => hx y (by simp [Op.operands]; exact .inr (Array.mem_toList_iff.1 hy)))]
    exact hd
  | _ =>
    intro hx hd
    first
      | exact hd
      | (simp only at hd ⊢; simp only [Op.operands, List.mem_toArray, Array.mem_toList_iff, List.mem_cons, List.not_mem_nil, or_false, forall_eq_or_imp, forall_eq] at hx; simp only [← hx]; exact hd)
      | (simp only at hd ⊢; simp [Op.operands] at hx; simp [← hx]; exact hd)


theorem isSl_row {t el sz b : Nat} (h : rowI P t = some (el, sz, b)) : isSl P t = true := by
  unfold isSl; rw [(rowI_at h).1]
theorem setH_mono {h g : Hp} (k : ∀ id ob, h id = some ob → g id = some ob) {sz : Nat} {x : AV} {l : List AV} (hr : rowOf h sz x = some l) : rowOf g sz x = some l := by
  cases x with
  | ow id s off len =>
    simp only [rowOf] at hr ⊢
    split at hr
    · rename_i e
      rw [if_pos e]
      cases hob : h id with
      | none => rw [hob] at hr; cases hr
      | some ob => rw [hob] at hr; rw [k id ob hob]; exact hr
    · cases hr
  | _ => exact hr
theorem ldAt_mono {h g : Hp} (k : ∀ id ob, h id = some ob → g id = some ob) {n : Nat} {ag : Bool} {x r : AV} (hr : ldAt h n ag x = some r) : ldAt g n ag x = some r := by
  cases x with
  | ptr id off =>
    simp only [ldAt] at hr ⊢
    cases hob : h id with
    | none => rw [hob] at hr; cases hr
    | some ob => rw [hob] at hr; rw [k id ob hob]; exact hr
  | ep id s i off =>
    simp only [ldAt] at hr ⊢
    cases hob : h id with
    | none => rw [hob] at hr; cases hr
    | some ob => rw [hob] at hr; rw [k id ob hob]; exact hr
  | _ => exact hr
theorem setH_ne {h : Hp} {d id : Nat} {ob : Ob} (hne : id ≠ d) : setH h d ob id = h id := by simp only [setH]; rw [if_neg hne]
theorem rowOf_down {h : Hp} {d : Nat} {ob : Ob} {sz : Nat} {x : AV} {l : List AV} (ht : x.top ≠ some d) (hr : rowOf (setH h d ob) sz x = some l) : rowOf h sz x = some l := by
  cases x with
  | ow id s off len =>
    have hne : id ≠ d := fun e => ht (by simp [AV.top, e])
    simp only [rowOf, setH_ne hne] at hr ⊢
    exact hr
  | _ => exact hr
theorem ldAt_down {h : Hp} {d : Nat} {ob : Ob} {n : Nat} {ag : Bool} {x r : AV} (ht : x.top ≠ some d) (hr : ldAt (setH h d ob) n ag x = some r) : ldAt h n ag x = some r := by
  cases x with
  | ptr id off =>
    have hne : id ≠ d := fun e => ht (by simp [AV.top, e])
    simp only [ldAt, setH_ne hne] at hr ⊢
    exact hr
  | ep id s i off =>
    have hne : id ≠ d := fun e => ht (by simp [AV.top, e])
    simp only [ldAt, setH_ne hne] at hr ⊢
    exact hr
  | _ => exact hr

theorem D_c0 {e : Operand → AV} {o : Oper} {h h' : Hp} {r : AV} (hc : cls P o = 0) (hd : D P e o h r h') : h' = h ∧ ∀ g, D P e o g r g := by
  unfold D at hd ⊢
  unfold cls at hc
  revert hd hc
  cases o.op with
  | call c =>
    intro hc hd
    simp only at hc hd ⊢
    cases hcc : c.callee with
    | builtin b =>
      rw [hcc] at hc hd
      cases b <;> simp at hc <;> simp only at hd ⊢ <;> unfold DBuiltin at hd ⊢ <;> exact ⟨hd.2, fun g => ⟨hd.1, rfl⟩⟩
    | value x =>
      rw [hcc] at hc hd
      simp only at hc hd ⊢
      split at hc
      · rename_i hp
        rw [if_pos hp] at hd
        split at hc
        · cases hc
        · rename_i hs
          rw [if_neg hs] at hd
          obtain ⟨f, xs, q1, q2, q3, q4, q5⟩ := hd
          exact ⟨q5, fun g => by rw [if_pos hp, if_neg hs]; exact ⟨f, xs, q1, q2, q3, q4, rfl⟩⟩
      · cases hc
    | invoke _ _ => rw [hcc] at hc; simp at hc
  | convert s t x =>
    intro hc hd
    simp only at hc hd ⊢
    unfold DConv at hd ⊢
    split at hc
    · cases hc
    · rename_i h1
      split at hc
      · cases hc
      · rename_i h2
        rw [if_neg h1, if_neg h2] at hd
        obtain ⟨v, w, q1, q2, q3, q4, q5⟩ := hd
        exact ⟨q5, fun g => by rw [if_neg h1, if_neg h2]; exact ⟨v, w, q1, q2, q3, q4, rfl⟩⟩
  | slice t x lo hi mx =>
    intro hc hd
    cases mx with
    | some y => exact hd.elim
    | none =>
      simp only at hc hd ⊢
      split at hc
      · cases hc
      · rename_i ha
        rw [if_neg ha] at hd
        exact ⟨hd.2, fun g => by rw [if_neg ha]; exact ⟨hd.1, trivial⟩⟩
  | _ => intro hc hd; first | exact ⟨hd.2, fun g => ⟨hd.1, rfl⟩⟩ | exact hd.elim | (simp at hc)
theorem D_c1 {e : Operand → AV} {o : Oper} {h h' : Hp} {r : AV} (hc : cls P o = 1) (hd : D P e o h r h') :
    h' = h ∧ (∀ g, (∀ id ob, h id = some ob → g id = some ob) → D P e o g r g) ∧ ∀ d ob g, h = setH g d ob → (∀ x ∈ o.op.operands, (e x).top ≠ some d) → D P e o g r g := by
  unfold D at hd ⊢
  unfold cls at hc
  revert hd hc
  cases o.op with
  | call c =>
    intro hc hd
    simp only at hc hd ⊢
    cases hcc : c.callee with
    | builtin b =>
      rw [hcc] at hc hd
      cases b <;> simp at hc
      simp only at hd ⊢
      unfold DBuiltin at hd ⊢
      have hops : ∀ x ∈ c.args.toList, x ∈ c.operands.toList := fun x hx => by simp [Call.operands, hcc]; exact Array.mem_toList_iff.1 hx
      simp only [Op.operands]
      generalize c.args.toList = as at hd hops ⊢
      generalize c.argTypes.toList = ts at hd ⊢
      match as, ts, hd with
      | [x], [t], hd =>
        simp only at hd ⊢
        by_cases hs : isStr P t = true
        · rw [if_pos hs] at hd
          obtain ⟨b, q1, q2, q3⟩ := hd
          exact ⟨q3, fun g _ => by rw [if_pos hs]; exact ⟨b, q1, q2, trivial⟩, fun d ob g _ _ => by rw [if_pos hs]; exact ⟨b, q1, q2, trivial⟩⟩
        · rw [if_neg hs] at hd
          obtain ⟨el, sz, b, l, q1, q2, q3, q4⟩ := hd
          refine ⟨q4, fun g k => by rw [if_neg hs]; exact ⟨el, sz, b, l, q1, setH_mono k q2, q3, trivial⟩, fun d ob g hg ht => ?_⟩
          rw [if_neg hs]
          subst hg
          exact ⟨el, sz, b, l, q1, rowOf_down (ht x (Array.mem_toList_iff.1 (hops x (by simp)))) q2, q3, trivial⟩
    | value x =>
      rw [hcc] at hc
      simp only at hc
      split at hc
      · split at hc <;> cases hc
      · cases hc
    | invoke _ _ => rw [hcc] at hc; simp at hc
  | convert s t x =>
    intro hc hd
    simp only at hc hd ⊢
    unfold DConv at hd ⊢
    split at hc
    · rename_i h1
      rw [if_pos h1] at hd
      rcases hd with ⟨el, b, l, bs, q1, q2, q3, q4, q5, q6, q7⟩ | ⟨el, b, id, len, l, q0, q1, q2, q3, q4, q5, q6, q7⟩
      · refine ⟨q7, fun g k => by rw [if_pos h1]; exact .inl ⟨el, b, l, bs, q1, q2, q3, setH_mono k q4, q5, q6, rfl⟩, fun d ob g hg ht => ?_⟩
        rw [if_pos h1]
        subst hg
        exact .inl ⟨el, b, l, bs, q1, q2, q3, rowOf_down (ht x (by simp [Op.operands])) q4, q5, q6, rfl⟩
      · refine ⟨q7, fun g k => by rw [if_pos h1]; exact .inr ⟨el, b, id, len, l, q0, q1, q2, q3, k _ _ q4, q5, q6, rfl⟩, fun d ob g hg ht => ?_⟩
        rw [if_pos h1]
        subst hg
        have hne : id ≠ d := fun e2 => ht x (by simp [Op.operands]) (by rw [q3, e2]; rfl)
        exact .inr ⟨el, b, id, len, l, q0, q1, q2, q3, (setH_ne hne).symm.trans q4, q5, q6, rfl⟩
    · split at hc <;> cases hc
  | load t x =>
    intro hc hd
    obtain ⟨⟨n, ag, q1, q2⟩, q3⟩ := hd
    refine ⟨q3, fun g k => ⟨⟨n, ag, q1, ldAt_mono k q2⟩, rfl⟩, fun d ob g hg ht => ?_⟩
    subst hg
    exact ⟨⟨n, ag, q1, ldAt_down (ht x (by simp [Op.operands])) q2⟩, rfl⟩
  | slice t x lo hi mx => intro hc hd; simp only at hc; split at hc <;> cases hc
  | _ => intro hc hd; simp at hc
theorem D_c2 {e : Operand → AV} {o : Oper} {h h' : Hp} {r : AV} (hc : cls P o = 2) (hd : D P e o h r h') : ∃ d ob, o.dst = some d ∧ h d = none ∧ h' = setH h d ob ∧ ∀ g, g d = none → D P e o g r (setH g d ob) := by
  unfold D at hd ⊢
  unfold cls at hc
  revert hd hc
  cases o.op with
  | call c =>
    intro hc hd
    simp only at hc hd ⊢
    cases hcc : c.callee with
    | builtin b => rw [hcc] at hc; cases b <;> simp at hc
    | value x =>
      rw [hcc] at hc hd
      simp only at hc hd ⊢
      split at hc
      · rename_i hp
        rw [if_pos hp] at hd
        split at hc
        · rename_i hs
          rw [if_pos hs] at hd
          obtain ⟨f, xs, q, q1, q2, q3, q4, q5, q6⟩ := hd
          rcases q6 with ⟨q6, q7⟩ | ⟨ob, q6, q7⟩
          · exact ⟨q, _, q4, q5, q7, fun g hg => by rw [if_pos hp, if_pos hs]; exact ⟨f, xs, q, q1, q2, q3, q4, hg, .inl ⟨q6, rfl⟩⟩⟩
          · exact ⟨q, _, q4, q5, q7, fun g hg => by rw [if_pos hp, if_pos hs]; exact ⟨f, xs, q, q1, q2, q3, q4, hg, .inr ⟨ob, q6, rfl⟩⟩⟩
        · cases hc
      · cases hc
    | invoke _ _ => rw [hcc] at hc; simp at hc
  | convert s t x =>
    intro hc hd
    simp only at hc hd ⊢
    unfold DConv at hd ⊢
    split at hc
    · cases hc
    · rename_i h1
      split at hc
      · rename_i h2
        rw [if_neg h1, if_pos h2] at hd
        obtain ⟨el, b, y, q, q1, q2, q3, q4, q5, q6, q7, q8⟩ := hd
        exact ⟨q, _, q5, q6, q8, fun g hg => by rw [if_neg h1, if_pos h2]; exact ⟨el, b, y, q, q1, q2, q3, q4, q5, hg, q7, rfl⟩⟩
      · cases hc
  | box t x =>
    intro hc hd
    obtain ⟨q, q1, q2, q3, q4, q5⟩ := hd
    exact ⟨q, _, q1, q2, q5, fun g hg => ⟨q, q1, hg, q3, q4, rfl⟩⟩
  | alloc t =>
    intro hc hd
    obtain ⟨q, q1, q2, q3, q4, q5⟩ := hd
    exact ⟨q, _, q1, q2, q5, fun g hg => ⟨q, q1, hg, q3, q4, rfl⟩⟩
  | buildSlice t n ps =>
    intro hc hd
    obtain ⟨el, sz, b, l, q, q1, q2, q3, q4, q5, q6, q7, q8, q9⟩ := hd
    exact ⟨q, _, q6, q7, q9, fun g hg => ⟨el, sz, b, l, q, q1, q2, q3, q4, q5, q6, hg, q8, rfl⟩⟩
  | makeSlice t x y =>
    intro hc hd
    obtain ⟨el, sz, b, n, c, k, k', q, q1, q2, q3, q4, q5, q6, q7, q8, q9, q10, q11, q12, q13⟩ := hd
    exact ⟨q, _, q10, q11, q13, fun g hg => ⟨el, sz, b, n, c, k, k', q, q1, q2, q3, q4, q5, q6, q7, q8, q9, q10, hg, q12, rfl⟩⟩
  | slice t x lo hi mx => intro hc hd; simp only at hc; split at hc <;> cases hc
  | _ => intro hc hd; simp at hc
end Go.Proofs.YtngeckkebejhiaaDoor.Asl
