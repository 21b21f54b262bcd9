/- Part 14 of what the row leans on: abstract values and states, their rules, and the contracts of the functions. -/
import Derived.WalkKit
import Derived.LaidEql
import Derived.Stop.Asserts
import Derived.RowKitTokens
import Derived.Elder7
import Derived.Test.YtejeemhenoobjaaZW14P13
namespace Go.Proofs.Ytejeemhenoobjaa.Errs
open Go Go.RowKit Go.Extern.Stop Go.Stop Go.Extern
open Go.Proofs.Ytejeemhenoobjaa.Asl (Put NoFz run_storeVar run_loadCells Reads tyI)
set_option linter.unusedVariables false
set_option linter.unusedSimpArgs false
/-- An error: a number, a need, or one with a place ahead. -/
inductive EV where
  | code (c : Int)
  | need (lo hi : ByteArray)
  | wrap (p : ByteArray) (e : EV)
inductive Chain (W : World) : Value → EV → Prop
  | code (c : Int) : Chain W (.iface 29 (.int .i64 c)) (.code c)
  | need (lo hi : ByteArray) : Chain W (.iface 10 (.agg #[.string lo, .string hi])) (.need lo hi)
  | wrap (b o : Nat) (p : ByteArray) (E : Value) (e : EV) : W.cell? ⟨b, o, none⟩ = some (.string p) → W.cell? ⟨b, o + 1, none⟩ = some E → Chain W E e → Chain W (.iface 75 (.pointer (some ⟨b, o, none⟩))) (.wrap p e)
theorem Chain.unique {W : World} {E : Value} {e e' : EV} (h : Chain W E e) (h' : Chain W E e') : e = e' := by
  induction h generalizing e' with
  | code c => cases h'; rfl
  | need lo hi => cases h'; rfl
  | wrap b o p E e h1 h2 h3 ih =>
    cases h' with
    | wrap _ _ p' E' e2 k1 k2 k3 => rw [h1] at k1; rw [h2] at k2; cases k1; cases k2; rw [ih k3]
theorem cell_lt {W : World} {a : Addr} {v : Value} (h : W.cell? a = some v) : a.block < W.heap.size := by
  rcases Nat.lt_or_ge a.block W.heap.size with h1 | h1
  · exact h1
  · simp [World.cell?, Array.getElem?_eq_none h1] at h
theorem cell_alloc {W : World} {a : Addr} {v : Value} (ob : Obj) (h : W.cell? a = some v) : (W.alloc ob).cell? a = some v := by
  rw [World.cell?_alloc_lt _ _ a (cell_lt h)]; exact h
theorem Chain.alloc {W : World} {E : Value} {e : EV} (ob : Obj) (h : Chain W E e) : Chain (W.alloc ob) E e := by
  induction h with
  | code c => exact .code c
  | need lo hi => exact .need lo hi
  | wrap b o p E e h1 h2 h3 ih => exact .wrap b o p E e (cell_alloc ob h1) (cell_alloc ob h2) ih
def EV.len : EV → Nat
  | .wrap _ e => e.len + 1
  | _ => 0
open Classical in
noncomputable def chainLen (W : World) (E : Value) : Nat := if h : ∃ e, Chain W E e then h.choose.len else 0
theorem chainLen_eq {W : World} {E : Value} {e : EV} (h : Chain W E e) : chainLen W E = e.len := by
  unfold chainLen
  rw [dif_pos ⟨e, h⟩]
  rw [Chain.unique (Exists.choose_spec ⟨e, h⟩) h]
/-- The world has grown. -/
structure Gr (W W' : World) : Prop where
  os : W'.os = W.os
  tape : W'.tape = W.tape
  output : W'.output = W.output
  size : W.heap.size ≤ W'.heap.size
  old : ∀ k, k < W.heap.size → W'.heap[k]? = W.heap[k]?
theorem Gr.refl (W : World) : Gr W W := ⟨rfl, rfl, rfl, Nat.le_refl _, fun _ _ => rfl⟩
theorem Gr.trans {A B C : World} (h : Gr A B) (k : Gr B C) : Gr A C := ⟨k.os.trans h.os, k.tape.trans h.tape, k.output.trans h.output, Nat.le_trans h.size k.size, fun i hi => (k.old i (Nat.lt_of_lt_of_le hi h.size)).trans (h.old i hi)⟩
theorem Gr.alloc (W : World) (o : Obj) : Gr W (W.alloc o) := ⟨rfl, rfl, rfl, by show W.heap.size ≤ (W.heap.push o).size; rw [Array.size_push]; omega, fun k hk => Below.heap_alloc W o k hk⟩
/-- The world has grown, and one block holds other cells. -/
def Hit (W w' : World) (b : Nat) (cs : Array Value) (ty : TypeId) : Prop := ∃ W2, Gr W W2 ∧ Put W2 w' b ∧ w'.heap[b]? = some (.cells cs ty (0, 0))
abbrev hnd (t : Nat) : Value := .pointer (some ⟨0, t, none⟩)
abbrev rty (t : Nat) : Value := .iface 101 (.agg #[hnd t])
theorem mUnwrap (v : Value) (w : World) : (Go.method 243 75 v "Unwrap").run Try.prog w = .ok (69, v) w := by kernel_rfl
theorem mComparable (h : Value) (w : World) : (Go.method 243 101 (.agg #[h]) "Comparable").run Try.prog w = .ok (73, .agg #[h]) w := by kernel_rfl
theorem typeOf_code (v : Value) (w : World) : (ReflectliteType.typeOf #[.iface 29 v]).run Try.prog w = .ok (rty 29) w := by kernel_rfl
theorem no_code_Is (v : Value) (xT : TypeId) (w : World) : (Instr.typeAssert (.iface 29 v) xT 103 true).run Try.prog w = .ok (.tuple #[.nilIface, .bool false]) w := run_typeAssert_lacksB Try.underlying103 (by kernel_rfl) (by kernel_rfl) v xT w
theorem no_code_Unwrap1 (v : Value) (xT : TypeId) (w : World) : (Instr.typeAssert (.iface 29 v) xT 106 true).run Try.prog w = .ok (.tuple #[.nilIface, .bool false]) w := run_typeAssert_lacksB Try.underlying106 (by kernel_rfl) (by kernel_rfl) v xT w
theorem no_code_Unwrap2 (v : Value) (xT : TypeId) (w : World) : (Instr.typeAssert (.iface 29 v) xT 108 true).run Try.prog w = .ok (.tuple #[.nilIface, .bool false]) w := run_typeAssert_lacksB Try.underlying108 (by kernel_rfl) (by kernel_rfl) v xT w
theorem no_need_Is (v : Value) (xT : TypeId) (w : World) : (Instr.typeAssert (.iface 10 v) xT 103 true).run Try.prog w = .ok (.tuple #[.nilIface, .bool false]) w := run_typeAssert_lacksB Try.underlying103 (by kernel_rfl) (by kernel_rfl) v xT w
theorem no_need_Unwrap1 (v : Value) (xT : TypeId) (w : World) : (Instr.typeAssert (.iface 10 v) xT 106 true).run Try.prog w = .ok (.tuple #[.nilIface, .bool false]) w := run_typeAssert_lacksB Try.underlying106 (by kernel_rfl) (by kernel_rfl) v xT w
theorem no_need_Unwrap2 (v : Value) (xT : TypeId) (w : World) : (Instr.typeAssert (.iface 10 v) xT 108 true).run Try.prog w = .ok (.tuple #[.nilIface, .bool false]) w := run_typeAssert_lacksB Try.underlying108 (by kernel_rfl) (by kernel_rfl) v xT w
theorem no_wrap_Is (v : Value) (xT : TypeId) (w : World) : (Instr.typeAssert (.iface 75 v) xT 103 true).run Try.prog w = .ok (.tuple #[.nilIface, .bool false]) w := run_typeAssert_lacksB Try.underlying103 (by kernel_rfl) (by kernel_rfl) v xT w
theorem has_wrap_Unwrap1 (v : Value) (xT : TypeId) (w : World) : (Instr.typeAssert (.iface 75 v) xT 106 true).run Try.prog w = .ok (.tuple #[.iface 75 v, .bool true]) w := run_typeAssert_hasB Try.underlying106 (by kernel_rfl) v xT w
end Go.Proofs.Ytejeemhenoobjaa.Errs

namespace Go.Proofs.Ytejeemhenoobjaa.Errs
open Go Go.RowKit Go.Extern.Stop Go.Stop Go.Extern
open Go.Proofs.Ytejeemhenoobjaa.Asl (Put NoFz run_storeVar Reads tyI tyI_agg tyI_size Cell)
set_option linter.unusedVariables false
set_option linter.unusedSimpArgs false
set_option linter.unnecessarySimpa false
theorem Gr.cell {W W' : World} (g : Gr W W') {a : Addr} {v : Value} (h : W.cell? a = some v) : W'.cell? a = some v := by
  have := g.old a.block (cell_lt h)
  unfold World.cell? at h ⊢
  rw [this]; exact h
theorem Gr.block {W W' : World} (g : Gr W W') {b : Nat} {ob : Obj} (h : W.heap[b]? = some ob) : W'.heap[b]? = some ob := by
  rw [g.old b (Array.getElem?_eq_some_iff.1 h).1]; exact h
end Go.Proofs.Ytejeemhenoobjaa.Errs

namespace Go.Proofs.Ytejeemhenoobjaa.Errs
open Go Go.RowKit Go.Extern.Stop Go.Stop Go.Extern
set_option linter.unusedVariables false
set_option linter.unusedSimpArgs false
theorem comparable_code' (w : World) : ((ReflectliteType.method fun t => do Rtype.noPackHeld "Comparable" t; (fun a => Value.bool a.comparable) <$> typeInfo t) #[.agg #[hnd 29]]).run Try.prog w = .ok (.bool true) w := by kernel_rfl
def EV.num : EV → Option Int
  | .code c => some c
  | .need _ _ => none
  | .wrap _ e => e.num
theorem eql_code (x y : Int) (w : World) : (binOp .eql 34 (.iface 29 (.int .i64 x)) (.iface 29 (.int .i64 y))).run Try.prog w = .ok (.bool (decide (x = y))) w := by
  obtain ⟨i, hi, hcmp⟩ := Option.map_eq_some_iff.1 (show (Try.prog.info? 29).map (·.comparable) = some true by kernel_rfl)
  have h : ∀ d : Nat, (Op.equalIn (d + 2) 34 (.iface 29 (.int .i64 x)) (.iface 29 (.int .i64 y))).run Try.prog w = .ok (decide (x = y)) w := fun d => by
    simp [Op.equalIn, run_underlying Try.underlying34, run_underlying Try.underlying29, typeInfo, hi, hcmp]
    rfl
  simp only [binOp]
  simp [Op.equal, Op.maxDepth, h 9998]
set_option maxRecDepth 1000000 in
set_option maxHeartbeats 8000000 in
theorem is_code {W : World} (E : Value) (e : EV) (hch : Chain W E e) (c : Int) :
    Calls Try.prog 47 #[E, .iface 29 (.int .i64 c), .bool true] W fun ev w' => ev = .returned (.bool (decide (e.num = some c))) ∧ w' = W := by
  have n1 := no_code_Is
  have n2 := no_code_Unwrap1
  have n3 := no_code_Unwrap2
  have n4 := no_need_Is
  have n5 := no_need_Unwrap1
  have n6 := no_need_Unwrap2
  have n7 := no_wrap_Is
  have n8 := has_wrap_Unwrap1
  have mU := mUnwrap
  go_enter Try.func47, Try.ntmps47
  go_wp2
  go_loopw [0] (fun E' wl => wl = W ∧ ∃ e', Chain wl E' e' ∧ e'.num = e.num) (fun E' wl => chainLen wl E')
  case atStart => exact ⟨rfl, e, hch, rfl⟩
  case round =>
    obtain ⟨rfl, e', hc', hiff⟩ := hrel
    cases hc' with
    | code c' =>
      have hq := eql_code c' c wr
      by_cases hcc : c' = c
      · subst hcc
        rw [decide_eq_true rfl] at hq
        go_wp2
        go_ret
        exact ⟨by rw [← hiff]; simp [EV.num], rfl⟩
      · rw [decide_eq_false hcc] at hq
        go_wp2
        go_ret
        exact ⟨by rw [← hiff]; simp [EV.num, hcc], rfl⟩
    | need lo hi =>
      have hty := run_eql_iface_types (P := Try.prog) 10 29 (.agg #[.string lo, .string hi]) (.int .i64 c) Try.underlying34 (by decide) wr
      go_wp2
      go_ret
      exact ⟨by rw [← hiff]; simp [EV.num], rfl⟩
    | wrap b0 o0 p E1 e1 h1 h2 h3 =>
      have hty := run_eql_iface_types (P := Try.prog) 75 29 (.pointer (some ⟨b0, o0, none⟩)) (.int .i64 c) Try.underlying34 (by decide) wr
      have hlen := chainLen_eq h3
      have hlen0 := chainLen_eq (Chain.wrap b0 o0 p E1 e1 h1 h2 h3)
      have hne : ∃ u v, E1 = .iface u v := by cases h3 <;> exact ⟨_, _, rfl⟩
      obtain ⟨u1, v1, rfl⟩ := hne
      have HC : Hid (Chain _ (.iface u1 v1) e1) := h3
      clear h3
      go_wp2
      go_roundw
      case rel => exact ⟨trivial, e1, HC.out, hiff⟩
      case measure =>
        show chainLen _ (.iface u1 v1) < _
        rw [hlen, hlen0]; simp [EV.len]
set_option maxRecDepth 1000000 in
set_option maxHeartbeats 8000000 in
theorem Is_code {W : World} (E : Value) (e : EV) (hch : Chain W E e) (c : Int) :
    Calls Try.prog 34 #[E, .iface 29 (.int .i64 c)] W fun ev w' => ev = .returned (.bool (decide (e.num = some c))) ∧ w' = W := by
  have hTO := @run_callFunc_extern Try.prog 46 _ ReflectliteType.typeOf Try.func46 (by kernel_rfl) (by kernel_rfl) (by kernel_rfl) (by kernel_rfl)
  have hCM := @run_callFunc_extern Try.prog 73 _ (ReflectliteType.method fun t => do Rtype.noPackHeld "Comparable" t; pure (.bool (← typeInfo t).comparable)) Try.func73 (by kernel_rfl) (by kernel_rfl) (by kernel_rfl) (by kernel_rfl)
  have t1 := typeOf_code
  have mC := mComparable
  have cc := comparable_code'
  have key := is_code E e hch c
  have hne : ∃ u v, E = .iface u v := by cases hch <;> exact ⟨_, _, rfl⟩
  obtain ⟨u0, v0, rfl⟩ := hne
  clear hch
  go_enter Try.func34, Try.ntmps34
  go_wp2_with (first | (go_at_call 47; refine key.mono ?_; rintro ev w' ⟨rfl, rfl⟩) | go_in)
  go_ret
  exact ⟨rfl, rfl⟩
end Go.Proofs.Ytejeemhenoobjaa.Errs

namespace Go.Proofs.Ytejeemhenoobjaa.Asl
open Go Go.RowKit
set_option linter.unusedVariables false
set_option linter.unusedSimpArgs false
variable {P : Program} {nt : Nat} {C : Cx} {σ : St} {a : Act} {e : Nat → AV} {h : Hp}
mutual
def AV.fzb (k : Nat) (X : AV) : AV → AV
  | .ptr id off => if id = k ∧ off = 0 then .fp X else .ptr id off
  | .agg l => .agg (AV.fzbs k X l)
  | .tup l => .tup (AV.fzbs k X l)
  | .ifc t x => .ifc t (AV.fzb k X x)
  | .fn f l m => .fn f (AV.fzbs k X l) (AV.fzbs k X m)
  | x => x
def AV.fzbs (k : Nat) (X : AV) : List AV → List AV
  | [] => []
  | x :: l => AV.fzb k X x :: AV.fzbs k X l
end
theorem AV.fzb_one (k : Nat) (X x : AV) : (AV.fzb k X x).one = x.one := by
  cases x with
  | ptr id off => simp only [AV.fzb]; split <;> simp [AV.one]
  | raw v => rfl
  | _ => simp [AV.fzb, AV.one]
mutual
theorem AV.fzb_size (k : Nat) (X : AV) : ∀ x : AV, (AV.fzb k X x).size = x.size
  | .ptr id off => by simp only [AV.fzb]; split <;> simp [AV.size]
  | .agg l => by simp [AV.fzb, AV.size, AV.fzbs_sizes k X l]
  | .ow .. | .ep .. | .tup _ | .ifc .. | .fn .. | .any | .raw _ | .sl .. | .fp _ => by simp [AV.fzb, AV.size]
theorem AV.fzbs_sizes (k : Nat) (X : AV) : ∀ l : List AV, AV.sizes (AV.fzbs k X l) = AV.sizes l
  | [] => rfl
  | x :: l => by simp [AV.fzbs, AV.sizes, AV.fzb_size k X x, AV.fzbs_sizes k X l]
end
theorem AV.fzbs_mem (k : Nat) (X : AV) : ∀ {l : List AV} {y : AV}, y ∈ AV.fzbs k X l → ∃ x ∈ l, y = AV.fzb k X x
  | x :: l, y, hy => by
    simp only [AV.fzbs, List.mem_cons] at hy
    rcases hy with rfl | hy
    · exact ⟨x, by simp, rfl⟩
    · obtain ⟨z, h1, h2⟩ := AV.fzbs_mem k X hy
      exact ⟨z, by simp [h1], h2⟩
structure FzB (C : Cx) (k : Nat) (X : AV) : Prop where
  at_ : ∃ b T cs, C.ι k = some (b, T) ∧ C.F b ∧ Reads C.W b 0 cs ∧ RC C.bare X cs
theorem FzB.ptr {k : Nat} {X : AV} (f : FzB C k X) {id off : Nat} {v : Value} (hx : RV C (.ptr id off) v) : RV C (AV.fzb k X (.ptr id off)) v := by
  simp only [AV.fzb]
  split
  · rename_i hc
    obtain ⟨rfl, rfl⟩ := hc
    obtain ⟨b, T, cs, h1, h2, h3, h4⟩ := f.at_
    cases hx with
    | ptr g => rw [h1] at g; cases g; exact .fp h4 h2 h3
  · exact hx
mutual
theorem RV.fzb {C : Cx} {k : Nat} {X : AV} (f : FzB C k X) {x : AV} {v : Value} (hx : RV C x v) : RV C (AV.fzb k X x) v :=
  match hx with
  | .any v => .any v
  | .raw v => .raw v
  | .agg q => .agg (q.fzb f)
  | .tup q => .tup (q.fzb f)
  | .sl0 => .sl0
  | .sl q hs hF hr hc => .sl q hs hF hr hc
  | .fp q hF hr => .fp q hF hr
  | .ptr q => f.ptr (.ptr q)
  | .ep q => .ep q
  | .ow q hl => .ow q hl
  | .ow0 q hl => .ow0 q hl
  | .ifc q => .ifc (q.fzb f)
  | .fn h1 h2 => .fn (h1.fzb f) (h2.fzb f)
theorem RC.fzb {C : Cx} {k : Nat} {X : AV} (f : FzB C k X) {x : AV} {cs : List Value} (hx : RC C x cs) : RC C (AV.fzb k X x) cs :=
  match hx with
  | .agg q => .agg (q.fzb f)
  | .one q h1 => .one (q.fzb f) (by rw [AV.fzb_one]; exact h1)
theorem RCs.fzb {C : Cx} {k : Nat} {X : AV} (f : FzB C k X) {l : List AV} {cs : List Value} (hx : RCs C l cs) : RCs C (AV.fzbs k X l) cs :=
  match hx with
  | .nil => .nil
  | .cons q q2 => .cons (q.fzb f) (q2.fzb f)
theorem RVs.fzb {C : Cx} {k : Nat} {X : AV} (f : FzB C k X) {l : List AV} {vs : List Value} (hx : RVs C l vs) : RVs C (AV.fzbs k X l) vs :=
  match hx with
  | .nil => .nil
  | .cons q q2 => .cons (q.fzb f) (q2.fzb f)
end
def Ob.fzb (k : Nat) (X : AV) : Ob → Ob
  | .box x => .box (AV.fzb k X x)
  | .arr s l => .arr s (AV.fzbs k X l)
  | x => x
theorem Ob.fzb_live (k : Nat) (X : AV) (ob : Ob) : (ob.fzb k X).live = ob.live := by cases ob <;> rfl
def fzbH (k : Nat) (X : AV) (h : Hp) : Hp := fun i => if i = k then some .dead else (h i).map (Ob.fzb k X)
theorem Weak.fzb {k : Nat} {X : AV} (hob : h k = some (.box X)) (hn : X.noid = true) : Weak ⟨e, h⟩ ⟨fun t => AV.fzb k X (e t), fzbH k X h⟩ := fun nt C a s => by
  obtain ⟨b, T, cs, t, h1, h2, h3, h4⟩ := s.heap.at_ k _ hob
  let C' : Cx := { W := C.W, F := fun k => C.F k ∨ k = b, O := fun k => C.O k ∧ k ≠ b, ι := C.ι }
  have u : Up C C' := ⟨fun _ h => .inl h, fun _ _ => rfl, fun _ _ h => h⟩
  have hr : Reads C.W b 0 cs.toList := Reads.of_block h3
  have f : FzB C' k X := ⟨b, T, cs.toList, h1, .inr rfl, hr, (h4.bare hn).up u.bare⟩
  refine ⟨C', rfl, ⟨rfl, rfl, rfl, Nat.le_refl _, fun _ h => .inl h, fun _ _ _ => rfl, fun k hk => ?_, fun k hk => .inl hk.1, fun _ _ _ h => h⟩, s.defers, s.size, fun t => ((s.env t).up u).fzb f, ⟨fun i q hq => ?_, fun i hi => ?_, fun i j b' T' U' o q g1 g2 g3 g4 g5 g6 => ?_, fun k hk hF => ?_, fun k hk => ?_, fun k hk => s.heap.olt k hk.1, s.heap.gl.up u⟩⟩
  · rcases hk with hk | rfl
    · exact .inl hk
    · exact .inr (.inl h2)
  · simp only [fzbH] at hq
    by_cases e : i = k
    · rw [if_pos e] at hq; cases hq; subst e
      exact ⟨b, T, h1⟩
    · rw [if_neg e] at hq
      obtain ⟨o, ho, rfl⟩ := Option.map_eq_some_iff.1 hq
      have hs : HSat C' i o := by
        refine (s.heap.at_ i o ho).up u fun b2 T2 k2 k3 k4 => ⟨⟨k3, fun e2 => ?_⟩, rfl⟩
        subst e2
        exact e (s.heap.inj i k _ _ _ o _ ho k4 hob rfl k2 h1)
      cases o with
      | box x =>
        obtain ⟨b, T, cs, t, q1, q2, q3, q4⟩ := hs
        exact ⟨b, T, cs, t, q1, q2, q3, q4.fzb f⟩
      | arr sz l =>
        obtain ⟨b, T, cs, t, fr, c1, c2, q1, q2, q3, q4, q5, q6, q7, q8, q9⟩ := hs
        refine ⟨b, T, cs, t, fr, c1, c2, q1, q2, q3, q4, q5, q6.fzb f, fun y hy => ?_, q8, q9⟩
        obtain ⟨x, hx, rfl⟩ := AV.fzbs_mem k X hy
        rw [AV.fzb_size]; exact q7 x hx
      | fz sz l => exact hs
      | dead => exact hs
  · simp only [fzbH] at hi
    by_cases e : i = k
    · rw [if_pos e] at hi; cases hi
    · rw [if_neg e] at hi; exact s.heap.no i (by simpa using hi)
  · have g : ∀ i (q : Ob), fzbH k X h i = some q → q.live = true → ∃ o, h i = some o ∧ o.live = true := by
      intro i q hk hq
      simp only [fzbH] at hk
      by_cases e2 : i = k
      · rw [if_pos e2] at hk; cases hk; simp [Ob.live] at hq
      · rw [if_neg e2] at hk
        obtain ⟨o, ho, rfl⟩ := Option.map_eq_some_iff.1 hk
        exact ⟨o, ho, by rw [Ob.fzb_live] at hq; exact hq⟩
    obtain ⟨o1, x1, x2⟩ := g i o g1 g2
    obtain ⟨o2, y1, y2⟩ := g j q g3 g4
    exact s.heap.inj i j b' T' U' o1 o2 x1 x2 y1 y2 g5 g6
  · rcases hF with hF | rfl
    · exact s.heap.apart k hk.1 hF
    · exact hk.2 rfl
  · rcases hk with hk | rfl
    · exact s.heap.lt k hk
    · exact s.heap.olt _ h2
/-- A variable that was made, handed on for reading. -/
theorem Fin.fzb {k : Nat} {X r r' : AV} (hob : h k = some (.box X)) (hn : X.noid = true) (hr : Is (AV.fzb k X r) r') (hn' : Is r'.noid true) (hb : BigIn h noHeap) (hk : k < 100000) : Fin h r noHeap r' := by
  have h1 : Fin h r (fzbH k X h) r' := by
    have := Weak.fzb (e := E1 r) hob hn
    have e : (fun t => AV.fzb k X (E1 r t)) = E1 r' := by
      funext t
      unfold E1
      split
      · exact hr
      · rfl
    rw [e] at this
    exact this
  refine h1.trans (Fin.drop hn' fun id hid h0 => ?_)
  simp only [fzbH]
  rw [if_neg (by omega), hb id hid h0]; rfl
attribute [simp] AV.fzb AV.fzbs
end Go.Proofs.Ytejeemhenoobjaa.Asl

namespace Go.Proofs.Ytejeemhenoobjaa.Asl
open Go Go.RowKit
open Go.Proofs.Ytejeemhenoobjaa.Errs (EV Gr Hit)
set_option linter.unusedVariables false
set_option linter.unusedSimpArgs false
def errAV : EV → AV
  | .code c => .ifc 29 (.raw (.int .i64 c))
  | .need lo hi => .ifc 10 (.agg [.raw (.string lo), .raw (.string hi)])
  | .wrap p e => .ifc 75 (.fp (.agg [.raw (.string p), errAV e]))
def errO : Option EV → AV
  | none => .raw .nilIface
  | some e => errAV e
@[simp] theorem errO_none : errO none = .raw .nilIface := rfl
@[simp] theorem errO_some {e : EV} : errO (some e) = errAV e := rfl
@[simp] theorem errAV_code {c : Int} : errAV (.code c) = .ifc 29 (.raw (.int .i64 c)) := rfl
@[simp] theorem errAV_need {lo hi : ByteArray} : errAV (.need lo hi) = .ifc 10 (.agg [.raw (.string lo), .raw (.string hi)]) := rfl
@[simp ↓ high] theorem errAV_noid : ∀ e : EV, (errAV e).noid = true
  | .code _ => by simp
  | .need _ _ => by simp
  | .wrap p e => by simp [errAV]
@[simp ↓ high] theorem errO_noid (e : Option EV) : (errO e).noid = true := by cases e <;> simp
@[simp ↓ high] theorem errAV_one : ∀ e : EV, (errAV e).one = true
  | .code _ => rfl
  | .need _ _ => rfl
  | .wrap _ _ => rfl
@[simp ↓ high] theorem errO_one (e : Option EV) : (errO e).one = true := by
  cases e with
  | none => rfl
  | some e => exact errAV_one e
@[simp ↓ high] theorem errAV_size (e : EV) : (errAV e).size = 1 := AV.size_one (errAV_one e)
@[simp ↓ high] theorem errO_size (e : Option EV) : (errO e).size = 1 := AV.size_one (errO_one e)
@[simp ↓ high] theorem errAV_isAgg (e : EV) : (errAV e).isAgg = false := by cases e <;> rfl
@[simp ↓ high] theorem errO_isAgg (e : Option EV) : (errO e).isAgg = false := by
  cases e with
  | none => rfl
  | some e => exact errAV_isAgg e
@[simp] theorem errAV_deep (h : Hp) (e : EV) : (errAV e).deep h = errAV e := noid_deep.1 _ (errAV_noid e) h
@[simp] theorem errO_deep (h : Hp) (e : Option EV) : (errO e).deep h = errO e := noid_deep.1 _ (errO_noid e) h
@[simp] theorem errAV_within (h : Hp) (e : EV) : (errAV e).within h = true := (noid_withins h).1 _ (errAV_noid e)
@[simp] theorem errO_within (h : Hp) (e : Option EV) : (errO e).within h = true := (noid_withins h).1 _ (errO_noid e)
@[simp] theorem errAV_ren (π : Nat → Nat) (e : EV) : (errAV e).ren π = errAV e := noid_ren.1 _ (errAV_noid e) π
@[simp] theorem errO_ren (π : Nat → Nat) (e : Option EV) : (errO e).ren π = errO e := noid_ren.1 _ (errO_noid e) π
@[simp] theorem errAV_rows (e : EV) : (errAV e).rowsOf = [] := noid_rows.1 _ (errAV_noid e)
@[simp] theorem errO_rows (e : Option EV) : (errO e).rowsOf = [] := noid_rows.1 _ (errO_noid e)
@[simp ↓ high] theorem errAV_top (e : EV) : (errAV e).top = none := by cases e <;> rfl
@[simp ↓ high] theorem errAV_tag (e : EV) : (errAV e).tagP = some none := by
  cases e with
  | code c => rfl
  | need lo hi => rfl
  | wrap p e => simp only [errAV, AV.tagP]; rw [if_pos (by simp)]
@[simp ↓ high] theorem errO_tag (e : Option EV) : (errO e).tagP = some none := by
  cases e with
  | none => rfl
  | some e => exact errAV_tag e
@[simp ↓ high] theorem ifNil_err (e : EV) : ifNil (errAV e) = some false := by cases e <;> rfl
theorem get_leaf {x : AV} (h : x.isAgg = false) (n : Nat) (ag : Bool) (off : Nat) : AV.get n ag x off = if off = 0 ∧ n = 1 ∧ ag = false then some x else none := by
  cases x with
  | agg l => simp [AV.isAgg] at h
  | _ => simp [AV.get]
theorem set_leaf {x : AV} (h : x.isAgg = false) (n : Nat) (y : AV) (off : Nat) : AV.set n y x off = if off = 0 ∧ n = 1 ∧ y.one = true then some y else none := by
  cases x with
  | agg l => simp [AV.isAgg] at h
  | _ => simp [AV.set]
@[simp ↓ high] theorem errAV_get (e : EV) (n : Nat) (ag : Bool) (off : Nat) : AV.get n ag (errAV e) off = if off = 0 ∧ n = 1 ∧ ag = false then some (errAV e) else none := get_leaf (errAV_isAgg e) n ag off
@[simp ↓ high] theorem errO_get (e : Option EV) (n : Nat) (ag : Bool) (off : Nat) : AV.get n ag (errO e) off = if off = 0 ∧ n = 1 ∧ ag = false then some (errO e) else none := get_leaf (errO_isAgg e) n ag off
@[simp ↓ high] theorem errAV_set (e : EV) (n : Nat) (y : AV) (off : Nat) : AV.set n y (errAV e) off = if off = 0 ∧ n = 1 ∧ y.one = true then some y else none := set_leaf (errAV_isAgg e) n y off
@[simp ↓ high] theorem errO_set (e : Option EV) (n : Nat) (y : AV) (off : Nat) : AV.set n y (errO e) off = if off = 0 ∧ n = 1 ∧ y.one = true then some y else none := set_leaf (errO_isAgg e) n y off
theorem chain_of : ∀ (e : EV) {C : Cx} {v : Value}, RV C (errAV e) v → Errs.Chain C.W v e
  | .code c, C, v, h => by
    cases h with
    | ifc h => rw [RV.raw_eq h]; exact .code c
  | .need lo hi, C, v, h => by
    cases h with
    | ifc h =>
      cases h with
      | agg h =>
        cases h with
        | cons h1 h2 =>
          cases h2 with
          | cons h2 h3 =>
            cases h3
            cases h1 with
            | one h1 _ =>
              cases h2 with
              | one h2 _ =>
                rw [RV.raw_eq h1, RV.raw_eq h2]; exact .need lo hi
  | .wrap p e, C, v, h => by
    cases h with
    | ifc h =>
      cases h with
      | fp h hF hr =>
        cases h with
        | one h h1 => simp [AV.one] at h1
        | agg h =>
          cases h with
          | cons h1 h2 =>
            cases h2 with
            | cons h2 h3 =>
              cases h3
              cases h1 with
              | one h1 _ =>
                obtain ⟨v', rfl, h2v⟩ := h2.val.2 (errAV_isAgg e)
                rw [RV.raw_eq h1] at hr
                refine .wrap _ _ p _ e ?_ ?_ (chain_of e (h2v.up (bare_up C)))
                · exact hr 0 _ rfl
                · exact hr 1 _ rfl
theorem c_IsCode (e : EV) (c : Int) : CallD Try.prog 34 [errAV e, .ifc 29 (.raw (.int .i64 c))] noHeap (.raw (.bool (decide (e.num = some c)))) noHeap := by
  intro C vs hC hvs
  cases hvs with
  | cons h1 h2 =>
    cases h2 with
    | cons h2 h3 =>
      cases h3
      cases h2 with
      | ifc h2 =>
        rw [RV.raw_eq h2]
        refine Calls.mono (Errs.Is_code _ e (chain_of e h1) c) ?_
        rintro ev W' ⟨rfl, rfl⟩
        exact ⟨_, C, rfl, rfl, .refl C, hC, .raw _, fun _ _ h => h⟩
end Go.Proofs.Ytejeemhenoobjaa.Asl

namespace Go.Proofs.Ytejeemhenoobjaa.Asl
open Go Go.RowKit
set_option linter.unusedVariables false
set_option linter.unusedSimpArgs false
def strs (ps : List ByteArray) : List AV := ps.map fun s => .raw (.string s)
@[simp] theorem strs_len (l : List ByteArray) : (strs l).length = l.length := by simp [strs]
@[simp] theorem strs_get (l : List ByteArray) (i : Nat) : (strs l)[i]? = (l[i]?).map fun p => AV.raw (.string p) := by simp [strs]
@[simp] theorem strs_noids (l : List ByteArray) : AV.noids (strs l) = true := by
  rw [AV.noids_iff]; intro x hx
  obtain ⟨n, _, rfl⟩ := List.mem_map.1 hx
  rfl
@[simp] theorem strs_rows (l : List ByteArray) : AV.rowsOfs (strs l) = [] := noid_rows.2 _ (strs_noids l)
@[simp] theorem strs_deeps (h : Hp) (l : List ByteArray) : AV.deeps h (strs l) = strs l := noid_deep.2 _ (strs_noids l) h
@[simp] theorem strs_withins (h : Hp) (l : List ByteArray) : AV.withins h (strs l) = true := (noid_withins h).2 _ (strs_noids l)
@[simp] theorem strs_rens (π : Nat → Nat) (l : List ByteArray) : AV.rens π (strs l) = strs l := noid_ren.2 _ (strs_noids l) π
@[simp] theorem strs_app1 (l : List ByteArray) (s : ByteArray) : strs l ++ [.raw (.string s)] = strs (l ++ [s]) := by simp [strs]
@[simp] theorem strs_nil : strs [] = [] := rfl
@[simp] theorem strs_cons (s : ByteArray) (l : List ByteArray) : strs (s :: l) = AV.raw (.string s) :: strs l := rfl
@[simp] theorem strs_take (l : List ByteArray) (n : Nat) : (strs l).take n = strs (l.take n) := by simp [strs, List.map_take]
@[simp] theorem strs_drop (l : List ByteArray) (n : Nat) : (strs l).drop n = strs (l.drop n) := by simp [strs, List.map_drop]
end Go.Proofs.Ytejeemhenoobjaa.Asl

namespace Go.Proofs.Ytejeemhenoobjaa.Asl
open Go Go.RowKit
open Go.Proofs.Ytejeemhenoobjaa.Errs (EV)
set_option linter.unusedVariables false
set_option linter.unusedSimpArgs false
set_option maxRecDepth 100000
set_option maxHeartbeats 4000000
def ofE (c : Int) : Option EV := if c = 0 then none else some (.code c)
theorem c_FOf (c : Int) : CallD Try.prog 23 [.raw (.int .i64 c)] noHeap (errO (ofE c)) noHeap := by
  unfold ofE
  by_cases h : c = 0
  · subst h
    rw [if_pos rfl]
    refine zzg (nt := 7) (rs := [.tmp 2]) Try.func23 ?_; intro Q hQ hW
    repeat' (first
 | (with_reducible refine run_n ?_; with_reducible first | refine hK _ _ (by simp) ?_ | refine hK _ _ ?_; clear hK K)
 | (refine zzc ?_)
 | (with_reducible refine awp_regT (by kernel_rfl) ?_; intro K hK)
 | (with_reducible refine a_cond (ht := ?_) (hf := ?_) <;> intro hb <;> (try simp at hb) <;> (try contradiction) <;> (try subst hb) <;> (try omega))
 | (with_reducible first | refine a_move (hr:=?_) | refine a_assign (hr:=?_) | refine a_bin (hr:=?_) | refine a_makeIf (hr:=?_) | refine a_eqI (hr:=?_) | refine a_neI (hr:=?_) | refine a_eqB (hr:=?_) | refine a_eqS (hr:=?_))
 | fail)
    all_goals ((refine zzr hQ ?_))
    all_goals (exact zzd)
  · rw [if_neg h]
    refine zzg (nt := 7) (rs := [.tmp 2]) Try.func23 ?_; intro Q hQ hW
    repeat' (first
 | (with_reducible refine run_n ?_; with_reducible first | refine hK _ _ (by simp) ?_ | refine hK _ _ ?_; clear hK K)
 | (refine zzc ?_)
 | (with_reducible refine awp_regT (by kernel_rfl) ?_; intro K hK)
 | (with_reducible refine a_cond (ht := ?_) (hf := ?_) <;> intro hb <;> (try simp at hb) <;> (try contradiction) <;> (try subst hb) <;> (try omega))
 | (with_reducible first | refine a_move (hr:=?_) | refine a_assign (hr:=?_) | refine a_bin (hr:=?_) | refine a_makeIf (hr:=?_) | refine a_eqI (hr:=?_) | refine a_neI (hr:=?_) | refine a_eqB (hr:=?_) | refine a_eqS (hr:=?_))
 | fail)
    all_goals ((refine zzr hQ ?_))
    all_goals (exact zzd)
theorem c_FWrap (p : ByteArray) (e : Option EV) : CallD Try.prog 22 [.raw (.string p), errO e] noHeap (errO (e.map (.wrap p))) noHeap := by
  cases e with
  | none =>
    refine zzg (nt := 12) (rs := [.tmp 4]) Try.func22 ?_; intro Q hQ hW
    repeat' (first
 | (with_reducible refine run_n ?_; with_reducible first | refine hK _ _ (by simp) ?_ | refine hK _ _ ?_; clear hK K)
 | (refine zzc ?_)
 | (with_reducible refine awp_regT (by kernel_rfl) ?_; intro K hK)
 | (with_reducible refine a_cond (ht := ?_) (hf := ?_) <;> intro hb <;> (try simp at hb) <;> (try contradiction) <;> (try subst hb) <;> (try omega))
 | (with_reducible first | refine a_move (hr:=?_) | refine a_assign (hr:=?_) | refine a_bin (hr:=?_) | refine a_box (hr:=?_) | refine a_makeIf (hr:=?_) | refine a_eqI (hr:=?_) | refine a_neI (hr:=?_) | refine a_eqB (hr:=?_) | refine a_eqS (hr:=?_) | refine a_build (hr:=?_))
 | fail)
    all_goals ((refine zzr hQ ?_))
    all_goals (exact zzd)
  | some e =>
    simp only [errO_some, Option.map_some]
    refine zzg (nt := 12) (rs := [.tmp 4]) Try.func22 ?_; intro Q hQ hW
    repeat' (first
 | (with_reducible refine run_n ?_; with_reducible first | refine hK _ _ (by simp) ?_ | refine hK _ _ ?_; clear hK K)
 | (refine zzc ?_)
 | (with_reducible refine awp_regT (by kernel_rfl) ?_; intro K hK)
 | (with_reducible refine a_cond (ht := ?_) (hf := ?_) <;> intro hb <;> (try simp at hb) <;> (try contradiction) <;> (try subst hb) <;> (try omega))
 | (with_reducible first | refine a_move (hr:=?_) | refine a_assign (hr:=?_) | refine a_bin (hr:=?_) | refine a_box (hr:=?_) | refine a_makeIf (hr:=?_) | refine a_eqI (hr:=?_) | refine a_neI (hr:=?_) | refine a_eqB (hr:=?_) | refine a_eqS (hr:=?_) | refine a_build (hr:=?_))
 | fail)
    (refine zzr hQ ?_)
    exact Fin.fzb (k := 10) (X := .agg [.raw (.string p), errAV e]) (by simp) (by simp) (by simp [errAV]; exact .r) (by simp [errAV]; exact .r) (by simp) (by decide)
def fX : Option (ByteArray × EV) → AV
  | none => .raw (.pointer none)
  | some (p, e) => .fp (.agg [.raw (.string p), errAV e])
@[simp ↓ high] theorem fX_noid (x : Option (ByteArray × EV)) : (fX x).noid = true := by
  cases x with
  | none => rfl
  | some x => obtain ⟨p, e⟩ := x; simp [fX]
@[simp ↓ high] theorem fX_size (x : Option (ByteArray × EV)) : (fX x).size = 1 := by
  cases x with
  | none => rfl
  | some x => obtain ⟨p, e⟩ := x; simp [fX]
@[simp ↓ high] theorem fX_isAgg (x : Option (ByteArray × EV)) : (fX x).isAgg = false := by
  cases x with
  | none => rfl
  | some x => rfl
@[simp ↓ high] theorem fX_get (e : Option (ByteArray × EV)) (n : Nat) (ag : Bool) (off : Nat) : AV.get n ag (fX e) off = if off = 0 ∧ n = 1 ∧ ag = false then some (fX e) else none := get_leaf (fX_isAgg e) n ag off
@[simp ↓ high] theorem fX_set (e : Option (ByteArray × EV)) (n : Nat) (y : AV) (off : Nat) : AV.set n y (fX e) off = if off = 0 ∧ n = 1 ∧ y.one = true then some y else none := set_leaf (fX_isAgg e) n y off
@[simp] theorem fX_none : fX none = .raw (.pointer none) := rfl
@[simp] theorem fX_some (p : ByteArray) (e : EV) : fX (some (p, e)) = .fp (.agg [.raw (.string p), errAV e]) := rfl
@[simp] theorem fX_deep (h : Hp) (x : Option (ByteArray × EV)) : (fX x).deep h = fX x := noid_deep.1 _ (fX_noid x) h
@[simp] theorem fX_within (h : Hp) (x : Option (ByteArray × EV)) : (fX x).within h = true := (noid_withins h).1 _ (fX_noid x)
@[simp] theorem fX_ren (π : Nat → Nat) (x : Option (ByteArray × EV)) : (fX x).ren π = fX x := noid_ren.1 _ (fX_noid x) π
@[simp] theorem strs_ne {l : List ByteArray} : strs l = [] ↔ l = [] := by simp [strs]
end Go.Proofs.Ytejeemhenoobjaa.Asl

namespace Go.Proofs.Ytejeemhenoobjaa.Asl
open Go Go.RowKit
open Go.Proofs.Ytejeemhenoobjaa.Errs (EV)
set_option linter.unusedVariables false
set_option linter.unusedSimpArgs false
set_option maxRecDepth 100000
set_option maxHeartbeats 4000000
/-- A number that is not below 0, in digits. -/
def nat10 : Nat → Int → List Int
  | 0, _ => []
  | f + 1, n => if n < 10 then [48 + n] else nat10 f (n / 10) ++ [48 + n % 10]
def digs10 (n : Int) : List Int := if n < 0 then 45 :: nat10 20 (-n) else nat10 20 n
theorem nat10_len : ∀ (f : Nat) (n : Int), (nat10 f n).length ≤ f
  | 0, _ => by simp [nat10]
  | f + 1, n => by
    have := nat10_len f (n / 10)
    simp only [nat10]; split <;> simp <;> omega
theorem pow10 : (10 : Int) ^ 19 = 10000000000000000000 := by decide
/-- The array, filled from behind. -/
def fill (s : List Int) : List Int := List.replicate (20 - s.length) 0 ++ s
theorem fill_len {s : List Int} (h : s.length ≤ 20) : (fill s).length = 20 := by simp [fill]; omega
theorem fill_set {s : List Int} (h : s.length < 20) (x : Int) : (fill s).set (19 - s.length) x = fill (x :: s) := by
  have e1 : 20 - s.length = (19 - s.length) + 1 := by omega
  have e2 : 20 - (x :: s).length = 19 - s.length := by rw [List.length_cons]; omega
  unfold fill
  rw [e2, e1, List.replicate_succ', List.append_assoc]
  have h1 : (List.replicate (19 - s.length) (0 : Int)).length = 19 - s.length := by simp
  generalize List.replicate (19 - s.length) (0 : Int) = r at h1 ⊢
  rw [← h1, List.set_append_right _ _ (Nat.le_refl _)]; simp
theorem fill_drop {s : List Int} (h : s.length ≤ 20) : (fill s).drop (20 - s.length) = s := by
  unfold fill
  rw [List.drop_append_of_le_length (by simp)]; simp
end Go.Proofs.Ytejeemhenoobjaa.Asl

namespace Go.Proofs.Ytejeemhenoobjaa.Asl
open Go Go.RowKit
open Go.Proofs.Ytejeemhenoobjaa.Errs (EV)
set_option linter.unusedVariables false
set_option linter.unusedSimpArgs false
set_option maxRecDepth 100000
set_option maxHeartbeats 4000000
/-- Places, each with a colon behind. -/
def joinS : List ByteArray → ByteArray → ByteArray
  | [], s => s
  | p :: l, s => joinS l (s ++ (p ++ ⟨#[58, 32]⟩))
@[simp] theorem joinS_nil (s : ByteArray) : joinS [] s = s := rfl
theorem digs10_len (n : Int) : (digs10 n).length ≤ 21 := by
  unfold digs10
  split
  · have := nat10_len 20 (-n); simp; omega
  · have := nat10_len 20 n; omega
theorem digs10_size (n : Int) : (strOfNums (digs10 n)).size ≤ 21 := by
  have := digs10_len n
  unfold strOfNums; show (List.toArray _).size ≤ _; simpa using this
instance : FlatF errO := ⟨fun x => by simp⟩
def firstE : List (Option EV) → Option EV
  | [] => none
  | none :: l => firstE l
  | some e :: _ => some e
theorem c_FFirst (l : List (Option EV)) (hl : l.length < 9223372036854775808) : CallD Try.prog 32 [.sl 1 (l.map errO)] noHeap (errO (firstE l)) noHeap := by
  refine zzg (nt := 15) (rs := [.tmp 2]) Try.func32 ?_; intro Q hQ hW
  repeat' (first
 | (with_reducible refine run_n ?_; with_reducible first | refine hK _ _ (by simp) ?_ | refine hK _ _ ?_; clear hK K)
 | (refine zzc ?_)
 | (with_reducible refine awp_regT (by kernel_rfl) ?_; intro K hK)
 | (with_reducible refine a_cond (ht := ?_) (hf := ?_) <;> intro hb <;> (try simp at hb) <;> (try contradiction) <;> (try subst hb) <;> (try omega))
 | (with_reducible first | refine a_move (hr:=?_) | refine a_assign (hr:=?_) | refine a_load (hr:=?_) | refine a_bin (hr:=?_) | refine a_lenS (hr:=?_) | refine a_lenR (hr:=?_) | refine a_eqI (hr:=?_) | refine a_neI (hr:=?_) | refine a_neB (hr:=?_) | refine a_idxArr (hr:=?_) | refine a_neS (hr:=?_) | refine a_indexAddr (hr:=?_))
 | fail)
  refine awp_inv (α := Nat) (fun i => [(5, .sl 1 (l.map errO)), (6, .raw (.int .i64 l.length)), (7, .raw (.int .i64 i))]) (fun _ => hpL []) (fun i => i ≤ l.length ∧ firstE (l.drop i) = firstE l) (fun i => l.length - i) 0 ⟨by simp, by simp⟩ (zzw) ?_
  rintro i ⟨g1, g2⟩
  rw [← g2] at hQ
  rcases Nat.lt_or_ge i l.length with hlt | hge
  · have hx := List.getElem?_eq_getElem hlt
    rw [List.drop_eq_getElem_cons hlt] at g2 hQ
    generalize l[i] = y at hx g2 hQ
    cases y with
    | none =>
      simp only [firstE] at g2 hQ
      repeat' (first
 | (with_reducible refine run_n ?_; with_reducible first | refine hK _ _ (by simp) ?_ | refine hK _ _ ?_; clear hK K)
 | (refine zzc ?_)
 | (with_reducible refine awp_regT (by kernel_rfl) ?_; intro K hK)
 | (with_reducible refine a_cond (ht := ?_) (hf := ?_) <;> intro hb <;> (try simp at hb) <;> (try contradiction) <;> (try subst hb) <;> (try omega))
 | (with_reducible first | refine a_move (hr:=?_) | refine a_assign (hr:=?_) | refine a_load (hr:=?_) | refine a_bin (hr:=?_) | refine a_lenS (hr:=?_) | refine a_lenR (hr:=?_) | refine a_eqI (hr:=?_) | refine a_neI (hr:=?_) | refine a_neB (hr:=?_) | refine a_idxArr (hr:=?_) | refine a_neS (hr:=?_) | refine a_indexAddr (hr:=?_))
 | fail)
      exact ⟨i + 1, by omega, ⟨by omega, g2⟩, zzw⟩
    | some e =>
      simp only [firstE] at g2 hQ
      repeat' (first
 | (with_reducible refine run_n ?_; with_reducible first | refine hK _ _ (by simp) ?_ | refine hK _ _ ?_; clear hK K)
 | (refine zzc ?_)
 | (with_reducible refine awp_regT (by kernel_rfl) ?_; intro K hK)
 | (with_reducible refine a_cond (ht := ?_) (hf := ?_) <;> intro hb <;> (try simp at hb) <;> (try contradiction) <;> (try subst hb) <;> (try omega))
 | (with_reducible first | refine a_move (hr:=?_) | refine a_assign (hr:=?_) | refine a_load (hr:=?_) | refine a_bin (hr:=?_) | refine a_lenS (hr:=?_) | refine a_lenR (hr:=?_) | refine a_eqI (hr:=?_) | refine a_neI (hr:=?_) | refine a_neB (hr:=?_) | refine a_idxArr (hr:=?_) | refine a_neS (hr:=?_) | refine a_indexAddr (hr:=?_))
 | fail)
      (refine zzr hQ ?_)
      exact zzd
  · obtain rfl : i = l.length := by omega
    rw [List.drop_length] at hQ
    simp only [firstE] at hQ
    repeat' (first
 | (with_reducible refine run_n ?_; with_reducible first | refine hK _ _ (by simp) ?_ | refine hK _ _ ?_; clear hK K)
 | (refine zzc ?_)
 | (with_reducible refine awp_regT (by kernel_rfl) ?_; intro K hK)
 | (with_reducible refine a_cond (ht := ?_) (hf := ?_) <;> intro hb <;> (try simp at hb) <;> (try contradiction) <;> (try subst hb) <;> (try omega))
 | (with_reducible first | refine a_move (hr:=?_) | refine a_assign (hr:=?_) | refine a_load (hr:=?_) | refine a_bin (hr:=?_) | refine a_lenS (hr:=?_) | refine a_lenR (hr:=?_) | refine a_eqI (hr:=?_) | refine a_neI (hr:=?_) | refine a_neB (hr:=?_) | refine a_idxArr (hr:=?_) | refine a_neS (hr:=?_) | refine a_indexAddr (hr:=?_))
 | fail)
    (refine zzr hQ ?_)
    exact zzd
def plAV (l : List ByteArray) : AV := if l = [] then .raw (.slice none 0 0) else .sl 1 (strs l)
@[simp] theorem plAV_nil : plAV [] = .raw (.slice none 0 0) := rfl
@[simp] theorem plAV_cons (p : ByteArray) (l : List ByteArray) : plAV (p :: l) = .sl 1 (strs (p :: l)) := rfl
end Go.Proofs.Ytejeemhenoobjaa.Asl

namespace Go.Proofs.Ytejeemhenoobjaa.Asl
open Go Go.RowKit
open Go.Proofs.Ytejeemhenoobjaa.Errs (EV)
set_option linter.unusedVariables false
set_option linter.unusedSimpArgs false
set_option maxRecDepth 100000
set_option maxHeartbeats 4000000
@[simp] theorem tyI_wr : tyI Try.prog 61 = some (2, true) := by kernel_rfl
@[simp] theorem isSl_wr : isSl Try.prog 61 = false := by kernel_rfl
@[simp] theorem isStr_wr : isStr Try.prog 61 = false := by kernel_rfl
@[simp] theorem isBool_wr : isBool Try.prog 61 = false := by kernel_rfl
@[simp] theorem isPtr_wr : isPtr Try.prog 61 = false := by kernel_rfl
@[simp] theorem isIf_wr : isIf Try.prog 61 = false := by kernel_rfl
@[simp] theorem isIface_wr : isIface Try.prog 61 = false := by kernel_rfl
@[simp] theorem isArr_wr : isArr Try.prog 61 = false := by kernel_rfl
@[simp] theorem plainT_wr : plainT Try.prog 61 = false := by kernel_rfl
@[simp] theorem fldI_wr0 : fldI Try.prog 61 0 = some (0, 1, false) := by kernel_rfl
@[simp] theorem fldI_wr1 : fldI Try.prog 61 1 = some (1, 1, false) := by kernel_rfl
@[simp] theorem zAV_wr : zAV Try.prog 9 61 = .agg [.raw (.pointer none), .raw .nilIface] := by kernel_rfl
@[simp] theorem zeroIs_wr : zeroIs Try.prog 61 (.agg [.raw (.pointer none), .raw .nilIface]) := ⟨.agg #[.pointer none, .nilIface], by kernel_rfl, .inr ⟨_, _, rfl, rfl, by kernel_rfl⟩⟩
@[simp] theorem layIs_wr : layIs Try.prog 61 [.raw (.pointer none), .raw .nilIface] := layIs_of (by kernel_rfl)
/-- The reader: the first error, and what it reads. -/
abbrev wr2H (x : Option EV) (bs : List Int) (a : Nat) (e : Int) : Hp := hpL [(100001, .box (.agg [.ptr 100000 0, errO x])), (100000, .box (rdAV bs a e))]
theorem hbig_hpL {m : List (Nat × Ob)} (h : ∀ y ∈ m, 100000 ≤ y.1) : ∀ id, (hpL m id).isSome = true → 100000 ≤ id := by
  intro id h1
  cases ho : hpL m id with
  | none => rw [ho] at h1; cases h1
  | some o => exact h _ (hpL_mem ho)
/-- The first error, after one at a place. -/
def atE (x : Option EV) (p : ByteArray) (c : Int) : Option EV := firstE [x, (ofE c).map (.wrap p)]
theorem atE_0 (x : Option EV) (p : ByteArray) : atE x p 0 = x := by cases x <;> rfl
abbrev wr2X (x : Option EV) (bs : List Int) (a : Nat) (e : Int) : Hp := hpL [(100000, .box (.agg [.ptr 100001 0, errO x])), (100001, .box (rdAV bs a e))]
theorem c_fails0 (x : Option EV) (p : ByteArray) (c : Int) (bs : List Int) (a : Nat) (e : Int) : CallD Try.prog 26 [.ptr 100000 0, .raw (.string p), .raw (.int .i64 c)] (wr2X x bs a e) (.tup []) (wr2X (atE x p c) bs a e) := by
  have q1 := c_FOf c
  have q2 := c_FWrap p (ofE c)
  have q3 := c_FFirst [x, (ofE c).map (.wrap p)] (by simp)
  unfold atE
  by_cases hc : c = 0
  · subst hc
    rw [show ofE 0 = none from rfl] at q1 q2 q3 ⊢
    cases x with
    | none =>
      simp only [errO_none, Option.map_none, List.map_cons, List.map_nil, firstE] at q1 q2 q3 ⊢
      refine calls_go (nt := 19) (rs := []) Try.func26 rfl rfl rfl (by simp) (hbig_hpL (by simp)) ?_; intro Q hQ hW
      unfold wr2X
      repeat' (first
 | (with_reducible refine run_n ?_; with_reducible first | refine hK _ _ (by simp) ?_ | refine hK _ _ ?_; clear hK K)
 | (refine zzc ?_)
 | (with_reducible refine awp_regT (by kernel_rfl) ?_; intro K hK)
 | (with_reducible refine awp_regCM (id := 0) [] [(9, some 100000), (11, none), (12, none), (13, none), (18, some 100000)] mixed (by kernel_rfl) (by kernel_rfl) (by kernel_rfl) ?_; intro K hK)
 | (with_reducible refine a_cond (ht := ?_) (hf := ?_) <;> intro hb <;> (try simp at hb) <;> (try contradiction) <;> (try subst hb) <;> (try omega))
 | (with_reducible first | refine a_move (hr:=?_) | refine a_load (hr:=?_) | refine a_fieldAddr (hr:=?_) | refine a_nilCheck (hr:=?_) | refine a_store (hr:=?_) | refine a_buildSlice (hr:=?_) | refine a_call0 (hcall := q1) (hr:=?_) | refine a_callF (hcall := q2) (hr:=?_) | refine a_callF (hcall := q3) (hr:=?_))
 | fail)
      all_goals ((refine zzr hQ ?_))
      all_goals (exact Fin.keepL)
    | some x =>
      simp only [errO_none, errO_some, Option.map_none, List.map_cons, List.map_nil, firstE] at q1 q2 q3 ⊢
      refine calls_go (nt := 19) (rs := []) Try.func26 rfl rfl rfl (by simp) (hbig_hpL (by simp)) ?_; intro Q hQ hW
      unfold wr2X
      repeat' (first
 | (with_reducible refine run_n ?_; with_reducible first | refine hK _ _ (by simp) ?_ | refine hK _ _ ?_; clear hK K)
 | (refine zzc ?_)
 | (with_reducible refine awp_regT (by kernel_rfl) ?_; intro K hK)
 | (with_reducible refine awp_regCM (id := 0) [] [(9, some 100000), (11, none), (12, none), (13, none), (18, some 100000)] mixed (by kernel_rfl) (by kernel_rfl) (by kernel_rfl) ?_; intro K hK)
 | (with_reducible refine a_cond (ht := ?_) (hf := ?_) <;> intro hb <;> (try simp at hb) <;> (try contradiction) <;> (try subst hb) <;> (try omega))
 | (with_reducible first | refine a_move (hr:=?_) | refine a_load (hr:=?_) | refine a_fieldAddr (hr:=?_) | refine a_nilCheck (hr:=?_) | refine a_store (hr:=?_) | refine a_buildSlice (hr:=?_) | refine a_call0 (hcall := q1) (hr:=?_) | refine a_callF (hcall := q2) (hr:=?_) | refine a_callF (hcall := q3) (hr:=?_))
 | fail)
      all_goals ((refine zzr hQ ?_))
      all_goals (exact Fin.keepL)
  · rw [show ofE c = some (.code c) from if_neg hc] at q1 q2 q3 ⊢
    cases x with
    | none =>
      simp only [errO_none, errO_some, Option.map_some, List.map_cons, List.map_nil, firstE] at q1 q2 q3 ⊢
      refine calls_go (nt := 19) (rs := []) Try.func26 rfl rfl rfl (by simp) (hbig_hpL (by simp)) ?_; intro Q hQ hW
      unfold wr2X
      repeat' (first
 | (with_reducible refine run_n ?_; with_reducible first | refine hK _ _ (by simp) ?_ | refine hK _ _ ?_; clear hK K)
 | (refine zzc ?_)
 | (with_reducible refine awp_regT (by kernel_rfl) ?_; intro K hK)
 | (with_reducible refine awp_regCM (id := 0) [] [(9, some 100000), (11, none), (12, none), (13, none), (18, some 100000)] mixed (by kernel_rfl) (by kernel_rfl) (by kernel_rfl) ?_; intro K hK)
 | (with_reducible refine a_cond (ht := ?_) (hf := ?_) <;> intro hb <;> (try simp at hb) <;> (try contradiction) <;> (try subst hb) <;> (try omega))
 | (with_reducible first | refine a_move (hr:=?_) | refine a_load (hr:=?_) | refine a_fieldAddr (hr:=?_) | refine a_nilCheck (hr:=?_) | refine a_store (hr:=?_) | refine a_buildSlice (hr:=?_) | refine a_call0 (hcall := q1) (hr:=?_) | refine a_callF (hcall := q2) (hr:=?_) | refine a_callF (hcall := q3) (hr:=?_))
 | fail)
      all_goals ((refine zzr hQ ?_))
      all_goals (exact Fin.keepL)
    | some x =>
      simp only [errO_none, errO_some, Option.map_some, List.map_cons, List.map_nil, firstE] at q1 q2 q3 ⊢
      refine calls_go (nt := 19) (rs := []) Try.func26 rfl rfl rfl (by simp) (hbig_hpL (by simp)) ?_; intro Q hQ hW
      unfold wr2X
      repeat' (first
 | (with_reducible refine run_n ?_; with_reducible first | refine hK _ _ (by simp) ?_ | refine hK _ _ ?_; clear hK K)
 | (refine zzc ?_)
 | (with_reducible refine awp_regT (by kernel_rfl) ?_; intro K hK)
 | (with_reducible refine awp_regCM (id := 0) [] [(9, some 100000), (11, none), (12, none), (13, none), (18, some 100000)] mixed (by kernel_rfl) (by kernel_rfl) (by kernel_rfl) ?_; intro K hK)
 | (with_reducible refine a_cond (ht := ?_) (hf := ?_) <;> intro hb <;> (try simp at hb) <;> (try contradiction) <;> (try subst hb) <;> (try omega))
 | (with_reducible first | refine a_move (hr:=?_) | refine a_load (hr:=?_) | refine a_fieldAddr (hr:=?_) | refine a_nilCheck (hr:=?_) | refine a_store (hr:=?_) | refine a_buildSlice (hr:=?_) | refine a_call0 (hcall := q1) (hr:=?_) | refine a_callF (hcall := q2) (hr:=?_) | refine a_callF (hcall := q3) (hr:=?_))
 | fail)
      all_goals ((refine zzr hQ ?_))
      all_goals (exact Fin.keepL)
theorem c_fails (x : Option EV) (p : ByteArray) (c : Int) (bs : List Int) (a : Nat) (e : Int) : CallD Try.prog 26 [.ptr 100001 0, .raw (.string p), .raw (.int .i64 c)] (wr2H x bs a e) (.tup []) (wr2H (atE x p c) bs a e) := by
  have q := (c_fails0 x p c bs a e).sw 100000 100001
  unfold wr2X at q
  rw [renH_hpL, renH_hpL] at q
  simp [renL, renP, Ob.ren] at q
  unfold wr2H
  exact q
theorem c_wrtext {bs : List Int} {a : Nat} {l : List Int} (h : At bs a l) (e : Int) (x : Option EV) : ∃ a', At bs a' (sT 128 (l, e)).2.1 ∧ CallD Try.prog 25 [.ptr 100001 0] (wr2H x bs a e) (.raw (.string (sT 128 (l, e)).1)) (wr2H x bs a' (sT 128 (l, e)).2.2) := by
  obtain ⟨a1, g1, k1⟩ := x_T h e 128 (by omega)
  refine ⟨a1, g1, ?_⟩
  generalize sT 128 (l, e) = r at g1 k1 ⊢
  obtain ⟨v1, l1, e1⟩ := r
  simp only at g1 k1 ⊢
  clear h g1
  refine calls_go (nt := 8) (rs := [.tmp 2]) Try.func25 rfl rfl rfl (by simp) (hbig_hpL (by simp)) ?_; intro Q hQ hW
  unfold wr2H
  repeat' (first
 | (with_reducible refine run_n ?_; with_reducible first | refine hK _ _ (by simp) ?_ | refine hK _ _ ?_; clear hK K)
 | (refine zzc ?_)
 | (with_reducible refine awp_regT (by kernel_rfl) ?_; intro K hK)
 | (with_reducible refine a_cond (ht := ?_) (hf := ?_) <;> intro hb <;> (try simp at hb) <;> (try contradiction) <;> (try subst hb) <;> (try omega))
 | (with_reducible first | refine a_move (hr:=?_) | refine a_assign (hr:=?_) | refine a_load (hr:=?_) | refine a_fieldAddr (hr:=?_) | refine a_nilCheck (hr:=?_) | refine a_callP (p := 100000) (hcall := k1) (hr:=?_))
 | fail)
  all_goals ((refine zzr hQ ?_))
  all_goals (exact Fin.keepL)
theorem c_wrnum {bs : List Int} {a : Nat} {l : List Int} (h : At bs a l) (e : Int) (x : Option EV) (most : Int) (hm : 0 ≤ most ∧ most ≤ 1000000) : ∃ a', At bs a' (sU most (l, e)).2.1 ∧ CallD Try.prog 40 [.ptr 100001 0, .raw (.int .i64 most)] (wr2H x bs a e) (.raw (.int .i64 (sU most (l, e)).1)) (wr2H x bs a' (sU most (l, e)).2.2) := by
  obtain ⟨a1, g1, k1⟩ := x_U h e most
  have w1 := r_U h.b e (most := most) (by omega)
  refine ⟨a1, g1, ?_⟩
  generalize sU most (l, e) = r at g1 k1 w1 ⊢
  obtain ⟨v1, l1, e1⟩ := r
  simp only at g1 k1 w1 ⊢
  clear h g1
  refine calls_go (nt := 13) (rs := [.tmp 4]) Try.func40 rfl rfl rfl (by simp) (hbig_hpL (by simp)) ?_; intro Q hQ hW
  unfold wr2H
  repeat' (first
 | (with_reducible refine run_n ?_; with_reducible first | refine hK _ _ (by simp) ?_ | refine hK _ _ ?_; clear hK K)
 | (refine zzc ?_)
 | (with_reducible refine awp_regT (by kernel_rfl) ?_; intro K hK)
 | (with_reducible refine a_cond (ht := ?_) (hf := ?_) <;> intro hb <;> (try simp at hb) <;> (try contradiction) <;> (try subst hb) <;> (try omega))
 | (with_reducible first | refine a_move (hr:=?_) | refine a_assign (hr:=?_) | refine a_load (hr:=?_) | refine a_fieldAddr (hr:=?_) | refine a_nilCheck (hr:=?_) | refine a_conv (hr:=?_) | refine a_bytesStr (hr:=?_) | refine a_strBytes (hr:=?_) | refine a_sameSl (hr:=?_) | refine a_callP (p := 100000) (hcall := k1) (hr:=?_))
 | fail)
  all_goals ((refine zzr hQ ?_))
  all_goals (exact Fin.keepL)
theorem c_wtruth {bs : List Int} {a : Nat} {l : List Int} (h : At bs a l) (e : Int) (x : Option EV) (p : ByteArray) : ∃ a', At bs a' (sB (l, e)).2.1 ∧ CallD Try.prog 44 [.ptr 100001 0, .raw (.string p)] (wr2H x bs a e) (.raw (.bool (decide ((sB (l, e)).1 = 1)))) (wr2H (atE x p (if (sB (l, e)).2.2 = 0 ∧ 1 < (sB (l, e)).1 then 1 else 0)) bs a' (sB (l, e)).2.2) := by
  obtain ⟨a1, g1, k1⟩ := x_B h e
  have w1 := r_B h.b e
  refine ⟨a1, g1, ?_⟩
  generalize sB (l, e) = r at g1 k1 w1 ⊢
  obtain ⟨v1, l1, e1⟩ := r
  simp only at g1 k1 w1 ⊢
  have k2 := c_Err bs a1 e1
  clear h g1
  by_cases h0 : e1 = 0
  · subst h0
    by_cases h1 : 1 < v1
    · rw [if_pos ⟨rfl, h1⟩]
      have k3 := c_fails x p 1 bs a1 0
      generalize atE x p 1 = y at k3 ⊢
      refine calls_go (nt := 26) (rs := [.tmp 4]) Try.func44 rfl rfl rfl (by simp) (hbig_hpL (by simp)) ?_; intro Q hQ hW
      unfold wr2H
      repeat' (first
 | (with_reducible refine run_n ?_; with_reducible first | refine hK _ _ (by simp) ?_ | refine hK _ _ ?_; clear hK K)
 | (refine zzc ?_)
 | (with_reducible refine awp_regT (by kernel_rfl) ?_; intro K hK)
 | (with_reducible refine a_cond (ht := ?_) (hf := ?_) <;> intro hb <;> (try simp at hb) <;> (try contradiction) <;> (try subst hb) <;> (try omega))
 | (with_reducible first | refine a_move (hr:=?_) | refine a_assign (hr:=?_) | refine a_load (hr:=?_) | refine a_fieldAddr (hr:=?_) | refine a_nilCheck (hr:=?_) | refine a_bin (hr:=?_) | refine a_pick (hr:=?_) | refine a_eqB (hr:=?_) | refine a_eqS (hr:=?_) | refine a_callP (p := 100000) (hcall := k1) (hr:=?_) | refine a_callP (p := 100000) (hcall := k2) (hr:=?_) | refine a_callM (p := 100001) (k := 100000) (q := 100000) (hcall := k3) (hr:=?_) | refine a_gT (hr:=?_) | refine a_gF (hr:=?_) | refine a_gU (hr:=?_))
 | (with_reducible refine a_gB (hT := ?_) (hF := ?_) <;> intro hb <;> (try simp at hb) <;> (try contradiction) <;> (try subst hb) <;> (try omega))
 | fail)
      all_goals ((refine zzr hQ ?_))
      all_goals (exact Fin.keepL)
    · rw [if_neg (fun h => h1 h.2), atE_0]
      refine calls_go (nt := 26) (rs := [.tmp 4]) Try.func44 rfl rfl rfl (by simp) (hbig_hpL (by simp)) ?_; intro Q hQ hW
      unfold wr2H
      repeat' (first
 | (with_reducible refine run_n ?_; with_reducible first | refine hK _ _ (by simp) ?_ | refine hK _ _ ?_; clear hK K)
 | (refine zzc ?_)
 | (with_reducible refine awp_regT (by kernel_rfl) ?_; intro K hK)
 | (with_reducible refine a_cond (ht := ?_) (hf := ?_) <;> intro hb <;> (try simp at hb) <;> (try contradiction) <;> (try subst hb) <;> (try omega))
 | (with_reducible first | refine a_move (hr:=?_) | refine a_assign (hr:=?_) | refine a_load (hr:=?_) | refine a_fieldAddr (hr:=?_) | refine a_nilCheck (hr:=?_) | refine a_bin (hr:=?_) | refine a_pick (hr:=?_) | refine a_eqB (hr:=?_) | refine a_eqS (hr:=?_) | refine a_callP (p := 100000) (hcall := k1) (hr:=?_) | refine a_callP (p := 100000) (hcall := k2) (hr:=?_) | refine a_gT (hr:=?_) | refine a_gF (hr:=?_) | refine a_gU (hr:=?_))
 | (with_reducible refine a_gB (hT := ?_) (hF := ?_) <;> intro hb <;> (try simp at hb) <;> (try contradiction) <;> (try subst hb) <;> (try omega))
 | fail)
      all_goals ((refine zzr hQ ?_))
      all_goals (exact Fin.keepL)
  · rw [if_neg (fun h => h0 h.1), atE_0]
    refine calls_go (nt := 26) (rs := [.tmp 4]) Try.func44 rfl rfl rfl (by simp) (hbig_hpL (by simp)) ?_; intro Q hQ hW
    unfold wr2H
    repeat' (first
 | (with_reducible refine run_n ?_; with_reducible first | refine hK _ _ (by simp) ?_ | refine hK _ _ ?_; clear hK K)
 | (refine zzc ?_)
 | (with_reducible refine awp_regT (by kernel_rfl) ?_; intro K hK)
 | (with_reducible refine a_cond (ht := ?_) (hf := ?_) <;> intro hb <;> (try simp at hb) <;> (try contradiction) <;> (try subst hb) <;> (try omega))
 | (with_reducible first | refine a_move (hr:=?_) | refine a_assign (hr:=?_) | refine a_load (hr:=?_) | refine a_fieldAddr (hr:=?_) | refine a_nilCheck (hr:=?_) | refine a_bin (hr:=?_) | refine a_pick (hr:=?_) | refine a_eqB (hr:=?_) | refine a_eqS (hr:=?_) | refine a_callP (p := 100000) (hcall := k1) (hr:=?_) | refine a_callP (p := 100000) (hcall := k2) (hr:=?_) | refine a_gT (hr:=?_) | refine a_gF (hr:=?_) | refine a_gU (hr:=?_))
 | (with_reducible refine a_gB (hT := ?_) (hF := ?_) <;> intro hb <;> (try simp at hb) <;> (try contradiction) <;> (try subst hb) <;> (try omega))
 | fail)
    all_goals ((refine zzr hQ ?_))
    all_goals (exact Fin.keepL)
theorem atE_two (x : Option EV) (p : ByteArray) (c e : Int) : atE (atE x p (if e = 0 ∧ 1 < c then 1 else 0)) p e = atE x p (wrE c e) := by
  unfold wrE
  by_cases he : e = 0
  · subst he
    rw [atE_0, if_neg (show ¬ ((0 : Int) ≠ 0) by decide)]
    by_cases hc : 1 < c
    · rw [if_pos ⟨rfl, hc⟩, if_pos hc]
    · rw [if_neg (fun h => hc h.2), if_neg hc]
  · rw [if_neg (fun h => he h.1), atE_0, if_pos he]
theorem c_wnode {bs : List Int} {a : Nat} {l : List Int} (h : At bs a l) (e : Int) (x : Option EV) (p : ByteArray) : ∃ a', At bs a' (nodeS (l, e)).2.2.1 ∧ CallD Try.prog 29 [.ptr 100001 0, .raw (.string p)] (wr2H x bs a e) (nodeAV (nodeS (l, e)).1) (wr2H (atE x p (wrE (nodeS (l, e)).2.1 (nodeS (l, e)).2.2.2)) bs a' (nodeS (l, e)).2.2.2) := by
  simp only [nodeS]
  obtain ⟨a1, g1, k1⟩ := x_B h e
  have w1 := r_B h.b e
  generalize sB (l, e) = r at g1 k1 w1 ⊢
  obtain ⟨v1, l1, e1⟩ := r
  simp only at g1 k1 w1 ⊢
  obtain ⟨a2, g2, k2⟩ := c_wrtext g1 e1 x
  generalize sT 128 (l1, e1) = r at g2 k2 ⊢
  obtain ⟨v2, l2, e2⟩ := r
  simp only at g2 k2 ⊢
  obtain ⟨a3, g3, k3⟩ := c_wrnum g2 e2 x 255 (by omega)
  have w3 := r_U g2.b e2 (most := 255) (by omega)
  generalize sU 255 (l2, e2) = r at g3 k3 w3 ⊢
  obtain ⟨v3, l3, e3⟩ := r
  simp only at g3 k3 w3 ⊢
  obtain ⟨a4, g4, k4⟩ := c_wrtext g3 e3 x
  generalize sT 128 (l3, e3) = r at g4 k4 ⊢
  obtain ⟨v4, l4, e4⟩ := r
  simp only at g4 k4 ⊢
  obtain ⟨a5, g5, k5⟩ := c_wrtext g4 e4 x
  generalize sT 128 (l4, e4) = r at g5 k5 ⊢
  obtain ⟨v5, l5, e5⟩ := r
  simp only at g5 k5 ⊢
  obtain ⟨a6, g6, k6⟩ := c_wrtext g5 e5 x
  generalize sT 128 (l5, e5) = r at g6 k6 ⊢
  obtain ⟨v6, l6, e6⟩ := r
  simp only at g6 k6 ⊢
  obtain ⟨a7, g7, k7⟩ := c_wrnum g6 e6 x 255 (by omega)
  have w7 := r_U g6.b e6 (most := 255) (by omega)
  generalize sU 255 (l6, e6) = r at g7 k7 w7 ⊢
  obtain ⟨v7, l7, e7⟩ := r
  simp only at g7 k7 w7 ⊢
  obtain ⟨a8, g8, k8⟩ := c_wtruth g7 e7 x p
  generalize sB (l7, e7) = r at g8 k8 ⊢
  obtain ⟨v8, l8, e8⟩ := r
  simp only at g8 k8 ⊢
  have k9 := c_Err bs a8 e8
  have k10 := c_fails (atE x p (if e8 = 0 ∧ 1 < v8 then 1 else 0)) p e8 bs a8 e8
  rw [atE_two] at k10
  generalize atE x p (if e8 = 0 ∧ 1 < v8 then 1 else 0) = y at k8 k10
  generalize atE x p (wrE v8 e8) = z at k10 ⊢
  refine ⟨a8, g8, ?_⟩
  clear h g1 g2 g3 g4 g5 g6 g7 g8
  refine calls_go (nt := 46) (rs := [.cell 4 40]) Try.func29 rfl rfl rfl (by simp) (hbig_hpL (by simp)) ?_; intro Q hQ hW
  unfold wr2H
  repeat' (first
 | (with_reducible refine run_n ?_; with_reducible first | refine hK _ _ (by simp) ?_ | refine hK _ _ ?_; clear hK K)
 | (refine zzc ?_)
 | (with_reducible refine awp_regT (by kernel_rfl) ?_; intro K hK)
 | (with_reducible refine a_cond (ht := ?_) (hf := ?_) <;> intro hb <;> (try simp at hb) <;> (try contradiction) <;> (try subst hb) <;> (try omega))
 | (with_reducible first | refine a_move (hr:=?_) | refine a_load (hr:=?_) | refine a_fieldAddr (hr:=?_) | refine a_nilCheck (hr:=?_) | refine a_bin (hr:=?_) | refine a_store (hr:=?_) | refine a_alloc (hr:=?_) | refine a_conv (hr:=?_) | refine a_bytesStr (hr:=?_) | refine a_strBytes (hr:=?_) | refine a_sameSl (hr:=?_) | refine a_callP (p := 100000) (hcall := k1) (hr:=?_) | refine a_callM (p := 100001) (k := 100000) (q := 100000) (hcall := k2) (hr:=?_) | refine a_callM (p := 100001) (k := 100000) (q := 100000) (hcall := k3) (hr:=?_) | refine a_callM (p := 100001) (k := 100000) (q := 100000) (hcall := k4) (hr:=?_) | refine a_callM (p := 100001) (k := 100000) (q := 100000) (hcall := k5) (hr:=?_) | refine a_callM (p := 100001) (k := 100000) (q := 100000) (hcall := k6) (hr:=?_) | refine a_callM (p := 100001) (k := 100000) (q := 100000) (hcall := k7) (hr:=?_) | refine a_callM (p := 100001) (k := 100000) (q := 100000) (hcall := k8) (hr:=?_) | refine a_callP (p := 100000) (hcall := k9) (hr:=?_) | refine a_callM (p := 100001) (k := 100000) (q := 100000) (hcall := k10) (hr:=?_))
 | fail)
  all_goals ((refine zzr hQ ?_))
  all_goals (exact Fin.keepL)
theorem c_wflow {bs : List Int} {a : Nat} {l : List Int} (h : At bs a l) (e : Int) (x : Option EV) (p : ByteArray) : ∃ a', At bs a' (flowS (l, e)).2.2.1 ∧ CallD Try.prog 31 [.ptr 100001 0, .raw (.string p)] (wr2H x bs a e) (flowAV (flowS (l, e)).1) (wr2H (atE x p (wrE (flowS (l, e)).2.1 (flowS (l, e)).2.2.2)) bs a' (flowS (l, e)).2.2.2) := by
  simp only [flowS]
  obtain ⟨a1, g1, k1⟩ := c_wrnum h e x 254 (by omega)
  have w1 := r_U h.b e (most := 254) (by omega)
  generalize sU 254 (l, e) = r at g1 k1 w1 ⊢
  obtain ⟨v1, l1, e1⟩ := r
  simp only at g1 k1 w1 ⊢
  obtain ⟨a2, g2, k2⟩ := c_wrnum g1 e1 x 254 (by omega)
  have w2 := r_U g1.b e1 (most := 254) (by omega)
  generalize sU 254 (l1, e1) = r at g2 k2 w2 ⊢
  obtain ⟨v2, l2, e2⟩ := r
  simp only at g2 k2 w2 ⊢
  obtain ⟨a3, g3, k3⟩ := c_wrtext g2 e2 x
  generalize sT 128 (l2, e2) = r at g3 k3 ⊢
  obtain ⟨v3, l3, e3⟩ := r
  simp only at g3 k3 ⊢
  obtain ⟨a8, g8, k8⟩ := c_wtruth g3 e3 x p
  generalize sB (l3, e3) = r at g8 k8 ⊢
  obtain ⟨v8, l8, e8⟩ := r
  simp only at g8 k8 ⊢
  have k9 := c_Err bs a8 e8
  have k10 := c_fails (atE x p (if e8 = 0 ∧ 1 < v8 then 1 else 0)) p e8 bs a8 e8
  rw [atE_two] at k10
  generalize atE x p (if e8 = 0 ∧ 1 < v8 then 1 else 0) = y at k8 k10
  generalize atE x p (wrE v8 e8) = z at k10 ⊢
  refine ⟨a8, g8, ?_⟩
  clear h g1 g2 g3 g8
  refine calls_go (nt := 28) (rs := [.cell 4 42]) Try.func31 rfl rfl rfl (by simp) (hbig_hpL (by simp)) ?_; intro Q hQ hW
  unfold wr2H
  repeat' (first
 | (with_reducible refine run_n ?_; with_reducible first | refine hK _ _ (by simp) ?_ | refine hK _ _ ?_; clear hK K)
 | (refine zzc ?_)
 | (with_reducible refine awp_regT (by kernel_rfl) ?_; intro K hK)
 | (with_reducible refine a_cond (ht := ?_) (hf := ?_) <;> intro hb <;> (try simp at hb) <;> (try contradiction) <;> (try subst hb) <;> (try omega))
 | (with_reducible first | refine a_move (hr:=?_) | refine a_load (hr:=?_) | refine a_fieldAddr (hr:=?_) | refine a_nilCheck (hr:=?_) | refine a_store (hr:=?_) | refine a_alloc (hr:=?_) | refine a_callM (p := 100001) (k := 100000) (q := 100000) (hcall := k1) (hr:=?_) | refine a_callM (p := 100001) (k := 100000) (q := 100000) (hcall := k2) (hr:=?_) | refine a_callM (p := 100001) (k := 100000) (q := 100000) (hcall := k3) (hr:=?_) | refine a_callM (p := 100001) (k := 100000) (q := 100000) (hcall := k8) (hr:=?_) | refine a_callP (p := 100000) (hcall := k9) (hr:=?_) | refine a_callM (p := 100001) (k := 100000) (q := 100000) (hcall := k10) (hr:=?_))
 | fail)
  all_goals ((refine zzr hQ ?_))
  all_goals (exact Fin.keepL)
end Go.Proofs.Ytejeemhenoobjaa.Asl

namespace Go.Proofs.Ytejeemhenoobjaa.Asl
open Go Go.RowKit
set_option linter.unusedVariables false
set_option linter.unusedSimpArgs false
set_option maxRecDepth 100000
set_option maxHeartbeats 4000000
theorem c_VNumber (n : Int) (h0 : -9223372036854775808 ≤ n) (h1 : n < 9223372036854775808) : CallD Try.prog 50 [.raw (.int .i64 n)] noHeap (.raw (.string (strOfNums (digs10 n)))) noHeap := by
  obtain ⟨N, hN⟩ : ∃ N : Int, N = if n < 0 then -n else n := ⟨_, rfl⟩
  have hN0 : 0 ≤ N ∧ N ≤ 9223372036854775808 := by split at hN <;> omega
  have hd : digs10 n = if n < 0 then 45 :: nat10 20 N else nat10 20 N := by
    unfold digs10
    split
    · rename_i h; rw [if_pos h] at hN; rw [hN]
    · rename_i h; rw [if_neg h] at hN; rw [hN]
  rw [hd]
  clear hd
  have hz : (u8s (fill [])) = [AV.raw (.int .u8 0), AV.raw (.int .u8 0), AV.raw (.int .u8 0), AV.raw (.int .u8 0), AV.raw (.int .u8 0), AV.raw (.int .u8 0), AV.raw (.int .u8 0), AV.raw (.int .u8 0), AV.raw (.int .u8 0), AV.raw (.int .u8 0), AV.raw (.int .u8 0), AV.raw (.int .u8 0), AV.raw (.int .u8 0), AV.raw (.int .u8 0), AV.raw (.int .u8 0), AV.raw (.int .u8 0), AV.raw (.int .u8 0), AV.raw (.int .u8 0), AV.raw (.int .u8 0), AV.raw (.int .u8 0)] := rfl
  by_cases hneg : n < 0
  · rw [if_pos hneg] at hN ⊢
    have hss : IntKind.wrap .u64 n = n + 18446744073709551616 := by rw [wrap_u64']; omega
    refine zzg (nt := 37) (rs := [.tmp 2]) Try.func50 ?_; intro Q hQ hW
    repeat' (first
 | (with_reducible refine run_n ?_; with_reducible first | refine hK _ _ (by simp) ?_ | refine hK _ _ ?_; clear hK K)
 | (refine zzc ?_)
 | (with_reducible refine awp_regT (by kernel_rfl) ?_; intro K hK)
 | (with_reducible refine a_cond (ht := ?_) (hf := ?_) <;> intro hb <;> (try simp at hb) <;> (try contradiction) <;> (try subst hb) <;> (try omega))
 | (with_reducible first | refine a_move (hr:=?_) | refine a_assign (hr:=?_) | refine a_remU (hr:=?_) | refine a_quoU (hr:=?_) | refine a_bin (hr:=?_) | refine a_pick (hr:=?_) | refine a_un (hr:=?_) | refine a_store (hr:=?_) | refine a_alloc (hr:=?_) | refine a_eqB (hr:=?_) | refine a_conv (hr:=?_) | refine a_bytesStr (hr:=?_) | refine a_strBytes (hr:=?_) | refine a_sameSl (hr:=?_) | refine a_idxArr (hr:=?_) | refine a_sliceArr (hr:=?_) | refine a_eqS (hr:=?_) | refine a_sliceS (hr:=?_) | refine a_sliceR (hr:=?_) | refine a_indexAddr (hr:=?_) | refine a_gT (hr:=?_) | refine a_gF (hr:=?_) | refine a_gU (hr:=?_))
 | (with_reducible refine a_gB (hT := ?_) (hF := ?_) <;> intro hb <;> (try simp at hb) <;> (try contradiction) <;> (try subst hb) <;> (try omega))
 | fail)
    clear hss
    have hss : IntKind.wrap .u64 (-(n + 18446744073709551616)) = N := by rw [wrap_u64']; omega
    repeat' (first
 | (with_reducible refine run_n ?_; with_reducible first | refine hK _ _ (by simp) ?_ | refine hK _ _ ?_; clear hK K)
 | (refine zzc ?_)
 | (with_reducible refine awp_regT (by kernel_rfl) ?_; intro K hK)
 | (with_reducible refine a_cond (ht := ?_) (hf := ?_) <;> intro hb <;> (try simp at hb) <;> (try contradiction) <;> (try subst hb) <;> (try omega))
 | (with_reducible first | refine a_move (hr:=?_) | refine a_assign (hr:=?_) | refine a_remU (hr:=?_) | refine a_quoU (hr:=?_) | refine a_bin (hr:=?_) | refine a_pick (hr:=?_) | refine a_un (hr:=?_) | refine a_store (hr:=?_) | refine a_alloc (hr:=?_) | refine a_eqB (hr:=?_) | refine a_conv (hr:=?_) | refine a_bytesStr (hr:=?_) | refine a_strBytes (hr:=?_) | refine a_sameSl (hr:=?_) | refine a_idxArr (hr:=?_) | refine a_sliceArr (hr:=?_) | refine a_eqS (hr:=?_) | refine a_sliceS (hr:=?_) | refine a_sliceR (hr:=?_) | refine a_indexAddr (hr:=?_) | refine a_gT (hr:=?_) | refine a_gF (hr:=?_) | refine a_gU (hr:=?_))
 | (with_reducible refine a_gB (hT := ?_) (hF := ?_) <;> intro hb <;> (try simp at hb) <;> (try contradiction) <;> (try subst hb) <;> (try omega))
 | fail)
    refine awp_inv (α := Int × List Int) (fun a => [(0, .raw (.int .i64 n)), (3, .ptr 3 0), (4, .raw (.int .i64 (20 - a.2.length))), (5, .raw (.int .u64 a.1))]) (fun a => hpL [(3, .box (.agg (u8s (fill a.2))))])
      (fun a => 0 ≤ a.1 ∧ a.1 * 10 ^ a.2.length ≤ N ∧ a.2.length ≤ 19 ∧ (if a.2 ≠ [] ∧ a.1 = 0 then a.2 else nat10 (20 - a.2.length) a.1 ++ a.2) = nat10 20 N) (fun a => 20 - a.2.length) (N, []) ⟨hN0.1, by simp, by simp, by simp⟩ (by
        rw [← hz]
        exact zzw) ?_
    rintro ⟨M, s⟩ ⟨g1, g2, g3, g4⟩
    simp only at g1 g2 g3 g4 ⊢
    clear hss
    have hM : M ≤ 9223372036854775808 := by
      have h1 : (1 : Int) ≤ 10 ^ s.length := by
        have := Int.pow_pos (n := 10) (m := s.length) (by decide)
        omega
      have : M * 1 ≤ M * 10 ^ s.length := Int.mul_le_mul_of_nonneg_left h1 g1
      omega
    have hla := fill_len (s := s) (by omega)
    by_cases hst : s ≠ [] ∧ M = 0
    · rw [if_pos hst] at g4
      obtain ⟨hs0, rfl⟩ := hst
      have hsl : s.length ≠ 0 := by simpa using hs0
      rw [← g4] at hQ
      have hdr := fill_drop (s := 45 :: s) (by simp; omega)
      have hset := fill_set (s := s) (by omega) 45
      rw [show 19 - s.length = 20 - s.length - 1 by omega] at hset
      have hla0 := fill_len (s := 45 :: s) (by simp; omega)
      have hla : ((fill s).set (20 - s.length - 1) 45).length = 20 := by rw [hset]; exact hla0
      have htn : (20 - (s.length : Int) - 1).toNat = 20 - s.length - 1 := by omega
      clear hN hz g2 hM g4
      repeat' (first
 | (with_reducible refine run_n ?_; with_reducible first | refine hK _ _ (by simp) ?_ | refine hK _ _ ?_; clear hK K)
 | (refine zzc ?_)
 | (with_reducible refine awp_regT (by kernel_rfl) ?_; intro K hK)
 | (with_reducible refine a_cond (ht := ?_) (hf := ?_) <;> intro hb <;> (try simp at hb) <;> (try contradiction) <;> (try subst hb) <;> (try omega))
 | (with_reducible first | refine a_move (hr:=?_) | refine a_assign (hr:=?_) | refine a_remU (hr:=?_) | refine a_quoU (hr:=?_) | refine a_bin (hr:=?_) | refine a_pick (hr:=?_) | refine a_un (hr:=?_) | refine a_store (hr:=?_) | refine a_alloc (hr:=?_) | refine a_eqB (hr:=?_) | refine a_conv (hr:=?_) | refine a_bytesStr (hr:=?_) | refine a_strBytes (hr:=?_) | refine a_sameSl (hr:=?_) | refine a_idxArr (hr:=?_) | refine a_sliceArr (hr:=?_) | refine a_eqS (hr:=?_) | refine a_sliceS (hr:=?_) | refine a_sliceR (hr:=?_) | refine a_indexAddr (hr:=?_) | refine a_gT (hr:=?_) | refine a_gF (hr:=?_) | refine a_gU (hr:=?_))
 | (with_reducible refine a_gB (hT := ?_) (hF := ?_) <;> intro hb <;> (try simp at hb) <;> (try contradiction) <;> (try subst hb) <;> (try omega))
 | fail)
      simp only [hset]
      rw [List.length_cons, show 20 - (s.length + 1) = 20 - s.length - 1 by omega] at hdr
      generalize fill (45 :: s) = F at hla0 hdr ⊢
      have htl : 20 - (20 - s.length - 1) = s.length + 1 := by omega
      have hml : 20 - s.length - 1 + (s.length + 1) ≤ 20 := by omega
      clear hset hla
      repeat' (first
 | (with_reducible refine run_n ?_; with_reducible first | refine hK _ _ (by simp) ?_ | refine hK _ _ ?_; clear hK K)
 | (refine zzc ?_)
 | (with_reducible refine awp_regT (by kernel_rfl) ?_; intro K hK)
 | (with_reducible refine a_cond (ht := ?_) (hf := ?_) <;> intro hb <;> (try simp at hb) <;> (try contradiction) <;> (try subst hb) <;> (try omega))
 | (with_reducible first | refine a_move (hr:=?_) | refine a_assign (hr:=?_) | refine a_remU (hr:=?_) | refine a_quoU (hr:=?_) | refine a_bin (hr:=?_) | refine a_pick (hr:=?_) | refine a_un (hr:=?_) | refine a_store (hr:=?_) | refine a_alloc (hr:=?_) | refine a_eqB (hr:=?_) | refine a_conv (hr:=?_) | refine a_bytesStr (hr:=?_) | refine a_strBytes (hr:=?_) | refine a_sameSl (hr:=?_) | refine a_idxArr (hr:=?_) | refine a_sliceArr (hr:=?_) | refine a_eqS (hr:=?_) | refine a_sliceS (hr:=?_) | refine a_sliceR (hr:=?_) | refine a_indexAddr (hr:=?_) | refine a_gT (hr:=?_) | refine a_gF (hr:=?_) | refine a_gU (hr:=?_))
 | (with_reducible refine a_gB (hT := ?_) (hF := ?_) <;> intro hb <;> (try simp at hb) <;> (try contradiction) <;> (try subst hb) <;> (try omega))
 | fail)
      (refine zzr hQ ?_)
      exact zzd
    · rw [if_neg hst] at g4
      obtain ⟨q, hq⟩ : ∃ q, M / 10 = q := ⟨_, rfl⟩
      obtain ⟨d, hd⟩ : ∃ d, M % 10 = d := ⟨_, rfl⟩
      have hM2 : M = 10 * q + d := by omega
      have hd2 : 0 ≤ d ∧ d < 10 := by omega
      have hq2 : 0 ≤ q := by omega
      have hset := fill_set (s := s) (by omega) (48 + d)
      rw [show 19 - s.length = 20 - s.length - 1 by omega] at hset
      have hlen : s.length ≤ 18 := by
        rcases Nat.lt_or_ge s.length 19 with h | h
        · omega
        · have h19 : s.length = 19 := by omega
          rw [h19, pow10] at g2
          exact absurd ⟨fun e => by simp [e] at h19, by omega⟩ hst
      have hnx : (if (48 + d) :: s ≠ [] ∧ q = 0 then (48 + d) :: s else nat10 (20 - ((48 + d) :: s).length) q ++ (48 + d) :: s) = nat10 20 N := by
        rw [← g4, show 20 - s.length = (19 - s.length) + 1 by omega, nat10]
        by_cases hq0 : q = 0
        · rw [if_pos ⟨by simp, hq0⟩, if_pos (by omega), show M = d by omega]; simp
        · rw [if_neg (fun h => hq0 h.2), if_neg (by omega), hq, hd, List.length_cons, show 20 - (s.length + 1) = 19 - s.length by omega]; simp
      have hpw : q * 10 ^ (s.length + 1) ≤ N := by
        rw [Int.pow_succ, Int.mul_comm (10 ^ s.length) 10, ← Int.mul_assoc]
        have h1 : (0 : Int) ≤ 10 ^ s.length := Int.le_of_lt (Int.pow_pos (by decide))
        have : q * 10 * 10 ^ s.length ≤ M * 10 ^ s.length := Int.mul_le_mul_of_nonneg_right (by omega) h1
        omega
      have hgo : (s.length : Int) = 0 ∨ ¬ M = 0 := by
        by_cases e : s = []
        · left; simp [e]
        · right; exact fun h => hst ⟨e, h⟩
      clear g4 hst g2
      repeat' (first
 | (with_reducible refine run_n ?_; with_reducible first | refine hK _ _ (by simp) ?_ | refine hK _ _ ?_; clear hK K)
 | (refine zzc ?_)
 | (with_reducible refine awp_regT (by kernel_rfl) ?_; intro K hK)
 | (with_reducible refine a_cond (ht := ?_) (hf := ?_) <;> intro hb <;> (try simp at hb) <;> (try contradiction) <;> (try subst hb) <;> (try omega))
 | (with_reducible first | refine a_move (hr:=?_) | refine a_assign (hr:=?_) | refine a_remU (hr:=?_) | refine a_quoU (hr:=?_) | refine a_bin (hr:=?_) | refine a_pick (hr:=?_) | refine a_un (hr:=?_) | refine a_store (hr:=?_) | refine a_alloc (hr:=?_) | refine a_eqB (hr:=?_) | refine a_conv (hr:=?_) | refine a_bytesStr (hr:=?_) | refine a_strBytes (hr:=?_) | refine a_sameSl (hr:=?_) | refine a_idxArr (hr:=?_) | refine a_sliceArr (hr:=?_) | refine a_eqS (hr:=?_) | refine a_sliceS (hr:=?_) | refine a_sliceR (hr:=?_) | refine a_indexAddr (hr:=?_) | refine a_gT (hr:=?_) | refine a_gF (hr:=?_) | refine a_gU (hr:=?_))
 | (with_reducible refine a_gB (hT := ?_) (hF := ?_) <;> intro hb <;> (try simp at hb) <;> (try contradiction) <;> (try subst hb) <;> (try omega))
 | fail)
      all_goals first
        | (exfalso; omega)
        | exact ⟨(q, (48 + d) :: s), by simp; omega, ⟨hq2, hpw, by simp; omega, hnx⟩, weak_o (by rw [hd, hset]; repeat' (first | refine sub_ohp (by first | (simp; done) | (intro hne; simp at hne; simp [hne])) (by simp) ?_ | exact sub_hpL (by simp))) (by simp) (by simp [hd, hq]; omega)⟩
  · rw [if_neg hneg] at hN ⊢
    refine zzg (nt := 37) (rs := [.tmp 2]) Try.func50 ?_; intro Q hQ hW
    repeat' (first
 | (with_reducible refine run_n ?_; with_reducible first | refine hK _ _ (by simp) ?_ | refine hK _ _ ?_; clear hK K)
 | (refine zzc ?_)
 | (with_reducible refine awp_regT (by kernel_rfl) ?_; intro K hK)
 | (with_reducible refine a_cond (ht := ?_) (hf := ?_) <;> intro hb <;> (try simp at hb) <;> (try contradiction) <;> (try subst hb) <;> (try omega))
 | (with_reducible first | refine a_move (hr:=?_) | refine a_assign (hr:=?_) | refine a_remU (hr:=?_) | refine a_quoU (hr:=?_) | refine a_bin (hr:=?_) | refine a_pick (hr:=?_) | refine a_un (hr:=?_) | refine a_store (hr:=?_) | refine a_alloc (hr:=?_) | refine a_eqB (hr:=?_) | refine a_conv (hr:=?_) | refine a_bytesStr (hr:=?_) | refine a_strBytes (hr:=?_) | refine a_sameSl (hr:=?_) | refine a_idxArr (hr:=?_) | refine a_sliceArr (hr:=?_) | refine a_eqS (hr:=?_) | refine a_sliceS (hr:=?_) | refine a_sliceR (hr:=?_) | refine a_indexAddr (hr:=?_) | refine a_gT (hr:=?_) | refine a_gF (hr:=?_) | refine a_gU (hr:=?_))
 | (with_reducible refine a_gB (hT := ?_) (hF := ?_) <;> intro hb <;> (try simp at hb) <;> (try contradiction) <;> (try subst hb) <;> (try omega))
 | fail)
    refine awp_inv (α := Int × List Int) (fun a => [(0, .raw (.int .i64 n)), (3, .ptr 3 0), (4, .raw (.int .i64 (20 - a.2.length))), (5, .raw (.int .u64 a.1))]) (fun a => hpL [(3, .box (.agg (u8s (fill a.2))))])
      (fun a => 0 ≤ a.1 ∧ a.1 * 10 ^ a.2.length ≤ N ∧ a.2.length ≤ 19 ∧ (if a.2 ≠ [] ∧ a.1 = 0 then a.2 else nat10 (20 - a.2.length) a.1 ++ a.2) = nat10 20 N) (fun a => 20 - a.2.length) (N, []) ⟨hN0.1, by simp, by simp, by simp⟩ (by
        rw [← hz]
        exact zzw) ?_
    rintro ⟨M, s⟩ ⟨g1, g2, g3, g4⟩
    simp only at g1 g2 g3 g4 ⊢
    have hM : M ≤ 9223372036854775808 := by
      have h1 : (1 : Int) ≤ 10 ^ s.length := by
        have := Int.pow_pos (n := 10) (m := s.length) (by decide)
        omega
      have : M * 1 ≤ M * 10 ^ s.length := Int.mul_le_mul_of_nonneg_left h1 g1
      omega
    have hla := fill_len (s := s) (by omega)
    by_cases hst : s ≠ [] ∧ M = 0
    · rw [if_pos hst] at g4
      obtain ⟨hs0, rfl⟩ := hst
      have hsl : s.length ≠ 0 := by simpa using hs0
      rw [← g4] at hQ
      have hdr := fill_drop (s := s) (by omega)
      have htn : (20 - (s.length : Int)).toNat = 20 - s.length := by omega
      have htl : 20 - (20 - s.length) = s.length := by omega
      generalize fill s = F at hla hdr ⊢
      have hdl : F.drop (20 - s.length) = s := hdr
      have hml : (20 - s.length) + s.length ≤ 20 := by omega
      clear hN hz g2 hM g4
      repeat' (first
 | (with_reducible refine run_n ?_; with_reducible first | refine hK _ _ (by simp) ?_ | refine hK _ _ ?_; clear hK K)
 | (refine zzc ?_)
 | (with_reducible refine awp_regT (by kernel_rfl) ?_; intro K hK)
 | (with_reducible refine a_cond (ht := ?_) (hf := ?_) <;> intro hb <;> (try simp at hb) <;> (try contradiction) <;> (try subst hb) <;> (try omega))
 | (with_reducible first | refine a_move (hr:=?_) | refine a_assign (hr:=?_) | refine a_remU (hr:=?_) | refine a_quoU (hr:=?_) | refine a_bin (hr:=?_) | refine a_pick (hr:=?_) | refine a_un (hr:=?_) | refine a_store (hr:=?_) | refine a_alloc (hr:=?_) | refine a_eqB (hr:=?_) | refine a_conv (hr:=?_) | refine a_bytesStr (hr:=?_) | refine a_strBytes (hr:=?_) | refine a_sameSl (hr:=?_) | refine a_idxArr (hr:=?_) | refine a_sliceArr (hr:=?_) | refine a_eqS (hr:=?_) | refine a_sliceS (hr:=?_) | refine a_sliceR (hr:=?_) | refine a_indexAddr (hr:=?_) | refine a_gT (hr:=?_) | refine a_gF (hr:=?_) | refine a_gU (hr:=?_))
 | (with_reducible refine a_gB (hT := ?_) (hF := ?_) <;> intro hb <;> (try simp at hb) <;> (try contradiction) <;> (try subst hb) <;> (try omega))
 | fail)
      (refine zzr hQ ?_)
      exact zzd
    · rw [if_neg hst] at g4
      obtain ⟨q, hq⟩ : ∃ q, M / 10 = q := ⟨_, rfl⟩
      obtain ⟨d, hd⟩ : ∃ d, M % 10 = d := ⟨_, rfl⟩
      have hM2 : M = 10 * q + d := by omega
      have hd2 : 0 ≤ d ∧ d < 10 := by omega
      have hq2 : 0 ≤ q := by omega
      have hset := fill_set (s := s) (by omega) (48 + d)
      rw [show 19 - s.length = 20 - s.length - 1 by omega] at hset
      have hlen : s.length ≤ 18 := by
        rcases Nat.lt_or_ge s.length 19 with h | h
        · omega
        · have h19 : s.length = 19 := by omega
          rw [h19, pow10] at g2
          exact absurd ⟨fun e => by simp [e] at h19, by omega⟩ hst
      have hnx : (if (48 + d) :: s ≠ [] ∧ q = 0 then (48 + d) :: s else nat10 (20 - ((48 + d) :: s).length) q ++ (48 + d) :: s) = nat10 20 N := by
        rw [← g4, show 20 - s.length = (19 - s.length) + 1 by omega, nat10]
        by_cases hq0 : q = 0
        · rw [if_pos ⟨by simp, hq0⟩, if_pos (by omega), show M = d by omega]; simp
        · rw [if_neg (fun h => hq0 h.2), if_neg (by omega), hq, hd, List.length_cons, show 20 - (s.length + 1) = 19 - s.length by omega]; simp
      have hpw : q * 10 ^ (s.length + 1) ≤ N := by
        rw [Int.pow_succ, Int.mul_comm (10 ^ s.length) 10, ← Int.mul_assoc]
        have h1 : (0 : Int) ≤ 10 ^ s.length := Int.le_of_lt (Int.pow_pos (by decide))
        have : q * 10 * 10 ^ s.length ≤ M * 10 ^ s.length := Int.mul_le_mul_of_nonneg_right (by omega) h1
        omega
      have hgo : (s.length : Int) = 0 ∨ ¬ M = 0 := by
        by_cases e : s = []
        · left; simp [e]
        · right; exact fun h => hst ⟨e, h⟩
      clear g4 hst g2
      repeat' (first
 | (with_reducible refine run_n ?_; with_reducible first | refine hK _ _ (by simp) ?_ | refine hK _ _ ?_; clear hK K)
 | (refine zzc ?_)
 | (with_reducible refine awp_regT (by kernel_rfl) ?_; intro K hK)
 | (with_reducible refine a_cond (ht := ?_) (hf := ?_) <;> intro hb <;> (try simp at hb) <;> (try contradiction) <;> (try subst hb) <;> (try omega))
 | (with_reducible first | refine a_move (hr:=?_) | refine a_assign (hr:=?_) | refine a_remU (hr:=?_) | refine a_quoU (hr:=?_) | refine a_bin (hr:=?_) | refine a_pick (hr:=?_) | refine a_un (hr:=?_) | refine a_store (hr:=?_) | refine a_alloc (hr:=?_) | refine a_eqB (hr:=?_) | refine a_conv (hr:=?_) | refine a_bytesStr (hr:=?_) | refine a_strBytes (hr:=?_) | refine a_sameSl (hr:=?_) | refine a_idxArr (hr:=?_) | refine a_sliceArr (hr:=?_) | refine a_eqS (hr:=?_) | refine a_sliceS (hr:=?_) | refine a_sliceR (hr:=?_) | refine a_indexAddr (hr:=?_) | refine a_gT (hr:=?_) | refine a_gF (hr:=?_) | refine a_gU (hr:=?_))
 | (with_reducible refine a_gB (hT := ?_) (hF := ?_) <;> intro hb <;> (try simp at hb) <;> (try contradiction) <;> (try subst hb) <;> (try omega))
 | fail)
      all_goals first
        | (exfalso; omega)
        | exact ⟨(q, (48 + d) :: s), by simp; omega, ⟨hq2, hpw, by simp; omega, hnx⟩, weak_o (by rw [hd, hset]; repeat' (first | refine sub_ohp (by first | (simp; done) | (intro hne; simp at hne; simp [hne])) (by simp) ?_ | exact sub_hpL (by simp))) (by simp) (by simp [hd, hq]; omega)⟩
/-- Texts between quotes. -/
abbrev hexQ : ByteArray := ⟨#[48, 49, 50, 51, 52, 53, 54, 55, 56, 57, 97, 98, 99, 100, 101, 102]⟩
def escQ (c : Int) : List Int := if c = 34 ∨ c = 92 then [92, c] else if c < 32 ∨ 126 < c then [92, byteAt hexQ (c / 16), byteAt hexQ (c % 16)] else [c]
def quoQ (l : List Int) : List Int := 34 :: (l.flatMap escQ ++ [34])
theorem escQ_len (c : Int) : (escQ c).length ≤ 3 := by
  unfold escQ
  split
  · simp
  · split <;> simp
theorem u8s_one (x : Int) : [AV.raw (.int .u8 x)] = u8s [x] := rfl
theorem u8s_app3 (l : List Int) (x y z : Int) : u8s l ++ [.raw (.int .u8 x), .raw (.int .u8 y), .raw (.int .u8 z)] = u8s (l ++ [x, y, z]) := by simp [u8s]
theorem flat_esc (l : List Int) : (l.flatMap escQ).length ≤ 3 * l.length := by
  induction l with
  | nil => simp
  | cons c l ih => have := escQ_len c; rw [List.flatMap_cons, List.length_append, List.length_cons]; omega
theorem u8_and15 {c : Int} (h0 : 0 ≤ c) (h1 : c ≤ 255) : andI .u8 c 15 = c % 16 := by
  have : ∀ n : _root_.Fin 256, andI .u8 (n.val : Int) 15 = (n.val : Int) % 16 := by decide +kernel
  obtain ⟨m, rfl⟩ := Int.eq_ofNat_of_zero_le h0
  exact this ⟨m, by omega⟩
theorem u8_shr4 {c : Int} (h0 : 0 ≤ c) (h1 : c ≤ 255) : shrI .u8 c 4 = c / 16 := by
  have : ∀ n : _root_.Fin 256, shrI .u8 (n.val : Int) 4 = (n.val : Int) / 16 := by decide +kernel
  obtain ⟨m, rfl⟩ := Int.eq_ofNat_of_zero_le h0
  exact this ⟨m, by omega⟩
attribute [local simp] u8s_app3
theorem c_quote (s : ByteArray) (hs : s.size ≤ 1000000) : CallD Try.prog 51 [.raw (.string s)] noHeap (.raw (.string (strOfNums (quoQ (bytesOf s))))) noHeap := by
  have hl := len_bytes s
  refine zzg (nt := 51) (rs := [.tmp 2]) Try.func51 ?_; intro Q hQ hW
  repeat' (first
 | (with_reducible refine run_n ?_; with_reducible first | refine hK _ _ (by simp) ?_ | refine hK _ _ ?_; clear hK K)
 | (refine zzc ?_)
 | (with_reducible refine awp_regT (by kernel_rfl) ?_; intro K hK)
 | (with_reducible refine awp_regAM (id := 10) [] mixed (by kernel_rfl) (by kernel_rfl) ?_; intro K hK)
 | (with_reducible refine a_cond (ht := ?_) (hf := ?_) <;> intro hb <;> (try simp at hb) <;> (try contradiction) <;> (try subst hb) <;> (try omega))
 | (with_reducible first | refine a_move (hr:=?_) | refine a_assign (hr:=?_) | refine a_and (hr:=?_) | refine a_shr (hr:=?_) | refine a_bin (hr:=?_) | refine a_lenS (hr:=?_) | refine a_lenR (hr:=?_) | refine a_pick (hr:=?_) | refine a_eqB (hr:=?_) | refine a_conv (hr:=?_) | refine a_bytesStr (hr:=?_) | refine a_strBytes (hr:=?_) | refine a_sameSl (hr:=?_) | refine a_eqS (hr:=?_) | refine a_index (hr:=?_) | refine a_buildSlice (hr:=?_) | refine a_append (hr:=?_) | refine a_append0 (hr:=?_) | refine a_appendX (hr:=?_) | refine a_gT (hr:=?_) | refine a_gF (hr:=?_) | refine a_gU (hr:=?_))
 | (with_reducible refine a_gB (hT := ?_) (hF := ?_) <;> intro hb <;> (try simp at hb) <;> (try contradiction) <;> (try subst hb) <;> (try omega))
 | fail)
  refine awp_inv (α := Nat) (fun i => [(0, .raw (.string s)), (3, .ow 60 1 0 (34 :: ((bytesOf s).take i).flatMap escQ).length), (8, .raw (.int .i64 s.size)), (9, .raw (.int .i64 i))]) (fun i => hpL [(60, .arr 1 (u8s (34 :: ((bytesOf s).take i).flatMap escQ)))]) (fun i => i ≤ s.size) (fun i => s.size - i) 0 (by simp) (by simp only [List.take_zero, List.flatMap_nil, ← u8s_one]; exact zzx 60 6) ?_
  intro i hi
  have hfl := flat_esc ((bytesOf s).take i)
  rw [List.length_take] at hfl
  rcases Nat.lt_or_ge i s.size with hlt | hge
  · have hb1 := drop_byte s i hlt
    have ht : (bytesOf s).take (i + 1) = (bytesOf s).take i ++ [byteAt s i] := by
      have e1 := List.take_add (l := bytesOf s) (i := i) (j := 1)
      rw [e1, hb1]; rfl
    have hr := byteAt_range s i
    generalize hby : byteAt s i = c at ht hr
    have ht2 : 34 :: ((bytesOf s).take (i + 1)).flatMap escQ = 34 :: (((bytesOf s).take i).flatMap escQ ++ escQ c) := by rw [ht, List.flatMap_append]; simp
    generalize ((bytesOf s).take i).flatMap escQ = acc at ht2 hfl ⊢
    have hE : escQ c = if c = 34 ∨ c = 92 then [92, c] else if c < 32 ∨ 126 < c then [92, byteAt hexQ (c / 16), byteAt hexQ (c % 16)] else [c] := rfl
    clear hb1 ht
    have q1 : shrI .u8 c 4 = c / 16 := u8_shr4 hr.1 hr.2
    have q2 : andI .u8 c 15 = c % 16 := u8_and15 hr.1 hr.2
    by_cases h1 : c = 34 ∨ c = 92
    · rw [if_pos h1] at hE
      rw [hE] at ht2
      repeat' (first
 | (with_reducible refine run_n ?_; with_reducible first | refine hK _ _ (by simp) ?_ | refine hK _ _ ?_; clear hK K)
 | (refine zzc ?_)
 | (with_reducible refine awp_regT (by kernel_rfl) ?_; intro K hK)
 | (with_reducible refine awp_regAM (id := 10) [] mixed (by kernel_rfl) (by kernel_rfl) ?_; intro K hK)
 | (with_reducible refine a_cond (ht := ?_) (hf := ?_) <;> intro hb <;> (try simp at hb) <;> (try contradiction) <;> (try subst hb) <;> (try omega))
 | (with_reducible first | refine a_move (hr:=?_) | refine a_assign (hr:=?_) | refine a_and (hr:=?_) | refine a_shr (hr:=?_) | refine a_bin (hr:=?_) | refine a_lenS (hr:=?_) | refine a_lenR (hr:=?_) | refine a_pick (hr:=?_) | refine a_eqB (hr:=?_) | refine a_conv (hr:=?_) | refine a_bytesStr (hr:=?_) | refine a_strBytes (hr:=?_) | refine a_sameSl (hr:=?_) | refine a_eqS (hr:=?_) | refine a_index (hr:=?_) | refine a_buildSlice (hr:=?_) | refine a_append (hr:=?_) | refine a_append0 (hr:=?_) | refine a_appendX (hr:=?_) | refine a_gT (hr:=?_) | refine a_gF (hr:=?_) | refine a_gU (hr:=?_))
 | (with_reducible refine a_gB (hT := ?_) (hF := ?_) <;> intro hb <;> (try simp at hb) <;> (try contradiction) <;> (try subst hb) <;> (try omega))
 | fail)
      all_goals first
        | (exfalso; omega)
        | exact ⟨i + 1, by omega, by omega, by rw [ht2, ← List.cons_append]; exact zzx 60 29⟩
    · rw [if_neg h1] at hE
      by_cases h2 : c < 32 ∨ 126 < c
      · rw [if_pos h2] at hE
        rw [hE] at ht2
        repeat' (first
 | (with_reducible refine run_n ?_; with_reducible first | refine hK _ _ (by simp) ?_ | refine hK _ _ ?_; clear hK K)
 | (refine zzc ?_)
 | (with_reducible refine awp_regT (by kernel_rfl) ?_; intro K hK)
 | (with_reducible refine awp_regAM (id := 10) [] mixed (by kernel_rfl) (by kernel_rfl) ?_; intro K hK)
 | (with_reducible refine a_cond (ht := ?_) (hf := ?_) <;> intro hb <;> (try simp at hb) <;> (try contradiction) <;> (try subst hb) <;> (try omega))
 | (with_reducible first | refine a_move (hr:=?_) | refine a_assign (hr:=?_) | refine a_and (hr:=?_) | refine a_shr (hr:=?_) | refine a_bin (hr:=?_) | refine a_lenS (hr:=?_) | refine a_lenR (hr:=?_) | refine a_pick (hr:=?_) | refine a_eqB (hr:=?_) | refine a_conv (hr:=?_) | refine a_bytesStr (hr:=?_) | refine a_strBytes (hr:=?_) | refine a_sameSl (hr:=?_) | refine a_eqS (hr:=?_) | refine a_index (hr:=?_) | refine a_buildSlice (hr:=?_) | refine a_append (hr:=?_) | refine a_append0 (hr:=?_) | refine a_appendX (hr:=?_) | refine a_gT (hr:=?_) | refine a_gF (hr:=?_) | refine a_gU (hr:=?_))
 | (with_reducible refine a_gB (hT := ?_) (hF := ?_) <;> intro hb <;> (try simp at hb) <;> (try contradiction) <;> (try subst hb) <;> (try omega))
 | fail)
        all_goals first
          | (exfalso; omega)
          | exact ⟨i + 1, by omega, by omega, by rw [ht2, ← List.cons_append, ← q1, ← q2]; exact zzx 60 45⟩
      · rw [if_neg h2] at hE
        rw [hE] at ht2
        repeat' (first
 | (with_reducible refine run_n ?_; with_reducible first | refine hK _ _ (by simp) ?_ | refine hK _ _ ?_; clear hK K)
 | (refine zzc ?_)
 | (with_reducible refine awp_regT (by kernel_rfl) ?_; intro K hK)
 | (with_reducible refine awp_regAM (id := 10) [] mixed (by kernel_rfl) (by kernel_rfl) ?_; intro K hK)
 | (with_reducible refine a_cond (ht := ?_) (hf := ?_) <;> intro hb <;> (try simp at hb) <;> (try contradiction) <;> (try subst hb) <;> (try omega))
 | (with_reducible first | refine a_move (hr:=?_) | refine a_assign (hr:=?_) | refine a_and (hr:=?_) | refine a_shr (hr:=?_) | refine a_bin (hr:=?_) | refine a_lenS (hr:=?_) | refine a_lenR (hr:=?_) | refine a_pick (hr:=?_) | refine a_eqB (hr:=?_) | refine a_conv (hr:=?_) | refine a_bytesStr (hr:=?_) | refine a_strBytes (hr:=?_) | refine a_sameSl (hr:=?_) | refine a_eqS (hr:=?_) | refine a_index (hr:=?_) | refine a_buildSlice (hr:=?_) | refine a_append (hr:=?_) | refine a_append0 (hr:=?_) | refine a_appendX (hr:=?_) | refine a_gT (hr:=?_) | refine a_gF (hr:=?_) | refine a_gU (hr:=?_))
 | (with_reducible refine a_gB (hT := ?_) (hF := ?_) <;> intro hb <;> (try simp at hb) <;> (try contradiction) <;> (try subst hb) <;> (try omega))
 | fail)
        all_goals first
          | (exfalso; omega)
          | exact ⟨i + 1, by omega, by omega, by rw [ht2, ← List.cons_append]; exact zzx 60 18⟩
  · obtain rfl : i = s.size := by omega
    rw [List.take_of_length_le (by omega)] at hfl ⊢
    unfold quoQ at hQ
    generalize (bytesOf s).flatMap escQ = acc at hQ hfl ⊢
    have e1 : strOfNums (34 :: (acc ++ [34])) = ⟨(34 :: (List.map (fun n : Int => UInt8.ofNat n.toNat) acc ++ [34])).toArray⟩ := by simp [strOfNums]
    rw [e1] at hQ
    repeat' (first
 | (with_reducible refine run_n ?_; with_reducible first | refine hK _ _ (by simp) ?_ | refine hK _ _ ?_; clear hK K)
 | (refine zzc ?_)
 | (with_reducible refine awp_regT (by kernel_rfl) ?_; intro K hK)
 | (with_reducible refine awp_regAM (id := 10) [] mixed (by kernel_rfl) (by kernel_rfl) ?_; intro K hK)
 | (with_reducible refine a_cond (ht := ?_) (hf := ?_) <;> intro hb <;> (try simp at hb) <;> (try contradiction) <;> (try subst hb) <;> (try omega))
 | (with_reducible first | refine a_move (hr:=?_) | refine a_assign (hr:=?_) | refine a_and (hr:=?_) | refine a_shr (hr:=?_) | refine a_bin (hr:=?_) | refine a_lenS (hr:=?_) | refine a_lenR (hr:=?_) | refine a_pick (hr:=?_) | refine a_eqB (hr:=?_) | refine a_conv (hr:=?_) | refine a_bytesStr (hr:=?_) | refine a_strBytes (hr:=?_) | refine a_sameSl (hr:=?_) | refine a_eqS (hr:=?_) | refine a_index (hr:=?_) | refine a_buildSlice (hr:=?_) | refine a_append (hr:=?_) | refine a_append0 (hr:=?_) | refine a_appendX (hr:=?_) | refine a_gT (hr:=?_) | refine a_gF (hr:=?_) | refine a_gU (hr:=?_))
 | (with_reducible refine a_gB (hT := ?_) (hF := ?_) <;> intro hb <;> (try simp at hb) <;> (try contradiction) <;> (try subst hb) <;> (try omega))
 | fail)
    all_goals ((refine zzr hQ ?_))
    all_goals (exact zzd)
/-- A value as a text. -/
def prtL (k n : Int) (s : ByteArray) : List Int := if k = 1 then digs10 n else if k = 2 then (if n = 0 then [102, 97, 108, 115, 101] else [116, 114, 117, 101]) else if k = 3 then quoQ (bytesOf s) else [110, 111, 110, 101]
def prtS (k n : Int) (s : ByteArray) : ByteArray := strOfNums (prtL k n s)
theorem c_Print (k n : Int) (s : ByteArray) (hn : -9223372036854775808 ≤ n ∧ n < 9223372036854775808) (hs : s.size ≤ 1000000) : CallD Try.prog 41 [valAV k n s] noHeap (.raw (.string (prtS k n s))) noHeap := by
  have h1 := c_VNumber n hn.1 hn.2
  have h2 := c_quote s hs
  unfold prtS prtL
  by_cases k1 : k = 1
  · subst k1
    rw [if_pos rfl]
    refine zzg (nt := 20) (rs := [.tmp 2]) Try.func41 ?_; intro Q hQ hW
    repeat' (first
 | (with_reducible refine run_n ?_; with_reducible first | refine hK _ _ (by simp) ?_ | refine hK _ _ ?_; clear hK K)
 | (refine zzc ?_)
 | (with_reducible refine awp_regT (by kernel_rfl) ?_; intro K hK)
 | (with_reducible refine a_cond (ht := ?_) (hf := ?_) <;> intro hb <;> (try simp at hb) <;> (try contradiction) <;> (try subst hb) <;> (try omega))
 | (with_reducible first | refine a_assign (hr:=?_) | refine a_load (hr:=?_) | refine a_fieldAddr (hr:=?_) | refine a_bin (hr:=?_) | refine a_box (hr:=?_) | refine a_eqB (hr:=?_) | refine a_neB (hr:=?_) | refine a_eqS (hr:=?_) | refine a_neS (hr:=?_) | refine a_call0 (hcall := h1) (hr:=?_) | refine a_call0 (hcall := h2) (hr:=?_))
 | fail)
    all_goals ((refine zzr hQ ?_))
    all_goals (exact zzd)
  rw [if_neg k1]
  by_cases k2 : k = 2
  · subst k2
    rw [if_pos rfl]
    have e1 : strOfNums [102, 97, 108, 115, 101] = ⟨#[102, 97, 108, 115, 101]⟩ := rfl
    have e2 : strOfNums [116, 114, 117, 101] = ⟨#[116, 114, 117, 101]⟩ := rfl
    by_cases n0 : n = 0
    · subst n0
      rw [if_pos rfl, e1]
      refine zzg (nt := 20) (rs := [.tmp 2]) Try.func41 ?_; intro Q hQ hW
      repeat' (first
 | (with_reducible refine run_n ?_; with_reducible first | refine hK _ _ (by simp) ?_ | refine hK _ _ ?_; clear hK K)
 | (refine zzc ?_)
 | (with_reducible refine awp_regT (by kernel_rfl) ?_; intro K hK)
 | (with_reducible refine a_cond (ht := ?_) (hf := ?_) <;> intro hb <;> (try simp at hb) <;> (try contradiction) <;> (try subst hb) <;> (try omega))
 | (with_reducible first | refine a_assign (hr:=?_) | refine a_load (hr:=?_) | refine a_fieldAddr (hr:=?_) | refine a_bin (hr:=?_) | refine a_box (hr:=?_) | refine a_eqB (hr:=?_) | refine a_neB (hr:=?_) | refine a_eqS (hr:=?_) | refine a_neS (hr:=?_) | refine a_call0 (hcall := h1) (hr:=?_) | refine a_call0 (hcall := h2) (hr:=?_))
 | fail)
      all_goals ((refine zzr hQ ?_))
      all_goals (exact zzd)
    · rw [if_neg n0, e2]
      refine zzg (nt := 20) (rs := [.tmp 2]) Try.func41 ?_; intro Q hQ hW
      repeat' (first
 | (with_reducible refine run_n ?_; with_reducible first | refine hK _ _ (by simp) ?_ | refine hK _ _ ?_; clear hK K)
 | (refine zzc ?_)
 | (with_reducible refine awp_regT (by kernel_rfl) ?_; intro K hK)
 | (with_reducible refine a_cond (ht := ?_) (hf := ?_) <;> intro hb <;> (try simp at hb) <;> (try contradiction) <;> (try subst hb) <;> (try omega))
 | (with_reducible first | refine a_assign (hr:=?_) | refine a_load (hr:=?_) | refine a_fieldAddr (hr:=?_) | refine a_bin (hr:=?_) | refine a_box (hr:=?_) | refine a_eqB (hr:=?_) | refine a_neB (hr:=?_) | refine a_eqS (hr:=?_) | refine a_neS (hr:=?_) | refine a_call0 (hcall := h1) (hr:=?_) | refine a_call0 (hcall := h2) (hr:=?_))
 | fail)
      all_goals ((refine zzr hQ ?_))
      all_goals (exact zzd)
  rw [if_neg k2]
  by_cases k3 : k = 3
  · subst k3
    rw [if_pos rfl]
    refine zzg (nt := 20) (rs := [.tmp 2]) Try.func41 ?_; intro Q hQ hW
    repeat' (first
 | (with_reducible refine run_n ?_; with_reducible first | refine hK _ _ (by simp) ?_ | refine hK _ _ ?_; clear hK K)
 | (refine zzc ?_)
 | (with_reducible refine awp_regT (by kernel_rfl) ?_; intro K hK)
 | (with_reducible refine a_cond (ht := ?_) (hf := ?_) <;> intro hb <;> (try simp at hb) <;> (try contradiction) <;> (try subst hb) <;> (try omega))
 | (with_reducible first | refine a_assign (hr:=?_) | refine a_load (hr:=?_) | refine a_fieldAddr (hr:=?_) | refine a_bin (hr:=?_) | refine a_box (hr:=?_) | refine a_eqB (hr:=?_) | refine a_neB (hr:=?_) | refine a_eqS (hr:=?_) | refine a_neS (hr:=?_) | refine a_call0 (hcall := h1) (hr:=?_) | refine a_call0 (hcall := h2) (hr:=?_))
 | fail)
    all_goals ((refine zzr hQ ?_))
    all_goals (exact zzd)
  rw [if_neg k3, show strOfNums [110, 111, 110, 101] = ⟨#[110, 111, 110, 101]⟩ from rfl]
  refine zzg (nt := 20) (rs := [.tmp 2]) Try.func41 ?_; intro Q hQ hW
  repeat' (first
 | (with_reducible refine run_n ?_; with_reducible first | refine hK _ _ (by simp) ?_ | refine hK _ _ ?_; clear hK K)
 | (refine zzc ?_)
 | (with_reducible refine awp_regT (by kernel_rfl) ?_; intro K hK)
 | (with_reducible refine a_cond (ht := ?_) (hf := ?_) <;> intro hb <;> (try simp at hb) <;> (try contradiction) <;> (try subst hb) <;> (try omega))
 | (with_reducible first | refine a_assign (hr:=?_) | refine a_load (hr:=?_) | refine a_fieldAddr (hr:=?_) | refine a_bin (hr:=?_) | refine a_box (hr:=?_) | refine a_eqB (hr:=?_) | refine a_neB (hr:=?_) | refine a_eqS (hr:=?_) | refine a_neS (hr:=?_) | refine a_call0 (hcall := h1) (hr:=?_) | refine a_call0 (hcall := h2) (hr:=?_))
 | fail)
  all_goals ((refine zzr hQ ?_))
  all_goals (exact zzd)
end Go.Proofs.Ytejeemhenoobjaa.Asl

namespace Go.Proofs.Ytejeemhenoobjaa.Asl
open Go Go.RowKit
open Go.Proofs.Ytejeemhenoobjaa.Errs (EV)
set_option linter.unusedVariables false
set_option linter.unusedSimpArgs false
set_option maxRecDepth 100000
set_option maxHeartbeats 8000000
theorem Fin.frzK {h g : Hp} {r r' : AV} (hg : Is (frzA h (AV.rowsOf r)) g) (hr : Is (r.deep g) r') : Fin h r (deepH g) r' := by
  have := Weak.frz (e := E1 r) (h := h) [r]
  rw [show AV.rowsOfs [r] = AV.rowsOf r by simp [AV.rowsOfs], hg] at this
  have e : (fun t => (E1 r t).deep g) = E1 r' := by
    funext t
    unfold E1
    split
    · exact hr
    · rfl
  rw [e] at this
  exact this
theorem Fin.nilS {h : Hp} {sz : Nat} : Fin h (.raw (.slice none 0 0)) h (.sl sz []) := Fin.imp fun C v hv => by rw [RV.raw_eq hv]; exact .sl0
theorem bigIn_deep {g m : Hp} (h : BigIn g m) : BigIn (deepH g) m := fun id hid h0 => by simp only [deepH, h id hid h0]; rfl
theorem fin_rowL {α : Type} {f : α → AV} [FlatF f] {sz : Nat} {out : List α} {x : Option EV} {bs : List Int} {a : Nat} {e : Int} : Fin (ohp 60 sz (out.map f) (hpL [(100001, .box (.agg [.ptr 100000 0, errO x])), (100000, .box (rdAV bs a e))])) (orow 60 sz (out.map f)) (wr2H x bs a e) (.sl sz (out.map f)) := by
  unfold wr2H
  by_cases h : out = []
  · subst h
    rw [List.map_nil, ohp_nil (by simp), orow_nil]
    exact Fin.nilS
  · have hm : out.map f ≠ [] := by simpa using h
    rw [ohp_ne hm, orow_ne hm]
    refine (Fin.frzK (r' := .sl sz (out.map f)) (by (simp; exact .r)) (by (simp [List.take_of_length_le]; exact .r))).trans ?_
    exact Fin.keepL (hm := by simp [deepH, Ob.deep]) (hb := bigIn_deep (by simp))
/-- The place of one of a list. -/
def placeT (w : ByteArray) (i : Nat) : ByteArray := w ++ ⟨#[32]⟩ ++ prtS 1 i ⟨#[]⟩
theorem atE_none (p : ByteArray) (c : Int) : atE none p c = if c = 0 then none else some (.wrap p (.code c)) := by
  unfold atE ofE
  split <;> rfl
def listN (w : ByteArray) (most : Int) (s : RSt) (x : Option EV) : List NodeV × RSt × Option EV :=
  if atE x (w ++ ⟨#[115]⟩) (sU most s).2.2 = none then ((nodesS (sU most s).1.toNat 0 (sU most s).2 []).1, (nodesS (sU most s).1.toNat 0 (sU most s).2 []).2.2, (nodesS (sU most s).1.toNat 0 (sU most s).2 []).2.1.map fun p => .wrap (placeT w p.1) (.code p.2)) else ([], (sU most s).2, atE x (w ++ ⟨#[115]⟩) (sU most s).2.2)
structure ListIN (bs : List Int) (w : ByteArray) (k : Nat) (s1 : RSt) (x1 : Option EV) (i a : Nat) (s : RSt) (out : List NodeV) (x : Option EV) : Prop where
  le : i ≤ k
  at_ : At bs a s.1
  go : x = none → x1 = none ∧ nodesS (k - i) i s out = nodesS k 0 s1 []
  stop : ∀ y, x = some y → (x1 = none ∧ ∃ j c, nodesS k 0 s1 [] = (out, some (j, c), s) ∧ y = .wrap (placeT w j) (.code c)) ∨ (x1 = some y ∧ i = 0 ∧ out = [] ∧ s = s1)
  len : out.length = i
theorem ListIN.next {bs : List Int} {w : ByteArray} {k : Nat} {s1 : RSt} {x1 : Option EV} {i a : Nat} {s : RSt} {out : List NodeV} (g : ListIN bs w k s1 x1 i a s out none) (hlt : i < k) {a' : Nat} (ha : At bs a' (nodeS s).2.2.1) : ListIN bs w k s1 x1 (i + 1) a' (nodeS s).2.2 (out ++ [(nodeS s).1]) (atE none (placeT w i) (wrE (nodeS s).2.1 (nodeS s).2.2.2)) := by
  have hg := g.go rfl
  have hs := hg.2
  rw [show k - i = (k - (i + 1)) + 1 by omega, nodesS] at hs
  refine ⟨hlt, ha, ?_, ?_, by simp [g.len]⟩
  · intro hx
    rw [atE_none] at hx
    refine ⟨hg.1, ?_⟩
    by_cases hc : wrE (nodeS s).2.1 (nodeS s).2.2.2 = 0
    · rw [if_neg (by simpa using hc)] at hs; exact hs
    · rw [if_neg hc] at hx; cases hx
  · intro y hy
    rw [atE_none] at hy
    refine Or.inl ⟨hg.1, ?_⟩
    by_cases hc : wrE (nodeS s).2.1 (nodeS s).2.2.2 = 0
    · rw [if_pos hc] at hy; cases hy
    · rw [if_neg hc] at hy
      rw [if_pos hc] at hs
      exact ⟨_, _, hs.symm, by cases hy; rfl⟩
theorem ListIN.last {bs : List Int} {w : ByteArray} {most : Int} {s0 : RSt} {x0 : Option EV} {i a : Nat} {s : RSt} {out : List NodeV} {x : Option EV} (g : ListIN bs w (sU most s0).1.toNat (sU most s0).2 (atE x0 (w ++ ⟨#[115]⟩) (sU most s0).2.2) i a s out x) (h : x = none → (sU most s0).1.toNat ≤ i) : listN w most s0 x0 = (out, s, x) := by
  unfold listN
  cases x with
  | none =>
    have hg := g.go rfl
    rw [show (sU most s0).1.toNat - i = 0 by have := h rfl; omega, nodesS] at hg
    rw [if_pos hg.1, ← hg.2]; rfl
  | some y =>
    rcases g.stop y rfl with ⟨h1, j, c, h2, h3⟩ | ⟨h1, h2, h3, h4⟩
    · rw [if_pos h1, h2, h3]; rfl
    · rw [if_neg (by rw [h1]; simp), h1, h3, h4]
theorem At.pos {bs : List Int} {a : Nat} {l : List Int} (h : At bs a l) : a = bs.length - l.length := by
  have := h.le
  rw [← h.eq, List.length_drop]; omega
theorem nodes_at {bs : List Int} : ∀ (k i : Nat) (s : RSt) (out : List NodeV) (a : Nat), At bs a s.1 → ∃ a', At bs a' (nodesS k i s out).2.2.1
  | 0, _, s, _, a, h => ⟨a, h⟩
  | k + 1, i, s, out, a, h => by
    obtain ⟨a1, h1, _⟩ := c_wnode h s.2 none ⟨#[]⟩
    rw [nodesS]
    split
    · exact ⟨a1, h1⟩
    · exact nodes_at k (i + 1) _ _ a1 h1
theorem listN_at {bs : List Int} {a : Nat} {l : List Int} (h : At bs a l) (e : Int) (x : Option EV) (w : ByteArray) (most : Int) (hm : 0 ≤ most ∧ most ≤ 1000000) : ∃ a', At bs a' (listN w most (l, e) x).2.1.1 := by
  obtain ⟨a1, g1, _⟩ := c_wrnum h e x most hm
  unfold listN
  split
  · exact nodes_at _ _ _ _ a1 g1
  · exact ⟨a1, g1⟩
theorem c_wlistN {bs : List Int} {a : Nat} {l : List Int} (h : At bs a l) (e : Int) (x : Option EV) (w : ByteArray) (hw : w.size ≤ 1000) (most : Int) (hm : 0 ≤ most ∧ most ≤ 1000000) : ∃ a', At bs a' (listN w most (l, e) x).2.1.1 ∧ CallD Try.prog 28 [.ptr 100001 0, .raw (.string w), .raw (.int .i64 most), .fn (.func (29)) [.ptr 100001 0] []] (wr2H x bs a e) (.sl 8 ((listN w most (l, e) x).1.map nodeAV)) (wr2H (listN w most (l, e) x).2.2 bs a' (listN w most (l, e) x).2.1.2) := by
  obtain ⟨aR, hat⟩ := listN_at h e x w most hm
  refine ⟨aR, hat, ?_⟩
  have hpos := hat.pos
  clear hat
  obtain ⟨a1, g1, k1⟩ := c_wrnum h e x most hm
  have w1 := r_U h.b e (most := most) (by omega)
  have k2 := c_Err bs a1 (sU most (l, e)).2.2
  have k3 := c_fails x (w ++ ⟨#[115]⟩) (sU most (l, e)).2.2 bs a1 (sU most (l, e)).2.2
  have hlast : ∀ i a' s out x', ListIN bs w (sU most (l, e)).1.toNat (sU most (l, e)).2 (atE x (w ++ ⟨#[115]⟩) (sU most (l, e)).2.2) i a' s out x' → (x' = none → (sU most (l, e)).1.toNat ≤ i) → listN w most (l, e) x = (out, s, x') := fun i a' s out x' g h => ListIN.last g h
  generalize listN w most (l, e) x = res at hlast hpos ⊢
  have start : ListIN bs w (sU most (l, e)).1.toNat (sU most (l, e)).2 (atE x (w ++ ⟨#[115]⟩) (sU most (l, e)).2.2) 0 a1 (sU most (l, e)).2 [] (atE x (w ++ ⟨#[115]⟩) (sU most (l, e)).2.2) := by
    refine ⟨Nat.zero_le _, g1, fun h => ⟨h, by rw [Nat.sub_zero]⟩, fun y h => Or.inr ⟨h, rfl, rfl, rfl⟩, rfl⟩
  generalize atE x (w ++ ⟨#[115]⟩) (sU most (l, e)).2.2 = x1 at hlast start k3
  generalize sU most (l, e) = s0 at hlast start k1 k2 k3 w1
  obtain ⟨n, l1, e1⟩ := s0
  simp only at hlast start k1 k2 k3 w1
  obtain ⟨k, rfl⟩ : ∃ k : Nat, n = k := ⟨n.toNat, by omega⟩
  simp only [Int.toNat_natCast] at hlast start
  have hkm : k ≤ 1000000 := by omega
  clear g1 h
  refine calls_go (nt := 48) (rs := [.tmp 8]) Try.func28 rfl rfl rfl (by simp) (hbig_hpL (by simp)) ?_; intro Q hQ hW
  unfold wr2H
  repeat' (first
 | (with_reducible refine run_n ?_; with_reducible first | refine hK _ _ (by simp) ?_ | refine hK _ _ ?_; clear hK K)
 | (refine zzc ?_)
 | (with_reducible refine awp_regT (by kernel_rfl) ?_; intro K hK)
 | (with_reducible refine a_cond (ht := ?_) (hf := ?_) <;> intro hb <;> (try simp at hb) <;> (try contradiction) <;> (try subst hb) <;> (try omega))
 | (with_reducible first | refine a_move (hr:=?_) | refine a_assign (hr:=?_) | refine a_load (hr:=?_) | refine a_fieldAddr (hr:=?_) | refine a_nilCheck (hr:=?_) | refine a_bin (hr:=?_) | refine a_pick (hr:=?_) | refine a_eqI (hr:=?_) | refine a_neI (hr:=?_) | refine a_eqB (hr:=?_) | refine a_eqS (hr:=?_) | refine a_buildSlice (hr:=?_) | refine a_append (hr:=?_) | refine a_append0 (hr:=?_) | refine a_appendX (hr:=?_) | refine a_callM (p := 100001) (k := 100000) (q := 100000) (hcall := k1) (hr:=?_) | refine a_callP (p := 100000) (hcall := k2) (hr:=?_) | refine a_callM (p := 100001) (k := 100000) (q := 100000) (hcall := k3) (hr:=?_) | refine a_gT (hr:=?_) | refine a_gF (hr:=?_) | refine a_gU (hr:=?_))
 | (with_reducible refine a_gB (hT := ?_) (hF := ?_) <;> intro hb <;> (try simp at hb) <;> (try contradiction) <;> (try subst hb) <;> (try omega))
 | fail)
  refine awp_inv (α := Nat × Nat × RSt × List NodeV × Option EV) (fun s => [(0, .ptr 100001 0), (1, .raw (.string w)), (3, .fn (.func (29)) [.ptr 100001 0] []), (9, .raw (.int .i64 k)), (10, orow 60 8 (s.2.2.2.1.map nodeAV)), (11, .raw (.int .i64 s.1))]) (fun s => ohp 60 8 (s.2.2.2.1.map nodeAV) (hpL [(100001, .box (.agg [.ptr 100000 0, errO s.2.2.2.2])), (100000, .box (rdAV bs s.2.1 s.2.2.1.2))])) (fun s => ListIN bs w k (l1, e1) x1 s.1 s.2.1 s.2.2.1 s.2.2.2.1 s.2.2.2.2) (fun s => k - s.1) (0, a1, (l1, e1), [], x1) start (zzw) ?_
  clear start k1 k2 k3
  rintro ⟨i, a2, ⟨l2, e2⟩, out, y⟩ g
  simp only at g ⊢
  have gl := g.len
  have gle := g.le
  have fin : (y = none → k ≤ i) → res = (out, (l2, e2), y) ∧ aR = a2 := fun hy => by
    have h1 := hlast i a2 (l2, e2) out y g hy
    refine ⟨h1, ?_⟩
    rw [h1] at hpos
    rw [hpos, g.at_.pos]
  cases y with
  | none =>
    rcases Nat.lt_or_ge i k with hlt | hge
    · obtain ⟨a3, h3, c3⟩ := c_wnode g.at_ e2 none (placeT w i)
      have gn := g.next hlt h3
      have v1 := c_VInt i
      have v2 := c_Print 1 i ⟨#[]⟩ (by omega) (by decide)
      have hps : (prtS 1 i ⟨#[]⟩).size ≤ 1000 := by
        have := digs10_size i
        show (strOfNums (prtL 1 i ⟨#[]⟩)).size ≤ 1000
        rw [show prtL 1 i ⟨#[]⟩ = digs10 i from if_pos rfl]
        omega
      unfold placeT at gn c3
      generalize prtS 1 i ⟨#[]⟩ = pp at *
      generalize atE none (w ++ ⟨#[32]⟩ ++ pp) (wrE (nodeS (l2, e2)).2.1 (nodeS (l2, e2)).2.2.2) = y2 at gn c3
      generalize nodeS (l2, e2) = r at gn h3 c3
      obtain ⟨v, cc, l3, e3⟩ := r
      simp only at gn h3 c3
      clear fin hlast g hpos
      repeat' (first
 | (with_reducible refine run_n ?_; with_reducible first | refine hK _ _ (by simp) ?_ | refine hK _ _ ?_; clear hK K)
 | (refine zzc ?_)
 | (with_reducible refine awp_regT (by kernel_rfl) ?_; intro K hK)
 | (with_reducible refine a_cond (ht := ?_) (hf := ?_) <;> intro hb <;> (try simp at hb) <;> (try contradiction) <;> (try subst hb) <;> (try omega))
 | (with_reducible first | refine a_move (hr:=?_) | refine a_assign (hr:=?_) | refine a_load (hr:=?_) | refine a_fieldAddr (hr:=?_) | refine a_nilCheck (hr:=?_) | refine a_bin (hr:=?_) | refine a_pick (hr:=?_) | refine a_eqI (hr:=?_) | refine a_neI (hr:=?_) | refine a_eqB (hr:=?_) | refine a_eqS (hr:=?_) | refine a_buildSlice (hr:=?_) | refine a_append (hr:=?_) | refine a_append0 (hr:=?_) | refine a_appendX (hr:=?_) | refine a_call0 (hcall := v1) (hr:=?_) | refine a_call0 (hcall := v2) (hr:=?_) | refine a_callM (p := 100001) (k := 100000) (q := 100000) (hcall := c3) (hr:=?_) | refine a_gT (hr:=?_) | refine a_gF (hr:=?_) | refine a_gU (hr:=?_))
 | (with_reducible refine a_gB (hT := ?_) (hF := ?_) <;> intro hb <;> (try simp at hb) <;> (try contradiction) <;> (try subst hb) <;> (try omega))
 | fail)
      exact ⟨(i + 1, a3, (l3, e3), out ++ [v], y2), by simp only; omega, gn, by rw [List.map_append]; exact zzx 60 46⟩
    · obtain ⟨hr, ha⟩ := fin fun _ => hge
      subst hr ha
      clear fin hlast hpos g
      repeat' (first
 | (with_reducible refine run_n ?_; with_reducible first | refine hK _ _ (by simp) ?_ | refine hK _ _ ?_; clear hK K)
 | (refine zzc ?_)
 | (with_reducible refine awp_regT (by kernel_rfl) ?_; intro K hK)
 | (with_reducible refine a_cond (ht := ?_) (hf := ?_) <;> intro hb <;> (try simp at hb) <;> (try contradiction) <;> (try subst hb) <;> (try omega))
 | (with_reducible first | refine a_move (hr:=?_) | refine a_assign (hr:=?_) | refine a_load (hr:=?_) | refine a_fieldAddr (hr:=?_) | refine a_nilCheck (hr:=?_) | refine a_bin (hr:=?_) | refine a_pick (hr:=?_) | refine a_eqI (hr:=?_) | refine a_neI (hr:=?_) | refine a_eqB (hr:=?_) | refine a_eqS (hr:=?_) | refine a_buildSlice (hr:=?_) | refine a_append (hr:=?_) | refine a_append0 (hr:=?_) | refine a_appendX (hr:=?_) | refine a_gT (hr:=?_) | refine a_gF (hr:=?_) | refine a_gU (hr:=?_))
 | (with_reducible refine a_gB (hT := ?_) (hF := ?_) <;> intro hb <;> (try simp at hb) <;> (try contradiction) <;> (try subst hb) <;> (try omega))
 | fail)
      all_goals ((refine zzr hQ ?_))
      all_goals (exact fin_rowL)
  | some y =>
    obtain ⟨hr, ha⟩ := fin fun h => by cases h
    subst hr ha
    clear fin hlast hpos g
    repeat' (first
 | (with_reducible refine run_n ?_; with_reducible first | refine hK _ _ (by simp) ?_ | refine hK _ _ ?_; clear hK K)
 | (refine zzc ?_)
 | (with_reducible refine awp_regT (by kernel_rfl) ?_; intro K hK)
 | (with_reducible refine a_cond (ht := ?_) (hf := ?_) <;> intro hb <;> (try simp at hb) <;> (try contradiction) <;> (try subst hb) <;> (try omega))
 | (with_reducible first | refine a_move (hr:=?_) | refine a_assign (hr:=?_) | refine a_load (hr:=?_) | refine a_fieldAddr (hr:=?_) | refine a_nilCheck (hr:=?_) | refine a_bin (hr:=?_) | refine a_pick (hr:=?_) | refine a_eqI (hr:=?_) | refine a_neI (hr:=?_) | refine a_eqB (hr:=?_) | refine a_eqS (hr:=?_) | refine a_buildSlice (hr:=?_) | refine a_append (hr:=?_) | refine a_append0 (hr:=?_) | refine a_appendX (hr:=?_) | refine a_gT (hr:=?_) | refine a_gF (hr:=?_) | refine a_gU (hr:=?_))
 | (with_reducible refine a_gB (hT := ?_) (hF := ?_) <;> intro hb <;> (try simp at hb) <;> (try contradiction) <;> (try subst hb) <;> (try omega))
 | fail)
    all_goals ((refine zzr hQ ?_))
    all_goals (exact fin_rowL)
end Go.Proofs.Ytejeemhenoobjaa.Asl

