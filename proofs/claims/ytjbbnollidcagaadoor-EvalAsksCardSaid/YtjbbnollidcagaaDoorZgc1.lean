/- Part 1 of what the row leans on: abstract values and states, their rules, and the contracts of the functions. -/
import Derived.Below
import Derived.Orders
import Derived.KernelRfl
namespace Go.Proofs.YtjbbnollidcagaaDoor.Asl
open Go Go.RowKit
set_option linter.unusedVariables false

inductive AV where
  | any
  | raw (v : Value)
  | agg (l : List AV)
  | tup (l : List AV)
  | sl (sz : Nat) (l : List AV)
  | fp (x : AV)
  | ptr (id off : Nat)
  | ep (id sz i off : Nat)
  | ow (id sz off len : Nat)
  | ifc (t : TypeId) (x : AV)
  | fn (f : Fn) (first cap : List AV)
  deriving Inhabited

/-- A value that takes one cell. -/
def AV.one : AV → Bool
  | .any | .agg _ | .tup _ => false
  | .raw (.agg _) | .raw (.tuple _) => false
  | _ => true

mutual
def AV.size : AV → Nat
  | .agg l => AV.sizes l
  | _ => 1
def AV.sizes : List AV → Nat
  | [] => 0
  | x :: l => x.size + AV.sizes l
end

structure Cx where
  W : World
  F : Nat → Prop
  O : Nat → Prop
  ι : Nat → Option (Nat × Nat)

def Cx.bare (C : Cx) : Cx := { C with ι := fun _ => none }

def Reads (W : World) (b o : Nat) (cells : List Value) : Prop := ∀ i v, cells[i]? = some v → W.cell? ⟨b, o + i, none⟩ = some v

mutual
inductive RV : Cx → AV → Value → Prop
  | any {C} (v) : RV C .any v
  | raw {C} (v) : RV C (.raw v) v
  | agg {C l cs} (h : RCs C l cs) : RV C (.agg l) (.agg cs.toArray)
  | tup {C l vs} (h : RVs C l vs) : RV C (.tup l) (.tuple vs.toArray)
  | sl0 {C sz a c} : RV C (.sl sz []) (.slice a 0 c)
  | sl {C sz l cs b o c} (h : RCs C.bare l cs) (hs : ∀ x ∈ l, x.size = sz) (hF : C.F b) (hr : Reads C.W b o cs) (hc : l.length ≤ c) : RV C (.sl sz l) (.slice (some ⟨b, o, none⟩) l.length c)
  | fp {C x cs b o} (h : RC C.bare x cs) (hF : C.F b) (hr : Reads C.W b o cs) : RV C (.fp x) (.pointer (some ⟨b, o, none⟩))
  | ptr {C id off b T} (h : C.ι id = some (b, T)) : RV C (.ptr id off) (.pointer (some ⟨b, off, none⟩))
  | ep {C id sz i off b T} (h : C.ι id = some (b, T)) : RV C (.ep id sz i off) (.pointer (some ⟨b, i * sz + off, none⟩))
  | ow {C id sz off len b T} (h : C.ι id = some (b, T)) (hl : off + len ≤ T) : RV C (.ow id sz off len) (.slice (some ⟨b, off * sz, none⟩) len (T - off))
  | ow0 {C id sz off a b T} (h : C.ι id = some (b, T)) (hl : off = T) : RV C (.ow id sz off 0) (.slice (some a) 0 0)
  | ifc {C t x v} (h : RV C x v) : RV C (.ifc t x) (.iface t v)
  | fn {C f first cap fs cs} (h1 : RVs C first fs) (h2 : RVs C cap cs) : RV C (.fn f first cap) (.func f fs.toArray cs.toArray)
inductive RC : Cx → AV → List Value → Prop
  | agg {C l cs} (h : RCs C l cs) : RC C (.agg l) cs
  | one {C x v} (h : RV C x v) (h1 : x.one = true) : RC C x [v]
inductive RCs : Cx → List AV → List Value → Prop
  | nil {C} : RCs C [] []
  | cons {C x l c cs} (h : RC C x c) (h2 : RCs C l cs) : RCs C (x :: l) (c ++ cs)
inductive RVs : Cx → List AV → List Value → Prop
  | nil {C} : RVs C [] []
  | cons {C x l v vs} (h : RV C x v) (h2 : RVs C l vs) : RVs C (x :: l) (v :: vs)
end

/-- What holds in C holds in C', too: its frozen blocks are frozen and as they were, its owned blocks are owned. -/
structure Up (C C' : Cx) : Prop where
  F : ∀ b, C.F b → C'.F b
  heap : ∀ b, C.F b → C'.W.heap[b]? = C.W.heap[b]?
  ι : ∀ id p, C.ι id = some p → C'.ι id = some p

theorem Up.bare {C C' : Cx} (h : Up C C') : Up C.bare C'.bare := ⟨h.F, h.heap, fun _ _ e => by cases e⟩
theorem Up.refl (C : Cx) : Up C C := ⟨fun _ h => h, fun _ _ => rfl, fun _ _ h => h⟩
theorem Up.trans {A B C : Cx} (h : Up A B) (k : Up B C) : Up A C := ⟨fun b x => k.F b (h.F b x), fun b x => (k.heap b (h.F b x)).trans (h.heap b x), fun i p x => k.ι i p (h.ι i p x)⟩

theorem Reads.up {C C' : Cx} (u : Up C C') {b o : Nat} {cs : List Value} (hF : C.F b) (h : Reads C.W b o cs) : Reads C'.W b o cs := by
  intro i v hv
  have := h i v hv
  unfold World.cell? at this ⊢
  rw [u.heap b hF]; exact this

mutual
theorem RV.up {C C' : Cx} (u : Up C C') {x : AV} {v : Value} (h : RV C x v) : RV C' x v :=
  match h with
  | .any v => .any v
  | .raw v => .raw v
  | .agg h => .agg (h.up u)
  | .tup h => .tup (h.up u)
  | .sl0 => .sl0
  | .sl h hs hF hr hc => .sl (h.up u.bare) hs (u.F _ hF) (hr.up u hF) hc
  | .fp h hF hr => .fp (h.up u.bare) (u.F _ hF) (hr.up u hF)
  | .ptr h => .ptr (u.ι _ _ h)
  | .ep h => .ep (u.ι _ _ h)
  | .ow h hl => .ow (u.ι _ _ h) hl
  | .ow0 h hl => .ow0 (u.ι _ _ h) hl
  | .ifc h => .ifc (h.up u)
  | .fn h1 h2 => .fn (h1.up u) (h2.up u)
theorem RC.up {C C' : Cx} (u : Up C C') {x : AV} {cs : List Value} (h : RC C x cs) : RC C' x cs :=
  match h with
  | .agg h => .agg (h.up u)
  | .one h h1 => .one (h.up u) h1
theorem RCs.up {C C' : Cx} (u : Up C C') {l : List AV} {cs : List Value} (h : RCs C l cs) : RCs C' l cs :=
  match h with
  | .nil => .nil
  | .cons h h2 => .cons (h.up u) (h2.up u)
theorem RVs.up {C C' : Cx} (u : Up C C') {l : List AV} {vs : List Value} (h : RVs C l vs) : RVs C' l vs :=
  match h with
  | .nil => .nil
  | .cons h h2 => .cons (h.up u) (h2.up u)
end

theorem AV.size_one {x : AV} (h : x.one = true) : x.size = 1 := by
  cases x with
  | agg l => simp [AV.one] at h
  | _ => simp [AV.size]
mutual
theorem RC.len {C : Cx} {x : AV} {cs : List Value} (h : RC C x cs) : cs.length = x.size :=
  match h with
  | .agg h => by rw [AV.size]; exact h.len
  | .one h h1 => by rw [AV.size_one h1]; rfl
theorem RCs.len {C : Cx} {l : List AV} {cs : List Value} (h : RCs C l cs) : cs.length = AV.sizes l :=
  match h with
  | .nil => rfl
  | .cons h h2 => by rw [List.length_append, AV.sizes, h.len, h2.len]
end

theorem AV.sizes_all {sz : Nat} : ∀ {l : List AV}, (∀ x ∈ l, x.size = sz) → AV.sizes l = l.length * sz
  | [], _ => by simp [AV.sizes]
  | x :: l, h => by
    rw [AV.sizes, h x (by simp), AV.sizes_all (fun y hy => h y (by simp [hy])), List.length_cons]
    rw [Nat.add_mul]; omega
theorem RCs.append {C : Cx} : ∀ {l m : List AV} {c d : List Value}, RCs C l c → RCs C m d → RCs C (l ++ m) (c ++ d)
  | [], _, _, _, .nil, h => h
  | _ :: _, _, _, _, .cons h h2, k => by rw [List.append_assoc]; exact .cons h (h2.append k)
theorem RCs.split {C : Cx} : ∀ {l m : List AV} {c : List Value}, RCs C (l ++ m) c → ∃ c1 c2, c = c1 ++ c2 ∧ RCs C l c1 ∧ RCs C m c2
  | [], _, c, h => ⟨[], c, rfl, .nil, h⟩
  | _ :: _, _, _, .cons h h2 => by
    obtain ⟨c1, c2, rfl, a, b⟩ := h2.split
    exact ⟨_, c2, by rw [List.append_assoc], .cons h a, b⟩
/-- The element number i of a row of elements of one size: its cells. -/
theorem RCs.at {C : Cx} {l : List AV} {cs : List Value} (h : RCs C l cs) {sz : Nat} (hs : ∀ x ∈ l, x.size = sz) {i : Nat} {x : AV} (hi : l[i]? = some x) :
    ∃ c1 c c2, cs = c1 ++ c ++ c2 ∧ c1.length = i * sz ∧ c.length = sz ∧ RC C x c := by
  have hlt := (List.getElem?_eq_some_iff.1 hi).1
  have hx := (List.getElem?_eq_some_iff.1 hi).2
  have e : l = l.take i ++ (x :: l.drop (i + 1)) := by
    rw [← hx, List.getElem_cons_drop, List.take_append_drop]
  rw [e] at h
  obtain ⟨c1, c2, rfl, h1, h2⟩ := h.split
  cases h2 with
  | cons ha hb =>
    refine ⟨c1, _, _, (List.append_assoc _ _ _).symm, ?_, ?_, ha⟩
    · rw [h1.len, AV.sizes_all (sz := sz) (fun y hy => hs y (List.mem_of_mem_take hy)), List.length_take]
      congr 1; omega
    · rw [ha.len]; exact hs x (List.mem_of_getElem? hi)
theorem Reads.sub {W : World} {b o : Nat} {c1 c c2 : List Value} (h : Reads W b o (c1 ++ c ++ c2)) : Reads W b (o + c1.length) c := by
  intro i v hv
  have h1 := (List.getElem?_eq_some_iff.1 hv).1
  have := h (c1.length + i) v (by
    rw [List.append_assoc, List.getElem?_append_right (by omega), List.getElem?_append_left (by omega)]
    rw [show c1.length + i - c1.length = i by omega]; exact hv)
  rw [show o + c1.length + i = o + (c1.length + i) by omega]; exact this
theorem RVs.len {C : Cx} : ∀ {l : List AV} {vs : List Value}, RVs C l vs → vs.length = l.length
  | _, _, .nil => rfl
  | _, _, .cons _ h => by simp [h.len]
theorem RVs.at {C : Cx} : ∀ {l : List AV} {vs : List Value}, RVs C l vs → ∀ {i : Nat} {x : AV}, l[i]? = some x → ∃ v, vs[i]? = some v ∧ RV C x v
  | _, _, .cons h _, 0, _, e => by
    simp at e; subst e
    exact ⟨_, rfl, h⟩
  | _, _, .cons _ h, i + 1, _, e => by
    simp at e
    obtain ⟨v, a, b⟩ := h.at e
    exact ⟨v, by simpa using a, b⟩
theorem RVs.append {C : Cx} : ∀ {l m : List AV} {c d : List Value}, RVs C l c → RVs C m d → RVs C (l ++ m) (c ++ d)
  | [], _, _, _, .nil, h => h
  | _ :: _, _, _, _, .cons h h2, k => .cons h (h2.append k)

mutual
def AV.flat : AV → Bool
  | .raw _ => true
  | .agg l => AV.flats l
  | .tup l => AV.flats l
  | .ifc _ x => x.flat
  | _ => false
def AV.flats : List AV → Bool
  | [] => true
  | x :: l => x.flat && AV.flats l
end
mutual
theorem RV.of_flat {C C' : Cx} {x : AV} {v : Value} (h : RV C x v) (hf : x.flat = true) : RV C' x v :=
  match h with
  | .raw v => .raw v
  | .agg h => .agg (h.of_flat (by simpa [AV.flat] using hf))
  | .tup h => .tup (h.of_flat (by simpa [AV.flat] using hf))
  | .ifc h => .ifc (h.of_flat (by simpa [AV.flat] using hf))
  | .any _ | .sl0 | .sl .. | .fp .. | .ptr _ | .ep _ | .ow .. | .ow0 .. | .fn .. => by simp [AV.flat] at hf
theorem RC.of_flat {C C' : Cx} {x : AV} {cs : List Value} (h : RC C x cs) (hf : x.flat = true) : RC C' x cs :=
  match h with
  | .agg h => .agg (h.of_flat (by simpa [AV.flat] using hf))
  | .one h h1 => .one (h.of_flat hf) h1
theorem RCs.of_flat {C C' : Cx} {l : List AV} {cs : List Value} (h : RCs C l cs) (hf : AV.flats l = true) : RCs C' l cs :=
  match h with
  | .nil => .nil
  | .cons h h2 => by
    simp [AV.flats] at hf
    exact .cons (h.of_flat hf.1) (h2.of_flat hf.2)
theorem RVs.of_flat {C C' : Cx} {l : List AV} {vs : List Value} (h : RVs C l vs) (hf : AV.flats l = true) : RVs C' l vs :=
  match h with
  | .nil => .nil
  | .cons h h2 => by
    simp [AV.flats] at hf
    exact .cons (h.of_flat hf.1) (h2.of_flat hf.2)
end
end Go.Proofs.YtjbbnollidcagaaDoor.Asl

namespace Go.Proofs.YtjbbnollidcagaaDoor.Asl
open Go Go.RowKit
set_option linter.unusedVariables false

/-- box: a variable in memory · arr: a row that may be written, and grown · fz: a row that is only read from now on · dead: nothing is known. -/
inductive Ob where
  | box (x : AV)
  | arr (sz : Nat) (l : List AV)
  | fz (sz : Nat) (l : List AV)
  | dead
def Ob.live : Ob → Bool
  | .box _ | .arr _ _ => true
  | _ => false

abbrev Hp := Nat → Option Ob

structure St where
  env : Nat → AV
  heap : Hp

def noHeap : Hp := fun _ => none
def setH (h : Hp) (id : Nat) (o : Ob) : Hp := fun i => if i = id then some o else h i
def setE (e : Nat → AV) (t : Nat) (v : AV) : Nat → AV := fun u => if u = t then v else e u
def St.put (σ : St) (d : Option Tmp) (v : AV) : St := match d with | some t => { σ with env := setE σ.env t v } | none => σ
def St.ev (σ : St) : Operand → AV
  | .tmp t => σ.env t
  | .const v => .raw v
  | .global g => .raw (.pointer (some ⟨g, 0, none⟩))
  | .func f => .raw (.func (.func f) #[] #[])

def NoFz (n : Nat) (fr : Nat × Nat) : Prop := ∀ o, o < n → ¬ (fr.1 ≤ o ∧ o < fr.2)
def HSat (C : Cx) (id : Nat) : Ob → Prop
  | .box x => ∃ b T cs t, C.ι id = some (b, T) ∧ C.O b ∧ C.W.heap[b]? = some (.cells cs t (0, 0)) ∧ RC C x cs.toList
  | .arr sz l => ∃ b T cs t fr c1 c2, C.ι id = some (b, T) ∧ C.O b ∧ C.W.heap[b]? = some (.cells cs t fr) ∧ NoFz cs.size fr ∧ cs.toList = c1 ++ c2 ∧ RCs C l c1 ∧ (∀ x ∈ l, x.size = sz) ∧ cs.size = T * sz ∧ 0 < sz
  | .fz sz l => ∃ b T c1, C.ι id = some (b, T) ∧ C.F b ∧ Reads C.W b 0 c1 ∧ RCs C.bare l c1 ∧ (∀ x ∈ l, x.size = sz) ∧ 0 < sz
  | .dead => ∃ b T, C.ι id = some (b, T)

/-- What the listed package-level variables hold. -/
def globs : List (Nat × Value) := [(0, .iface 135 (.agg #[.pointer (some ⟨1, 38, none⟩)]))]
def Gl (C : Cx) : Prop := ∀ p ∈ globs, C.F p.1 ∧ C.W.cell? ⟨p.1, 0, none⟩ = some p.2
theorem Gl.up {C C' : Cx} (g : Gl C) (u : Up C C') : Gl C' := fun p hp => ⟨u.F _ (g p hp).1, by
  have := (g p hp).2
  unfold World.cell? at this ⊢
  rw [u.heap _ (g p hp).1]; exact this⟩
structure HOk (C : Cx) (h : Hp) : Prop where
  at_ : ∀ id ob, h id = some ob → HSat C id ob
  no : ∀ id, h id = none → C.ι id = none
  inj : ∀ i j b T U o q, h i = some o → o.live = true → h j = some q → q.live = true → C.ι i = some (b, T) → C.ι j = some (b, U) → i = j
  apart : ∀ b, C.O b → ¬ C.F b
  lt : ∀ b, C.F b → b < C.W.heap.size
  olt : ∀ b, C.O b → b < C.W.heap.size
  gl : Gl C

abbrev Own (C : Cx) (b : Nat) := C.O b

theorem HOk.F_not {C : Cx} {h : Hp} (hh : HOk C h) {b : Nat} (hF : C.F b) : ¬ Own C b := fun ho => hh.apart b ho hF

/-- What a run may have changed. -/
structure Ext (C C' : Cx) : Prop where
  os : C'.W.os = C.W.os
  tape : C'.W.tape = C.W.tape
  output : C'.W.output = C.W.output
  size : C.W.heap.size ≤ C'.W.heap.size
  F : ∀ b, C.F b → C'.F b
  heap : ∀ b, b < C.W.heap.size → ¬ Own C b → C'.W.heap[b]? = C.W.heap[b]?
  newF : ∀ b, C'.F b → C.F b ∨ Own C b ∨ C.W.heap.size ≤ b
  newO : ∀ b, Own C' b → Own C b ∨ C.W.heap.size ≤ b
  ι : ∀ id p, 100000 ≤ id → C.ι id = some p → C'.ι id = some p

theorem Ext.refl (C : Cx) : Ext C C := ⟨rfl, rfl, rfl, Nat.le_refl _, fun _ h => h, fun _ _ _ => rfl, fun _ h => .inl h, fun _ h => .inl h, fun _ _ _ h => h⟩
theorem Ext.trans {A B C : Cx} (h : Ext A B) (k : Ext B C) : Ext A C where
  os := k.os.trans h.os
  tape := k.tape.trans h.tape
  output := k.output.trans h.output
  size := Nat.le_trans h.size k.size
  F b x := k.F b (h.F b x)
  heap b hb hn := (k.heap b (Nat.lt_of_lt_of_le hb h.size) (fun ho => (h.newO b ho).elim hn (fun x => by omega))).trans (h.heap b hb hn)
  newF b x := by
    rcases k.newF b x with y | y | y
    · exact h.newF b y
    · exact .inr (h.newO b y)
    · exact .inr (.inr (Nat.le_trans h.size y))
  newO b x := by
    rcases k.newO b x with y | y
    · exact h.newO b y
    · exact .inr (Nat.le_trans h.size y)
  ι id p x y := k.ι id p x (h.ι id p x y)
theorem Ext.up {C C' : Cx} {h : Hp} (hh : HOk C h) (e : Ext C C') (hι : ∀ id p, C.ι id = some p → C'.ι id = some p) : Up C C' :=
  ⟨e.F, fun b hb => e.heap b (hh.lt b hb) (hh.F_not hb), hι⟩
theorem RV.raw_eq {C : Cx} {v w : Value} (h : RV C (.raw v) w) : w = v := by cases h; rfl
structure Sat (nt : Nat) (C : Cx) (σ : St) (a : Act) : Prop where
  defers : a.defers = []
  size : a.tmps.size = nt
  env : ∀ t, RV C (σ.env t) (a.tmps.getD t undef)
  heap : HOk C σ.heap

def CX (Q : Exit → St → Prop) (C0 : Cx) (nt : Nat) : Exit → Act → World → Prop := fun e a W => ∃ σ C, C.W = W ∧ Q e σ ∧ Ext C0 C ∧ Sat nt C σ a

def AWP (P : Program) (nt : Nat) (c : Code) (Q : Exit → St → Prop) (σ : St) : Prop := ∀ C0 C a, Ext C0 C → Sat nt C σ a → c.wp P (CX Q C0 nt) a C.W

section
variable {P : Program} {nt : Nat} {Q Q' : Exit → St → Prop} {σ : St}

theorem AWP.mono {c : Code} (h : AWP P nt c Q σ) (hq : ∀ e σ, Q e σ → Q' e σ) : AWP P nt c Q' σ :=
  fun C0 C a he hs => wp_mono (h C0 C a he hs) fun e a' w' ⟨σ', C', hw, q, r⟩ => ⟨σ', C', hw, hq _ _ q, r⟩

def Then (K : St → Prop) (Q : Exit → St → Prop) : Exit → St → Prop
  | .normal, σ => K σ
  | e, σ => Q e σ

theorem awp_skip (h : Q .normal σ) : AWP P nt .skip Q σ := fun C0 C a he hs => wp_skip ⟨σ, C, rfl, h, he, hs⟩
theorem awp_label {l : Nat} (h : Q .normal σ) : AWP P nt (.label l) Q σ := fun C0 C a he hs => wp_label ⟨σ, C, rfl, h, he, hs⟩
theorem awp_exit {id : Nat} (h : Q (.exit id) σ) : AWP P nt (.exit id) Q σ := fun C0 C a he hs => wp_exit ⟨σ, C, rfl, h, he, hs⟩
theorem awp_ret (h : Q .ret σ) : AWP P nt .ret Q σ := fun C0 C a he hs => wp_ret ⟨σ, C, rfl, h, he, hs⟩

theorem awp_seq {x y : Code} (h : AWP P nt x (Then (fun σ' => AWP P nt y Q σ') Q) σ) : AWP P nt (.seq x y) Q σ := by
  intro C0 C a he hs
  refine wp_seq (wp_mono (h C0 C a he hs) ?_)
  rintro e a' w' ⟨σ', C', rfl, q, ex, sat⟩
  cases e with
  | normal => exact q C0 C' a' ex sat
  | _ => exact ⟨σ', C', rfl, q, ex, sat⟩

theorem awp_cond {c : Operand} {x y : Code} (b : Bool) (hc : σ.ev c = .raw (.bool b)) (ht : b = true → AWP P nt x Q σ) (hf : b = false → AWP P nt y Q σ) : AWP P nt (.cond c x y) Q σ := by
  intro C0 C a he hs
  have : a.eval c = .bool b := by
    cases c with
    | tmp t =>
      have h1 := hs.env t
      have h2 : σ.env t = .raw (.bool b) := hc
      rw [h2] at h1
      exact h1.raw_eq
    | const v => cases hc; rfl
    | global g => cases hc
    | func f => cases hc
  exact wp_cond_split this (fun h => ht h C0 C a he hs) (fun h => hf h C0 C a he hs)

def InBlock (id : Nat) (Q : Exit → St → Prop) : Exit → St → Prop
  | .exit id', σ => if id' = id then Q .normal σ else Q (.exit id') σ
  | e, σ => Q e σ

theorem awp_block {id : Nat} {c : Code} (h : AWP P nt c (InBlock id Q) σ) : AWP P nt (.block id c) Q σ := by
  intro C0 C a he hs
  refine wp_block (wp_mono (h C0 C a he hs) ?_)
  rintro e a' w' ⟨σ', C', rfl, q, ex, sat⟩
  cases e with
  | exit id' =>
    simp only [InBlock] at q
    simp only [Exit.inBlock]
    split at q
    · rename_i h; rw [if_pos h]; exact ⟨σ', C', rfl, q, ex, sat⟩
    · rename_i h; rw [if_neg h]; exact ⟨σ', C', rfl, q, ex, sat⟩
  | _ => exact ⟨σ', C', rfl, q, ex, sat⟩

theorem wp_loop' {c : Code} {Q : Exit → Act → World → Prop} (R : Nat → Act → World → Prop)
    (round : ∀ n a w, R n a w → c.wp P (Exit.then (fun a' w' => ∃ m, m < n ∧ R m a' w') Q) a w) {n : Nat} {a : Act} {w : World} (h₀ : R n a w) : (Code.loop c).wp P Q a w := by
  intro b k cs
  have key : ∀ n a w, R n a w → ∃ e a' w', Q e a' w' ∧ Arrives P (lone (b.at a (.code c :: .inLoop c :: k)) cs w) b k cs e a' w' := by
    intro n
    induction n using Nat.strongRecOn with
    | _ n ih =>
      intro a w hI
      obtain ⟨e, a₁, w₁, hq, harr⟩ := round n a w hI b (.inLoop c :: k) cs
      cases e with
      | normal =>
        obtain ⟨m, hlt, hI₁⟩ := hq
        obtain ⟨e₂, a₂, w₂, hq₂, harr₂⟩ := ih m hlt a₁ w₁ hI₁
        exact ⟨e₂, a₂, w₂, hq₂, .of_steps (Steps.trans harr (.one step_inLoop)) harr₂⟩
      | exit id => exact ⟨_, a₁, w₁, hq, .pass (x := .inLoop c) rfl (fun _ _ => .inl (by simp)) harr⟩
      | goto l => exact ⟨_, a₁, w₁, hq, .pass (x := .inLoop c) rfl (fun _ _ => .inl (by simp)) harr⟩
      | ret => exact ⟨_, a₁, w₁, hq, .pass (x := .inLoop c) rfl (fun _ _ => .inl (by simp)) harr⟩
      | panic ch => exact ⟨_, a₁, w₁, hq, .pass (x := .inLoop c) rfl (fun _ _ => .inl (by simp)) harr⟩
      | outgrown => exact ⟨_, a₁, w₁, hq, .pass (x := .inLoop c) rfl (fun _ _ => .inl (by simp)) harr⟩
  obtain ⟨e, a', w', hq, harr⟩ := key n a w h₀
  exact ⟨e, a', w', hq, .of_steps (.one step_loop) harr⟩

theorem awp_loop {c : Code} (I : Nat → St → Prop) {n : Nat} (h₀ : I n σ)
    (round : ∀ n σ, I n σ → AWP P nt c (Then (fun σ' => ∃ m, m < n ∧ I m σ') Q) σ) : AWP P nt (.loop c) Q σ := by
  intro C0 C a he hs
  refine wp_loop' (fun n a w => ∃ σ C, C.W = w ∧ I n σ ∧ Ext C0 C ∧ Sat nt C σ a) ?_ (n := n) ⟨σ, C, rfl, h₀, he, hs⟩
  rintro n a w ⟨σ', C', rfl, hI, hex, hsat⟩
  refine wp_mono (round n σ' hI C0 C' a hex hsat) ?_
  rintro e a' w' ⟨σ'', C'', rfl, q, ex, sat⟩
  cases e with
  | normal =>
    obtain ⟨m, hm, hI'⟩ := q
    exact ⟨m, hm, σ'', C'', rfl, hI', ex, sat⟩
  | _ => exact ⟨σ'', C'', rfl, q, ex, sat⟩

/-- A state that says less. -/
def Weak (σ σ2 : St) : Prop := ∀ nt C a, Sat nt C σ a → ∃ C2, C2.W = C.W ∧ Ext C C2 ∧ Sat nt C2 σ2 a
theorem Weak.refl (σ : St) : Weak σ σ := fun nt C a h => ⟨C, rfl, .refl C, h⟩
theorem Weak.trans {a b c : St} (h : Weak a b) (k : Weak b c) : Weak a c := fun nt C x s => by
  obtain ⟨C2, e, ex, s2⟩ := h nt C x s
  obtain ⟨C3, e3, ex3, s3⟩ := k nt C2 x s2
  exact ⟨C3, e3.trans e, ex.trans ex3, s3⟩
theorem AWP.weak {c : Code} {σ2 : St} (hw : Weak σ σ2) (h : AWP P nt c Q σ2) : AWP P nt c Q σ := by
  intro C0 C a he hs
  obtain ⟨C2, e, ex, s2⟩ := hw nt C a hs
  rw [← e]
  exact h C0 C2 a (he.trans ex) s2
/-- Forgetting what temporaries hold. -/
theorem Weak.env {σ σ2 : St} (h : ∀ t, σ2.env t = .any ∨ σ2.env t = σ.env t) (hh : σ2.heap = σ.heap) : Weak σ σ2 := fun nt C a s =>
  ⟨C, rfl, .refl C, s.defers, s.size, fun t => by
    rcases h t with e | e <;> rw [e]
    · exact .any _
    · exact s.env t, hh ▸ s.heap⟩

/-- What a call of f with these arguments, in a memory of which it owns h, comes to. -/
def CallD (P : Program) (f : FuncId) (args : List AV) (h : Hp) (r : AV) (h' : Hp) : Prop :=
  ∀ C vs, HOk C h → RVs C args vs → Calls P f vs.toArray C.W fun e W' => ∃ v C', e = .returned v ∧ C'.W = W' ∧ Ext C C' ∧ HOk C' h' ∧ RV C' r v ∧ ∀ id p, C.ι id = some p → C'.ι id = some p

end
end Go.Proofs.YtjbbnollidcagaaDoor.Asl

