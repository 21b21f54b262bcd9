/- Part 1 of what the row leans on: abstract values and states, their rules, and the contracts of the functions. -/
import Derived.Below
import Derived.Orders
import Derived.KernelRfl
namespace Go.Proofs.Ytejeemhenoobjaa.Asl
open Go Go.RowKit
set_option linter.unusedVariables false

inductive AV where
  | any
  | raw (v : Value)
  | agg (l : List AV)
  | tup (l : List AV)
  | sl (sz : Nat) (l : List AV)
  | fp (x : AV)
  | ptr (id off : Nat)
  | ep (id sz i off : Nat)
  | ow (id sz off len : Nat)
  | ifc (t : TypeId) (x : AV)
  | fn (f : Fn) (first cap : List AV)
  deriving Inhabited

/-- A value that takes one cell. -/
def AV.one : AV → Bool
  | .any | .agg _ | .tup _ => false
  | .raw (.agg _) | .raw (.tuple _) => false
  | _ => true

mutual
def AV.size : AV → Nat
  | .agg l => AV.sizes l
  | _ => 1
def AV.sizes : List AV → Nat
  | [] => 0
  | x :: l => x.size + AV.sizes l
end

structure Cx where
  W : World
  F : Nat → Prop
  O : Nat → Prop
  ι : Nat → Option (Nat × Nat)

def Cx.bare (C : Cx) : Cx := { C with ι := fun _ => none }

def Reads (W : World) (b o : Nat) (cells : List Value) : Prop := ∀ i v, cells[i]? = some v → W.cell? ⟨b, o + i, none⟩ = some v

mutual
inductive RV : Cx → AV → Value → Prop
  | any {C} (v) : RV C .any v
  | raw {C} (v) : RV C (.raw v) v
  | agg {C l cs} (h : RCs C l cs) : RV C (.agg l) (.agg cs.toArray)
  | tup {C l vs} (h : RVs C l vs) : RV C (.tup l) (.tuple vs.toArray)
  | sl0 {C sz a c} : RV C (.sl sz []) (.slice a 0 c)
  | sl {C sz l cs b o c} (h : RCs C.bare l cs) (hs : ∀ x ∈ l, x.size = sz) (hF : C.F b) (hr : Reads C.W b o cs) (hc : l.length ≤ c) : RV C (.sl sz l) (.slice (some ⟨b, o, none⟩) l.length c)
  | fp {C x cs b o} (h : RC C.bare x cs) (hF : C.F b) (hr : Reads C.W b o cs) : RV C (.fp x) (.pointer (some ⟨b, o, none⟩))
  | ptr {C id off b T} (h : C.ι id = some (b, T)) : RV C (.ptr id off) (.pointer (some ⟨b, off, none⟩))
  | ep {C id sz i off b T} (h : C.ι id = some (b, T)) : RV C (.ep id sz i off) (.pointer (some ⟨b, i * sz + off, none⟩))
  | ow {C id sz off len b T} (h : C.ι id = some (b, T)) (hl : off + len ≤ T) : RV C (.ow id sz off len) (.slice (some ⟨b, off * sz, none⟩) len (T - off))
  | ow0 {C id sz off a b T} (h : C.ι id = some (b, T)) (hl : off = T) : RV C (.ow id sz off 0) (.slice (some a) 0 0)
  | ifc {C t x v} (h : RV C x v) : RV C (.ifc t x) (.iface t v)
  | fn {C f first cap fs cs} (h1 : RVs C first fs) (h2 : RVs C cap cs) : RV C (.fn f first cap) (.func f fs.toArray cs.toArray)
inductive RC : Cx → AV → List Value → Prop
  | agg {C l cs} (h : RCs C l cs) : RC C (.agg l) cs
  | one {C x v} (h : RV C x v) (h1 : x.one = true) : RC C x [v]
inductive RCs : Cx → List AV → List Value → Prop
  | nil {C} : RCs C [] []
  | cons {C x l c cs} (h : RC C x c) (h2 : RCs C l cs) : RCs C (x :: l) (c ++ cs)
inductive RVs : Cx → List AV → List Value → Prop
  | nil {C} : RVs C [] []
  | cons {C x l v vs} (h : RV C x v) (h2 : RVs C l vs) : RVs C (x :: l) (v :: vs)
end

/-- What holds in C holds in C', too: its frozen blocks are frozen and as they were, its owned blocks are owned. -/
structure Up (C C' : Cx) : Prop where
  F : ∀ b, C.F b → C'.F b
  heap : ∀ b, C.F b → C'.W.heap[b]? = C.W.heap[b]?
  ι : ∀ id p, C.ι id = some p → C'.ι id = some p

theorem Up.bare {C C' : Cx} (h : Up C C') : Up C.bare C'.bare := ⟨h.F, h.heap, fun _ _ e => by cases e⟩
theorem Up.refl (C : Cx) : Up C C := ⟨fun _ h => h, fun _ _ => rfl, fun _ _ h => h⟩
theorem Up.trans {A B C : Cx} (h : Up A B) (k : Up B C) : Up A C := ⟨fun b x => k.F b (h.F b x), fun b x => (k.heap b (h.F b x)).trans (h.heap b x), fun i p x => k.ι i p (h.ι i p x)⟩

theorem Reads.up {C C' : Cx} (u : Up C C') {b o : Nat} {cs : List Value} (hF : C.F b) (h : Reads C.W b o cs) : Reads C'.W b o cs := by
  intro i v hv
  have := h i v hv
  unfold World.cell? at this ⊢
  rw [u.heap b hF]; exact this

mutual
theorem RV.up {C C' : Cx} (u : Up C C') {x : AV} {v : Value} (h : RV C x v) : RV C' x v :=
  match h with
  | .any v => .any v
  | .raw v => .raw v
  | .agg h => .agg (h.up u)
  | .tup h => .tup (h.up u)
  | .sl0 => .sl0
  | .sl h hs hF hr hc => .sl (h.up u.bare) hs (u.F _ hF) (hr.up u hF) hc
  | .fp h hF hr => .fp (h.up u.bare) (u.F _ hF) (hr.up u hF)
  | .ptr h => .ptr (u.ι _ _ h)
  | .ep h => .ep (u.ι _ _ h)
  | .ow h hl => .ow (u.ι _ _ h) hl
  | .ow0 h hl => .ow0 (u.ι _ _ h) hl
  | .ifc h => .ifc (h.up u)
  | .fn h1 h2 => .fn (h1.up u) (h2.up u)
theorem RC.up {C C' : Cx} (u : Up C C') {x : AV} {cs : List Value} (h : RC C x cs) : RC C' x cs :=
  match h with
  | .agg h => .agg (h.up u)
  | .one h h1 => .one (h.up u) h1
theorem RCs.up {C C' : Cx} (u : Up C C') {l : List AV} {cs : List Value} (h : RCs C l cs) : RCs C' l cs :=
  match h with
  | .nil => .nil
  | .cons h h2 => .cons (h.up u) (h2.up u)
theorem RVs.up {C C' : Cx} (u : Up C C') {l : List AV} {vs : List Value} (h : RVs C l vs) : RVs C' l vs :=
  match h with
  | .nil => .nil
  | .cons h h2 => .cons (h.up u) (h2.up u)
end

theorem AV.size_one {x : AV} (h : x.one = true) : x.size = 1 := by
  cases x with
  | agg l => simp [AV.one] at h
  | _ => simp [AV.size]
mutual
theorem RC.len {C : Cx} {x : AV} {cs : List Value} (h : RC C x cs) : cs.length = x.size :=
  match h with
  | .agg h => by rw [AV.size]; exact h.len
  | .one h h1 => by rw [AV.size_one h1]; rfl
theorem RCs.len {C : Cx} {l : List AV} {cs : List Value} (h : RCs C l cs) : cs.length = AV.sizes l :=
  match h with
  | .nil => rfl
  | .cons h h2 => by rw [List.length_append, AV.sizes, h.len, h2.len]
end

theorem AV.sizes_all {sz : Nat} : ∀ {l : List AV}, (∀ x ∈ l, x.size = sz) → AV.sizes l = l.length * sz
  | [], _ => by simp [AV.sizes]
  | x :: l, h => by
    rw [AV.sizes, h x (by simp), AV.sizes_all (fun y hy => h y (by simp [hy])), List.length_cons]
    rw [Nat.add_mul]; omega
theorem RCs.append {C : Cx} : ∀ {l m : List AV} {c d : List Value}, RCs C l c → RCs C m d → RCs C (l ++ m) (c ++ d)
  | [], _, _, _, .nil, h => h
  | _ :: _, _, _, _, .cons h h2, k => by rw [List.append_assoc]; exact .cons h (h2.append k)
theorem RCs.split {C : Cx} : ∀ {l m : List AV} {c : List Value}, RCs C (l ++ m) c → ∃ c1 c2, c = c1 ++ c2 ∧ RCs C l c1 ∧ RCs C m c2
  | [], _, c, h => ⟨[], c, rfl, .nil, h⟩
  | _ :: _, _, _, .cons h h2 => by
    obtain ⟨c1, c2, rfl, a, b⟩ := h2.split
    exact ⟨_, c2, by rw [List.append_assoc], .cons h a, b⟩
/-- The element number i of a row of elements of one size: its cells. -/
theorem RCs.at {C : Cx} {l : List AV} {cs : List Value} (h : RCs C l cs) {sz : Nat} (hs : ∀ x ∈ l, x.size = sz) {i : Nat} {x : AV} (hi : l[i]? = some x) :
    ∃ c1 c c2, cs = c1 ++ c ++ c2 ∧ c1.length = i * sz ∧ c.length = sz ∧ RC C x c := by
  have hlt := (List.getElem?_eq_some_iff.1 hi).1
  have hx := (List.getElem?_eq_some_iff.1 hi).2
  have e : l = l.take i ++ (x :: l.drop (i + 1)) := by
    rw [← hx, List.getElem_cons_drop, List.take_append_drop]
  rw [e] at h
  obtain ⟨c1, c2, rfl, h1, h2⟩ := h.split
  cases h2 with
  | cons ha hb =>
    refine ⟨c1, _, _, (List.append_assoc _ _ _).symm, ?_, ?_, ha⟩
    · rw [h1.len, AV.sizes_all (sz := sz) (fun y hy => hs y (List.mem_of_mem_take hy)), List.length_take]
      congr 1; omega
    · rw [ha.len]; exact hs x (List.mem_of_getElem? hi)
theorem Reads.sub {W : World} {b o : Nat} {c1 c c2 : List Value} (h : Reads W b o (c1 ++ c ++ c2)) : Reads W b (o + c1.length) c := by
  intro i v hv
  have h1 := (List.getElem?_eq_some_iff.1 hv).1
  have := h (c1.length + i) v (by
    rw [List.append_assoc, List.getElem?_append_right (by omega), List.getElem?_append_left (by omega)]
    rw [show c1.length + i - c1.length = i by omega]; exact hv)
  rw [show o + c1.length + i = o + (c1.length + i) by omega]; exact this
theorem RVs.len {C : Cx} : ∀ {l : List AV} {vs : List Value}, RVs C l vs → vs.length = l.length
  | _, _, .nil => rfl
  | _, _, .cons _ h => by simp [h.len]
theorem RVs.at {C : Cx} : ∀ {l : List AV} {vs : List Value}, RVs C l vs → ∀ {i : Nat} {x : AV}, l[i]? = some x → ∃ v, vs[i]? = some v ∧ RV C x v
  | _, _, .cons h _, 0, _, e => by
    simp at e; subst e
    exact ⟨_, rfl, h⟩
  | _, _, .cons _ h, i + 1, _, e => by
    simp at e
    obtain ⟨v, a, b⟩ := h.at e
    exact ⟨v, by simpa using a, b⟩
theorem RVs.append {C : Cx} : ∀ {l m : List AV} {c d : List Value}, RVs C l c → RVs C m d → RVs C (l ++ m) (c ++ d)
  | [], _, _, _, .nil, h => h
  | _ :: _, _, _, _, .cons h h2, k => .cons h (h2.append k)

mutual
def AV.flat : AV → Bool
  | .raw _ => true
  | .agg l => AV.flats l
  | .tup l => AV.flats l
  | .ifc _ x => x.flat
  | _ => false
def AV.flats : List AV → Bool
  | [] => true
  | x :: l => x.flat && AV.flats l
end
mutual
theorem RV.of_flat {C C' : Cx} {x : AV} {v : Value} (h : RV C x v) (hf : x.flat = true) : RV C' x v :=
  match h with
  | .raw v => .raw v
  | .agg h => .agg (h.of_flat (by simpa [AV.flat] using hf))
  | .tup h => .tup (h.of_flat (by simpa [AV.flat] using hf))
  | .ifc h => .ifc (h.of_flat (by simpa [AV.flat] using hf))
  | .any _ | .sl0 | .sl .. | .fp .. | .ptr _ | .ep _ | .ow .. | .ow0 .. | .fn .. => by simp [AV.flat] at hf
theorem RC.of_flat {C C' : Cx} {x : AV} {cs : List Value} (h : RC C x cs) (hf : x.flat = true) : RC C' x cs :=
  match h with
  | .agg h => .agg (h.of_flat (by simpa [AV.flat] using hf))
  | .one h h1 => .one (h.of_flat hf) h1
theorem RCs.of_flat {C C' : Cx} {l : List AV} {cs : List Value} (h : RCs C l cs) (hf : AV.flats l = true) : RCs C' l cs :=
  match h with
  | .nil => .nil
  | .cons h h2 => by
    simp [AV.flats] at hf
    exact .cons (h.of_flat hf.1) (h2.of_flat hf.2)
theorem RVs.of_flat {C C' : Cx} {l : List AV} {vs : List Value} (h : RVs C l vs) (hf : AV.flats l = true) : RVs C' l vs :=
  match h with
  | .nil => .nil
  | .cons h h2 => by
    simp [AV.flats] at hf
    exact .cons (h.of_flat hf.1) (h2.of_flat hf.2)
end
end Go.Proofs.Ytejeemhenoobjaa.Asl

namespace Go.Proofs.Ytejeemhenoobjaa.Asl
open Go Go.RowKit
set_option linter.unusedVariables false

/-- box: a variable in memory · arr: a row that may be written, and grown · fz: a row that is only read from now on · dead: nothing is known. -/
inductive Ob where
  | box (x : AV)
  | arr (sz : Nat) (l : List AV)
  | fz (sz : Nat) (l : List AV)
  | dead
def Ob.live : Ob → Bool
  | .box _ | .arr _ _ => true
  | _ => false

abbrev Hp := Nat → Option Ob

structure St where
  env : Nat → AV
  heap : Hp

def noHeap : Hp := fun _ => none
def setH (h : Hp) (id : Nat) (o : Ob) : Hp := fun i => if i = id then some o else h i
def setE (e : Nat → AV) (t : Nat) (v : AV) : Nat → AV := fun u => if u = t then v else e u
def St.put (σ : St) (d : Option Tmp) (v : AV) : St := match d with | some t => { σ with env := setE σ.env t v } | none => σ
def St.ev (σ : St) : Operand → AV
  | .tmp t => σ.env t
  | .const v => .raw v
  | .global g => .raw (.pointer (some ⟨g, 0, none⟩))
  | .func f => .raw (.func (.func f) #[] #[])

def NoFz (n : Nat) (fr : Nat × Nat) : Prop := (∀ o, o < n → ¬ (fr.1 ≤ o ∧ o < fr.2)) ∧ fr.1 ≤ fr.2
def HSat (C : Cx) (id : Nat) : Ob → Prop
  | .box x => ∃ b T cs t, C.ι id = some (b, T) ∧ C.O b ∧ C.W.heap[b]? = some (.cells cs t (0, 0)) ∧ RC C x cs.toList
  | .arr sz l => ∃ b T cs t fr c1 c2, C.ι id = some (b, T) ∧ C.O b ∧ C.W.heap[b]? = some (.cells cs t fr) ∧ NoFz cs.size fr ∧ cs.toList = c1 ++ c2 ∧ RCs C l c1 ∧ (∀ x ∈ l, x.size = sz) ∧ cs.size = T * sz ∧ 0 < sz
  | .fz sz l => ∃ b T c1, C.ι id = some (b, T) ∧ C.F b ∧ Reads C.W b 0 c1 ∧ RCs C.bare l c1 ∧ (∀ x ∈ l, x.size = sz) ∧ 0 < sz
  | .dead => ∃ b T, C.ι id = some (b, T)

/-- What the listed package-level variables hold. -/
def globs : List (Nat × Value) := []
def Gl (C : Cx) : Prop := ∀ p ∈ globs, C.F p.1 ∧ C.W.cell? ⟨p.1, 0, none⟩ = some p.2
theorem Gl.up {C C' : Cx} (g : Gl C) (u : Up C C') : Gl C' := fun p hp => ⟨u.F _ (g p hp).1, by
  have := (g p hp).2
  unfold World.cell? at this ⊢
  rw [u.heap _ (g p hp).1]; exact this⟩
structure HOk (C : Cx) (h : Hp) : Prop where
  at_ : ∀ id ob, h id = some ob → HSat C id ob
  no : ∀ id, h id = none → C.ι id = none
  inj : ∀ i j b T U o q, h i = some o → o.live = true → h j = some q → q.live = true → C.ι i = some (b, T) → C.ι j = some (b, U) → i = j
  apart : ∀ b, C.O b → ¬ C.F b
  lt : ∀ b, C.F b → b < C.W.heap.size
  olt : ∀ b, C.O b → b < C.W.heap.size
  gl : Gl C

abbrev Own (C : Cx) (b : Nat) := C.O b

theorem blk_lt' {W : World} {b : Nat} {o : Obj} (h : W.heap[b]? = some o) : b < W.heap.size := (Array.getElem?_eq_some_iff.1 h).1
theorem HOk.F_not {C : Cx} {h : Hp} (hh : HOk C h) {b : Nat} (hF : C.F b) : ¬ Own C b := fun ho => hh.apart b ho hF

/-- What a run may have changed. -/
structure Ext (C C' : Cx) : Prop where
  os : C'.W.os = C.W.os
  tape : C'.W.tape = C.W.tape
  output : C'.W.output = C.W.output
  size : C.W.heap.size ≤ C'.W.heap.size
  F : ∀ b, C.F b → C'.F b
  heap : ∀ b, b < C.W.heap.size → ¬ Own C b → C'.W.heap[b]? = C.W.heap[b]?
  newF : ∀ b, C'.F b → C.F b ∨ Own C b ∨ C.W.heap.size ≤ b
  newO : ∀ b, Own C' b → Own C b ∨ C.W.heap.size ≤ b
  ι : ∀ id p, 100000 ≤ id → C.ι id = some p → C'.ι id = some p

theorem Ext.refl (C : Cx) : Ext C C := ⟨rfl, rfl, rfl, Nat.le_refl _, fun _ h => h, fun _ _ _ => rfl, fun _ h => .inl h, fun _ h => .inl h, fun _ _ _ h => h⟩
theorem Ext.trans {A B C : Cx} (h : Ext A B) (k : Ext B C) : Ext A C where
  os := k.os.trans h.os
  tape := k.tape.trans h.tape
  output := k.output.trans h.output
  size := Nat.le_trans h.size k.size
  F b x := k.F b (h.F b x)
  heap b hb hn := (k.heap b (Nat.lt_of_lt_of_le hb h.size) (fun ho => (h.newO b ho).elim hn (fun x => by omega))).trans (h.heap b hb hn)
  newF b x := by
    rcases k.newF b x with y | y | y
    · exact h.newF b y
    · exact .inr (h.newO b y)
    · exact .inr (.inr (Nat.le_trans h.size y))
  newO b x := by
    rcases k.newO b x with y | y
    · exact h.newO b y
    · exact .inr (Nat.le_trans h.size y)
  ι id p x y := k.ι id p x (h.ι id p x y)
theorem Ext.up {C C' : Cx} {h : Hp} (hh : HOk C h) (e : Ext C C') (hι : ∀ id p, C.ι id = some p → C'.ι id = some p) : Up C C' :=
  ⟨e.F, fun b hb => e.heap b (hh.lt b hb) (hh.F_not hb), hι⟩
theorem RV.raw_eq {C : Cx} {v w : Value} (h : RV C (.raw v) w) : w = v := by cases h; rfl
structure Sat (nt : Nat) (C : Cx) (σ : St) (a : Act) : Prop where
  defers : a.defers = []
  size : a.tmps.size = nt
  env : ∀ t, RV C (σ.env t) (a.tmps.getD t undef)
  heap : HOk C σ.heap

def CX (Q : Exit → St → Prop) (C0 : Cx) (nt : Nat) : Exit → Act → World → Prop := fun e a W => ∃ σ C, C.W = W ∧ Q e σ ∧ Ext C0 C ∧ Sat nt C σ a

def AWP (P : Program) (nt : Nat) (c : Code) (Q : Exit → St → Prop) (σ : St) : Prop := ∀ C0 C a, Ext C0 C → Sat nt C σ a → c.wp P (CX Q C0 nt) a C.W

section
variable {P : Program} {nt : Nat} {Q Q' : Exit → St → Prop} {σ : St}

theorem AWP.mono {c : Code} (h : AWP P nt c Q σ) (hq : ∀ e σ, Q e σ → Q' e σ) : AWP P nt c Q' σ :=
  fun C0 C a he hs => wp_mono (h C0 C a he hs) fun e a' w' ⟨σ', C', hw, q, r⟩ => ⟨σ', C', hw, hq _ _ q, r⟩

def Then (K : St → Prop) (Q : Exit → St → Prop) : Exit → St → Prop
  | .normal, σ => K σ
  | e, σ => Q e σ

theorem awp_skip (h : Q .normal σ) : AWP P nt .skip Q σ := fun C0 C a he hs => wp_skip ⟨σ, C, rfl, h, he, hs⟩
theorem awp_label {l : Nat} (h : Q .normal σ) : AWP P nt (.label l) Q σ := fun C0 C a he hs => wp_label ⟨σ, C, rfl, h, he, hs⟩
theorem awp_exit {id : Nat} (h : Q (.exit id) σ) : AWP P nt (.exit id) Q σ := fun C0 C a he hs => wp_exit ⟨σ, C, rfl, h, he, hs⟩
theorem awp_ret (h : Q .ret σ) : AWP P nt .ret Q σ := fun C0 C a he hs => wp_ret ⟨σ, C, rfl, h, he, hs⟩

theorem awp_seq {x y : Code} (h : AWP P nt x (Then (fun σ' => AWP P nt y Q σ') Q) σ) : AWP P nt (.seq x y) Q σ := by
  intro C0 C a he hs
  refine wp_seq (wp_mono (h C0 C a he hs) ?_)
  rintro e a' w' ⟨σ', C', rfl, q, ex, sat⟩
  cases e with
  | normal => exact q C0 C' a' ex sat
  | _ => exact ⟨σ', C', rfl, q, ex, sat⟩

theorem awp_cond {c : Operand} {x y : Code} (b : Bool) (hc : σ.ev c = .raw (.bool b)) (ht : b = true → AWP P nt x Q σ) (hf : b = false → AWP P nt y Q σ) : AWP P nt (.cond c x y) Q σ := by
  intro C0 C a he hs
  have : a.eval c = .bool b := by
    cases c with
    | tmp t =>
      have h1 := hs.env t
      have h2 : σ.env t = .raw (.bool b) := hc
      rw [h2] at h1
      exact h1.raw_eq
    | const v => cases hc; rfl
    | global g => cases hc
    | func f => cases hc
  exact wp_cond_split this (fun h => ht h C0 C a he hs) (fun h => hf h C0 C a he hs)

def InBlock (id : Nat) (Q : Exit → St → Prop) : Exit → St → Prop
  | .exit id', σ => if id' = id then Q .normal σ else Q (.exit id') σ
  | e, σ => Q e σ

theorem awp_block {id : Nat} {c : Code} (h : AWP P nt c (InBlock id Q) σ) : AWP P nt (.block id c) Q σ := by
  intro C0 C a he hs
  refine wp_block (wp_mono (h C0 C a he hs) ?_)
  rintro e a' w' ⟨σ', C', rfl, q, ex, sat⟩
  cases e with
  | exit id' =>
    simp only [InBlock] at q
    simp only [Exit.inBlock]
    split at q
    · rename_i h; rw [if_pos h]; exact ⟨σ', C', rfl, q, ex, sat⟩
    · rename_i h; rw [if_neg h]; exact ⟨σ', C', rfl, q, ex, sat⟩
  | _ => exact ⟨σ', C', rfl, q, ex, sat⟩

theorem wp_loop' {c : Code} {Q : Exit → Act → World → Prop} (R : Nat → Act → World → Prop)
    (round : ∀ n a w, R n a w → c.wp P (Exit.then (fun a' w' => ∃ m, m < n ∧ R m a' w') Q) a w) {n : Nat} {a : Act} {w : World} (h₀ : R n a w) : (Code.loop c).wp P Q a w := by
  intro b k cs
  have key : ∀ n a w, R n a w → ∃ e a' w', Q e a' w' ∧ Arrives P (lone (b.at a (.code c :: .inLoop c :: k)) cs w) b k cs e a' w' := by
    intro n
    induction n using Nat.strongRecOn with
    | _ n ih =>
      intro a w hI
      obtain ⟨e, a₁, w₁, hq, harr⟩ := round n a w hI b (.inLoop c :: k) cs
      cases e with
      | normal =>
        obtain ⟨m, hlt, hI₁⟩ := hq
        obtain ⟨e₂, a₂, w₂, hq₂, harr₂⟩ := ih m hlt a₁ w₁ hI₁
        exact ⟨e₂, a₂, w₂, hq₂, .of_steps (Steps.trans harr (.one step_inLoop)) harr₂⟩
      | exit id => exact ⟨_, a₁, w₁, hq, .pass (x := .inLoop c) rfl (fun _ _ => .inl (by simp)) harr⟩
      | goto l => exact ⟨_, a₁, w₁, hq, .pass (x := .inLoop c) rfl (fun _ _ => .inl (by simp)) harr⟩
      | ret => exact ⟨_, a₁, w₁, hq, .pass (x := .inLoop c) rfl (fun _ _ => .inl (by simp)) harr⟩
      | panic ch => exact ⟨_, a₁, w₁, hq, .pass (x := .inLoop c) rfl (fun _ _ => .inl (by simp)) harr⟩
      | outgrown => exact ⟨_, a₁, w₁, hq, .pass (x := .inLoop c) rfl (fun _ _ => .inl (by simp)) harr⟩
  obtain ⟨e, a', w', hq, harr⟩ := key n a w h₀
  exact ⟨e, a', w', hq, .of_steps (.one step_loop) harr⟩

theorem awp_loop {c : Code} (I : Nat → St → Prop) {n : Nat} (h₀ : I n σ)
    (round : ∀ n σ, I n σ → AWP P nt c (Then (fun σ' => ∃ m, m < n ∧ I m σ') Q) σ) : AWP P nt (.loop c) Q σ := by
  intro C0 C a he hs
  refine wp_loop' (fun n a w => ∃ σ C, C.W = w ∧ I n σ ∧ Ext C0 C ∧ Sat nt C σ a) ?_ (n := n) ⟨σ, C, rfl, h₀, he, hs⟩
  rintro n a w ⟨σ', C', rfl, hI, hex, hsat⟩
  refine wp_mono (round n σ' hI C0 C' a hex hsat) ?_
  rintro e a' w' ⟨σ'', C'', rfl, q, ex, sat⟩
  cases e with
  | normal =>
    obtain ⟨m, hm, hI'⟩ := q
    exact ⟨m, hm, σ'', C'', rfl, hI', ex, sat⟩
  | _ => exact ⟨σ'', C'', rfl, q, ex, sat⟩

/-- A state that says less. -/
def Weak (σ σ2 : St) : Prop := ∀ nt C a, Sat nt C σ a → ∃ C2, C2.W = C.W ∧ Ext C C2 ∧ Sat nt C2 σ2 a
theorem Weak.refl (σ : St) : Weak σ σ := fun nt C a h => ⟨C, rfl, .refl C, h⟩
theorem Weak.trans {a b c : St} (h : Weak a b) (k : Weak b c) : Weak a c := fun nt C x s => by
  obtain ⟨C2, e, ex, s2⟩ := h nt C x s
  obtain ⟨C3, e3, ex3, s3⟩ := k nt C2 x s2
  exact ⟨C3, e3.trans e, ex.trans ex3, s3⟩
theorem AWP.weak {c : Code} {σ2 : St} (hw : Weak σ σ2) (h : AWP P nt c Q σ2) : AWP P nt c Q σ := by
  intro C0 C a he hs
  obtain ⟨C2, e, ex, s2⟩ := hw nt C a hs
  rw [← e]
  exact h C0 C2 a (he.trans ex) s2
/-- Forgetting what temporaries hold. -/
theorem Weak.env {σ σ2 : St} (h : ∀ t, σ2.env t = .any ∨ σ2.env t = σ.env t) (hh : σ2.heap = σ.heap) : Weak σ σ2 := fun nt C a s =>
  ⟨C, rfl, .refl C, s.defers, s.size, fun t => by
    rcases h t with e | e <;> rw [e]
    · exact .any _
    · exact s.env t, hh ▸ s.heap⟩

/-- What a call of f with these arguments, in a memory of which it owns h, comes to. -/
def CallD (P : Program) (f : FuncId) (args : List AV) (h : Hp) (r : AV) (h' : Hp) : Prop :=
  ∀ C vs, HOk C h → RVs C args vs → Calls P f vs.toArray C.W fun e W' => ∃ v C', e = .returned v ∧ C'.W = W' ∧ Ext C C' ∧ HOk C' h' ∧ RV C' r v ∧ ∀ id p, C.ι id = some p → C'.ι id = some p

end
end Go.Proofs.Ytejeemhenoobjaa.Asl

namespace Go.Proofs.Ytejeemhenoobjaa.Asl
open Go Go.RowKit
set_option linter.unusedVariables false

def evE (e : Nat → AV) : Operand → AV
  | .tmp t => e t
  | .const v => .raw v
  | .global g => .raw (.pointer (some ⟨g, 0, none⟩))
  | .func f => .raw (.func (.func f) #[] #[])
def putE (e : Nat → AV) (d : Option Tmp) (v : AV) : Nat → AV := match d with | some t => setE e t v | none => e
/-- The object that a value leads to. -/
def AV.top : AV → Option Nat
  | .ptr id _ | .ep id _ _ _ | .ow id _ _ _ => some id
  | _ => none

/-- How operations act on abstract states: 0: without memory; 1: memory is read; 2: an object is made; 3: anything. -/
structure Sys (P : Program) where
  D : (Operand → AV) → Oper → Hp → AV → Hp → Prop
  cls : Oper → Nat
  sound : ∀ {nt : Nat} {C : Cx} {σ : St} {a : Act} {o : Oper} {r : AV} {h' : Hp}, Sat nt C σ a → D (evE σ.env) o σ.heap r h' → (∀ d, o.dst = some d → d < nt) →
    ∀ (K : Act → World → Prop) (Q : Exit → Act → World → Prop), (∀ C' v, Ext C C' → Sat nt C' ⟨putE σ.env o.dst r, h'⟩ (a.put o.dst v) → K (a.put o.dst v) C'.W) → o.wp P a C.W K Q
  congr : ∀ {ρ ρ' : Operand → AV} {o : Oper} {h h' : Hp} {r : AV}, (∀ x ∈ o.op.operands, ρ x = ρ' x) → D ρ o h r h' → D ρ' o h r h'
  c0 : ∀ {ρ : Operand → AV} {o : Oper} {h h' : Hp} {r : AV}, cls o = 0 → D ρ o h r h' → h' = h ∧ ∀ g, D ρ o g r g
  c1 : ∀ {ρ : Operand → AV} {o : Oper} {h h' : Hp} {r : AV}, cls o = 1 → D ρ o h r h' → h' = h ∧ (∀ g, (∀ id ob, h id = some ob → g id = some ob) → D ρ o g r g)
  c1d : ∀ {ρ : Operand → AV} {o : Oper} {h h' : Hp} {r : AV} {d : Nat} {ob : Ob}, cls o = 1 → D ρ o (setH h d ob) r h' → (∀ x ∈ o.op.operands, (ρ x).top ≠ some d) → D ρ o h r h
  c2 : ∀ {ρ : Operand → AV} {o : Oper} {h h' : Hp} {r : AV}, cls o = 2 → D ρ o h r h' → ∃ d ob, o.dst = some d ∧ h d = none ∧ h' = setH h d ob ∧ ∀ g, g d = none → D ρ o g r (setH g d ob)
  sep : Oper → Oper → Bool
  sepd : ∀ {ρ : Operand → AV} {x y : Oper} {h h1 h2 : Hp} {rx ry : AV}, sep y x = true → D ρ y h ry h1 → D ρ x h1 rx h2 → ∃ h1', D ρ x h rx h1' ∧ D ρ y h1' ry h2

section
variable {P : Program} (S : Sys P) (ops : Array Oper)

/-- A step, with its guard. -/
def DG (e : Nat → AV) (o : Oper) (h : Hp) (r : AV) (h' : Hp) : Prop :=
  match o.guard with
  | none => S.D (evE e) o h r h'
  | some (j, w) => ∃ t v, (ops[j]?).bind (·.dst) = some t ∧ e t = .raw v ∧ ((v = .bool w ∧ S.D (evE e) o h r h') ∨ (v ≠ .bool w ∧ r = .raw undef ∧ h' = h))

theorem evE_eq (σ : St) : evE σ.env = σ.ev := by funext x; cases x <;> rfl

theorem putE_comm {e : Nat → AV} {x y : Option Tmp} (v u : AV) (h : ∀ d, x = some d → y ≠ some d) : putE (putE e x v) y u = putE (putE e y u) x v := by
  cases x with
  | none => rfl
  | some d =>
    cases y with
    | none => rfl
    | some f =>
      have hne : d ≠ f := fun he => h d rfl (he ▸ rfl)
      funext t
      simp only [putE, setE]
      by_cases h1 : t = f
      · subst h1; rw [if_pos rfl, if_neg (fun h => hne h.symm), if_pos rfl]
      · rw [if_neg h1]
        by_cases h2 : t = d
        · rw [if_pos h2, if_pos h2]
        · rw [if_neg h2, if_neg h2, if_neg h1]

theorem looks_op {o : Oper} {t : Tmp} (h : t ∉ o.looksAt ops) : ∀ x ∈ o.op.operands, x ≠ .tmp t := by
  intro x hx e
  subst e
  exact h (by
    unfold Oper.looksAt
    refine List.mem_append.2 (.inl (List.mem_filterMap.2 ⟨.tmp t, Array.mem_toList_iff.2 hx, rfl⟩)))
theorem looks_guard {o : Oper} {t : Tmp} (h : t ∉ o.looksAt ops) {j : Nat} {w : Bool} (hg : o.guard = some (j, w)) : (ops[j]?).bind (·.dst) ≠ some t := by
  intro e
  exact h (by
    unfold Oper.looksAt
    refine List.mem_append.2 (.inr ?_)
    rw [hg]; simp [e])

variable {S ops}
theorem DG.congr {e : Nat → AV} {o : Oper} {h h' : Hp} {r : AV} (hd : DG S ops e o h r h') {d : Option Tmp} {v : AV} (hn : ∀ t, d = some t → t ∉ o.looksAt ops) : DG S ops (putE e d v) o h r h' := by
  cases d with
  | none => exact hd
  | some t =>
    have h0 := hn t rfl
    have h1 := looks_op ops h0
    have hev : ∀ x ∈ o.op.operands, evE e x = evE (putE e (some t) v) x := by
      intro x hx
      cases x with
      | tmp u =>
        have : u ≠ t := fun he => h1 _ hx (he ▸ rfl)
        simp [evE, putE, setE, this]
      | _ => rfl
    unfold DG at hd ⊢
    cases hg : o.guard with
    | none => rw [hg] at hd; exact S.congr hev hd
    | some jw =>
      obtain ⟨j, w⟩ := jw
      rw [hg] at hd
      obtain ⟨u, v', hu, hv, hh⟩ := hd
      have hne : u ≠ t := fun he => looks_guard ops h0 hg (he ▸ hu)
      refine ⟨u, v', hu, by simp [putE, setE, hne, hv], ?_⟩
      rcases hh with ⟨a, b⟩ | hh
      · exact .inl ⟨a, S.congr hev b⟩
      · exact .inr hh
theorem DG.uncongr {e : Nat → AV} {o : Oper} {h h' : Hp} {r : AV} {d : Option Tmp} {v : AV} (hd : DG S ops (putE e d v) o h r h') (hn : ∀ t, d = some t → t ∉ o.looksAt ops) : DG S ops e o h r h' := by
  cases d with
  | none => exact hd
  | some t =>
    have := hd.congr (d := some t) (v := e t) hn
    have he : putE (putE e (some t) v) (some t) (e t) = e := by
      funext u
      simp only [putE, setE]
      split
      · rename_i h; rw [h]
      · rfl
    rwa [he] at this
theorem DG.c0 {e : Nat → AV} {o : Oper} {h h' : Hp} {r : AV} (hc : S.cls o = 0) (hd : DG S ops e o h r h') : h' = h ∧ ∀ g, DG S ops e o g r g := by
  unfold DG at hd ⊢
  cases hg : o.guard with
  | none => rw [hg] at hd; exact S.c0 hc hd
  | some jw =>
    rw [hg] at hd
    obtain ⟨u, v', hu, hv, hh⟩ := hd
    rcases hh with ⟨a, b⟩ | ⟨a, b, c⟩
    · exact ⟨(S.c0 hc b).1, fun g => ⟨u, v', hu, hv, .inl ⟨a, (S.c0 hc b).2 g⟩⟩⟩
    · exact ⟨c, fun g => ⟨u, v', hu, hv, .inr ⟨a, b, rfl⟩⟩⟩
theorem DG.c1 {e : Nat → AV} {o : Oper} {h h' : Hp} {r : AV} (hc : S.cls o = 1) (hd : DG S ops e o h r h') : h' = h ∧ (∀ g, (∀ id ob, h id = some ob → g id = some ob) → DG S ops e o g r g) := by
  unfold DG at hd ⊢
  cases hg : o.guard with
  | none => rw [hg] at hd; exact S.c1 hc hd
  | some jw =>
    rw [hg] at hd
    obtain ⟨u, v', hu, hv, hh⟩ := hd
    rcases hh with ⟨a, b⟩ | ⟨a, b, c⟩
    · exact ⟨(S.c1 hc b).1, fun g k => ⟨u, v', hu, hv, .inl ⟨a, (S.c1 hc b).2 g k⟩⟩⟩
    · exact ⟨c, fun g _ => ⟨u, v', hu, hv, .inr ⟨a, b, rfl⟩⟩⟩
theorem DG.c1d {e : Nat → AV} {o : Oper} {h h' : Hp} {r : AV} {d : Nat} {ob : Ob} (hc : S.cls o = 1) (hd : DG S ops e o (setH h d ob) r h') (ht : ∀ x ∈ o.op.operands, (evE e x).top ≠ some d) : DG S ops e o h r h := by
  unfold DG at hd ⊢
  cases hg : o.guard with
  | none => rw [hg] at hd; exact S.c1d hc hd ht
  | some jw =>
    rw [hg] at hd
    obtain ⟨u, v', hu, hv, hh⟩ := hd
    rcases hh with ⟨a, b⟩ | ⟨a, b, c⟩
    · exact ⟨u, v', hu, hv, .inl ⟨a, S.c1d hc b ht⟩⟩
    · exact ⟨u, v', hu, hv, .inr ⟨a, b, rfl⟩⟩
theorem DG.c2 {e : Nat → AV} {o : Oper} {h h' : Hp} {r : AV} (hc : S.cls o = 2) (hd : DG S ops e o h r h') :
    (h' = h ∧ ∀ g, DG S ops e o g r g) ∨ ∃ d ob, o.dst = some d ∧ h d = none ∧ h' = setH h d ob ∧ ∀ g, g d = none → DG S ops e o g r (setH g d ob) := by
  unfold DG at hd ⊢
  cases hg : o.guard with
  | none => rw [hg] at hd; exact .inr (S.c2 hc hd)
  | some jw =>
    rw [hg] at hd
    obtain ⟨u, v', hu, hv, hh⟩ := hd
    rcases hh with ⟨a, b⟩ | ⟨a, b, c⟩
    · obtain ⟨d, ob, h1, h2, h3, h4⟩ := S.c2 hc b
      exact .inr ⟨d, ob, h1, h2, h3, fun g k => ⟨u, v', hu, hv, .inl ⟨a, h4 g k⟩⟩⟩
    · exact .inl ⟨c, fun g => ⟨u, v', hu, hv, .inr ⟨a, b, rfl⟩⟩⟩

theorem setH_comm {h : Hp} {a b : Nat} (hne : a ≠ b) (x y : Ob) : setH (setH h a x) b y = setH (setH h b y) a x := by
  funext i
  simp only [setH]
  by_cases h1 : i = b
  · subst h1; rw [if_pos rfl, if_neg (fun h => hne h.symm), if_pos rfl]
  · rw [if_neg h1]
    by_cases h2 : i = a
    · rw [if_pos h2, if_pos h2]
    · rw [if_neg h2, if_neg h2, if_neg h1]
theorem setH_ge {h : Hp} {d : Nat} {ob : Ob} (hd : h d = none) : ∀ id o, h id = some o → setH h d ob id = some o := by
  intro id o e
  simp only [setH]
  rw [if_neg (fun x => by rw [x, hd] at e; cases e)]
  exact e

/-- May two operations change places? -/
def indep (S : Sys P) (ops : Array Oper) (x y : Oper) : Bool := x.apart ops y && (S.sep x y || ((S.cls x ≤ 2 && S.cls y ≤ 2) || S.cls x == 0 || S.cls y == 0))
theorem DG.sep {e : Nat → AV} {x y : Oper} {h h1 h2 : Hp} {rx ry : AV} (hs : S.sep y x = true) (hy : DG S ops e y h ry h1) (hx : DG S ops e x h1 rx h2) : ∃ h1', DG S ops e x h rx h1' ∧ DG S ops e y h1' ry h2 := by
  have key : ∀ (z : Oper) (g g' : Hp) (r : AV), DG S ops e z g r g' → (S.D (evE e) z g r g' ∧ ∀ k k' r', S.D (evE e) z k r' k' → DG S ops e z k r' k') ∨ (g' = g ∧ ∀ k, DG S ops e z k r k) := by
    intro z g g' r hz
    unfold DG at hz
    cases hg : z.guard with
    | none =>
      rw [hg] at hz
      exact .inl ⟨hz, fun k k' r' hk => by unfold DG; rw [hg]; exact hk⟩
    | some jw =>
      rw [hg] at hz
      obtain ⟨t, v, h3, h4, h5⟩ := hz
      rcases h5 with ⟨h5, h6⟩ | ⟨h5, h6, h7⟩
      · exact .inl ⟨h6, fun k k' r' hk => by unfold DG; rw [hg]; exact ⟨t, v, h3, h4, .inl ⟨h5, hk⟩⟩⟩
      · exact .inr ⟨h7, fun k => by unfold DG; rw [hg]; exact ⟨t, v, h3, h4, .inr ⟨h5, h6, rfl⟩⟩⟩
  rcases key y h h1 ry hy with ⟨d1, k1⟩ | ⟨rfl, k1⟩
  · rcases key x h1 h2 rx hx with ⟨d2, k2⟩ | ⟨rfl, k2⟩
    · obtain ⟨g, d3, d4⟩ := S.sepd hs d1 d2
      exact ⟨g, k2 _ _ _ d3, k1 _ _ _ d4⟩
    · exact ⟨h, k2 h, hy⟩
  · exact ⟨h2, hx, k1 h2⟩

/-- Two steps, the other way round. -/
theorem diamond {e : Nat → AV} {h h1 h2 : Hp} {x y : Oper} {rx ry : AV} (hi : indep S ops y x = true)
    (htop : ∀ d, h d = none → ∀ z ∈ x.op.operands, (evE e z).top ≠ some d)
    (hy : DG S ops e y h ry h1) (hx : DG S ops (putE e y.dst ry) x h1 rx h2) :
    ∃ h1', DG S ops e x h rx h1' ∧ DG S ops (putE e x.dst rx) y h1' ry h2 := by
  simp only [indep, Bool.and_eq_true] at hi
  obtain ⟨hap, hcl⟩ := hi
  obtain ⟨a1, a2, a3⟩ := Oper.apart_spec hap
  have hx := hx.uncongr a1
  by_cases hsep : S.sep y x = true
  · obtain ⟨g, d1, d2⟩ := hy.sep hsep hx
    exact ⟨g, d1, d2.congr a3⟩
  rw [Bool.or_eq_true] at hcl
  replace hcl := hcl.resolve_left hsep
  simp only [Bool.or_eq_true, Bool.and_eq_true, decide_eq_true_eq, beq_iff_eq] at hcl
  by_cases y0 : S.cls y = 0
  · obtain ⟨rfl, hg⟩ := hy.c0 y0
    exact ⟨h2, hx, (hg h2).congr a3⟩
  by_cases x0 : S.cls x = 0
  · obtain ⟨rfl, hg⟩ := hx.c0 x0
    exact ⟨h, hg h, hy.congr a3⟩
  have hle : S.cls y ≤ 2 ∧ S.cls x ≤ 2 := by omega
  by_cases y1 : S.cls y = 1
  · obtain ⟨rfl, hg⟩ := hy.c1 y1
    by_cases x1 : S.cls x = 1
    · obtain ⟨rfl, _⟩ := hx.c1 x1
      exact ⟨_, hx, hy.congr a3⟩
    · rcases hx.c2 (by omega) with ⟨rfl, k⟩ | ⟨d, ob, e1, e2, rfl, k⟩
      · exact ⟨_, hx, hy.congr a3⟩
      · exact ⟨_, hx, (hg _ (setH_ge e2)).congr a3⟩
  · rcases hy.c2 (by omega) with ⟨rfl, k⟩ | ⟨d, ob, e1, e2, rfl, k⟩
    · exact ⟨h2, hx, (k h2).congr a3⟩
    · by_cases x1 : S.cls x = 1
      · obtain ⟨rfl, _⟩ := hx.c1 x1
        exact ⟨h, hx.c1d x1 (htop d e2), hy.congr a3⟩
      · rcases hx.c2 (by omega) with ⟨rfl, k2⟩ | ⟨d2, ob2, f1, f2, rfl, k2⟩
        · exact ⟨h, k2 h, hy.congr a3⟩
        · have hne : d ≠ d2 := fun he => a2 d e1 (he ▸ f1)
          have hd2 : h d2 = none := by
            have := f2
            simp only [setH] at this
            rwa [if_neg (fun h => hne h.symm)] at this
          refine ⟨setH h d2 ob2, k2 h hd2, ?_⟩
          have hd : setH h d2 ob2 d = none := by simp only [setH]; rw [if_neg hne]; exact e2
          rw [setH_comm hne]
          exact (k _ hd).congr a3

/-- Steps one behind the other. -/
def Chain (S : Sys P) (ops : Array Oper) : List Nat → (Nat → AV) → Hp → (Nat → AV) → Hp → Prop
  | [], e, h, e', h' => e' = e ∧ h' = h
  | i :: l, e, h, e', h' => ∃ o r h1, ops[i]? = some o ∧ DG S ops e o h r h1 ∧ Chain S ops l (putE e o.dst r) h1 e' h'

def SatEx (nt : Nat) (e : Nat → AV) (h : Hp) : Prop := ∃ C a, Sat nt C ⟨e, h⟩ a

theorem wp_ex {o : Oper} {a : Act} {w : World} {K : Act → World → Prop} (h : o.wp P a w K (fun _ _ _ => False)) : ∃ a' w', K a' w' := by
  unfold Oper.wp at h
  generalize (execOp a.eval o).run P w = r at h
  cases r with
  | ok n w' =>
    cases n <;> simp only [Oper.upon] at h <;> try exact h.elim
    · exact ⟨_, _, h⟩
    · exact ⟨_, _, h⟩
    · obtain ⟨e, w'', fr, hR, _⟩ := h []
      cases e with
      | returned v => exact ⟨_, _, hR⟩
      | panicked c => exact hR.elim
      | outgrown => obtain ⟨_, _, x⟩ := hR; exact x.elim
    · exact ⟨_, _, h⟩
    · obtain ⟨v, w'', hR, _⟩ := h default []
      exact ⟨_, _, hR⟩
  | halt x w' => cases x <;> simp only [Oper.upon] at h <;> exact h.elim

theorem Sat.yield {nt : Nat} {C : Cx} {σ : St} {a : Act} (s : Sat nt C σ a) {j : Nat} {t : Tmp} {v : Value} (ht : (ops[j]?).bind (·.dst) = some t) (hv : σ.env t = .raw v) (hlt : t < nt) :
    yielded ops a.tmps j = (match v with | .bool b => some b | _ => none) := by
  have h1 := s.env t
  rw [hv] at h1
  have h2 := h1.raw_eq
  have hs : t < a.tmps.size := by rw [s.size]; exact hlt
  unfold yielded
  rw [ht, Option.bind_some]
  rw [Array.getD_eq_getD_getElem?, Array.getElem?_eq_getElem hs, Option.getD_some] at h2
  rw [Array.getElem?_eq_getElem hs, h2]
  cases v <;> rfl

theorem put_sat {nt : Nat} {C : Cx} {e : Nat → AV} {h : Hp} {a : Act} (s : Sat nt C ⟨e, h⟩ a) {d : Option Tmp} {r : AV} {v : Value} (hr : RV C r v) (hd : ∀ t, d = some t → t < nt) : Sat nt C ⟨putE e d r, h⟩ (a.put d v) := by
  cases d with
  | none => exact s
  | some t =>
    refine ⟨s.defers, by simp [Act.put, s.size], fun u => ?_, s.heap⟩
    simp only [putE, setE]
    have hsz : t < a.tmps.size := by rw [s.size]; exact hd t rfl
    by_cases hu : u = t
    · subst hu
      rw [if_pos rfl]
      simp [Act.put, hsz, hr]
    · rw [if_neg hu]
      have := s.env u
      simp only [Act.put, Array.getD_eq_getD_getElem?]
      rw [Array.getElem?_setIfInBounds_ne (fun h => hu h.symm), ← Array.getD_eq_getD_getElem?]
      exact this

/-- A step with its guard, carried out. -/
theorem DG.wp {nt : Nat} {C : Cx} {σ : St} {a : Act} {i : Nat} {o : Oper} {r : AV} {h' : Hp} (s : Sat nt C σ a) (ho : ops[i]? = some o) (hdst : ∀ (j : Nat) (q : Oper) d, ops[j]? = some q → q.dst = some d → d < nt)
    (hd : DG S ops σ.env o σ.heap r h') (K : Act → World → Prop) (Q : Exit → Act → World → Prop)
    (hk : ∀ C' v, Ext C C' → Sat nt C' ⟨putE σ.env o.dst r, h'⟩ (a.put o.dst v) → K (a.put o.dst v) C'.W) : wpOp P ops Q i K a C.W := by
  unfold wpOp
  simp only [ho]
  unfold DG at hd
  cases hg : o.guard with
  | none =>
    rw [hg] at hd
    rw [if_pos (by simp [Region.wanted, hg])]
    exact .inl (S.sound s hd (fun d e => hdst i o d ho e) K Q hk)
  | some jw =>
    obtain ⟨j, w⟩ := jw
    rw [hg] at hd
    obtain ⟨t, v, ht, hv, hh⟩ := hd
    have hlt : t < nt := by
      obtain ⟨q, hq, hq2⟩ := Option.bind_eq_some_iff.1 ht
      exact hdst j q t hq hq2
    have hy := s.yield ht hv hlt
    rcases hh with ⟨rfl, hD⟩ | ⟨hne, rfl, rfl⟩
    · rw [if_pos (by simp [Region.wanted, hg, hy])]
      exact .inl (S.sound s hD (fun d e => hdst i o d ho e) K Q hk)
    · rw [if_neg (by
        simp only [Region.wanted, hg, hy]
        intro h
        cases v <;> simp at h
        exact hne (by rw [h]))]
      exact hk C undef (.refl C) (put_sat s (.raw _) (fun d e => hdst i o d ho e))

/-! ### Whatever order -/
/-- The numbers from which there is a way to i, in at most k steps. -/
def anc (ops : Array Oper) : Nat → Nat → List Nat
  | 0, _ => []
  | k + 1, i => match ops[i]? with
    | none => []
    | some o => (o.after.toList.filterMap fun e => if Region.binds .any e then some e.on else none).flatMap fun j => j :: anc ops k j

/-- What is looked at once for each region. -/
def okRegion (S : Sys P) (nt : Nat) (ops : Array Oper) (depth : Nat) : Bool :=
  ops.all (fun o => o.dst.all (· < nt) && (match o.op with | .select .. => false | _ => true)) &&
  (List.range ops.size).all fun i => match ops[i]? with
    | none => true
    | some x => x.after.all (fun e => !Region.binds .any e || decide (e.on < i)) &&
      (List.range i).all fun y => (anc ops depth i).contains y || match ops[y]? with
        | none => true
        | some o => indep S ops o x

def left (n : Nat) (listed : Array Bool) : List Nat := (List.range n).filter fun i => !listed.getD i true

def Closed (ops : Array Oper) (listed : Array Bool) : Prop := ∀ i o, ops[i]? = some o → listed.getD i false = true → ∀ e ∈ o.after, Region.binds .any e = true → listed.getD e.on false = true

theorem anc_listed {listed : Array Bool} (hc : Closed ops listed) : ∀ (k i : Nat) (o : Oper), ops[i]? = some o → (∀ e ∈ o.after, Region.binds .any e = true → listed.getD e.on false = true) → ∀ y ∈ anc ops k i, listed.getD y false = true
  | 0, i, o, ho, h, y, hy => by simp [anc] at hy
  | k + 1, i, o, ho, h, y, hy => by
    simp only [anc, ho] at hy
    obtain ⟨j, hj, hy⟩ := List.mem_flatMap.1 hy
    obtain ⟨e, he, hej⟩ := List.mem_filterMap.1 hj
    split at hej
    · rename_i hb
      cases hej
      have hl := h e (Array.mem_toList_iff.1 he) hb
      rcases List.mem_cons.1 hy with rfl | hy
      · exact hl
      · cases hz : ops[e.on]? with
        | none =>
          cases k with
          | zero => simp [anc] at hy
          | succ k => simp [anc, hz] at hy
        | some z => exact anc_listed hc k e.on z hz (hc e.on z hz hl) y hy
    · cases hej

theorem SatEx.step {nt : Nat} {e : Nat → AV} {h h' : Hp} {o : Oper} {r : AV} {i : Nat} (s : SatEx nt e h) (ho : ops[i]? = some o) (hdst : ∀ (j : Nat) (q : Oper) d, ops[j]? = some q → q.dst = some d → d < nt) (hd : DG S ops e o h r h') : SatEx nt (putE e o.dst r) h' := by
  obtain ⟨C, a, s⟩ := s
  unfold DG at hd
  cases hg : o.guard with
  | none =>
    rw [hg] at hd
    obtain ⟨a', w', x⟩ := wp_ex (S.sound s hd (fun d e => hdst i o d ho e) (fun a' w' => SatEx nt (putE e o.dst r) h') (fun _ _ _ => False) (fun C' v ex s' => ⟨C', _, s'⟩))
    exact x
  | some jw =>
    rw [hg] at hd
    obtain ⟨t, v, ht, hv, ⟨_, hD⟩ | ⟨_, rfl, rfl⟩⟩ := hd
    · obtain ⟨a', w', x⟩ := wp_ex (S.sound s hD (fun d e => hdst i o d ho e) (fun a' w' => SatEx nt (putE e o.dst r) h') (fun _ _ _ => False) (fun C' v ex s' => ⟨C', _, s'⟩))
      exact x
    · exact ⟨C, _, put_sat s (.raw undef) (fun d e => hdst i o d ho e)⟩

theorem SatEx.top {nt : Nat} {e : Nat → AV} {h : Hp} (s : SatEx nt e h) (o : Oper) : ∀ d, h d = none → ∀ z ∈ o.op.operands, (evE e z).top ≠ some d := by
  obtain ⟨C, a, s⟩ := s
  intro d hd z _ ht
  cases z with
  | tmp t =>
    have h1 := s.env t
    have h2 := s.heap.no d hd
    simp only [evE] at ht
    simp only at h1
    generalize e t = x at h1 ht
    generalize a.tmps.getD t undef = v at h1
    cases x <;> simp only [AV.top, Option.some.injEq, reduceCtorEq] at ht <;> subst ht <;> cases h1 <;> simp_all
  | _ => simp [evE, AV.top] at ht

theorem bubble {nt : Nat} (hdst : ∀ (j : Nat) (q : Oper) d, ops[j]? = some q → q.dst = some d → d < nt) {i : Nat} {x : Oper} (hx : ops[i]? = some x) (l2 : List Nat) : ∀ (l1 : List Nat) (e : Nat → AV) (h : Hp) (e' : Nat → AV) (h' : Hp),
    (∀ y ∈ l1, ∀ o, ops[y]? = some o → indep S ops o x = true) → SatEx nt e h → Chain S ops (l1 ++ i :: l2) e h e' h' → Chain S ops (i :: (l1 ++ l2)) e h e' h'
  | [], e, h, e', h', _, _, hc => hc
  | y :: l1, e, h, e', h', hi, hs, hc => by
    obtain ⟨o, r, h1, ho, hd, hc⟩ := hc
    have hs1 := hs.step ho hdst hd
    obtain ⟨x', rx, h2, hx', hdx, hc2⟩ := bubble hdst hx l2 l1 _ _ e' h' (fun z hz => hi z (by simp [hz])) hs1 hc
    rw [hx] at hx'; cases hx'
    have hind := hi y (by simp) o ho
    obtain ⟨h1', a, b⟩ := diamond hind (hs.top x) hd hdx
    refine ⟨x, rx, h1', hx, a, o, r, h2, ho, b, ?_⟩
    have h3 : ∀ d, o.dst = some d → x.dst ≠ some d := (Oper.apart_spec (by simp only [indep, Bool.and_eq_true] at hind; exact hind.1)).2.1
    rw [← putE_comm r rx h3]
    exact hc2

theorem left_mem {n : Nat} {listed : Array Bool} {i : Nat} : i ∈ left n listed ↔ i < n ∧ listed.getD i true = false := by
  unfold left; rw [List.mem_filter, List.mem_range]; simp

theorem left_set {n : Nat} {listed : Array Bool} {i : Nat} {l1 l2 : List Nat} (h : left n listed = l1 ++ i :: l2) : left n (listed.setIfInBounds i true) = l1 ++ l2 := by
  have hi : i ∈ left n listed := by rw [h]; simp
  have hs : i < listed.size := by
    have := (left_mem.1 hi).2
    rcases Nat.lt_or_ge i listed.size with k | k
    · exact k
    · simp [Array.getElem?_eq_none k] at this
  have hnd : (left n listed).Nodup := List.Nodup.sublist List.filter_sublist List.nodup_range
  have e : left n (listed.setIfInBounds i true) = (left n listed).filter (· != i) := by
    unfold left
    rw [List.filter_filter]
    refine List.filter_congr fun j _ => ?_
    by_cases hj : j = i
    · subst hj; simp [hs]
    · rw [getD_set_ne true (fun h => hj h.symm)]; simp [hj]
  rw [e, h]
  rw [h] at hnd
  rw [List.filter_append, List.filter_cons]
  have h1 : ∀ j ∈ l1, j ≠ i := fun j hj he => by
    subst he
    rw [List.nodup_append] at hnd
    exact hnd.2.2 j hj j (by simp) rfl
  have h2 : ∀ j ∈ l2, j ≠ i := fun j hj he => by
    subst he
    rw [List.nodup_append] at hnd
    have := hnd.2.1
    rw [List.nodup_cons] at this
    exact this.1 hj
  rw [List.filter_eq_self.2 (fun j hj => by simp [h1 j hj]), List.filter_eq_self.2 (fun j hj => by simp [h2 j hj])]
  simp

theorem any_of_chain {nt : Nat} {depth : Nat} (hok : okRegion S nt ops depth = true) {Q : Exit → St → Prop} {C0 : Cx} {e' : Nat → AV} {h' : Hp} (hq : Q .normal ⟨e', h'⟩) :
    ∀ (fuel : Nat) (listed : Array Bool) (e : Nat → AV) (h : Hp) (C : Cx) (a : Act), listed.size = ops.size → (left ops.size listed).length = fuel → Closed ops listed → Chain S ops (left ops.size listed) e h e' h' →
      Ext C0 C → Sat nt C ⟨e, h⟩ a → wpAny P .any ops (CX Q C0 nt) fuel listed a C.W := by
  simp only [okRegion, Bool.and_eq_true] at hok
  obtain ⟨hk1, hk2⟩ := hok
  rw [Array.all_eq_true_iff_forall_mem] at hk1
  have hdst : ∀ (j : Nat) (q : Oper) d, ops[j]? = some q → q.dst = some d → d < nt := by
    intro j q d hj hd
    have := hk1 q (Array.mem_of_getElem? hj)
    rw [hd] at this
    simp only [Bool.and_eq_true] at this
    simpa using this.1
  have hk3 : ∀ i x, ops[i]? = some x → (∀ e ∈ x.after, Region.binds .any e = true → e.on < i) ∧ ∀ y, y < i → (anc ops depth i).contains y = true ∨ ∀ o, ops[y]? = some o → indep S ops o x = true := by
    intro i x hx
    have hi := (Array.getElem?_eq_some_iff.1 hx).1
    have := (List.all_eq_true.1 hk2) i (List.mem_range.2 hi)
    rw [hx] at this
    simp only [Bool.and_eq_true] at this
    refine ⟨fun e he hb => ?_, fun y hy => ?_⟩
    · have h1 := (Array.all_eq_true_iff_forall_mem.1 this.1) e he
      simp [hb] at h1; exact h1
    · have h1 := (List.all_eq_true.1 this.2) y (List.mem_range.2 hy)
      rcases Bool.or_eq_true_iff.1 h1 with h1 | h1
      · exact .inl h1
      · exact .inr fun o ho => by rw [ho] at h1; exact h1
  have hready : ∀ (listed : Array Bool) (m : Nat) (l : List Nat), listed.size = ops.size → left ops.size listed = m :: l → m ∈ Region.ready .any ops listed := by
    intro listed m l hsz hl
    have hm : m ∈ left ops.size listed := by rw [hl]; simp
    obtain ⟨hm1, hm2⟩ := left_mem.1 hm
    rw [mem_ready]
    refine ⟨hm2, ops[m], Array.getElem?_eq_getElem hm1, fun e he hb => ?_⟩
    have hlt := (hk3 m _ (Array.getElem?_eq_getElem hm1)).1 e he hb
    have hes : e.on < listed.size := by rw [hsz]; omega
    rcases hv : listed.getD e.on true with _ | _
    · have : e.on ∈ left ops.size listed := left_mem.2 ⟨by omega, hv⟩
      have hsorted : (left ops.size listed).Pairwise (· < ·) := List.Pairwise.sublist List.filter_sublist List.pairwise_lt_range
      rw [hl] at hsorted this
      rcases List.mem_cons.1 this with h1 | h1
      · omega
      · have := (List.pairwise_cons.1 hsorted).1 _ h1; omega
    · simp [hes] at hv ⊢; exact hv
  intro fuel
  induction fuel with
  | zero =>
    intro listed e h C a hsz hlen hcl hc hex hs
    have hnil := List.eq_nil_of_length_eq_zero hlen
    rw [hnil] at hc
    obtain ⟨rfl, rfl⟩ := hc
    refine ⟨?_, ⟨⟨e', h'⟩, C, rfl, hq, hex, hs⟩⟩
    refine List.eq_nil_iff_forall_not_mem.2 fun i hi => ?_
    obtain ⟨h0, o, ho, _⟩ := mem_ready.1 hi
    have : i ∈ left ops.size listed := left_mem.2 ⟨(Array.getElem?_eq_some_iff.1 ho).1, h0⟩
    rw [hnil] at this; cases this
  | succ fuel ih =>
    intro listed e h C a hsz hlen hcl hc hex hs
    refine ⟨fun hr => ?_, fun i hi => ?_⟩
    · cases hl : left ops.size listed with
      | nil => rw [hl] at hlen; cases hlen
      | cons m l => have := hready listed m l hsz hl; rw [hr] at this; cases this
    · obtain ⟨h0, x, hx, hall⟩ := mem_ready.1 hi
      have hm : i ∈ left ops.size listed := left_mem.2 ⟨(Array.getElem?_eq_some_iff.1 hx).1, h0⟩
      obtain ⟨l1, l2, hl⟩ := List.append_of_mem hm
      have hsorted : (left ops.size listed).Pairwise (· < ·) := List.Pairwise.sublist List.filter_sublist List.pairwise_lt_range
      have hind : ∀ y ∈ l1, ∀ o, ops[y]? = some o → indep S ops o x = true := by
        intro y hy o ho
        have hyl : y ∈ left ops.size listed := by rw [hl]; simp [hy]
        have hlt : y < i := by
          rw [hl, List.pairwise_append] at hsorted
          exact hsorted.2.2 y hy i (by simp)
        rcases (hk3 i x hx).2 y hlt with h1 | h1
        · have h2 := anc_listed hcl depth i x hx hall y (by simpa using h1)
          have h3 := (left_mem.1 hyl).2
          have hys : y < listed.size := by rw [hsz]; exact (left_mem.1 hyl).1
          simp [hys] at h2 h3
          rw [h2] at h3; cases h3
        · exact h1 o ho
      rw [hl] at hc
      obtain ⟨x', rx, h1, hx', hd, hc2⟩ := bubble hdst hx l2 l1 e h e' h' hind ⟨C, a, hs⟩ hc
      rw [hx] at hx'; cases hx'
      refine DG.wp (σ := ⟨e, h⟩) hs hx hdst hd _ _ fun C' v hex' hs' => ?_
      have hsl := left_set hl
      refine ih _ _ _ C' _ (by simp [hsz]) (by rw [hsl]; rw [hl] at hlen; simp at hlen ⊢; omega) ?_ (by rw [hsl]; exact hc2) (hex.trans hex') hs'
      intro j o ho hj e2 he2 hb2
      by_cases hji : j = i
      · subst hji
        rw [hx] at ho; cases ho
        exact getD_set_true (hall e2 he2 hb2)
      · rw [getD_set_ne false (fun h => hji h.symm)] at hj
        exact getD_set_true (hcl j o ho hj e2 he2 hb2)

theorem ops_of_chain {nt : Nat} (hdst : ∀ (j : Nat) (q : Oper) d, ops[j]? = some q → q.dst = some d → d < nt) {Q : Exit → St → Prop} {C0 : Cx} {e' : Nat → AV} {h' : Hp} (hq : Q .normal ⟨e', h'⟩) :
    ∀ (l : List Nat) (e : Nat → AV) (h : Hp) (C : Cx) (a : Act), Chain S ops l e h e' h' → Ext C0 C → Sat nt C ⟨e, h⟩ a → wpOps P ops (CX Q C0 nt) l a C.W
  | [], e, h, C, a, hc, hex, hs => by
    obtain ⟨rfl, rfl⟩ := hc
    exact ⟨⟨e', h'⟩, C, rfl, hq, hex, hs⟩
  | i :: l, e, h, C, a, hc, hex, hs => by
    obtain ⟨o, r, h1, ho, hd, hc⟩ := hc
    rw [wpOps_cons]
    exact DG.wp (σ := ⟨e, h⟩) hs ho hdst hd _ _ fun C' v hex' hs' => ops_of_chain hdst hq l _ _ C' _ hc (hex.trans hex') hs'

/-- A region, drawn or not. -/
theorem awp_region {nt : Nat} {id : Nat} {draw : Bool} {Q : Exit → St → Prop} {σ : St} (depth : Nat) (hm : P.follows .mixedOrders = true) (hok : okRegion S nt ops depth = true) {e' : Nat → AV} {h' : Hp}
    (hc : Chain S ops (List.range ops.size) σ.env σ.heap e' h') (hq : Q .normal ⟨e', h'⟩) : AWP P nt (.region id ops draw) Q σ := by
  intro C0 C a hex hs
  cases draw with
  | false =>
    refine wp_region (ops_of_chain (S := S) (fun j q d hj hd => ?_) hq _ _ _ C a hc hex hs)
    simp only [okRegion, Bool.and_eq_true] at hok
    have := (Array.all_eq_true_iff_forall_mem.1 hok.1) q (Array.mem_of_getElem? hj)
    rw [hd] at this
    simp only [Bool.and_eq_true] at this
    simpa using this.1
  | true =>
    refine wp_region_any hm ?_
    have e0 : left ops.size (Array.replicate ops.size false) = List.range ops.size := by
      unfold left
      rw [List.filter_eq_self.2]
      intro i hi
      simp [List.mem_range.1 hi]
    have hdr : Ext C { C with W := { C.W with drawn := C.W.drawn + 1 } } := ⟨rfl, rfl, rfl, Nat.le_refl _, fun _ h => h, fun _ _ _ => rfl, fun _ h => .inl h, fun _ h => .inl h, fun _ _ _ h => h⟩
    have hu : Up C { C with W := { C.W with drawn := C.W.drawn + 1 } } := ⟨fun _ h => h, fun _ _ => rfl, fun _ _ h => h⟩
    refine any_of_chain hok hq ops.size _ σ.env σ.heap { C with W := { C.W with drawn := C.W.drawn + 1 } } a (by simp) (by rw [e0]; simp) ?_ (by rw [e0]; exact hc) (hex.trans hdr)
      ⟨hs.defers, hs.size, fun t => (hs.env t).up hu, ⟨fun id ob h => ?_, hs.heap.no, hs.heap.inj, hs.heap.apart, hs.heap.lt, hs.heap.olt, hs.heap.gl.up hu⟩⟩
    · intro i o ho hl
      have hi := (Array.getElem?_eq_some_iff.1 ho).1
      simp [hi] at hl
    · have := hs.heap.at_ id ob h
      cases ob with
      | box x => obtain ⟨b, T, cs, t, h1, h2, h3, h4⟩ := this; exact ⟨b, T, cs, t, h1, h2, h3, h4.up hu⟩
      | arr sz l => obtain ⟨b, T, cs, t, fr, c1, c2, h1, h2, h3, h4, h5, h6, h7⟩ := this; exact ⟨b, T, cs, t, fr, c1, c2, h1, h2, h3, h4, h5, h6.up hu, h7⟩
      | fz sz l => obtain ⟨b, T, c1, h1, h2, h3, h4, h5⟩ := this; exact ⟨b, T, c1, h1, h2, h3, h4.up hu.bare, h5⟩
      | dead => exact this
end
end Go.Proofs.Ytejeemhenoobjaa.Asl

