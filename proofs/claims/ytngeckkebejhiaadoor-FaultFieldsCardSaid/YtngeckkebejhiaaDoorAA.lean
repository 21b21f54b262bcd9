/- Abstract values: what a value of the machine reads as, in a world some of whose blocks are frozen and some of whose blocks are owned. -/
import Derived.Below
import Derived.Orders
import Derived.KernelRfl
namespace Go.Proofs.YtngeckkebejhiaaDoor.Asl
open Go Go.RowKit
set_option linter.unusedVariables false

inductive AV where
  | any
  | raw (v : Value)
  | agg (l : List AV)
  | tup (l : List AV)
  | sl (sz : Nat) (l : List AV)
  | fp (x : AV)
  | ptr (id off : Nat)
  | ep (id sz i off : Nat)
  | ow (id sz off len : Nat)
  | ifc (t : TypeId) (x : AV)
  | fn (f : Fn) (first cap : List AV)
  deriving Inhabited

/-- A value that takes one cell. -/
def AV.one : AV → Bool
  | .any | .agg _ | .tup _ => false
  | .raw (.agg _) | .raw (.tuple _) => false
  | _ => true

mutual
def AV.size : AV → Nat
  | .agg l => AV.sizes l
  | _ => 1
def AV.sizes : List AV → Nat
  | [] => 0
  | x :: l => x.size + AV.sizes l
end

structure Cx where
  W : World
  F : Nat → Prop
  O : Nat → Prop
  ι : Nat → Option (Nat × Nat)

def Cx.bare (C : Cx) : Cx := { C with ι := fun _ => none }

def Reads (W : World) (b o : Nat) (cells : List Value) : Prop := ∀ i v, cells[i]? = some v → W.cell? ⟨b, o + i, none⟩ = some v

mutual
inductive RV : Cx → AV → Value → Prop
  | any {C} (v) : RV C .any v
  | raw {C} (v) : RV C (.raw v) v
  | agg {C l cs} (h : RCs C l cs) : RV C (.agg l) (.agg cs.toArray)
  | tup {C l vs} (h : RVs C l vs) : RV C (.tup l) (.tuple vs.toArray)
  | sl0 {C sz a c} : RV C (.sl sz []) (.slice a 0 c)
  | sl {C sz l cs b o c} (h : RCs C.bare l cs) (hs : ∀ x ∈ l, x.size = sz) (hF : C.F b) (hr : Reads C.W b o cs) (hc : l.length ≤ c) : RV C (.sl sz l) (.slice (some ⟨b, o, none⟩) l.length c)
  | fp {C x cs b o} (h : RC C.bare x cs) (hF : C.F b) (hr : Reads C.W b o cs) : RV C (.fp x) (.pointer (some ⟨b, o, none⟩))
  | ptr {C id off b T} (h : C.ι id = some (b, T)) : RV C (.ptr id off) (.pointer (some ⟨b, off, none⟩))
  | ep {C id sz i off b T} (h : C.ι id = some (b, T)) : RV C (.ep id sz i off) (.pointer (some ⟨b, i * sz + off, none⟩))
  | ow {C id sz off len b T} (h : C.ι id = some (b, T)) (hl : off + len ≤ T) : RV C (.ow id sz off len) (.slice (some ⟨b, off * sz, none⟩) len (T - off))
  | ow0 {C id sz off a b T} (h : C.ι id = some (b, T)) (hl : off = T) : RV C (.ow id sz off 0) (.slice (some a) 0 0)
  | ifc {C t x v} (h : RV C x v) : RV C (.ifc t x) (.iface t v)
  | fn {C f first cap fs cs} (h1 : RVs C first fs) (h2 : RVs C cap cs) : RV C (.fn f first cap) (.func f fs.toArray cs.toArray)
inductive RC : Cx → AV → List Value → Prop
  | agg {C l cs} (h : RCs C l cs) : RC C (.agg l) cs
  | one {C x v} (h : RV C x v) (h1 : x.one = true) : RC C x [v]
inductive RCs : Cx → List AV → List Value → Prop
  | nil {C} : RCs C [] []
  | cons {C x l c cs} (h : RC C x c) (h2 : RCs C l cs) : RCs C (x :: l) (c ++ cs)
inductive RVs : Cx → List AV → List Value → Prop
  | nil {C} : RVs C [] []
  | cons {C x l v vs} (h : RV C x v) (h2 : RVs C l vs) : RVs C (x :: l) (v :: vs)
end

/-- What holds in C holds in C', too: its frozen blocks are frozen and as they were, its owned blocks are owned. -/
structure Up (C C' : Cx) : Prop where
  F : ∀ b, C.F b → C'.F b
  heap : ∀ b, C.F b → C'.W.heap[b]? = C.W.heap[b]?
  ι : ∀ id p, C.ι id = some p → C'.ι id = some p

theorem Up.bare {C C' : Cx} (h : Up C C') : Up C.bare C'.bare := ⟨h.F, h.heap, fun _ _ e => by cases e⟩
theorem Up.refl (C : Cx) : Up C C := ⟨fun _ h => h, fun _ _ => rfl, fun _ _ h => h⟩
theorem Up.trans {A B C : Cx} (h : Up A B) (k : Up B C) : Up A C := ⟨fun b x => k.F b (h.F b x), fun b x => (k.heap b (h.F b x)).trans (h.heap b x), fun i p x => k.ι i p (h.ι i p x)⟩

theorem Reads.up {C C' : Cx} (u : Up C C') {b o : Nat} {cs : List Value} (hF : C.F b) (h : Reads C.W b o cs) : Reads C'.W b o cs := by
  intro i v hv
  have := h i v hv
  unfold World.cell? at this ⊢
  rw [u.heap b hF]; exact this

mutual
theorem RV.up {C C' : Cx} (u : Up C C') {x : AV} {v : Value} (h : RV C x v) : RV C' x v :=
  match h with
  | .any v => .any v
  | .raw v => .raw v
  | .agg h => .agg (h.up u)
  | .tup h => .tup (h.up u)
  | .sl0 => .sl0
  | .sl h hs hF hr hc => .sl (h.up u.bare) hs (u.F _ hF) (hr.up u hF) hc
  | .fp h hF hr => .fp (h.up u.bare) (u.F _ hF) (hr.up u hF)
  | .ptr h => .ptr (u.ι _ _ h)
  | .ep h => .ep (u.ι _ _ h)
  | .ow h hl => .ow (u.ι _ _ h) hl
  | .ow0 h hl => .ow0 (u.ι _ _ h) hl
  | .ifc h => .ifc (h.up u)
  | .fn h1 h2 => .fn (h1.up u) (h2.up u)
theorem RC.up {C C' : Cx} (u : Up C C') {x : AV} {cs : List Value} (h : RC C x cs) : RC C' x cs :=
  match h with
  | .agg h => .agg (h.up u)
  | .one h h1 => .one (h.up u) h1
theorem RCs.up {C C' : Cx} (u : Up C C') {l : List AV} {cs : List Value} (h : RCs C l cs) : RCs C' l cs :=
  match h with
  | .nil => .nil
  | .cons h h2 => .cons (h.up u) (h2.up u)
theorem RVs.up {C C' : Cx} (u : Up C C') {l : List AV} {vs : List Value} (h : RVs C l vs) : RVs C' l vs :=
  match h with
  | .nil => .nil
  | .cons h h2 => .cons (h.up u) (h2.up u)
end

theorem AV.size_one {x : AV} (h : x.one = true) : x.size = 1 := by
  cases x with
  | agg l => simp [AV.one] at h
  | _ => simp [AV.size]
mutual
theorem RC.len {C : Cx} {x : AV} {cs : List Value} (h : RC C x cs) : cs.length = x.size :=
  match h with
  | .agg h => by rw [AV.size]; exact h.len
  | .one h h1 => by rw [AV.size_one h1]; rfl
theorem RCs.len {C : Cx} {l : List AV} {cs : List Value} (h : RCs C l cs) : cs.length = AV.sizes l :=
  match h with
  | .nil => rfl
  | .cons h h2 => by rw [List.length_append, AV.sizes, h.len, h2.len]
end

theorem AV.sizes_append (l m : List AV) : AV.sizes (l ++ m) = AV.sizes l + AV.sizes m := by
  induction l with
  | nil => simp [AV.sizes]
  | cons x l ih => simp [AV.sizes, ih]; omega
theorem AV.sizes_all {sz : Nat} : ∀ {l : List AV}, (∀ x ∈ l, x.size = sz) → AV.sizes l = l.length * sz
  | [], _ => by simp [AV.sizes]
  | x :: l, h => by
    rw [AV.sizes, h x (by simp), AV.sizes_all (fun y hy => h y (by simp [hy])), List.length_cons]
    rw [Nat.add_mul]; omega
theorem RCs.append {C : Cx} : ∀ {l m : List AV} {c d : List Value}, RCs C l c → RCs C m d → RCs C (l ++ m) (c ++ d)
  | [], _, _, _, .nil, h => h
  | _ :: _, _, _, _, .cons h h2, k => by rw [List.append_assoc]; exact .cons h (h2.append k)
theorem RCs.split {C : Cx} : ∀ {l m : List AV} {c : List Value}, RCs C (l ++ m) c → ∃ c1 c2, c = c1 ++ c2 ∧ RCs C l c1 ∧ RCs C m c2
  | [], _, c, h => ⟨[], c, rfl, .nil, h⟩
  | _ :: _, _, _, .cons h h2 => by
    obtain ⟨c1, c2, rfl, a, b⟩ := h2.split
    exact ⟨_, c2, by rw [List.append_assoc], .cons h a, b⟩
/-- The element number i of a row of elements of one size: its cells. -/
theorem RCs.at {C : Cx} {l : List AV} {cs : List Value} (h : RCs C l cs) {sz : Nat} (hs : ∀ x ∈ l, x.size = sz) {i : Nat} {x : AV} (hi : l[i]? = some x) :
    ∃ c1 c c2, cs = c1 ++ c ++ c2 ∧ c1.length = i * sz ∧ c.length = sz ∧ RC C x c := by
  have hlt := (List.getElem?_eq_some_iff.1 hi).1
  have hx := (List.getElem?_eq_some_iff.1 hi).2
  have e : l = l.take i ++ (x :: l.drop (i + 1)) := by
    rw [← hx, List.getElem_cons_drop, List.take_append_drop]
  rw [e] at h
  obtain ⟨c1, c2, rfl, h1, h2⟩ := h.split
  cases h2 with
  | cons ha hb =>
    refine ⟨c1, _, _, (List.append_assoc _ _ _).symm, ?_, ?_, ha⟩
    · rw [h1.len, AV.sizes_all (sz := sz) (fun y hy => hs y (List.mem_of_mem_take hy)), List.length_take]
      congr 1; omega
    · rw [ha.len]; exact hs x (List.mem_of_getElem? hi)
theorem Reads.sub {W : World} {b o : Nat} {c1 c c2 : List Value} (h : Reads W b o (c1 ++ c ++ c2)) : Reads W b (o + c1.length) c := by
  intro i v hv
  have h1 := (List.getElem?_eq_some_iff.1 hv).1
  have := h (c1.length + i) v (by
    rw [List.append_assoc, List.getElem?_append_right (by omega), List.getElem?_append_left (by omega)]
    rw [show c1.length + i - c1.length = i by omega]; exact hv)
  rw [show o + c1.length + i = o + (c1.length + i) by omega]; exact this
theorem RVs.len {C : Cx} : ∀ {l : List AV} {vs : List Value}, RVs C l vs → vs.length = l.length
  | _, _, .nil => rfl
  | _, _, .cons _ h => by simp [h.len]
theorem RVs.at {C : Cx} : ∀ {l : List AV} {vs : List Value}, RVs C l vs → ∀ {i : Nat} {x : AV}, l[i]? = some x → ∃ v, vs[i]? = some v ∧ RV C x v
  | _, _, .cons h _, 0, _, e => by
    simp at e; subst e
    exact ⟨_, rfl, h⟩
  | _, _, .cons _ h, i + 1, _, e => by
    simp at e
    obtain ⟨v, a, b⟩ := h.at e
    exact ⟨v, by simpa using a, b⟩
theorem RVs.append {C : Cx} : ∀ {l m : List AV} {c d : List Value}, RVs C l c → RVs C m d → RVs C (l ++ m) (c ++ d)
  | [], _, _, _, .nil, h => h
  | _ :: _, _, _, _, .cons h h2, k => .cons h (h2.append k)

mutual
def AV.flat : AV → Bool
  | .raw _ => true
  | .agg l => AV.flats l
  | .tup l => AV.flats l
  | .ifc _ x => x.flat
  | _ => false
def AV.flats : List AV → Bool
  | [] => true
  | x :: l => x.flat && AV.flats l
end
mutual
theorem RV.of_flat {C C' : Cx} {x : AV} {v : Value} (h : RV C x v) (hf : x.flat = true) : RV C' x v :=
  match h with
  | .raw v => .raw v
  | .agg h => .agg (h.of_flat (by simpa [AV.flat] using hf))
  | .tup h => .tup (h.of_flat (by simpa [AV.flat] using hf))
  | .ifc h => .ifc (h.of_flat (by simpa [AV.flat] using hf))
  | .any _ | .sl0 | .sl .. | .fp .. | .ptr _ | .ep _ | .ow .. | .ow0 .. | .fn .. => by simp [AV.flat] at hf
theorem RC.of_flat {C C' : Cx} {x : AV} {cs : List Value} (h : RC C x cs) (hf : x.flat = true) : RC C' x cs :=
  match h with
  | .agg h => .agg (h.of_flat (by simpa [AV.flat] using hf))
  | .one h h1 => .one (h.of_flat hf) h1
theorem RCs.of_flat {C C' : Cx} {l : List AV} {cs : List Value} (h : RCs C l cs) (hf : AV.flats l = true) : RCs C' l cs :=
  match h with
  | .nil => .nil
  | .cons h h2 => by
    simp [AV.flats] at hf
    exact .cons (h.of_flat hf.1) (h2.of_flat hf.2)
theorem RVs.of_flat {C C' : Cx} {l : List AV} {vs : List Value} (h : RVs C l vs) (hf : AV.flats l = true) : RVs C' l vs :=
  match h with
  | .nil => .nil
  | .cons h h2 => by
    simp [AV.flats] at hf
    exact .cons (h.of_flat hf.1) (h2.of_flat hf.2)
end
end Go.Proofs.YtngeckkebejhiaaDoor.Asl
