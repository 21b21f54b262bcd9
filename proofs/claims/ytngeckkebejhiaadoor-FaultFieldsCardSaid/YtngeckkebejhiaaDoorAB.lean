/- Abstract states, what it is to satisfy one, and the code's rules over them. -/
import Derived.Test.YtngeckkebejhiaaDoorAA
namespace Go.Proofs.YtngeckkebejhiaaDoor.Asl
open Go Go.RowKit
set_option linter.unusedVariables false

/-- box: a variable in memory · arr: a row that may be written, and grown · fz: a row that is only read from now on · dead: nothing is known. -/
inductive Ob where
  | box (x : AV)
  | arr (sz : Nat) (l : List AV)
  | fz (sz : Nat) (l : List AV)
  | dead
def Ob.live : Ob → Bool
  | .box _ | .arr _ _ => true
  | _ => false

abbrev Hp := Nat → Option Ob

structure St where
  env : Nat → AV
  heap : Hp

def noHeap : Hp := fun _ => none
def setH (h : Hp) (id : Nat) (o : Ob) : Hp := fun i => if i = id then some o else h i
def setE (e : Nat → AV) (t : Nat) (v : AV) : Nat → AV := fun u => if u = t then v else e u
def St.put (σ : St) (d : Option Tmp) (v : AV) : St := match d with | some t => { σ with env := setE σ.env t v } | none => σ
def St.ev (σ : St) : Operand → AV
  | .tmp t => σ.env t
  | .const v => .raw v
  | .global g => .raw (.pointer (some ⟨g, 0, none⟩))
  | .func f => .raw (.func (.func f) #[] #[])

def NoFz (n : Nat) (fr : Nat × Nat) : Prop := (∀ o, o < n → ¬ (fr.1 ≤ o ∧ o < fr.2)) ∧ fr.1 ≤ fr.2
def HSat (C : Cx) (id : Nat) : Ob → Prop
  | .box x => ∃ b T cs t, C.ι id = some (b, T) ∧ C.O b ∧ C.W.heap[b]? = some (.cells cs t (0, 0)) ∧ RC C x cs.toList
  | .arr sz l => ∃ b T cs t fr c1 c2, C.ι id = some (b, T) ∧ C.O b ∧ C.W.heap[b]? = some (.cells cs t fr) ∧ NoFz cs.size fr ∧ cs.toList = c1 ++ c2 ∧ RCs C l c1 ∧ (∀ x ∈ l, x.size = sz) ∧ cs.size = T * sz ∧ 0 < sz
  | .fz sz l => ∃ b T c1, C.ι id = some (b, T) ∧ C.F b ∧ Reads C.W b 0 c1 ∧ RCs C.bare l c1 ∧ (∀ x ∈ l, x.size = sz) ∧ 0 < sz
  | .dead => ∃ b T, C.ι id = some (b, T)

/-- What the listed package-level variables hold. -/
def globs : List (Nat × Value) := [(0, .iface 83 (.agg #[.pointer (some ⟨1, 27, none⟩)]))]
def Gl (C : Cx) : Prop := ∀ p ∈ globs, C.F p.1 ∧ C.W.cell? ⟨p.1, 0, none⟩ = some p.2
theorem Gl.up {C C' : Cx} (g : Gl C) (u : Up C C') : Gl C' := fun p hp => ⟨u.F _ (g p hp).1, by
  have := (g p hp).2
  unfold World.cell? at this ⊢
  rw [u.heap _ (g p hp).1]; exact this⟩
structure HOk (C : Cx) (h : Hp) : Prop where
  at_ : ∀ id ob, h id = some ob → HSat C id ob
  no : ∀ id, h id = none → C.ι id = none
  inj : ∀ i j b T U o q, h i = some o → o.live = true → h j = some q → q.live = true → C.ι i = some (b, T) → C.ι j = some (b, U) → i = j
  apart : ∀ b, C.O b → ¬ C.F b
  lt : ∀ b, C.F b → b < C.W.heap.size
  olt : ∀ b, C.O b → b < C.W.heap.size
  gl : Gl C

abbrev Own (C : Cx) (b : Nat) := C.O b

theorem blk_lt' {W : World} {b : Nat} {o : Obj} (h : W.heap[b]? = some o) : b < W.heap.size := (Array.getElem?_eq_some_iff.1 h).1
theorem HOk.F_not {C : Cx} {h : Hp} (hh : HOk C h) {b : Nat} (hF : C.F b) : ¬ Own C b := fun ho => hh.apart b ho hF

/-- What a run may have changed. -/
structure Ext (C C' : Cx) : Prop where
  os : C'.W.os = C.W.os
  tape : C'.W.tape = C.W.tape
  output : C'.W.output = C.W.output
  size : C.W.heap.size ≤ C'.W.heap.size
  F : ∀ b, C.F b → C'.F b
  heap : ∀ b, b < C.W.heap.size → ¬ Own C b → C'.W.heap[b]? = C.W.heap[b]?
  newF : ∀ b, C'.F b → C.F b ∨ Own C b ∨ C.W.heap.size ≤ b
  newO : ∀ b, Own C' b → Own C b ∨ C.W.heap.size ≤ b
  ι : ∀ id p, 100000 ≤ id → C.ι id = some p → C'.ι id = some p

theorem Ext.refl (C : Cx) : Ext C C := ⟨rfl, rfl, rfl, Nat.le_refl _, fun _ h => h, fun _ _ _ => rfl, fun _ h => .inl h, fun _ h => .inl h, fun _ _ _ h => h⟩
theorem Ext.trans {A B C : Cx} (h : Ext A B) (k : Ext B C) : Ext A C where
  os := k.os.trans h.os
  tape := k.tape.trans h.tape
  output := k.output.trans h.output
  size := Nat.le_trans h.size k.size
  F b x := k.F b (h.F b x)
  heap b hb hn := (k.heap b (Nat.lt_of_lt_of_le hb h.size) (fun ho => (h.newO b ho).elim hn (fun x => by omega))).trans (h.heap b hb hn)
  newF b x := by
    rcases k.newF b x with y | y | y
    · exact h.newF b y
    · exact .inr (h.newO b y)
    · exact .inr (.inr (Nat.le_trans h.size y))
  newO b x := by
    rcases k.newO b x with y | y
    · exact h.newO b y
    · exact .inr (Nat.le_trans h.size y)
  ι id p x y := k.ι id p x (h.ι id p x y)
theorem Ext.up {C C' : Cx} {h : Hp} (hh : HOk C h) (e : Ext C C') (hι : ∀ id p, C.ι id = some p → C'.ι id = some p) : Up C C' :=
  ⟨e.F, fun b hb => e.heap b (hh.lt b hb) (hh.F_not hb), hι⟩
theorem Ext.upb {C C' : Cx} {h : Hp} (hh : HOk C h) (e : Ext C C') : Up C.bare C'.bare :=
  ⟨e.F, fun b hb => e.heap b (hh.lt b hb) (hh.F_not hb), fun _ _ x => by cases x⟩

theorem RV.raw_eq {C : Cx} {v w : Value} (h : RV C (.raw v) w) : w = v := by cases h; rfl
structure Sat (nt : Nat) (C : Cx) (σ : St) (a : Act) : Prop where
  defers : a.defers = []
  size : a.tmps.size = nt
  env : ∀ t, RV C (σ.env t) (a.tmps.getD t undef)
  heap : HOk C σ.heap

def CX (Q : Exit → St → Prop) (C0 : Cx) (nt : Nat) : Exit → Act → World → Prop := fun e a W => ∃ σ C, C.W = W ∧ Q e σ ∧ Ext C0 C ∧ Sat nt C σ a

def AWP (P : Program) (nt : Nat) (c : Code) (Q : Exit → St → Prop) (σ : St) : Prop := ∀ C0 C a, Ext C0 C → Sat nt C σ a → c.wp P (CX Q C0 nt) a C.W

section
variable {P : Program} {nt : Nat} {Q Q' : Exit → St → Prop} {σ : St}

theorem AWP.mono {c : Code} (h : AWP P nt c Q σ) (hq : ∀ e σ, Q e σ → Q' e σ) : AWP P nt c Q' σ :=
  fun C0 C a he hs => wp_mono (h C0 C a he hs) fun e a' w' ⟨σ', C', hw, q, r⟩ => ⟨σ', C', hw, hq _ _ q, r⟩

def Then (K : St → Prop) (Q : Exit → St → Prop) : Exit → St → Prop
  | .normal, σ => K σ
  | e, σ => Q e σ

theorem awp_skip (h : Q .normal σ) : AWP P nt .skip Q σ := fun C0 C a he hs => wp_skip ⟨σ, C, rfl, h, he, hs⟩
theorem awp_label {l : Nat} (h : Q .normal σ) : AWP P nt (.label l) Q σ := fun C0 C a he hs => wp_label ⟨σ, C, rfl, h, he, hs⟩
theorem awp_exit {id : Nat} (h : Q (.exit id) σ) : AWP P nt (.exit id) Q σ := fun C0 C a he hs => wp_exit ⟨σ, C, rfl, h, he, hs⟩
theorem awp_ret (h : Q .ret σ) : AWP P nt .ret Q σ := fun C0 C a he hs => wp_ret ⟨σ, C, rfl, h, he, hs⟩

theorem awp_seq {x y : Code} (h : AWP P nt x (Then (fun σ' => AWP P nt y Q σ') Q) σ) : AWP P nt (.seq x y) Q σ := by
  intro C0 C a he hs
  refine wp_seq (wp_mono (h C0 C a he hs) ?_)
  rintro e a' w' ⟨σ', C', rfl, q, ex, sat⟩
  cases e with
  | normal => exact q C0 C' a' ex sat
  | _ => exact ⟨σ', C', rfl, q, ex, sat⟩

theorem awp_cond {c : Operand} {x y : Code} (b : Bool) (hc : σ.ev c = .raw (.bool b)) (ht : b = true → AWP P nt x Q σ) (hf : b = false → AWP P nt y Q σ) : AWP P nt (.cond c x y) Q σ := by
  intro C0 C a he hs
  have : a.eval c = .bool b := by
    cases c with
    | tmp t =>
      have h1 := hs.env t
      have h2 : σ.env t = .raw (.bool b) := hc
      rw [h2] at h1
      exact h1.raw_eq
    | const v => cases hc; rfl
    | global g => cases hc
    | func f => cases hc
  exact wp_cond_split this (fun h => ht h C0 C a he hs) (fun h => hf h C0 C a he hs)

def InBlock (id : Nat) (Q : Exit → St → Prop) : Exit → St → Prop
  | .exit id', σ => if id' = id then Q .normal σ else Q (.exit id') σ
  | e, σ => Q e σ

theorem awp_block {id : Nat} {c : Code} (h : AWP P nt c (InBlock id Q) σ) : AWP P nt (.block id c) Q σ := by
  intro C0 C a he hs
  refine wp_block (wp_mono (h C0 C a he hs) ?_)
  rintro e a' w' ⟨σ', C', rfl, q, ex, sat⟩
  cases e with
  | exit id' =>
    simp only [InBlock] at q
    simp only [Exit.inBlock]
    split at q
    · rename_i h; rw [if_pos h]; exact ⟨σ', C', rfl, q, ex, sat⟩
    · rename_i h; rw [if_neg h]; exact ⟨σ', C', rfl, q, ex, sat⟩
  | _ => exact ⟨σ', C', rfl, q, ex, sat⟩

theorem wp_loop' {c : Code} {Q : Exit → Act → World → Prop} (R : Nat → Act → World → Prop)
    (round : ∀ n a w, R n a w → c.wp P (Exit.then (fun a' w' => ∃ m, m < n ∧ R m a' w') Q) a w) {n : Nat} {a : Act} {w : World} (h₀ : R n a w) : (Code.loop c).wp P Q a w := by
  intro b k cs
  have key : ∀ n a w, R n a w → ∃ e a' w', Q e a' w' ∧ Arrives P (lone (b.at a (.code c :: .inLoop c :: k)) cs w) b k cs e a' w' := by
    intro n
    induction n using Nat.strongRecOn with
    | _ n ih =>
      intro a w hI
      obtain ⟨e, a₁, w₁, hq, harr⟩ := round n a w hI b (.inLoop c :: k) cs
      cases e with
      | normal =>
        obtain ⟨m, hlt, hI₁⟩ := hq
        obtain ⟨e₂, a₂, w₂, hq₂, harr₂⟩ := ih m hlt a₁ w₁ hI₁
        exact ⟨e₂, a₂, w₂, hq₂, .of_steps (Steps.trans harr (.one step_inLoop)) harr₂⟩
      | exit id => exact ⟨_, a₁, w₁, hq, .pass (x := .inLoop c) rfl (fun _ _ => .inl (by simp)) harr⟩
      | goto l => exact ⟨_, a₁, w₁, hq, .pass (x := .inLoop c) rfl (fun _ _ => .inl (by simp)) harr⟩
      | ret => exact ⟨_, a₁, w₁, hq, .pass (x := .inLoop c) rfl (fun _ _ => .inl (by simp)) harr⟩
      | panic ch => exact ⟨_, a₁, w₁, hq, .pass (x := .inLoop c) rfl (fun _ _ => .inl (by simp)) harr⟩
      | outgrown => exact ⟨_, a₁, w₁, hq, .pass (x := .inLoop c) rfl (fun _ _ => .inl (by simp)) harr⟩
  obtain ⟨e, a', w', hq, harr⟩ := key n a w h₀
  exact ⟨e, a', w', hq, .of_steps (.one step_loop) harr⟩

theorem awp_loop {c : Code} (I : Nat → St → Prop) {n : Nat} (h₀ : I n σ)
    (round : ∀ n σ, I n σ → AWP P nt c (Then (fun σ' => ∃ m, m < n ∧ I m σ') Q) σ) : AWP P nt (.loop c) Q σ := by
  intro C0 C a he hs
  refine wp_loop' (fun n a w => ∃ σ C, C.W = w ∧ I n σ ∧ Ext C0 C ∧ Sat nt C σ a) ?_ (n := n) ⟨σ, C, rfl, h₀, he, hs⟩
  rintro n a w ⟨σ', C', rfl, hI, hex, hsat⟩
  refine wp_mono (round n σ' hI C0 C' a hex hsat) ?_
  rintro e a' w' ⟨σ'', C'', rfl, q, ex, sat⟩
  cases e with
  | normal =>
    obtain ⟨m, hm, hI'⟩ := q
    exact ⟨m, hm, σ'', C'', rfl, hI', ex, sat⟩
  | _ => exact ⟨σ'', C'', rfl, q, ex, sat⟩

/-- A state that says less. -/
def Weak (σ σ2 : St) : Prop := ∀ nt C a, Sat nt C σ a → ∃ C2, C2.W = C.W ∧ Ext C C2 ∧ Sat nt C2 σ2 a
theorem Weak.refl (σ : St) : Weak σ σ := fun nt C a h => ⟨C, rfl, .refl C, h⟩
theorem Weak.trans {a b c : St} (h : Weak a b) (k : Weak b c) : Weak a c := fun nt C x s => by
  obtain ⟨C2, e, ex, s2⟩ := h nt C x s
  obtain ⟨C3, e3, ex3, s3⟩ := k nt C2 x s2
  exact ⟨C3, e3.trans e, ex.trans ex3, s3⟩
theorem AWP.weak {c : Code} {σ2 : St} (hw : Weak σ σ2) (h : AWP P nt c Q σ2) : AWP P nt c Q σ := by
  intro C0 C a he hs
  obtain ⟨C2, e, ex, s2⟩ := hw nt C a hs
  rw [← e]
  exact h C0 C2 a (he.trans ex) s2
/-- Forgetting what temporaries hold. -/
theorem Weak.env {σ σ2 : St} (h : ∀ t, σ2.env t = .any ∨ σ2.env t = σ.env t) (hh : σ2.heap = σ.heap) : Weak σ σ2 := fun nt C a s =>
  ⟨C, rfl, .refl C, s.defers, s.size, fun t => by
    rcases h t with e | e <;> rw [e]
    · exact .any _
    · exact s.env t, hh ▸ s.heap⟩

/-- What a call of f with these arguments, in a memory of which it owns h, comes to. -/
def CallD (P : Program) (f : FuncId) (args : List AV) (h : Hp) (r : AV) (h' : Hp) : Prop :=
  ∀ C vs, HOk C h → RVs C args vs → Calls P f vs.toArray C.W fun e W' => ∃ v C', e = .returned v ∧ C'.W = W' ∧ Ext C C' ∧ HOk C' h' ∧ RV C' r v ∧ ∀ id p, C.ι id = some p → C'.ι id = some p

end
end Go.Proofs.YtngeckkebejhiaaDoor.Asl
