/- Regions: a chain of steps in the text's order tells what any allowed order comes to. -/
import Derived.Test.YtngeckkebejhiaaDoorAB
namespace Go.Proofs.YtngeckkebejhiaaDoor.Asl
open Go Go.RowKit
set_option linter.unusedVariables false

def evE (e : Nat → AV) : Operand → AV
  | .tmp t => e t
  | .const v => .raw v
  | .global g => .raw (.pointer (some ⟨g, 0, none⟩))
  | .func f => .raw (.func (.func f) #[] #[])
def putE (e : Nat → AV) (d : Option Tmp) (v : AV) : Nat → AV := match d with | some t => setE e t v | none => e
/-- The object that a value leads to. -/
def AV.top : AV → Option Nat
  | .ptr id _ | .ep id _ _ _ | .ow id _ _ _ => some id
  | _ => none

/-- How operations act on abstract states: 0: without memory; 1: memory is read; 2: an object is made; 3: anything. -/
structure Sys (P : Program) where
  D : (Operand → AV) → Oper → Hp → AV → Hp → Prop
  cls : Oper → Nat
  sound : ∀ {nt : Nat} {C : Cx} {σ : St} {a : Act} {o : Oper} {r : AV} {h' : Hp}, Sat nt C σ a → D (evE σ.env) o σ.heap r h' → (∀ d, o.dst = some d → d < nt) →
    ∀ (K : Act → World → Prop) (Q : Exit → Act → World → Prop), (∀ C' v, Ext C C' → Sat nt C' ⟨putE σ.env o.dst r, h'⟩ (a.put o.dst v) → K (a.put o.dst v) C'.W) → o.wp P a C.W K Q
  congr : ∀ {ρ ρ' : Operand → AV} {o : Oper} {h h' : Hp} {r : AV}, (∀ x ∈ o.op.operands, ρ x = ρ' x) → D ρ o h r h' → D ρ' o h r h'
  c0 : ∀ {ρ : Operand → AV} {o : Oper} {h h' : Hp} {r : AV}, cls o = 0 → D ρ o h r h' → h' = h ∧ ∀ g, D ρ o g r g
  c1 : ∀ {ρ : Operand → AV} {o : Oper} {h h' : Hp} {r : AV}, cls o = 1 → D ρ o h r h' → h' = h ∧ (∀ g, (∀ id ob, h id = some ob → g id = some ob) → D ρ o g r g)
  c1d : ∀ {ρ : Operand → AV} {o : Oper} {h h' : Hp} {r : AV} {d : Nat} {ob : Ob}, cls o = 1 → D ρ o (setH h d ob) r h' → (∀ x ∈ o.op.operands, (ρ x).top ≠ some d) → D ρ o h r h
  c2 : ∀ {ρ : Operand → AV} {o : Oper} {h h' : Hp} {r : AV}, cls o = 2 → D ρ o h r h' → ∃ d ob, o.dst = some d ∧ h d = none ∧ h' = setH h d ob ∧ ∀ g, g d = none → D ρ o g r (setH g d ob)
  sep : Oper → Oper → Bool
  sepd : ∀ {ρ : Operand → AV} {x y : Oper} {h h1 h2 : Hp} {rx ry : AV}, sep y x = true → D ρ y h ry h1 → D ρ x h1 rx h2 → ∃ h1', D ρ x h rx h1' ∧ D ρ y h1' ry h2

section
variable {P : Program} (S : Sys P) (ops : Array Oper)

/-- A step, with its guard. -/
def DG (e : Nat → AV) (o : Oper) (h : Hp) (r : AV) (h' : Hp) : Prop :=
  match o.guard with
  | none => S.D (evE e) o h r h'
  | some (j, w) => ∃ t v, (ops[j]?).bind (·.dst) = some t ∧ e t = .raw v ∧ ((v = .bool w ∧ S.D (evE e) o h r h') ∨ (v ≠ .bool w ∧ r = .raw undef ∧ h' = h))

theorem evE_eq (σ : St) : evE σ.env = σ.ev := by funext x; cases x <;> rfl

theorem putE_comm {e : Nat → AV} {x y : Option Tmp} (v u : AV) (h : ∀ d, x = some d → y ≠ some d) : putE (putE e x v) y u = putE (putE e y u) x v := by
  cases x with
  | none => rfl
  | some d =>
    cases y with
    | none => rfl
    | some f =>
      have hne : d ≠ f := fun he => h d rfl (he ▸ rfl)
      funext t
      simp only [putE, setE]
      by_cases h1 : t = f
      · subst h1; rw [if_pos rfl, if_neg (fun h => hne h.symm), if_pos rfl]
      · rw [if_neg h1]
        by_cases h2 : t = d
        · rw [if_pos h2, if_pos h2]
        · rw [if_neg h2, if_neg h2, if_neg h1]

theorem looks_op {o : Oper} {t : Tmp} (h : t ∉ o.looksAt ops) : ∀ x ∈ o.op.operands, x ≠ .tmp t := by
  intro x hx e
  subst e
  exact h (by
    unfold Oper.looksAt
    refine List.mem_append.2 (.inl (List.mem_filterMap.2 ⟨.tmp t, Array.mem_toList_iff.2 hx, rfl⟩)))
theorem looks_guard {o : Oper} {t : Tmp} (h : t ∉ o.looksAt ops) {j : Nat} {w : Bool} (hg : o.guard = some (j, w)) : (ops[j]?).bind (·.dst) ≠ some t := by
  intro e
  exact h (by
    unfold Oper.looksAt
    refine List.mem_append.2 (.inr ?_)
    rw [hg]; simp [e])

variable {S ops}
theorem DG.congr {e : Nat → AV} {o : Oper} {h h' : Hp} {r : AV} (hd : DG S ops e o h r h') {d : Option Tmp} {v : AV} (hn : ∀ t, d = some t → t ∉ o.looksAt ops) : DG S ops (putE e d v) o h r h' := by
  cases d with
  | none => exact hd
  | some t =>
    have h0 := hn t rfl
    have h1 := looks_op ops h0
    have hev : ∀ x ∈ o.op.operands, evE e x = evE (putE e (some t) v) x := by
      intro x hx
      cases x with
      | tmp u =>
        have : u ≠ t := fun he => h1 _ hx (he ▸ rfl)
        simp [evE, putE, setE, this]
      | _ => rfl
    unfold DG at hd ⊢
    cases hg : o.guard with
    | none => rw [hg] at hd; exact S.congr hev hd
    | some jw =>
      obtain ⟨j, w⟩ := jw
      rw [hg] at hd
      obtain ⟨u, v', hu, hv, hh⟩ := hd
      have hne : u ≠ t := fun he => looks_guard ops h0 hg (he ▸ hu)
      refine ⟨u, v', hu, by simp [putE, setE, hne, hv], ?_⟩
      rcases hh with ⟨a, b⟩ | hh
      · exact .inl ⟨a, S.congr hev b⟩
      · exact .inr hh
theorem DG.uncongr {e : Nat → AV} {o : Oper} {h h' : Hp} {r : AV} {d : Option Tmp} {v : AV} (hd : DG S ops (putE e d v) o h r h') (hn : ∀ t, d = some t → t ∉ o.looksAt ops) : DG S ops e o h r h' := by
  cases d with
  | none => exact hd
  | some t =>
    have := hd.congr (d := some t) (v := e t) hn
    have he : putE (putE e (some t) v) (some t) (e t) = e := by
      funext u
      simp only [putE, setE]
      split
      · rename_i h; rw [h]
      · rfl
    rwa [he] at this
theorem DG.c0 {e : Nat → AV} {o : Oper} {h h' : Hp} {r : AV} (hc : S.cls o = 0) (hd : DG S ops e o h r h') : h' = h ∧ ∀ g, DG S ops e o g r g := by
  unfold DG at hd ⊢
  cases hg : o.guard with
  | none => rw [hg] at hd; exact S.c0 hc hd
  | some jw =>
    rw [hg] at hd
    obtain ⟨u, v', hu, hv, hh⟩ := hd
    rcases hh with ⟨a, b⟩ | ⟨a, b, c⟩
    · exact ⟨(S.c0 hc b).1, fun g => ⟨u, v', hu, hv, .inl ⟨a, (S.c0 hc b).2 g⟩⟩⟩
    · exact ⟨c, fun g => ⟨u, v', hu, hv, .inr ⟨a, b, rfl⟩⟩⟩
theorem DG.c1 {e : Nat → AV} {o : Oper} {h h' : Hp} {r : AV} (hc : S.cls o = 1) (hd : DG S ops e o h r h') : h' = h ∧ (∀ g, (∀ id ob, h id = some ob → g id = some ob) → DG S ops e o g r g) := by
  unfold DG at hd ⊢
  cases hg : o.guard with
  | none => rw [hg] at hd; exact S.c1 hc hd
  | some jw =>
    rw [hg] at hd
    obtain ⟨u, v', hu, hv, hh⟩ := hd
    rcases hh with ⟨a, b⟩ | ⟨a, b, c⟩
    · exact ⟨(S.c1 hc b).1, fun g k => ⟨u, v', hu, hv, .inl ⟨a, (S.c1 hc b).2 g k⟩⟩⟩
    · exact ⟨c, fun g _ => ⟨u, v', hu, hv, .inr ⟨a, b, rfl⟩⟩⟩
theorem DG.c1d {e : Nat → AV} {o : Oper} {h h' : Hp} {r : AV} {d : Nat} {ob : Ob} (hc : S.cls o = 1) (hd : DG S ops e o (setH h d ob) r h') (ht : ∀ x ∈ o.op.operands, (evE e x).top ≠ some d) : DG S ops e o h r h := by
  unfold DG at hd ⊢
  cases hg : o.guard with
  | none => rw [hg] at hd; exact S.c1d hc hd ht
  | some jw =>
    rw [hg] at hd
    obtain ⟨u, v', hu, hv, hh⟩ := hd
    rcases hh with ⟨a, b⟩ | ⟨a, b, c⟩
    · exact ⟨u, v', hu, hv, .inl ⟨a, S.c1d hc b ht⟩⟩
    · exact ⟨u, v', hu, hv, .inr ⟨a, b, rfl⟩⟩
theorem DG.c2 {e : Nat → AV} {o : Oper} {h h' : Hp} {r : AV} (hc : S.cls o = 2) (hd : DG S ops e o h r h') :
    (h' = h ∧ ∀ g, DG S ops e o g r g) ∨ ∃ d ob, o.dst = some d ∧ h d = none ∧ h' = setH h d ob ∧ ∀ g, g d = none → DG S ops e o g r (setH g d ob) := by
  unfold DG at hd ⊢
  cases hg : o.guard with
  | none => rw [hg] at hd; exact .inr (S.c2 hc hd)
  | some jw =>
    rw [hg] at hd
    obtain ⟨u, v', hu, hv, hh⟩ := hd
    rcases hh with ⟨a, b⟩ | ⟨a, b, c⟩
    · obtain ⟨d, ob, h1, h2, h3, h4⟩ := S.c2 hc b
      exact .inr ⟨d, ob, h1, h2, h3, fun g k => ⟨u, v', hu, hv, .inl ⟨a, h4 g k⟩⟩⟩
    · exact .inl ⟨c, fun g => ⟨u, v', hu, hv, .inr ⟨a, b, rfl⟩⟩⟩

theorem setH_comm {h : Hp} {a b : Nat} (hne : a ≠ b) (x y : Ob) : setH (setH h a x) b y = setH (setH h b y) a x := by
  funext i
  simp only [setH]
  by_cases h1 : i = b
  · subst h1; rw [if_pos rfl, if_neg (fun h => hne h.symm), if_pos rfl]
  · rw [if_neg h1]
    by_cases h2 : i = a
    · rw [if_pos h2, if_pos h2]
    · rw [if_neg h2, if_neg h2, if_neg h1]
theorem setH_ge {h : Hp} {d : Nat} {ob : Ob} (hd : h d = none) : ∀ id o, h id = some o → setH h d ob id = some o := by
  intro id o e
  simp only [setH]
  rw [if_neg (fun x => by rw [x, hd] at e; cases e)]
  exact e

/-- May two operations change places? -/
def indep (S : Sys P) (ops : Array Oper) (x y : Oper) : Bool := x.apart ops y && (S.sep x y || ((S.cls x ≤ 2 && S.cls y ≤ 2) || S.cls x == 0 || S.cls y == 0))
theorem DG.sep {e : Nat → AV} {x y : Oper} {h h1 h2 : Hp} {rx ry : AV} (hs : S.sep y x = true) (hy : DG S ops e y h ry h1) (hx : DG S ops e x h1 rx h2) : ∃ h1', DG S ops e x h rx h1' ∧ DG S ops e y h1' ry h2 := by
  have key : ∀ (z : Oper) (g g' : Hp) (r : AV), DG S ops e z g r g' → (S.D (evE e) z g r g' ∧ ∀ k k' r', S.D (evE e) z k r' k' → DG S ops e z k r' k') ∨ (g' = g ∧ ∀ k, DG S ops e z k r k) := by
    intro z g g' r hz
    unfold DG at hz
    cases hg : z.guard with
    | none =>
      rw [hg] at hz
      exact .inl ⟨hz, fun k k' r' hk => by unfold DG; rw [hg]; exact hk⟩
    | some jw =>
      rw [hg] at hz
      obtain ⟨t, v, h3, h4, h5⟩ := hz
      rcases h5 with ⟨h5, h6⟩ | ⟨h5, h6, h7⟩
      · exact .inl ⟨h6, fun k k' r' hk => by unfold DG; rw [hg]; exact ⟨t, v, h3, h4, .inl ⟨h5, hk⟩⟩⟩
      · exact .inr ⟨h7, fun k => by unfold DG; rw [hg]; exact ⟨t, v, h3, h4, .inr ⟨h5, h6, rfl⟩⟩⟩
  rcases key y h h1 ry hy with ⟨d1, k1⟩ | ⟨rfl, k1⟩
  · rcases key x h1 h2 rx hx with ⟨d2, k2⟩ | ⟨rfl, k2⟩
    · obtain ⟨g, d3, d4⟩ := S.sepd hs d1 d2
      exact ⟨g, k2 _ _ _ d3, k1 _ _ _ d4⟩
    · exact ⟨h, k2 h, hy⟩
  · exact ⟨h2, hx, k1 h2⟩

/-- Two steps, the other way round. -/
theorem diamond {e : Nat → AV} {h h1 h2 : Hp} {x y : Oper} {rx ry : AV} (hi : indep S ops y x = true)
    (htop : ∀ d, h d = none → ∀ z ∈ x.op.operands, (evE e z).top ≠ some d)
    (hy : DG S ops e y h ry h1) (hx : DG S ops (putE e y.dst ry) x h1 rx h2) :
    ∃ h1', DG S ops e x h rx h1' ∧ DG S ops (putE e x.dst rx) y h1' ry h2 := by
  simp only [indep, Bool.and_eq_true] at hi
  obtain ⟨hap, hcl⟩ := hi
  obtain ⟨a1, a2, a3⟩ := Oper.apart_spec hap
  have hx := hx.uncongr a1
  by_cases hsep : S.sep y x = true
  · obtain ⟨g, d1, d2⟩ := hy.sep hsep hx
    exact ⟨g, d1, d2.congr a3⟩
  rw [Bool.or_eq_true] at hcl
  replace hcl := hcl.resolve_left hsep
  simp only [Bool.or_eq_true, Bool.and_eq_true, decide_eq_true_eq, beq_iff_eq] at hcl
  by_cases y0 : S.cls y = 0
  · obtain ⟨rfl, hg⟩ := hy.c0 y0
    exact ⟨h2, hx, (hg h2).congr a3⟩
  by_cases x0 : S.cls x = 0
  · obtain ⟨rfl, hg⟩ := hx.c0 x0
    exact ⟨h, hg h, hy.congr a3⟩
  have hle : S.cls y ≤ 2 ∧ S.cls x ≤ 2 := by omega
  by_cases y1 : S.cls y = 1
  · obtain ⟨rfl, hg⟩ := hy.c1 y1
    by_cases x1 : S.cls x = 1
    · obtain ⟨rfl, _⟩ := hx.c1 x1
      exact ⟨_, hx, hy.congr a3⟩
    · rcases hx.c2 (by omega) with ⟨rfl, k⟩ | ⟨d, ob, e1, e2, rfl, k⟩
      · exact ⟨_, hx, hy.congr a3⟩
      · exact ⟨_, hx, (hg _ (setH_ge e2)).congr a3⟩
  · rcases hy.c2 (by omega) with ⟨rfl, k⟩ | ⟨d, ob, e1, e2, rfl, k⟩
    · exact ⟨h2, hx, (k h2).congr a3⟩
    · by_cases x1 : S.cls x = 1
      · obtain ⟨rfl, _⟩ := hx.c1 x1
        exact ⟨h, hx.c1d x1 (htop d e2), hy.congr a3⟩
      · rcases hx.c2 (by omega) with ⟨rfl, k2⟩ | ⟨d2, ob2, f1, f2, rfl, k2⟩
        · exact ⟨h, k2 h, hy.congr a3⟩
        · have hne : d ≠ d2 := fun he => a2 d e1 (he ▸ f1)
          have hd2 : h d2 = none := by
            have := f2
            simp only [setH] at this
            rwa [if_neg (fun h => hne h.symm)] at this
          refine ⟨setH h d2 ob2, k2 h hd2, ?_⟩
          have hd : setH h d2 ob2 d = none := by simp only [setH]; rw [if_neg hne]; exact e2
          rw [setH_comm hne]
          exact (k _ hd).congr a3

/-- Steps one behind the other. -/
def Chain (S : Sys P) (ops : Array Oper) : List Nat → (Nat → AV) → Hp → (Nat → AV) → Hp → Prop
  | [], e, h, e', h' => e' = e ∧ h' = h
  | i :: l, e, h, e', h' => ∃ o r h1, ops[i]? = some o ∧ DG S ops e o h r h1 ∧ Chain S ops l (putE e o.dst r) h1 e' h'

def SatEx (nt : Nat) (e : Nat → AV) (h : Hp) : Prop := ∃ C a, Sat nt C ⟨e, h⟩ a

theorem wp_ex {o : Oper} {a : Act} {w : World} {K : Act → World → Prop} (h : o.wp P a w K (fun _ _ _ => False)) : ∃ a' w', K a' w' := by
  unfold Oper.wp at h
  generalize (execOp a.eval o).run P w = r at h
  cases r with
  | ok n w' =>
    cases n <;> simp only [Oper.upon] at h <;> try exact h.elim
    · exact ⟨_, _, h⟩
    · exact ⟨_, _, h⟩
    · obtain ⟨e, w'', fr, hR, _⟩ := h []
      cases e with
      | returned v => exact ⟨_, _, hR⟩
      | panicked c => exact hR.elim
      | outgrown => obtain ⟨_, _, x⟩ := hR; exact x.elim
    · exact ⟨_, _, h⟩
    · obtain ⟨v, w'', hR, _⟩ := h default []
      exact ⟨_, _, hR⟩
  | halt x w' => cases x <;> simp only [Oper.upon] at h <;> exact h.elim

theorem Sat.yield {nt : Nat} {C : Cx} {σ : St} {a : Act} (s : Sat nt C σ a) {j : Nat} {t : Tmp} {v : Value} (ht : (ops[j]?).bind (·.dst) = some t) (hv : σ.env t = .raw v) (hlt : t < nt) :
    yielded ops a.tmps j = (match v with | .bool b => some b | _ => none) := by
  have h1 := s.env t
  rw [hv] at h1
  have h2 := h1.raw_eq
  have hs : t < a.tmps.size := by rw [s.size]; exact hlt
  unfold yielded
  rw [ht, Option.bind_some]
  rw [Array.getD_eq_getD_getElem?, Array.getElem?_eq_getElem hs, Option.getD_some] at h2
  rw [Array.getElem?_eq_getElem hs, h2]
  cases v <;> rfl

theorem put_sat {nt : Nat} {C : Cx} {e : Nat → AV} {h : Hp} {a : Act} (s : Sat nt C ⟨e, h⟩ a) {d : Option Tmp} {r : AV} {v : Value} (hr : RV C r v) (hd : ∀ t, d = some t → t < nt) : Sat nt C ⟨putE e d r, h⟩ (a.put d v) := by
  cases d with
  | none => exact s
  | some t =>
    refine ⟨s.defers, by simp [Act.put, s.size], fun u => ?_, s.heap⟩
    simp only [putE, setE]
    have hsz : t < a.tmps.size := by rw [s.size]; exact hd t rfl
    by_cases hu : u = t
    · subst hu
      rw [if_pos rfl]
      simp [Act.put, hsz, hr]
    · rw [if_neg hu]
      have := s.env u
      simp only [Act.put, Array.getD_eq_getD_getElem?]
      rw [Array.getElem?_setIfInBounds_ne (fun h => hu h.symm), ← Array.getD_eq_getD_getElem?]
      exact this

/-- A step with its guard, carried out. -/
theorem DG.wp {nt : Nat} {C : Cx} {σ : St} {a : Act} {i : Nat} {o : Oper} {r : AV} {h' : Hp} (s : Sat nt C σ a) (ho : ops[i]? = some o) (hdst : ∀ (j : Nat) (q : Oper) d, ops[j]? = some q → q.dst = some d → d < nt)
    (hd : DG S ops σ.env o σ.heap r h') (K : Act → World → Prop) (Q : Exit → Act → World → Prop)
    (hk : ∀ C' v, Ext C C' → Sat nt C' ⟨putE σ.env o.dst r, h'⟩ (a.put o.dst v) → K (a.put o.dst v) C'.W) : wpOp P ops Q i K a C.W := by
  unfold wpOp
  simp only [ho]
  unfold DG at hd
  cases hg : o.guard with
  | none =>
    rw [hg] at hd
    rw [if_pos (by simp [Region.wanted, hg])]
    exact .inl (S.sound s hd (fun d e => hdst i o d ho e) K Q hk)
  | some jw =>
    obtain ⟨j, w⟩ := jw
    rw [hg] at hd
    obtain ⟨t, v, ht, hv, hh⟩ := hd
    have hlt : t < nt := by
      obtain ⟨q, hq, hq2⟩ := Option.bind_eq_some_iff.1 ht
      exact hdst j q t hq hq2
    have hy := s.yield ht hv hlt
    rcases hh with ⟨rfl, hD⟩ | ⟨hne, rfl, rfl⟩
    · rw [if_pos (by simp [Region.wanted, hg, hy])]
      exact .inl (S.sound s hD (fun d e => hdst i o d ho e) K Q hk)
    · rw [if_neg (by
        simp only [Region.wanted, hg, hy]
        intro h
        cases v <;> simp at h
        exact hne (by rw [h]))]
      exact hk C undef (.refl C) (put_sat s (.raw _) (fun d e => hdst i o d ho e))

/-! ### Whatever order -/
/-- The numbers from which there is a way to i, in at most k steps. -/
def anc (ops : Array Oper) : Nat → Nat → List Nat
  | 0, _ => []
  | k + 1, i => match ops[i]? with
    | none => []
    | some o => (o.after.toList.filterMap fun e => if Region.binds .any e then some e.on else none).flatMap fun j => j :: anc ops k j

/-- What is looked at once for each region. -/
def okRegion (S : Sys P) (nt : Nat) (ops : Array Oper) (depth : Nat) : Bool :=
  ops.all (fun o => o.dst.all (· < nt) && (match o.op with | .select .. => false | _ => true)) &&
  (List.range ops.size).all fun i => match ops[i]? with
    | none => true
    | some x => x.after.all (fun e => !Region.binds .any e || decide (e.on < i)) &&
      (List.range i).all fun y => (anc ops depth i).contains y || match ops[y]? with
        | none => true
        | some o => indep S ops o x

def left (n : Nat) (listed : Array Bool) : List Nat := (List.range n).filter fun i => !listed.getD i true

def Closed (ops : Array Oper) (listed : Array Bool) : Prop := ∀ i o, ops[i]? = some o → listed.getD i false = true → ∀ e ∈ o.after, Region.binds .any e = true → listed.getD e.on false = true

theorem anc_listed {listed : Array Bool} (hc : Closed ops listed) : ∀ (k i : Nat) (o : Oper), ops[i]? = some o → (∀ e ∈ o.after, Region.binds .any e = true → listed.getD e.on false = true) → ∀ y ∈ anc ops k i, listed.getD y false = true
  | 0, i, o, ho, h, y, hy => by simp [anc] at hy
  | k + 1, i, o, ho, h, y, hy => by
    simp only [anc, ho] at hy
    obtain ⟨j, hj, hy⟩ := List.mem_flatMap.1 hy
    obtain ⟨e, he, hej⟩ := List.mem_filterMap.1 hj
    split at hej
    · rename_i hb
      cases hej
      have hl := h e (Array.mem_toList_iff.1 he) hb
      rcases List.mem_cons.1 hy with rfl | hy
      · exact hl
      · cases hz : ops[e.on]? with
        | none =>
          cases k with
          | zero => simp [anc] at hy
          | succ k => simp [anc, hz] at hy
        | some z => exact anc_listed hc k e.on z hz (hc e.on z hz hl) y hy
    · cases hej

theorem SatEx.step {nt : Nat} {e : Nat → AV} {h h' : Hp} {o : Oper} {r : AV} {i : Nat} (s : SatEx nt e h) (ho : ops[i]? = some o) (hdst : ∀ (j : Nat) (q : Oper) d, ops[j]? = some q → q.dst = some d → d < nt) (hd : DG S ops e o h r h') : SatEx nt (putE e o.dst r) h' := by
  obtain ⟨C, a, s⟩ := s
  unfold DG at hd
  cases hg : o.guard with
  | none =>
    rw [hg] at hd
    obtain ⟨a', w', x⟩ := wp_ex (S.sound s hd (fun d e => hdst i o d ho e) (fun a' w' => SatEx nt (putE e o.dst r) h') (fun _ _ _ => False) (fun C' v ex s' => ⟨C', _, s'⟩))
    exact x
  | some jw =>
    rw [hg] at hd
    obtain ⟨t, v, ht, hv, ⟨_, hD⟩ | ⟨_, rfl, rfl⟩⟩ := hd
    · obtain ⟨a', w', x⟩ := wp_ex (S.sound s hD (fun d e => hdst i o d ho e) (fun a' w' => SatEx nt (putE e o.dst r) h') (fun _ _ _ => False) (fun C' v ex s' => ⟨C', _, s'⟩))
      exact x
    · exact ⟨C, _, put_sat s (.raw undef) (fun d e => hdst i o d ho e)⟩

theorem SatEx.top {nt : Nat} {e : Nat → AV} {h : Hp} (s : SatEx nt e h) (o : Oper) : ∀ d, h d = none → ∀ z ∈ o.op.operands, (evE e z).top ≠ some d := by
  obtain ⟨C, a, s⟩ := s
  intro d hd z _ ht
  cases z with
  | tmp t =>
    have h1 := s.env t
    have h2 := s.heap.no d hd
    simp only [evE] at ht
    simp only at h1
    generalize e t = x at h1 ht
    generalize a.tmps.getD t undef = v at h1
    cases x <;> simp only [AV.top, Option.some.injEq, reduceCtorEq] at ht <;> subst ht <;> cases h1 <;> simp_all
  | _ => simp [evE, AV.top] at ht

theorem bubble {nt : Nat} (hdst : ∀ (j : Nat) (q : Oper) d, ops[j]? = some q → q.dst = some d → d < nt) {i : Nat} {x : Oper} (hx : ops[i]? = some x) (l2 : List Nat) : ∀ (l1 : List Nat) (e : Nat → AV) (h : Hp) (e' : Nat → AV) (h' : Hp),
    (∀ y ∈ l1, ∀ o, ops[y]? = some o → indep S ops o x = true) → SatEx nt e h → Chain S ops (l1 ++ i :: l2) e h e' h' → Chain S ops (i :: (l1 ++ l2)) e h e' h'
  | [], e, h, e', h', _, _, hc => hc
  | y :: l1, e, h, e', h', hi, hs, hc => by
    obtain ⟨o, r, h1, ho, hd, hc⟩ := hc
    have hs1 := hs.step ho hdst hd
    obtain ⟨x', rx, h2, hx', hdx, hc2⟩ := bubble hdst hx l2 l1 _ _ e' h' (fun z hz => hi z (by simp [hz])) hs1 hc
    rw [hx] at hx'; cases hx'
    have hind := hi y (by simp) o ho
    obtain ⟨h1', a, b⟩ := diamond hind (hs.top x) hd hdx
    refine ⟨x, rx, h1', hx, a, o, r, h2, ho, b, ?_⟩
    have h3 : ∀ d, o.dst = some d → x.dst ≠ some d := (Oper.apart_spec (by simp only [indep, Bool.and_eq_true] at hind; exact hind.1)).2.1
    rw [← putE_comm r rx h3]
    exact hc2

theorem left_mem {n : Nat} {listed : Array Bool} {i : Nat} : i ∈ left n listed ↔ i < n ∧ listed.getD i true = false := by
  unfold left; rw [List.mem_filter, List.mem_range]; simp

theorem left_set {n : Nat} {listed : Array Bool} {i : Nat} {l1 l2 : List Nat} (h : left n listed = l1 ++ i :: l2) : left n (listed.setIfInBounds i true) = l1 ++ l2 := by
  have hi : i ∈ left n listed := by rw [h]; simp
  have hs : i < listed.size := by
    have := (left_mem.1 hi).2
    rcases Nat.lt_or_ge i listed.size with k | k
    · exact k
    · simp [Array.getElem?_eq_none k] at this
  have hnd : (left n listed).Nodup := List.Nodup.sublist List.filter_sublist List.nodup_range
  have e : left n (listed.setIfInBounds i true) = (left n listed).filter (· != i) := by
    unfold left
    rw [List.filter_filter]
    refine List.filter_congr fun j _ => ?_
    by_cases hj : j = i
    · subst hj; simp [hs]
    · rw [getD_set_ne true (fun h => hj h.symm)]; simp [hj]
  rw [e, h]
  rw [h] at hnd
  rw [List.filter_append, List.filter_cons]
  have h1 : ∀ j ∈ l1, j ≠ i := fun j hj he => by
    subst he
    rw [List.nodup_append] at hnd
    exact hnd.2.2 j hj j (by simp) rfl
  have h2 : ∀ j ∈ l2, j ≠ i := fun j hj he => by
    subst he
    rw [List.nodup_append] at hnd
    have := hnd.2.1
    rw [List.nodup_cons] at this
    exact this.1 hj
  rw [List.filter_eq_self.2 (fun j hj => by simp [h1 j hj]), List.filter_eq_self.2 (fun j hj => by simp [h2 j hj])]
  simp

theorem any_of_chain {nt : Nat} {depth : Nat} (hok : okRegion S nt ops depth = true) {Q : Exit → St → Prop} {C0 : Cx} {e' : Nat → AV} {h' : Hp} (hq : Q .normal ⟨e', h'⟩) :
    ∀ (fuel : Nat) (listed : Array Bool) (e : Nat → AV) (h : Hp) (C : Cx) (a : Act), listed.size = ops.size → (left ops.size listed).length = fuel → Closed ops listed → Chain S ops (left ops.size listed) e h e' h' →
      Ext C0 C → Sat nt C ⟨e, h⟩ a → wpAny P .any ops (CX Q C0 nt) fuel listed a C.W := by
  simp only [okRegion, Bool.and_eq_true] at hok
  obtain ⟨hk1, hk2⟩ := hok
  rw [Array.all_eq_true_iff_forall_mem] at hk1
  have hdst : ∀ (j : Nat) (q : Oper) d, ops[j]? = some q → q.dst = some d → d < nt := by
    intro j q d hj hd
    have := hk1 q (Array.mem_of_getElem? hj)
    rw [hd] at this
    simp only [Bool.and_eq_true] at this
    simpa using this.1
  have hk3 : ∀ i x, ops[i]? = some x → (∀ e ∈ x.after, Region.binds .any e = true → e.on < i) ∧ ∀ y, y < i → (anc ops depth i).contains y = true ∨ ∀ o, ops[y]? = some o → indep S ops o x = true := by
    intro i x hx
    have hi := (Array.getElem?_eq_some_iff.1 hx).1
    have := (List.all_eq_true.1 hk2) i (List.mem_range.2 hi)
    rw [hx] at this
    simp only [Bool.and_eq_true] at this
    refine ⟨fun e he hb => ?_, fun y hy => ?_⟩
    · have h1 := (Array.all_eq_true_iff_forall_mem.1 this.1) e he
      simp [hb] at h1; exact h1
    · have h1 := (List.all_eq_true.1 this.2) y (List.mem_range.2 hy)
      rcases Bool.or_eq_true_iff.1 h1 with h1 | h1
      · exact .inl h1
      · exact .inr fun o ho => by rw [ho] at h1; exact h1
  have hready : ∀ (listed : Array Bool) (m : Nat) (l : List Nat), listed.size = ops.size → left ops.size listed = m :: l → m ∈ Region.ready .any ops listed := by
    intro listed m l hsz hl
    have hm : m ∈ left ops.size listed := by rw [hl]; simp
    obtain ⟨hm1, hm2⟩ := left_mem.1 hm
    rw [mem_ready]
    refine ⟨hm2, ops[m], Array.getElem?_eq_getElem hm1, fun e he hb => ?_⟩
    have hlt := (hk3 m _ (Array.getElem?_eq_getElem hm1)).1 e he hb
    have hes : e.on < listed.size := by rw [hsz]; omega
    rcases hv : listed.getD e.on true with _ | _
    · have : e.on ∈ left ops.size listed := left_mem.2 ⟨by omega, hv⟩
      have hsorted : (left ops.size listed).Pairwise (· < ·) := List.Pairwise.sublist List.filter_sublist List.pairwise_lt_range
      rw [hl] at hsorted this
      rcases List.mem_cons.1 this with h1 | h1
      · omega
      · have := (List.pairwise_cons.1 hsorted).1 _ h1; omega
    · simp [hes] at hv ⊢; exact hv
  intro fuel
  induction fuel with
  | zero =>
    intro listed e h C a hsz hlen hcl hc hex hs
    have hnil := List.eq_nil_of_length_eq_zero hlen
    rw [hnil] at hc
    obtain ⟨rfl, rfl⟩ := hc
    refine ⟨?_, ⟨⟨e', h'⟩, C, rfl, hq, hex, hs⟩⟩
    refine List.eq_nil_iff_forall_not_mem.2 fun i hi => ?_
    obtain ⟨h0, o, ho, _⟩ := mem_ready.1 hi
    have : i ∈ left ops.size listed := left_mem.2 ⟨(Array.getElem?_eq_some_iff.1 ho).1, h0⟩
    rw [hnil] at this; cases this
  | succ fuel ih =>
    intro listed e h C a hsz hlen hcl hc hex hs
    refine ⟨fun hr => ?_, fun i hi => ?_⟩
    · cases hl : left ops.size listed with
      | nil => rw [hl] at hlen; cases hlen
      | cons m l => have := hready listed m l hsz hl; rw [hr] at this; cases this
    · obtain ⟨h0, x, hx, hall⟩ := mem_ready.1 hi
      have hm : i ∈ left ops.size listed := left_mem.2 ⟨(Array.getElem?_eq_some_iff.1 hx).1, h0⟩
      obtain ⟨l1, l2, hl⟩ := List.append_of_mem hm
      have hsorted : (left ops.size listed).Pairwise (· < ·) := List.Pairwise.sublist List.filter_sublist List.pairwise_lt_range
      have hind : ∀ y ∈ l1, ∀ o, ops[y]? = some o → indep S ops o x = true := by
        intro y hy o ho
        have hyl : y ∈ left ops.size listed := by rw [hl]; simp [hy]
        have hlt : y < i := by
          rw [hl, List.pairwise_append] at hsorted
          exact hsorted.2.2 y hy i (by simp)
        rcases (hk3 i x hx).2 y hlt with h1 | h1
        · have h2 := anc_listed hcl depth i x hx hall y (by simpa using h1)
          have h3 := (left_mem.1 hyl).2
          have hys : y < listed.size := by rw [hsz]; exact (left_mem.1 hyl).1
          simp [hys] at h2 h3
          rw [h2] at h3; cases h3
        · exact h1 o ho
      rw [hl] at hc
      obtain ⟨x', rx, h1, hx', hd, hc2⟩ := bubble hdst hx l2 l1 e h e' h' hind ⟨C, a, hs⟩ hc
      rw [hx] at hx'; cases hx'
      refine DG.wp (σ := ⟨e, h⟩) hs hx hdst hd _ _ fun C' v hex' hs' => ?_
      have hsl := left_set hl
      refine ih _ _ _ C' _ (by simp [hsz]) (by rw [hsl]; rw [hl] at hlen; simp at hlen ⊢; omega) ?_ (by rw [hsl]; exact hc2) (hex.trans hex') hs'
      intro j o ho hj e2 he2 hb2
      by_cases hji : j = i
      · subst hji
        rw [hx] at ho; cases ho
        exact getD_set_true (hall e2 he2 hb2)
      · rw [getD_set_ne false (fun h => hji h.symm)] at hj
        exact getD_set_true (hcl j o ho hj e2 he2 hb2)

theorem ops_of_chain {nt : Nat} (hdst : ∀ (j : Nat) (q : Oper) d, ops[j]? = some q → q.dst = some d → d < nt) {Q : Exit → St → Prop} {C0 : Cx} {e' : Nat → AV} {h' : Hp} (hq : Q .normal ⟨e', h'⟩) :
    ∀ (l : List Nat) (e : Nat → AV) (h : Hp) (C : Cx) (a : Act), Chain S ops l e h e' h' → Ext C0 C → Sat nt C ⟨e, h⟩ a → wpOps P ops (CX Q C0 nt) l a C.W
  | [], e, h, C, a, hc, hex, hs => by
    obtain ⟨rfl, rfl⟩ := hc
    exact ⟨⟨e', h'⟩, C, rfl, hq, hex, hs⟩
  | i :: l, e, h, C, a, hc, hex, hs => by
    obtain ⟨o, r, h1, ho, hd, hc⟩ := hc
    rw [wpOps_cons]
    exact DG.wp (σ := ⟨e, h⟩) hs ho hdst hd _ _ fun C' v hex' hs' => ops_of_chain hdst hq l _ _ C' _ hc (hex.trans hex') hs'

/-- A region, drawn or not. -/
theorem awp_region {nt : Nat} {id : Nat} {draw : Bool} {Q : Exit → St → Prop} {σ : St} (depth : Nat) (hm : P.follows .mixedOrders = true) (hok : okRegion S nt ops depth = true) {e' : Nat → AV} {h' : Hp}
    (hc : Chain S ops (List.range ops.size) σ.env σ.heap e' h') (hq : Q .normal ⟨e', h'⟩) : AWP P nt (.region id ops draw) Q σ := by
  intro C0 C a hex hs
  cases draw with
  | false =>
    refine wp_region (ops_of_chain (S := S) (fun j q d hj hd => ?_) hq _ _ _ C a hc hex hs)
    simp only [okRegion, Bool.and_eq_true] at hok
    have := (Array.all_eq_true_iff_forall_mem.1 hok.1) q (Array.mem_of_getElem? hj)
    rw [hd] at this
    simp only [Bool.and_eq_true] at this
    simpa using this.1
  | true =>
    refine wp_region_any hm ?_
    have e0 : left ops.size (Array.replicate ops.size false) = List.range ops.size := by
      unfold left
      rw [List.filter_eq_self.2]
      intro i hi
      simp [List.mem_range.1 hi]
    have hdr : Ext C { C with W := { C.W with drawn := C.W.drawn + 1 } } := ⟨rfl, rfl, rfl, Nat.le_refl _, fun _ h => h, fun _ _ _ => rfl, fun _ h => .inl h, fun _ h => .inl h, fun _ _ _ h => h⟩
    have hu : Up C { C with W := { C.W with drawn := C.W.drawn + 1 } } := ⟨fun _ h => h, fun _ _ => rfl, fun _ _ h => h⟩
    refine any_of_chain hok hq ops.size _ σ.env σ.heap { C with W := { C.W with drawn := C.W.drawn + 1 } } a (by simp) (by rw [e0]; simp) ?_ (by rw [e0]; exact hc) (hex.trans hdr)
      ⟨hs.defers, hs.size, fun t => (hs.env t).up hu, ⟨fun id ob h => ?_, hs.heap.no, hs.heap.inj, hs.heap.apart, hs.heap.lt, hs.heap.olt, hs.heap.gl.up hu⟩⟩
    · intro i o ho hl
      have hi := (Array.getElem?_eq_some_iff.1 ho).1
      simp [hi] at hl
    · have := hs.heap.at_ id ob h
      cases ob with
      | box x => obtain ⟨b, T, cs, t, h1, h2, h3, h4⟩ := this; exact ⟨b, T, cs, t, h1, h2, h3, h4.up hu⟩
      | arr sz l => obtain ⟨b, T, cs, t, fr, c1, c2, h1, h2, h3, h4, h5, h6, h7⟩ := this; exact ⟨b, T, cs, t, fr, c1, c2, h1, h2, h3, h4, h5, h6.up hu, h7⟩
      | fz sz l => obtain ⟨b, T, c1, h1, h2, h3, h4, h5⟩ := this; exact ⟨b, T, c1, h1, h2, h3, h4.up hu.bare, h5⟩
      | dead => exact this
end
end Go.Proofs.YtngeckkebejhiaaDoor.Asl
