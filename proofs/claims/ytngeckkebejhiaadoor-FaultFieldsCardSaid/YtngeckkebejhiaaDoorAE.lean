/- Operations that make no row: what each does to an abstract state. -/
import Derived.Test.YtngeckkebejhiaaDoorAD
namespace Go.Proofs.YtngeckkebejhiaaDoor.Asl
open Go Go.RowKit
set_option linter.unusedVariables false

/-- What an operation that yields a value comes to. -/
def Res (P : Program) (nt : Nat) (C : Cx) (σ : St) (a : Act) (o : Oper) (r : AV) (h' : Hp) : Prop :=
  ∃ n v C', (execOp a.eval o).run P C.W = .ok n C'.W ∧ (n = .value v ∨ n = .skip ∧ v = undef) ∧ Ext C C' ∧ Sat nt C' ⟨σ.env, h'⟩ a ∧ RV C' r v
theorem Res.wp {P : Program} {nt : Nat} {C : Cx} {σ : St} {a : Act} {o : Oper} {r : AV} {h' : Hp} (h : Res P nt C σ a o r h') (hd : ∀ d, o.dst = some d → d < nt)
    (K : Act → World → Prop) (Q : Exit → Act → World → Prop) (hk : ∀ C' v, Ext C C' → Sat nt C' ⟨putE σ.env o.dst r, h'⟩ (a.put o.dst v) → K (a.put o.dst v) C'.W) : o.wp P a C.W K Q := by
  obtain ⟨n, v, C', hr, hn, hex, hs, hv⟩ := h
  unfold Oper.wp
  rw [hr]
  have := hk C' v hex (put_sat hs hv hd)
  rcases hn with rfl | ⟨rfl, rfl⟩
  · exact this
  · exact this
theorem Res.mk {P : Program} {nt : Nat} {C : Cx} {σ : St} {a : Act} {o : Oper} {r : AV} (s : Sat nt C σ a) {v : Value} (h : (execOp a.eval o).run P C.W = .ok (.value v) C.W) (hv : RV C r v) : Res P nt C σ a o r σ.heap :=
  ⟨_, v, C, h, .inl rfl, .refl C, s, hv⟩

theorem Sat.ev {nt : Nat} {C : Cx} {σ : St} {a : Act} (s : Sat nt C σ a) (x : Operand) : RV C (evE σ.env x) (a.eval x) := by
  cases x with
  | tmp t => exact s.env t
  | const v => exact .raw v
  | global g => exact .raw _
  | func f => exact .raw _
theorem Sat.raw {nt : Nat} {C : Cx} {σ : St} {a : Act} (s : Sat nt C σ a) {x : Operand} {v : Value} (h : evE σ.env x = .raw v) : a.eval x = v := by
  have := s.ev x
  rw [h] at this
  exact this.raw_eq
theorem Sat.evs {nt : Nat} {C : Cx} {σ : St} {a : Act} (s : Sat nt C σ a) : ∀ (l : List Operand), RVs C (l.map (evE σ.env)) (l.map a.eval)
  | [] => .nil
  | x :: l => .cons (s.ev x) (s.evs l)

theorem RV.agg_inv {C : Cx} {l : List AV} {v : Value} (h : RV C (.agg l) v) : ∃ cs, v = .agg cs.toArray ∧ RCs C l cs := by
  cases h with
  | agg h => exact ⟨_, rfl, h⟩
theorem RV.tup_inv {C : Cx} {l : List AV} {v : Value} (h : RV C (.tup l) v) : ∃ cs, v = .tuple cs.toArray ∧ RVs C l cs := by
  cases h with
  | tup h => exact ⟨_, rfl, h⟩

theorem bare_up (C : Cx) : Up C.bare C := ⟨fun _ h => h, fun _ _ => rfl, fun _ _ h => by cases h⟩

/-! ### Changed and new objects -/
theorem HSat.up {C C' : Cx} {id : Nat} {ob : Ob} (u : Up C C') (hO : ∀ b T, C.ι id = some (b, T) → C.O b → ob.live = true → C'.O b ∧ C'.W.heap[b]? = C.W.heap[b]?) (h : HSat C id ob) : HSat C' id ob := by
  cases ob with
  | box x =>
    obtain ⟨b, T, cs, t, h1, h2, h3, h4⟩ := h
    obtain ⟨a1, a2⟩ := hO b T h1 h2 rfl
    exact ⟨b, T, cs, t, u.ι _ _ h1, a1, a2.trans h3, h4.up u⟩
  | arr sz l =>
    obtain ⟨b, T, cs, t, fr, c1, c2, h1, h2, h3, h4, h5, h6, h7⟩ := h
    obtain ⟨a1, a2⟩ := hO b T h1 h2 rfl
    exact ⟨b, T, cs, t, fr, c1, c2, u.ι _ _ h1, a1, a2.trans h3, h4, h5, h6.up u, h7⟩
  | fz sz l =>
    obtain ⟨b, T, c1, h1, h2, h3, h4, h5⟩ := h
    exact ⟨b, T, c1, u.ι _ _ h1, u.F _ h2, h3.up u h2, h4.up u.bare, h5⟩
  | dead =>
    obtain ⟨b, T, h1⟩ := h
    exact ⟨b, T, u.ι _ _ h1⟩
theorem HSat.live_at {C : Cx} {id : Nat} {ob : Ob} (hl : ob.live = true) (h : HSat C id ob) : ∃ b T, C.ι id = some (b, T) ∧ C.O b := by
  cases ob with
  | box x => obtain ⟨b, T, cs, t, h1, h2, h3, h4⟩ := h; exact ⟨b, T, h1, h2⟩
  | arr sz l => obtain ⟨b, T, cs, t, fr, c1, c2, h1, h2, h3⟩ := h; exact ⟨b, T, h1, h2⟩
  | fz sz l => simp [Ob.live] at hl
  | dead => simp [Ob.live] at hl

theorem put_up {C : Cx} {h : Hp} (hh : HOk C h) {W' : World} {b : Nat} (hO : C.O b) (hp : Put C.W W' b) : Up C { C with W := W' } :=
  ⟨fun _ h => h, fun k hk => hp.other k (fun e => hh.apart b hO (e ▸ hk)), fun _ _ h => h⟩
theorem put_ext {C : Cx} {W' : World} {b : Nat} (hO : C.O b) (hp : Put C.W W' b) : Ext C { C with W := W' } :=
  ⟨hp.os, hp.tape, hp.output, Nat.le_of_eq hp.size.symm, fun _ h => h, fun k _ hn => hp.other k (fun e => hn (e ▸ hO)), fun _ h => .inl h, fun _ h => .inl h, fun _ _ _ h => h⟩
theorem upd_sat {nt : Nat} {C : Cx} {σ : St} {a : Act} (s : Sat nt C σ a) {id b T : Nat} {ob ob' : Ob} {W' : World} (hob : σ.heap id = some ob) (hl : ob.live = true) (hι : C.ι id = some (b, T)) (hO : C.O b) (hp : Put C.W W' b)
    (hl' : ob'.live = true) (hs' : HSat { C with W := W' } id ob') : Sat nt { C with W := W' } ⟨σ.env, setH σ.heap id ob'⟩ a := by
  have u := put_up s.heap hO hp
  refine ⟨s.defers, s.size, fun t => (s.env t).up u, ⟨fun i q hq => ?_, fun i hi => ?_, fun i j b' T' U' o q h1 h2 h3 h4 => ?_, s.heap.apart, fun k hk => ?_, fun k hk => ?_, s.heap.gl.up u⟩⟩
  · simp only [setH] at hq
    by_cases e : i = id
    · subst e; rw [if_pos rfl] at hq; cases hq; exact hs'
    · rw [if_neg e] at hq
      refine (s.heap.at_ i q hq).up u fun b2 T2 h2 h3 h4 => ⟨h3, hp.other b2 fun e2 => ?_⟩
      subst e2
      exact e (s.heap.inj i id _ _ _ q ob hq h4 hob hl h2 hι)
  · simp only [setH] at hi
    by_cases e : i = id
    · subst e; rw [if_pos rfl] at hi; cases hi
    · rw [if_neg e] at hi; exact s.heap.no i hi
  · simp only [setH] at h1 h3
    have g1 : ∃ o', σ.heap i = some o' ∧ o'.live = true := by
      by_cases e : i = id
      · subst e; exact ⟨ob, hob, hl⟩
      · rw [if_neg e] at h1; exact ⟨o, h1, h2⟩
    have g2 : ∃ o', σ.heap j = some o' ∧ o'.live = true := by
      by_cases e : j = id
      · subst e; exact ⟨ob, hob, hl⟩
      · rw [if_neg e] at h3; exact ⟨q, h3, h4⟩
    obtain ⟨o1, x1, x2⟩ := g1
    obtain ⟨o2, y1, y2⟩ := g2
    exact s.heap.inj i j b' T' U' o1 o2 x1 x2 y1 y2
  · rw [show ({ C with W := W' } : Cx).W.heap.size = C.W.heap.size from hp.size]; exact s.heap.lt k hk
  · rw [show ({ C with W := W' } : Cx).W.heap.size = C.W.heap.size from hp.size]; exact s.heap.olt k hk

def newC (C : Cx) (W' : World) (d T : Nat) : Cx := { W := W', F := C.F, O := fun b => C.O b ∨ b = C.W.heap.size, ι := fun i => if i = d then some (C.W.heap.size, T) else C.ι i }
/-- A new block, behind the old ones. -/
structure Grow (W W' : World) : Prop where
  os : W'.os = W.os
  tape : W'.tape = W.tape
  output : W'.output = W.output
  size : W'.heap.size = W.heap.size + 1
  old : ∀ k, k < W.heap.size → W'.heap[k]? = W.heap[k]?
theorem Grow.alloc (W : World) (o : Obj) : Grow W (W.alloc o) := ⟨rfl, rfl, rfl, Array.size_push _, fun k hk => Below.heap_alloc W o k hk⟩
theorem newC_up {C : Cx} {h : Hp} (hh : HOk C h) {W' : World} (hg : Grow C.W W') {d T : Nat} (hd : h d = none) : Up C (newC C W' d T) :=
  ⟨fun _ h => h, fun k hk => hg.old k (hh.lt k hk), fun i p hp => by
    simp only [newC]
    rw [if_neg (fun e => by subst e; rw [hh.no i hd] at hp; cases hp)]; exact hp⟩
theorem newC_ext {C : Cx} {h : Hp} (hh : HOk C h) {W' : World} (hg : Grow C.W W') {d : Nat} (hd : h d = none) (T : Nat) : Ext C (newC C W' d T) :=
  ⟨hg.os, hg.tape, hg.output, by show _ ≤ W'.heap.size; rw [hg.size]; omega, fun _ h => h, fun k hk _ => hg.old k hk, fun _ h => .inl h, fun b h => h.imp id (fun e => by omega), fun i p _ h => (newC_up hh hg hd).ι i p h⟩
theorem new_sat {nt : Nat} {C : Cx} {σ : St} {a : Act} (s : Sat nt C σ a) {d T : Nat} {ob : Ob} {W' : World} (hd : σ.heap d = none) (hg : Grow C.W W') (hs' : HSat (newC C W' d T) d ob) : Sat nt (newC C W' d T) ⟨σ.env, setH σ.heap d ob⟩ a := by
  have u := newC_up (T := T) s.heap hg hd
  have hsz : (newC C W' d T).W.heap.size = C.W.heap.size + 1 := hg.size
  have hnew : ∀ i b U o, σ.heap i = some o → o.live = true → C.ι i = some (b, U) → b < C.W.heap.size := by
    intro i b U o h1 h2 h3
    obtain ⟨b2, T2, e, hO⟩ := (s.heap.at_ i o h1).live_at h2
    rw [h3] at e; cases e
    exact s.heap.olt b hO
  refine ⟨s.defers, s.size, fun t => (s.env t).up u, ⟨fun i q hq => ?_, fun i hi => ?_, fun i j b' T' U' o q h1 h2 h3 h4 h5 h6 => ?_, fun b hb hF => ?_, fun k hk => ?_, fun k hk => ?_, s.heap.gl.up u⟩⟩
  · simp only [setH] at hq
    by_cases e : i = d
    · subst e; rw [if_pos rfl] at hq; cases hq; exact hs'
    · rw [if_neg e] at hq
      exact (s.heap.at_ i q hq).up u fun b2 T2 h2 h3 h4 => ⟨.inl h3, hg.old b2 (s.heap.olt b2 h3)⟩
  · simp only [setH] at hi
    by_cases e : i = d
    · subst e; rw [if_pos rfl] at hi; cases hi
    · rw [if_neg e] at hi
      simp only [newC]; rw [if_neg e]; exact s.heap.no i hi
  · simp only [setH] at h1 h3
    simp only [newC] at h5 h6
    by_cases e : i = d <;> by_cases e2 : j = d
    · rw [e, e2]
    · rw [if_pos e] at h5; rw [if_neg e2] at h6 h3
      cases h5
      exact absurd (hnew j _ _ q h3 h4 h6) (by omega)
    · rw [if_neg e] at h5 h1; rw [if_pos e2] at h6
      cases h6
      exact absurd (hnew i _ _ o h1 h2 h5) (by omega)
    · rw [if_neg e] at h5 h1; rw [if_neg e2] at h6 h3
      exact s.heap.inj i j b' T' U' o q h1 h2 h3 h4 h5 h6
  · rcases hb with hb | rfl
    · exact s.heap.apart b hb hF
    · exact absurd (s.heap.lt _ hF) (by omega)
  · rw [hsz]; have := s.heap.lt k hk; omega
  · rw [hsz]
    rcases hk with hk | rfl
    · have := s.heap.olt k hk; omega
    · omega

/-! ### Places and parts -/
def fldI (P : Program) (s : TypeId) (f : Nat) : Option (Nat × Nat × Bool) :=
  match P.underlying s with
  | some (.struct fs) => match fs[f]? with
    | some d => (tyI P d.type).bind fun x => if x.1 = 0 then none else some (d.offset, x.1, x.2)
    | none => none
  | _ => none
theorem fldI_at {P : Program} {s : TypeId} {f off n : Nat} {ag : Bool} (h : fldI P s f = some (off, n, ag)) :
    ∃ fs d, P.underlying s = some (.struct fs) ∧ fs[f]? = some d ∧ d.offset = off ∧ tyI P d.type = some (n, ag) ∧ n ≠ 0 := by
  unfold fldI at h
  split at h
  · rename_i fs hu
    split at h
    · rename_i d hd
      obtain ⟨⟨a, b⟩, h1, h2⟩ := Option.bind_eq_some_iff.1 h
      dsimp only at h2
      split at h2
      · cases h2
      · rename_i hne
        simp only [Option.some.injEq, Prod.mk.injEq] at h2
        obtain ⟨e1, e2, e3⟩ := h2
        subst e2; subst e3
        exact ⟨fs, d, hu, hd, e1, h1, hne⟩
    · cases h
  · cases h

def faddr (off n : Nat) (ag : Bool) : AV → Option AV
  | .ptr id o => some (.ptr id (o + off))
  | .ep id sz i o => some (.ep id sz i (o + off))
  | .fp x => (AV.get n ag x off).map .fp
  | _ => none
def ldAt (h : Hp) (n : Nat) (ag : Bool) : AV → Option AV
  | .ptr id off => match h id with
    | some (.box x) => AV.get n ag x off
    | _ => none
  | .ep id sz i off => match h id with
    | some (.arr s l) => if sz = s then (l[i]?).bind fun x => AV.get n ag x off else none
    | some (.fz s l) => if sz = s then (l[i]?).bind fun x => AV.get n ag x off else none
    | _ => none
  | .fp x => if x.size = n ∧ x.isAgg = ag then some x else none
  | _ => none
def stAt (h : Hp) (n : Nat) (y : AV) : AV → Option Hp
  | .ptr id off => match h id with
    | some (.box x) => (AV.set n y x off).map fun z => setH h id (.box z)
    | _ => none
  | .ep id sz i off => match h id with
    | some (.arr s l) => if sz = s then (l[i]?).bind fun x => (AV.set n y x off).map fun z => setH h id (.arr s (l.set i z)) else none
    | _ => none
  | _ => none

theorem Reads.of_block {W : World} {b : Nat} {cs : Array Value} {t : TypeId} {fr : Nat × Nat} (h : W.heap[b]? = some (.cells cs t fr)) : Reads W b 0 cs.toList := by
  intro i v hv
  unfold World.cell?
  rw [h]; simpa using hv

variable {P : Program} {nt : Nat} {C : Cx} {σ : St} {a : Act} {o : Oper}

/-- What an address leads to can be read. -/
theorem ldAt_ok (s : Sat nt C σ a) {n : Nat} {ag : Bool} {x r : AV} {v : Value} (hx : RV C x v) (h : ldAt σ.heap n ag x = some r) :
    ∃ b off c, v = .pointer (some ⟨b, off, none⟩) ∧ Reads C.W b off c ∧ c.length = n ∧ RC C r c ∧ r.isAgg = ag := by
  cases x with
  | ptr id off =>
    cases hx with
    | ptr hι =>
      simp only [ldAt] at h
      cases hob : σ.heap id with
      | none => rw [hob] at h; cases h
      | some ob =>
        rw [hob] at h
        cases ob with
        | box y =>
          obtain ⟨b, T, cs, t, h1, h2, h3, h4⟩ := s.heap.at_ id _ hob
          obtain ⟨rfl, rfl⟩ := Prod.mk.inj (Option.some.inj (h1.symm.trans hι))
          obtain ⟨c1, c, c2, e, e1, e2, e3, e4⟩ := h4.get h
          refine ⟨_, off, c, rfl, ?_, e2, e3, e4⟩
          have := Reads.of_block h3
          rw [e] at this
          have := this.sub
          rwa [e1, Nat.zero_add] at this
        | _ => cases h
  | ep id sz i off =>
    cases hx with
    | ep hι =>
      simp only [ldAt] at h
      have key : ∀ (l : List AV) (cs : List Value) (b : Nat), RCs C l cs → (∀ x ∈ l, x.size = sz) → Reads C.W b 0 cs → (l[i]?).bind (fun x => AV.get n ag x off) = some r → ∃ c, Reads C.W b (i * sz + off) c ∧ c.length = n ∧ RC C r c ∧ r.isAgg = ag := by
        intro l cs b hc hs hr h
        obtain ⟨y, hy, hg⟩ := Option.bind_eq_some_iff.1 h
        obtain ⟨d1, d, d2, rfl, e1, e2, e3⟩ := hc.at hs hy
        obtain ⟨c1, c, c2, rfl, f1, f2, f3, f4⟩ := e3.get hg
        have h1 := hr.sub
        have h2 := h1.sub
        rw [Nat.zero_add, e1, f1] at h2
        exact ⟨c, h2, f2, f3, f4⟩
      cases hob : σ.heap id with
      | none => rw [hob] at h; cases h
      | some ob =>
        rw [hob] at h
        cases ob with
        | arr s' l =>
          simp only at h
          split at h
          · rename_i e; subst e
            obtain ⟨b, T, cs, t, fr, c1, c2, h1, h2, h3, h4, h5, h6, h7, h8⟩ := s.heap.at_ id _ hob
            obtain ⟨rfl, rfl⟩ := Prod.mk.inj (Option.some.inj (h1.symm.trans hι))
            have hr : Reads C.W b 0 c1 := by
              have := Reads.of_block h3
              rw [h5] at this
              have := Reads.sub (c1 := []) (c := c1) (c2 := c2) (by simpa using this)
              simpa using this
            obtain ⟨c, g1, g2, g3, g4⟩ := key l c1 _ h6 h7 hr h
            exact ⟨_, _, c, rfl, g1, g2, g3, g4⟩
          · cases h
        | fz s' l =>
          simp only at h
          split at h
          · rename_i e; subst e
            obtain ⟨b, T, c1, h1, h2, h3, h4, h5, h6⟩ := s.heap.at_ id _ hob
            obtain ⟨rfl, rfl⟩ := Prod.mk.inj (Option.some.inj (h1.symm.trans hι))
            obtain ⟨c, g1, g2, g3, g4⟩ := key l c1 b (h4.up (bare_up C)) h5 h3 h
            exact ⟨_, _, c, rfl, g1, g2, g3, g4⟩
          · cases h
        | _ => cases h
  | fp x =>
    cases hx with
    | fp hc hF hr =>
      simp only [ldAt] at h
      split at h
      · rename_i e
        cases h
        exact ⟨_, _, _, rfl, hr, by rw [hc.len]; exact e.1, hc.up (bare_up C), e.2⟩
      · cases h
  | _ => simp [ldAt] at h

theorem snd_load (s : Sat nt C σ a) {t : TypeId} {x : Operand} (ho : o.op = .load t x) {n : Nat} {ag : Bool} {r : AV} (ht : tyI P t = some (n, ag)) (h : ldAt σ.heap n ag (evE σ.env x) = some r) : Res P nt C σ a o r σ.heap := by
  obtain ⟨b, off, c, hv, hr, hn, hc, hag⟩ := ldAt_ok s (s.ev x) h
  obtain ⟨v, hrun, hv2⟩ := run_loadVar ht hr hn hc hag
  refine .mk s (v := v) ?_ hv2
  simp [execOp, ho, Instr.loadAt, hv, Instr.sureAddr, hrun]

theorem snd_fieldAddr (s : Sat nt C σ a) {t : TypeId} {x : Operand} {f : Nat} (ho : o.op = .fieldAddr t x f) {off n : Nat} {ag : Bool} {r : AV} (ht : fldI P t f = some (off, n, ag)) (h : faddr off n ag (evE σ.env x) = some r) : Res P nt C σ a o r σ.heap := by
  obtain ⟨fs, d, hu, hd, rfl, hty, hne⟩ := fldI_at ht
  have key : ∀ b o', a.eval x = .pointer (some ⟨b, o', none⟩) → (execOp a.eval o).run P C.W = .ok (.value (.pointer (some ⟨b, o' + d.offset, none⟩))) C.W := by
    intro b o' e
    simp [execOp, ho, Instr.fieldAt, e, Instr.sureAddr, underlying, program, Sem.run, hu, hd, fieldPlace, add_at, tyI_size hty, hne]
  have hx := s.ev x
  generalize he : evE σ.env x = y at h hx
  cases y with
  | ptr id o' =>
    simp only [faddr, Option.some.injEq] at h; subst h
    generalize hv : a.eval x = v at hx
    cases hx with
    | ptr hι => exact .mk s (key _ _ hv) (.ptr hι)
  | ep id sz i o' =>
    simp only [faddr, Option.some.injEq] at h; subst h
    generalize hv : a.eval x = v at hx
    cases hx with
    | ep hι =>
      have := key _ _ hv
      rw [Nat.add_assoc] at this
      exact .mk s this (.ep hι)
  | fp z =>
    simp only [faddr] at h
    obtain ⟨w, hw, rfl⟩ := Option.map_eq_some_iff.1 h
    generalize hv : a.eval x = v at hx
    cases hx with
    | fp hc hF hr =>
      obtain ⟨c1, c, c2, e, e1, e2, e3, e4⟩ := hc.get hw
      subst e
      have h2 := hr.sub
      rw [e1] at h2
      exact .mk s (key _ _ hv) (.fp e3 hF h2)
  | _ => simp [faddr] at h

theorem snd_field (s : Sat nt C σ a) {t : TypeId} {x : Operand} {f : Nat} (ho : o.op = .field t x f) {off n : Nat} {ag : Bool} {r : AV} {l : List AV} (ht : fldI P t f = some (off, n, ag)) (hl : evE σ.env x = .agg l) (h : AV.getL n ag l off = some r) : Res P nt C σ a o r σ.heap := by
  obtain ⟨fs, d, hu, hd, rfl, hty, hne⟩ := fldI_at ht
  have hx := s.ev x
  rw [hl] at hx
  obtain ⟨cs, hv, hc⟩ := hx.agg_inv
  obtain ⟨c1, c, c2, rfl, e1, e2, e3, e4⟩ := hc.getL h
  have hrun : ∀ v, (part d.type (c1 ++ c ++ c2).toArray d.offset).run P C.W = .ok v C.W → (execOp a.eval o).run P C.W = .ok (.value v) C.W := by
    intro v hp
    simp only [execOp, ho, Instr.field, hv, asAgg, underlying, program, Sem.run_bind, Sem.run, hu, hd, Result.andThen_ok, Sem.run_pure]
    simp only [hp, Result.andThen_ok]
  cases ag with
  | true =>
    refine .mk s (hrun (.agg c.toArray) ?_) (e3.val.1 e4)
    simp [part, tyI_agg hty, tyI_size hty, ← e1, ← e2]
  | false =>
    obtain ⟨v, rfl, hv2⟩ := e3.val.2 e4
    refine .mk s (hrun v ?_) hv2
    simp [part, tyI_agg hty, ← e1]

theorem snd_store (s : Sat nt C σ a) {t : TypeId} {x y : Operand} (ho : o.op = .store t x y) {n : Nat} {ag : Bool} {h' : Hp} (ht : tyI P t = some (n, ag)) (hy : (evE σ.env y).size = n) (hy1 : (evE σ.env y).isAgg = true ∨ (evE σ.env y).one = true)
    (h : stAt σ.heap n (evE σ.env y) (evE σ.env x) = some h') : Res P nt C σ a o (.raw undef) h' := by
  have hyc := (s.ev y).cells hy1
  have hyn : (a.eval y).cells.toList.length = n := by rw [hyc.len]; exact hy
  have hyl := hyc.cell
  have fin : ∀ b off W', a.eval x = .pointer (some ⟨b, off, none⟩) → (storeVar t ⟨b, off, none⟩ (a.eval y)).run P C.W = .ok () W' → (execOp a.eval o).run P C.W = .ok .skip W' := by
    intro b off W' e hr
    simp [execOp, ho, Instr.storeAt, e, Instr.sureAddr, hr]
  have hx := s.ev x
  generalize evE σ.env x = z at h hx
  generalize hv : a.eval x = v at hx
  cases z with
  | ptr id off =>
    cases hx with
    | ptr hι =>
      simp only [stAt] at h
      cases hob : σ.heap id with
      | none => rw [hob] at h; cases h
      | some ob =>
        rw [hob] at h
        cases ob with
        | box w =>
          obtain ⟨z, hz, rfl⟩ := Option.map_eq_some_iff.1 h
          obtain ⟨b, T, cs, ty, h1, h2, h3, h4⟩ := s.heap.at_ id _ hob
          obtain ⟨rfl, rfl⟩ := Prod.mk.inj (Option.some.inj (h1.symm.trans hι))
          obtain ⟨c1, c, c2, e, e1, e2, e3⟩ := RC.set hyc h4 hz hyn
          have hcs : cs = (c1 ++ c ++ c2).toArray := by rw [← e]
          subst hcs
          obtain ⟨W', hr, hp, hw⟩ := run_storeVar ht h3 ⟨fun o _ h => by simp at h, Nat.le_refl _⟩ e2 hyn hyl
          rw [e1] at hr
          have u := put_up s.heap h2 hp
          refine ⟨.skip, undef, { C with W := W' }, fin _ _ _ hv hr, .inr ⟨rfl, rfl⟩, put_ext h2 hp, ?_, .raw _⟩
          refine upd_sat s hob rfl hι h2 hp rfl ⟨b, T, _, ty, hι, h2, hw, ?_⟩
          have := e3.up u
          simpa using this
        | _ => cases h
  | ep id sz i off =>
    cases hx with
    | ep hι =>
      simp only [stAt] at h
      cases hob : σ.heap id with
      | none => rw [hob] at h; cases h
      | some ob =>
        rw [hob] at h
        cases ob with
        | arr s' l =>
          simp only at h
          split at h
          · rename_i e; subst e
            obtain ⟨q, hq, h⟩ := Option.bind_eq_some_iff.1 h
            obtain ⟨z, hz, rfl⟩ := Option.map_eq_some_iff.1 h
            obtain ⟨b, T, cs, ty, fr, d1, d2, h1, h2, h3, h4, h5, h6, h7, h8, h9⟩ := s.heap.at_ id _ hob
            obtain ⟨rfl, rfl⟩ := Prod.mk.inj (Option.some.inj (h1.symm.trans hι))
            obtain ⟨k1, k, k2, rfl, f1, f2, f3⟩ := h6.at h7 hq
            obtain ⟨c1, c, c2, rfl, e1, e2, e3⟩ := RC.set hyc f3 hz hyn
            have hcs : cs = ((k1 ++ c1) ++ c ++ (c2 ++ k2 ++ d2)).toArray := by
              apply Array.toList_inj.1; rw [h5]; simp
            subst hcs
            obtain ⟨W', hr, hp, hw⟩ := run_storeVar ht h3 (by simpa using h4) e2 hyn hyl
            have e0 : (k1 ++ c1).length = i * sz + off := by rw [List.length_append, f1, e1]
            rw [e0] at hr
            have u := put_up s.heap h2 hp
            refine ⟨.skip, undef, { C with W := W' }, fin _ _ _ hv hr, .inr ⟨rfl, rfl⟩, put_ext h2 hp, ?_, .raw _⟩
            have hzsz : z.size = sz := by
              have g1 := e3.len
              have g2 := f3.len
              simp at g1 g2 f2
              rw [show (a.eval y).cells.size = n by simpa using hyn] at g1
              omega
            have hrow : RCs C (l.set i z) (k1 ++ (c1 ++ (a.eval y).cells.toList ++ c2) ++ k2) := by
              have hlt := (List.getElem?_eq_some_iff.1 hq).1
              have hqe := (List.getElem?_eq_some_iff.1 hq).2
              have el : l = l.take i ++ (q :: l.drop (i + 1)) := by rw [← hqe, List.getElem_cons_drop, List.take_append_drop]
              have es : l.set i z = l.take i ++ (z :: l.drop (i + 1)) := by
                rw [List.set_eq_take_append_cons_drop, if_pos hlt]
              rw [el] at h6
              obtain ⟨m1, m2, em, n1, n2⟩ := h6.split
              cases n2 with
              | cons p1 p2 =>
                rename_i ca cb
                have l1 : m1.length = k1.length := by
                  rw [n1.len, f1, AV.sizes_all (sz := sz) (fun y hy => h7 y (List.mem_of_mem_take hy)), List.length_take]; congr 1; omega
                have l2 : ca.length = (c1 ++ c ++ c2).length := by rw [p1.len, f3.len]
                have x1 : k1 = m1 ∧ (c1 ++ c ++ c2) ++ k2 = ca ++ cb := by
                  have : k1 ++ ((c1 ++ c ++ c2) ++ k2) = m1 ++ (ca ++ cb) := by rw [← em]; simp
                  exact List.append_inj this l1.symm
                have x2 := List.append_inj x1.2 l2.symm
                rw [es, x1.1, x2.2, List.append_assoc]
                exact n1.append (.cons e3 p2)
            refine upd_sat s hob rfl hι h2 hp rfl ⟨b, T, _, ty, fr, k1 ++ (c1 ++ (a.eval y).cells.toList ++ c2) ++ k2, d2, hι, h2, hw, ?_, by simp, hrow.up u, ?_, ?_, h9⟩
            · have : ((k1 ++ c1 ++ (a.eval y).cells.toList ++ (c2 ++ k2 ++ d2)).toArray).size = ((k1 ++ c1 ++ c ++ (c2 ++ k2 ++ d2)).toArray).size := by simp; rw [e2, show (a.eval y).cells.size = n by simpa using hyn]
              rw [this]; exact h4
            · intro x hx
              rcases List.mem_or_eq_of_mem_set hx with hx | rfl
              · exact h7 x hx
              · exact hzsz
            · rw [← h8]; simp; rw [e2, show (a.eval y).cells.size = n by simpa using hyn]
          · cases h
        | _ => cases h
  | _ => simp [stAt] at h

theorem snd_box (s : Sat nt C σ a) {t : TypeId} {x : Operand} (ho : o.op = .box t x) {d : Nat} (hd : σ.heap d = none) (hx : (evE σ.env x).isAgg = true ∨ (evE σ.env x).one = true) : Res P nt C σ a o (.ptr d 0) (setH σ.heap d (.box (evE σ.env x))) := by
  have hc := (s.ev x).cells hx
  have hg := Grow.alloc C.W (.cells (a.eval x).cells t)
  refine ⟨_, .pointer (some ⟨C.W.heap.size, 0, none⟩), newC C (C.W.alloc (.cells (a.eval x).cells t)) d 0, ?_, .inl rfl, newC_ext s.heap hg hd 0, ?_, .ptr (T := 0) (by simp [newC])⟩
  · simp [execOp, ho, Instr.box, newVar, newRow, newObj, Sem.run, newC]
  · refine new_sat s hd hg ⟨C.W.heap.size, 0, (a.eval x).cells, t, by simp [newC], .inr rfl, ?_, hc.up (newC_up s.heap hg hd)⟩
    show (C.W.heap.push _)[C.W.heap.size]? = _
    simp
end Go.Proofs.YtngeckkebejhiaaDoor.Asl
