/- Other names for objects, fewer objects, rows that are only read from now on. -/
import Derived.Test.YtngeckkebejhiaaDoorAN
namespace Go.Proofs.YtngeckkebejhiaaDoor.Asl
open Go Go.RowKit
set_option linter.unusedVariables false
set_option linter.unusedSimpArgs false
variable {P : Program} {nt : Nat} {C : Cx} {σ : St} {Q : Exit → St → Prop} {e : Nat → AV} {h : Hp}

mutual
def AV.ren (π : Nat → Nat) : AV → AV
  | .ptr id o => .ptr (π id) o
  | .ep id s i o => .ep (π id) s i o
  | .ow id s o n => .ow (π id) s o n
  | .agg l => .agg (AV.rens π l)
  | .tup l => .tup (AV.rens π l)
  | .ifc t x => .ifc t (x.ren π)
  | .fn f l m => .fn f (AV.rens π l) (AV.rens π m)
  | x => x
def AV.rens (π : Nat → Nat) : List AV → List AV
  | [] => []
  | x :: l => x.ren π :: AV.rens π l
end
def Ob.ren (π : Nat → Nat) : Ob → Ob
  | .box x => .box (x.ren π)
  | .arr s l => .arr s (AV.rens π l)
  | x => x
def renH (π ρ : Nat → Nat) (h : Hp) : Hp := fun id => (h (ρ id)).map (Ob.ren π)
def renC (C : Cx) (ρ : Nat → Nat) : Cx := { C with ι := fun id => C.ι (ρ id) }
mutual
theorem AV.ren_ren {π ρ : Nat → Nat} (k : ∀ i, ρ (π i) = i) : ∀ x : AV, (x.ren π).ren ρ = x
  | .ptr .. | .ep .. | .ow .. => by simp [AV.ren, k]
  | .agg l => by simp [AV.ren, AV.rens_rens k l]
  | .tup l => by simp [AV.ren, AV.rens_rens k l]
  | .ifc t x => by simp [AV.ren, AV.ren_ren k x]
  | .fn f l m => by simp [AV.ren, AV.rens_rens k l, AV.rens_rens k m]
  | .any | .raw _ | .sl .. | .fp _ => by simp [AV.ren]
theorem AV.rens_rens {π ρ : Nat → Nat} (k : ∀ i, ρ (π i) = i) : ∀ l : List AV, AV.rens ρ (AV.rens π l) = l
  | [] => rfl
  | x :: l => by simp [AV.rens, AV.ren_ren k x, AV.rens_rens k l]
end
mutual
theorem AV.ren_size (π : Nat → Nat) : ∀ x : AV, (x.ren π).size = x.size
  | .agg l => by simp [AV.ren, AV.size, AV.rens_sizes π l]
  | .ptr .. | .ep .. | .ow .. | .tup _ | .ifc .. | .fn .. | .any | .raw _ | .sl .. | .fp _ => by simp [AV.ren, AV.size]
theorem AV.rens_sizes (π : Nat → Nat) : ∀ l : List AV, AV.sizes (AV.rens π l) = AV.sizes l
  | [] => rfl
  | x :: l => by simp [AV.rens, AV.sizes, AV.ren_size π x, AV.rens_sizes π l]
end
theorem AV.ren_one (π : Nat → Nat) (x : AV) : (x.ren π).one = x.one := by
  cases x with
  | raw v => rfl
  | _ => simp [AV.ren, AV.one]
theorem AV.rens_len (π : Nat → Nat) : ∀ l : List AV, (AV.rens π l).length = l.length
  | [] => rfl
  | x :: l => by simp [AV.rens, AV.rens_len π l]
theorem AV.rens_mem (π : Nat → Nat) : ∀ {l : List AV} {y : AV}, y ∈ AV.rens π l → ∃ x ∈ l, y = x.ren π
  | x :: l, y, hy => by
    simp only [AV.rens, List.mem_cons] at hy
    rcases hy with rfl | hy
    · exact ⟨x, by simp, rfl⟩
    · obtain ⟨z, h1, h2⟩ := AV.rens_mem π hy
      exact ⟨z, by simp [h1], h2⟩
theorem renC_bare (C : Cx) (ρ : Nat → Nat) : (renC C ρ).bare = C.bare := rfl
mutual
theorem RV.ren {π ρ : Nat → Nat} (k : ∀ i, ρ (π i) = i) {C : Cx} {x : AV} {v : Value} (h : RV C x v) : RV (renC C ρ) (x.ren π) v :=
  match h with
  | .any v => .any v
  | .raw v => .raw v
  | .agg h => .agg (h.ren k)
  | .tup h => .tup (h.ren k)
  | .sl0 => .sl0
  | .sl h hs hF hr hc => .sl h hs hF hr hc
  | .fp h hF hr => .fp h hF hr
  | .ptr h => .ptr (by simp [renC, k]; exact h)
  | .ep h => .ep (by simp [renC, k]; exact h)
  | .ow h hl => .ow (by simp [renC, k]; exact h) hl
  | .ow0 h hl => .ow0 (by simp [renC, k]; exact h) hl
  | .ifc h => .ifc (h.ren k)
  | .fn h1 h2 => .fn (h1.ren k) (h2.ren k)
theorem RC.ren {π ρ : Nat → Nat} (k : ∀ i, ρ (π i) = i) {C : Cx} {x : AV} {cs : List Value} (h : RC C x cs) : RC (renC C ρ) (x.ren π) cs :=
  match h with
  | .agg h => .agg (h.ren k)
  | .one h h1 => .one (h.ren k) (by rw [AV.ren_one]; exact h1)
theorem RCs.ren {π ρ : Nat → Nat} (k : ∀ i, ρ (π i) = i) {C : Cx} {l : List AV} {cs : List Value} (h : RCs C l cs) : RCs (renC C ρ) (AV.rens π l) cs :=
  match h with
  | .nil => .nil
  | .cons h h2 => .cons (h.ren k) (h2.ren k)
theorem RVs.ren {π ρ : Nat → Nat} (k : ∀ i, ρ (π i) = i) {C : Cx} {l : List AV} {vs : List Value} (h : RVs C l vs) : RVs (renC C ρ) (AV.rens π l) vs :=
  match h with
  | .nil => .nil
  | .cons h h2 => .cons (h.ren k) (h2.ren k)
end
theorem HSat.ren {π ρ : Nat → Nat} (k : ∀ i, ρ (π i) = i) {C : Cx} {id : Nat} {ob : Ob} (hh : HSat C (ρ id) ob) : HSat (renC C ρ) id (ob.ren π) := by
  cases ob with
  | box x =>
    obtain ⟨b, T, cs, t, h1, h2, h3, h4⟩ := hh
    exact ⟨b, T, cs, t, h1, h2, h3, h4.ren k⟩
  | arr sz l =>
    obtain ⟨b, T, cs, t, fr, c1, c2, h1, h2, h3, h4, h5, h6, h7, h8, h9⟩ := hh
    refine ⟨b, T, cs, t, fr, c1, c2, h1, h2, h3, h4, h5, h6.ren k, fun y hy => ?_, h8, h9⟩
    obtain ⟨x, hx, rfl⟩ := AV.rens_mem π hy
    rw [AV.ren_size]; exact h7 x hx
  | fz sz l => exact hh
  | dead => exact hh
theorem Ob.ren_live (π : Nat → Nat) (ob : Ob) : (ob.ren π).live = ob.live := by cases ob <;> rfl
theorem HOk.ren {π ρ : Nat → Nat} (k : ∀ i, ρ (π i) = i) (k' : ∀ i, π (ρ i) = i) {C : Cx} {h : Hp} (hh : HOk C h) : HOk (renC C ρ) (renH π ρ h) where
  at_ id ob hob := by
    simp only [renH, Option.map_eq_some_iff] at hob
    obtain ⟨o, h1, rfl⟩ := hob
    exact (hh.at_ _ _ h1).ren k
  no id hid := by
    simp only [renH, Option.map_eq_none_iff] at hid
    exact hh.no _ hid
  inj i j b T U o q h1 h2 h3 h4 h5 h6 := by
    simp only [renH, Option.map_eq_some_iff] at h1 h3
    obtain ⟨o', h1, rfl⟩ := h1
    obtain ⟨q', h3, rfl⟩ := h3
    rw [Ob.ren_live] at h2 h4
    have := hh.inj _ _ b T U o' q' h1 h2 h3 h4 h5 h6
    rw [← k' i, ← k' j, this]
  apart := hh.apart
  lt := hh.lt
  olt := hh.olt
  gl := hh.gl
theorem Ob.ren_ren {π ρ : Nat → Nat} (k : ∀ i, ρ (π i) = i) (ob : Ob) : (ob.ren π).ren ρ = ob := by
  cases ob <;> simp [Ob.ren, AV.ren_ren k, AV.rens_rens k]
theorem renH_renH {π ρ : Nat → Nat} (k : ∀ i, ρ (π i) = i) (h : Hp) : renH ρ π (renH π ρ h) = h := by
  funext id
  simp only [renH, k, Option.map_map]
  cases h id with
  | none => rfl
  | some o => simp [Ob.ren_ren k]
theorem CallD.ren {π ρ : Nat → Nat} (k : ∀ i, ρ (π i) = i) (k' : ∀ i, π (ρ i) = i) {f : FuncId} {args : List AV} {h h' : Hp} {r : AV} (hc : CallD P f args h r h') : CallD P f (AV.rens π args) (renH π ρ h) (r.ren π) (renH π ρ h') := by
  intro C vs hC hvs
  have h1 : HOk (renC C π) h := by have := hC.ren (π := ρ) (ρ := π) k' k; rwa [renH_renH k] at this
  have h2 : RVs (renC C π) args vs := by have := hvs.ren (π := ρ) (ρ := π) k'; rwa [AV.rens_rens k] at this
  refine Calls.mono (hc (renC C π) vs h1 h2) ?_
  rintro e' W' ⟨v, C', he, hW, ex, ho, hr, hk⟩
  refine ⟨v, renC C' ρ, he, hW, ⟨ex.os, ex.tape, ex.output, ex.size, ex.F, ex.heap, ex.newF, ex.newO, fun id p _ hp => ?_⟩, ho.ren k k', hr.ren k, fun id p hp => ?_⟩
  · exact hk (ρ id) p (by simp only [renC, k']; exact hp)
  · exact hk (ρ id) p (by simp only [renC, k']; exact hp)
theorem Weak.ren {π ρ : Nat → Nat} (k : ∀ i, ρ (π i) = i) (k' : ∀ i, π (ρ i) = i) (hb : ∀ i, 100000 ≤ i → ρ i = i) : Weak ⟨e, h⟩ ⟨fun t => (e t).ren π, renH π ρ h⟩ := fun nt C a s =>
  ⟨renC C ρ, rfl, ⟨rfl, rfl, rfl, Nat.le_refl _, fun _ x => x, fun _ _ _ => rfl, fun _ x => .inl x, fun _ x => .inl x, fun id p hi hp => by simp only [renC, hb id hi]; exact hp⟩, s.defers, s.size, fun t => (s.env t).ren k, s.heap.ren k k'⟩
/-- Two names change places. -/
def sw (a b i : Nat) : Nat := if i = a then b else if i = b then a else i
theorem sw_sw (a b i : Nat) : sw a b (sw a b i) = i := by
  unfold sw
  split
  · split <;> simp_all
  · split <;> simp_all
theorem CallD.sw {f : FuncId} {args : List AV} {h h' : Hp} {r : AV} (a b : Nat) (hc : CallD P f args h r h') : CallD P f (AV.rens (sw a b) args) (renH (sw a b) (sw a b) h) (r.ren (sw a b)) (renH (sw a b) (sw a b) h') := hc.ren (sw_sw a b) (sw_sw a b)
theorem renH_no {π ρ : Nat → Nat} : renH π ρ noHeap = noHeap := rfl
theorem renH_set {a b : Nat} {h : Hp} {id : Nat} {ob : Ob} : renH (sw a b) (sw a b) (setH h id ob) = setH (renH (sw a b) (sw a b) h) (sw a b id) (ob.ren (sw a b)) := by
  funext i
  simp only [renH, setH]
  by_cases hi : i = sw a b id
  · subst hi; rw [sw_sw, if_pos rfl, if_pos rfl]; rfl
  · rw [if_neg hi, if_neg (fun hc => hi (by rw [← hc, sw_sw]))]
attribute [simp] renH_no renH_set AV.ren AV.rens Ob.ren sw

/-- Fewer objects, and temporaries that speak of these alone. -/
theorem Weak.sub {e' : Nat → AV} {h' : Hp} (hsub : ∀ id ob, h' id = some ob → h id = some ob ∧ ob.within h' = true) (hbig : ∀ id, 100000 ≤ id → h' id = none → h id = none) (he : ∀ t, e' t = .any ∨ (e' t = e t ∧ (e t).within h' = true)) : Weak ⟨e, h⟩ ⟨e', h'⟩ := fun nt C a s => by
  refine ⟨subC C h' C.O, rfl, ⟨rfl, rfl, rfl, Nat.le_refl _, fun _ x => x, fun _ _ _ => rfl, fun _ x => .inl x, fun _ x => .inl x, fun id p hi hp => ?_⟩, s.defers, s.size, fun t => ?_, ⟨fun id ob hob => ?_, fun id hid => ?_, fun i j b T U o q h1 h2 h3 h4 h5 h6 => ?_, s.heap.apart, s.heap.lt, s.heap.olt, s.heap.gl⟩⟩
  · simp only [subC]
    split
    · exact hp
    · rename_i hn
      have := s.heap.no id (hbig id hi (by simpa using hn))
      rw [this] at hp; cases hp
  · show RV _ (e' t) _
    rcases he t with h1 | ⟨h1, h2⟩
    · rw [h1]; exact .any _
    · rw [h1]; exact (s.env t).sub h2
  · obtain ⟨h1, h2⟩ := hsub id ob hob
    have hs := s.heap.at_ id ob h1
    have hi : ∀ p, C.ι id = some p → (subC C h' C.O).ι id = some p := fun p hp => by
      have hob : h' id = some ob := hob
      simp only [subC, hob, Option.isSome_some, if_true]; exact hp
    cases ob with
    | box x =>
      obtain ⟨b, T, cs, t, q1, q2, q3, q4⟩ := hs
      exact ⟨b, T, cs, t, hi _ q1, q2, q3, q4.sub h2⟩
    | arr sz l =>
      obtain ⟨b, T, cs, t, fr, c1, c2, q1, q2, q3, q4, q5, q6, q7⟩ := hs
      exact ⟨b, T, cs, t, fr, c1, c2, hi _ q1, q2, q3, q4, q5, q6.sub h2, q7⟩
    | fz sz l =>
      obtain ⟨b, T, c1, q1, q2, q3, q4, q5⟩ := hs
      exact ⟨b, T, c1, hi _ q1, q2, q3, q4, q5⟩
    | dead =>
      obtain ⟨b, T, q1⟩ := hs
      exact ⟨b, T, hi _ q1⟩
  · have hid : h' id = none := hid
    simp [subC, hid]
  · have g : ∀ k p, (subC C h' C.O).ι k = some p → C.ι k = some p := fun k p hk => by
      simp only [subC] at hk
      split at hk
      · exact hk
      · cases hk
    exact s.heap.inj i j b T U o q (hsub i o h1).1 h2 (hsub j q h3).1 h4 (g _ _ h5) (g _ _ h6)

/-- These rows are only read from now on. -/
theorem Weak.frz (xs : List AV) : Weak ⟨e, h⟩ ⟨fun t => (e t).deep (frzA h (AV.rowsOfs xs)), deepH (frzA h (AV.rowsOfs xs))⟩ := fun nt C a s => by
  obtain ⟨C', h1, h2, h3, h4, h5, h6⟩ := frzA_sat (AV.rowsOfs xs) s
  obtain ⟨C2, k1, k2, k3⟩ := Weak.deep (e := e) (h := frzA h (AV.rowsOfs xs)) nt C' a h6
  exact ⟨C2, k1.trans h1, h4.trans k2, k3⟩
end Go.Proofs.YtngeckkebejhiaaDoor.Asl
