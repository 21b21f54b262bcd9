/- Calls. -/
import Derived.Test.YtngeckkebejhiaaDoorAI
namespace Go.Proofs.YtngeckkebejhiaaDoor.Asl
open Go Go.RowKit
set_option linter.unusedVariables false
set_option linter.unusedSimpArgs false
variable {P : Program} {nt : Nat} {C : Cx} {σ : St} {a : Act} {o : Oper}

mutual
/-- Does a value lead to no object? -/
def AV.noid : AV → Bool
  | .ptr _ _ | .ep _ _ _ _ | .ow _ _ _ _ | .any => false
  | .agg l => AV.noids l
  | .tup l => AV.noids l
  | .ifc _ x => x.noid
  | .fn _ l m => AV.noids l && AV.noids m
  | _ => true
def AV.noids : List AV → Bool
  | [] => true
  | x :: l => x.noid && AV.noids l
end
theorem AV.noids_iff : ∀ {l : List AV}, AV.noids l = true ↔ ∀ x ∈ l, x.noid = true
  | [] => by simp [AV.noids]
  | x :: l => by simp [AV.noids, AV.noids_iff]
mutual
theorem RV.bare {C : Cx} {x : AV} {v : Value} (h : RV C x v) (hn : x.noid = true) : RV C.bare x v :=
  match h with
  | .raw v => .raw v
  | .agg h => .agg (h.bare (by simpa [AV.noid] using hn))
  | .tup h => .tup (h.bare (by simpa [AV.noid] using hn))
  | .sl0 => .sl0
  | .sl h hs hF hr hc => .sl h hs hF hr hc
  | .fp h hF hr => .fp h hF hr
  | .ifc h => .ifc (h.bare (by simpa [AV.noid] using hn))
  | .fn h1 h2 => by
    simp [AV.noid] at hn
    exact .fn (h1.bare hn.1) (h2.bare hn.2)
  | .any _ | .ptr _ | .ep _ | .ow .. | .ow0 .. => by simp [AV.noid] at hn
theorem RC.bare {C : Cx} {x : AV} {cs : List Value} (h : RC C x cs) (hn : x.noid = true) : RC C.bare x cs :=
  match h with
  | .agg h => .agg (h.bare (by simpa [AV.noid] using hn))
  | .one h h1 => .one (h.bare hn) h1
theorem RCs.bare {C : Cx} {l : List AV} {cs : List Value} (h : RCs C l cs) (hn : AV.noids l = true) : RCs C.bare l cs :=
  match h with
  | .nil => .nil
  | .cons h h2 => by
    simp [AV.noids] at hn
    exact .cons (h.bare hn.1) (h2.bare hn.2)
theorem RVs.bare {C : Cx} {l : List AV} {vs : List Value} (h : RVs C l vs) (hn : AV.noids l = true) : RVs C.bare l vs :=
  match h with
  | .nil => .nil
  | .cons h h2 => by
    simp [AV.noids] at hn
    exact .cons (h.bare hn.1) (h2.bare hn.2)
end

/-- A function that can be called. -/
def isFn (P : Program) (f : FuncId) : Bool := match P.funcs[f]? with
  | some fn => fn.body.isSome && !(fn.name == "runtime.NumGoroutine")
  | none => false
theorem callFunc_run {f : FuncId} (h : isFn P f = true) (args : Array Value) (w : World) : (callFunc f args).run P w = .ok (.enter f args) w := by
  unfold isFn at h
  split at h
  · rename_i fn hf
    simp only [Bool.and_eq_true, Bool.not_eq_true'] at h
    obtain ⟨h1, h2⟩ := h
    have h3 : fn.body.isNone = false := by
      cases hb : fn.body with
      | none => rw [hb] at h1; simp at h1
      | some b => rfl
    simp [callFunc, program, Sem.run, hf, h2, h3]
    rw [if_neg (by simpa using h2), if_neg (by intro hb; rw [hb] at h1; cases h1)]
  · cases h
/-- What is called: a function, what it is given ahead, and what it has caught. -/
def calleeOf : AV → Option (FuncId × List AV × List AV)
  | .raw (.func (.func f) m n) => if m.size = 0 ∧ n.size = 0 then some (f, [], []) else none
  | .fn (.func f) first cap => some (f, first, cap)
  | _ => none
theorem call_run (s : Sat nt C σ a) {c : Call} {x : Operand} (ho : o.op = .call c) (hc : c.callee = .value x) {f : FuncId} {first cap : List AV} (hx : calleeOf (evE σ.env x) = some (f, first, cap)) (hf : isFn P f = true) :
    ∃ vs, (execOp a.eval o).run P C.W = .ok (.enter f vs.toArray) C.W ∧ RVs C (first ++ c.args.toList.map (evE σ.env) ++ cap) vs := by
  have hargs := s.evs c.args.toList
  have hv := s.ev x
  have key : ∀ (fs cs : List Value), a.eval x = .func (.func f) fs.toArray cs.toArray → RVs C first fs → RVs C cap cs → ∃ vs, (execOp a.eval o).run P C.W = .ok (.enter f vs.toArray) C.W ∧ RVs C (first ++ c.args.toList.map (evE σ.env) ++ cap) vs := by
    intro fs cs e h1 h2
    refine ⟨fs ++ c.args.toList.map a.eval ++ cs, ?_, (h1.append hargs).append h2⟩
    have hargs2 : c.args.map a.eval = (c.args.toList.map a.eval).toArray := by rw [← Array.toList_map]
    simp only [execOp, ho, resolve, hc, Deferred.ofValue, e, Sem.run_bind, hargs2]
    simp only [Sem.run_pure, Result.andThen_ok, invoke]
    rw [callFunc_run hf]
    simp
  unfold calleeOf at hx
  split at hx
  · rename_i g m n e
    split at hx
    · rename_i h0
      simp only [Option.some.injEq, Prod.mk.injEq] at hx
      obtain ⟨rfl, rfl, rfl⟩ := hx
      have e1 : m = #[] := Array.eq_empty_of_size_eq_zero h0.1
      have e2 : n = #[] := Array.eq_empty_of_size_eq_zero h0.2
      subst e1; subst e2
      exact key [] [] (s.raw e) .nil .nil
    · cases hx
  · rename_i g fi ca e
    simp only [Option.some.injEq, Prod.mk.injEq] at hx
    obtain ⟨rfl, rfl, rfl⟩ := hx
    rw [e] at hv
    generalize hq : a.eval x = v at hv
    cases hv with
    | fn h1 h2 => exact key _ _ hq h1 h2
  · cases hx

end Go.Proofs.YtngeckkebejhiaaDoor.Asl
