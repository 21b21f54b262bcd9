/- Rows that are nil, told as empty. -/
import Derived.Test.YtngeckkebejhiaaDoorAY
namespace Go.Proofs.YtngeckkebejhiaaDoor.Asl
open Go Go.RowKit
set_option linter.unusedVariables false
set_option linter.unusedSimpArgs false
variable {P : Program} {e : Nat → AV} {h : Hp}
theorem RV.nilsl {C : Cx} {sz : Nat} {v : Value} (k : RV C (AV.raw (.slice none 0 0)) v) : RV C (.sl sz []) v := by
  rw [RV.raw_eq k]; exact .sl0
theorem weak_nil0 {t sz : Nat} (ht : e t = .raw (.slice none 0 0)) : Weak ⟨e, h⟩ ⟨putE e (some t) (.sl sz []), h⟩ := by
  intro nt C a s
  refine ⟨C, rfl, .refl C, s.defers, s.size, fun k => ?_, s.heap⟩
  have := s.env k
  by_cases hk : k = t
  · subst hk
    simp only [ht] at this
    show RV C (putE e (some k) (.sl sz []) k) _
    rw [show putE e (some k) (.sl sz []) k = .sl sz [] by simp]
    exact this.nilsl
  · show RV C (putE e (some t) (.sl sz []) k) _
    rw [show putE e (some t) (.sl sz []) k = e k by simp [hk]]
    exact this
theorem CallD.nil1 {f : FuncId} {sz : Nat} {r : AV} {g g' : Hp} (hc : CallD P f [.sl sz []] g r g') : CallD P f [.raw (.slice none 0 0)] g r g' := by
  intro C vs hh hv
  refine hc C vs hh ?_
  cases hv with
  | cons a b => exact .cons a.nilsl b
end Go.Proofs.YtngeckkebejhiaaDoor.Asl
