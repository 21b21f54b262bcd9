/- The plain law: values of any number, truth and text. -/
import Derived.Test.YtekiaempcgjejaaZ13
import Derived.Test.YtekiaempcgjejaaVlive
namespace Go.Proofs.Ytekiaempcgjejaa.Pure
open Go.RowKit Go.Proofs.Ytekiaempcgjejaa.Z Go.Proofs.YtekiaempcgjejaaW.PrintWords Go.Proofs.YtekiaempcgjejaaW.PrintLast Go.Proofs.YtekiaempcgjejaaW.PrintMore Go.Proofs.Ytekiaempcgjejaa.PB Go.Proofs.Ytekiaempcgjejaa.V4
set_option linter.unusedVariables false
set_option linter.unusedSimpArgs false
theorem ValueMakes : ∀ (x0 : Int) (x1 : Bool) (x2 : ByteArray), (Lit.int .i64 x0).wf = true → x2.size ≤ 140737488351232 → ∃ k, conductorlaw04_ValueMakes.f k x0 x1 x2 = some true := by
  intro n b s hn hs
  apply Ev.rounds
  have live : ∀ c, c = true → Ev (fun k => conductorlaw04_ValueMakes.j0 k n b s c) true := by
    rintro c rfl
    refine ev_step (fun k => (conductorlaw04_live.f k).bind fun t => some t) (fun k => by simp only [conductorlaw04_ValueMakes.j0]; rw [if_pos trivial]) ?_
    exact Ev.bind ev_live (Ev.now _)
  unfold conductorlaw04_ValueMakes.f
  refine Ev.bind ev_live ?_
  simp only [if_true]
  by_cases h1 : (s.size : Int) > 1000
  · exact live _ (by simp [h1])
  · rw [show decide ((s.size : Int) > 1000) = false by simp; omega]
    refine ev_none (fun k => ?_)
    have e : (⟨#[]⟩ : ByteArray).toList = [] := toList_nil.2 rfl
    cases b <;> simp [conductorlaw04_ValueMakes.j0, value_Int.f, value_Bool.f, value_Text.f, e]
end Go.Proofs.Ytekiaempcgjejaa.Pure
