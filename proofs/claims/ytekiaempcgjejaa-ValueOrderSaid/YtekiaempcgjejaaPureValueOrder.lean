/- The plain law: Compare is a total order. -/
import Derived.Test.YtekiaempcgjejaaZ16
import Derived.Test.YtekiaempcgjejaaVlive
namespace Go.Proofs.Ytekiaempcgjejaa.Pure
open Go.RowKit Go.Proofs.Ytekiaempcgjejaa.Z Go.Proofs.YtekiaempcgjejaaW.PrintWords Go.Proofs.YtekiaempcgjejaaW.PrintLast Go.Proofs.YtekiaempcgjejaaW.PrintMore Go.Proofs.Ytekiaempcgjejaa.PB Go.Proofs.Ytekiaempcgjejaa.V4
set_option linter.unusedVariables false
set_option linter.unusedSimpArgs false
theorem ValueOrder : ∀ (x0 : S24) (x1 : S24) (x2 : S24), ok24 x0 → ok24 x1 → ok24 x2 → ∃ k, conductorlaw04_ValueOrder.f k x0.f0 x0.f1 x0.f2 x1.f0 x1.f1 x1.f2 x2.f0 x2.f1 x2.f2 = some true := by
  intro a b c _ _ _
  obtain ⟨a1, a2, a3⟩ := a
  obtain ⟨b1, b2, b3⟩ := b
  obtain ⟨c1, c2, c3⟩ := c
  apply Ev.rounds
  unfold conductorlaw04_ValueOrder.f
  refine Ev.bind ev_live ?_
  simp only [if_true, compare_f, Option.bind_some, beq_toList]
  obtain ⟨A, hA⟩ : ∃ A : TV, (a1, a2, bytesOf a3) = A := ⟨_, rfl⟩
  obtain ⟨B, hB⟩ : ∃ B : TV, (b1, b2, bytesOf b3) = B := ⟨_, rfl⟩
  obtain ⟨C, hC⟩ : ∃ C : TV, (c1, c2, bytesOf c3) = C := ⟨_, rfl⟩
  have hab : (a1 == b1 && (a2 == b2 && (bytesOf a3 == bytesOf b3))) = decide (A = B) := by
    rw [← hA, ← hB, Bool.eq_iff_iff]; simp
  rw [hab, hA, hB, hC]
  have x1 := cmpV_cases A B
  have x2 := cmpV_cases B A
  have x3 := cmpV_cases B C
  have x4 := cmpV_cases A C
  have w0 : ∀ z : Int, -1 ≤ z → z ≤ 1 → wrap64 (-z) = -z := fun z h h' => w64 (by omega) (by omega)
  have fin : ∀ x y : Int, x = cmpV A B → y = cmpV B C → Ev (fun k => conductorlaw04_ValueOrder.j0 k x y false a1 a2 a3 c1 c2 c3) true := by
    intro x y hx hy
    refine ev_none (fun k => ?_)
    simp only [conductorlaw04_ValueOrder.j0, compare_f, Option.bind_some, hA, hC]
    rw [if_neg (by decide)]
    by_cases h1 : x > 0
    · rw [if_pos h1]
    · rw [if_neg h1]
      by_cases h2 : y > 0
      · rw [if_pos h2]
      · rw [if_neg h2]
        rcases x1 with ⟨e1, r1⟩ | ⟨e1, r1⟩ | ⟨e1, r1⟩ <;> rcases x3 with ⟨e3, r3⟩ | ⟨e3, r3⟩ | ⟨e3, r3⟩ <;> rw [e1] at hx <;> rw [e3] at hy <;> subst hx <;> subst hy
        all_goals first | omega | skip
        · have e4 : cmpV A C = 0 := by
            rcases x4 with ⟨e4, _⟩ | ⟨_, r4⟩ | ⟨_, r4⟩
            · exact e4
            · rw [r1, r3] at r4; exact absurd r4 (ltV_irr _)
            · rw [r1, r3] at r4; exact absurd r4 (ltV_irr _)
          rw [e4]; simp [wrap64]
        · have e4 : cmpV A C = -1 := by rw [r1, e3]
          rw [e4]; simp [wrap64]
        · have e4 : cmpV A C = -1 := by rw [← r3, e1]
          rw [e4]; simp [wrap64]
        · have r5 := ltV_trans r1 r3
          have e4 : cmpV A C = -1 := by
            rcases x4 with ⟨_, r4⟩ | ⟨e4, _⟩ | ⟨_, r4⟩
            · rw [r4] at r5; exact absurd r5 (ltV_irr _)
            · exact e4
            · exact absurd (ltV_trans r5 r4) (ltV_irr _)
          rw [e4]; simp [wrap64]
  rcases x1 with ⟨e1, r1⟩ | ⟨e1, r1⟩ | ⟨e1, r1⟩
  · have e2 : cmpV B A = 0 := by rw [← r1] at e1 ⊢; exact e1
    have hd : decide (A = B) = true := by simpa using r1
    simp only [e1, e2, hd]
    simp only [w0 0 (by omega) (by omega)]
    have := fin 0 _ e1.symm rfl
    exact this
  · have hne : ¬ A = B := fun h => by rw [h] at r1; exact ltV_irr _ r1
    have e2 : cmpV B A = 1 := by
      rcases x2 with ⟨_, h⟩ | ⟨_, h⟩ | ⟨e, _⟩
      · exact absurd h.symm hne
      · exact absurd (ltV_trans r1 h) (ltV_irr _)
      · exact e
    have hd : decide (A = B) = false := by simpa using hne
    simp only [e1, e2, hd]
    simp only [w0 1 (by omega) (by omega)]
    exact fin (-1) _ e1.symm rfl
  · have hne : ¬ A = B := fun h => by rw [h] at r1; exact ltV_irr _ r1
    have e2 : cmpV B A = -1 := by
      rcases x2 with ⟨_, h⟩ | ⟨e, _⟩ | ⟨_, h⟩
      · exact absurd h.symm hne
      · exact e
      · exact absurd (ltV_trans r1 h) (ltV_irr _)
    have hd : decide (A = B) = false := by simpa using hne
    simp only [e1, e2, hd]
    simp only [w0 (-1) (by omega) (by omega)]
    exact fin 1 _ e1.symm rfl
end Go.Proofs.Ytekiaempcgjejaa.Pure
