/- The plain law: which of two values is ahead: by kind, then by number, then by text. -/
import Derived.Test.YtekiaempcgjejaaZ18
import Derived.Test.YtekiaempcgjejaaVlive
namespace Go.Proofs.Ytekiaempcgjejaa.Pure
open Go.RowKit Go.Proofs.Ytekiaempcgjejaa.Z Go.Proofs.YtekiaempcgjejaaW.PrintWords Go.Proofs.YtekiaempcgjejaaW.PrintLast Go.Proofs.YtekiaempcgjejaaW.PrintMore Go.Proofs.Ytekiaempcgjejaa.PB Go.Proofs.Ytekiaempcgjejaa.V4
set_option linter.unusedVariables false
set_option linter.unusedSimpArgs false
theorem ev_rcompare (k1 n1 : Int) (s1 : ByteArray) (k2 n2 : Int) (s2 : ByteArray) : Ev (fun k => conductorref04_Compare.f k k1 n1 s1 k2 n2 s2) (cmpV (k1, n1, bytesOf s1) (k2, n2, bytesOf s2)) := by
  unfold conductorref04_Compare.f
  simp only [beq_toList]
  by_cases h0 : (k1 == k2 && (n1 == n2 && (bytesOf s1 == bytesOf s2))) = true
  · simp only [if_pos h0]
    refine ev_eq (Ev.now 0) ?_
    simp only [Bool.and_eq_true, beq_iff_eq] at h0
    simp [cmpV, h0]
  · simp only [if_neg h0]
    by_cases h1 : k1 < k2
    · simp only [if_pos h1]
      refine ev_eq (Ev.now (-1)) ?_
      have : ¬ k1 = k2 := by omega
      simp [cmpV, this, h1]
    · simp only [if_neg h1]
      by_cases h2 : k1 = k2
      · simp only [if_pos h2]
        refine ev_none (fun k => ?_)
        simp only [conductorref04_Compare.j0, less_bytes]
        by_cases h3 : n1 < n2
        · have h4 : ¬ n1 = n2 := by omega
          rw [if_pos (by simpa using h3)]; simp [cmpV, h2, h4, h3]
        · rw [if_neg (by simpa using h3), if_pos h2]
          by_cases h4 : n1 = n2
          · rw [if_pos h4]
            have h5 : ¬ bytesOf s1 = bytesOf s2 := by
              intro h5
              exact h0 (by simp [h2, h4, h5])
            by_cases h6 : ltb (bytesOf s1) (bytesOf s2) = true
            · rw [if_pos h6]; simp [cmpV, h2, h4, h5, h6]
            · rw [if_neg h6]; simp [cmpV, h2, h4, h5, h6]
          · rw [if_neg h4]; simp [cmpV, h2, h4, h3]
      · simp only [if_neg h2]
        refine ev_none (fun k => ?_)
        simp only [conductorref04_Compare.j0]
        rw [if_neg (by decide), if_neg h2]
        simp [cmpV, h2, h1]
theorem ValueCompares : ∀ (x0 : S24) (x1 : S24), ok24 x0 → ok24 x1 → ∃ k, conductorlaw04_ValueCompares.f k x0.f0 x0.f1 x0.f2 x1.f0 x1.f1 x1.f2 = some true := by
  intro a b ha hb
  apply Ev.rounds
  unfold conductorlaw04_ValueCompares.f
  refine Ev.bind ev_live ?_
  simp only [if_true, compare_f, Option.bind_some]
  refine ev_eq (Ev.bind (ev_rcompare _ _ _ _ _ _) (Ev.now _)) ?_
  simp
end Go.Proofs.Ytekiaempcgjejaa.Pure
