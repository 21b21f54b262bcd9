/- The chapter's examples are so; how values compare. -/
import Derived.Test.YtekiaempcgjejaaZ12
import Derived.Test.YtekiaempcgjejaaZ15
import Derived.Test.YtekiaempcgjejaaPB
import Derived.Test.YtekiaempcgjejaaOk
import Derived.KernelRfl
namespace Go.Proofs.Ytekiaempcgjejaa.V4
open Go.RowKit Go.Proofs.Ytekiaempcgjejaa.Z Go.Proofs.YtekiaempcgjejaaW.PrintWords Go.Proofs.YtekiaempcgjejaaW.PrintLast Go.Proofs.YtekiaempcgjejaaW.PrintMore Go.Proofs.Ytekiaempcgjejaa.PB
set_option linter.unusedVariables false
set_option linter.unusedSimpArgs false
theorem live_at : conductorlaw04_live.f 60 = some true := by kernel_rfl
theorem ev_live : Ev (fun k => conductorlaw04_live.f k) true := Ev.of conductorlaw04_live.mono live_at
/-- A value as it is compared. -/
abbrev TV := Int × Int × List Int
def ltV (a b : TV) : Prop := a.1 < b.1 ∨ a.1 = b.1 ∧ (a.2.1 < b.2.1 ∨ a.2.1 = b.2.1 ∧ ltb a.2.2 b.2.2 = true)
theorem ltV_trans {a b c : TV} (h : ltV a b) (h' : ltV b c) : ltV a c := by
  unfold ltV at *
  rcases h with h | ⟨h1, h⟩ <;> rcases h' with h' | ⟨h2, h'⟩
  · exact .inl (by omega)
  · exact .inl (by omega)
  · exact .inl (by omega)
  · refine .inr ⟨by omega, ?_⟩
    rcases h with h | ⟨h3, h⟩ <;> rcases h' with h' | ⟨h4, h'⟩
    · exact .inl (by omega)
    · exact .inl (by omega)
    · exact .inl (by omega)
    · exact .inr ⟨by omega, ltb_trans _ _ _ h h'⟩
theorem ltV_irr (a : TV) : ¬ ltV a a := by
  unfold ltV; rw [ltb_irr]; simp
def cmpV (a b : TV) : Int := if a.1 = b.1 then (if a.2.1 = b.2.1 then (if a.2.2 = b.2.2 then 0 else if ltb a.2.2 b.2.2 = true then -1 else 1) else if a.2.1 < b.2.1 then -1 else 1) else if a.1 < b.1 then -1 else 1
theorem cmpV_cases (a b : TV) : (cmpV a b = 0 ∧ a = b) ∨ (cmpV a b = -1 ∧ ltV a b) ∨ (cmpV a b = 1 ∧ ltV b a) := by
  obtain ⟨a1, a2, a3⟩ := a
  obtain ⟨b1, b2, b3⟩ := b
  simp only [cmpV, ltV]
  by_cases h1 : a1 = b1
  · subst h1
    rw [if_pos rfl]
    by_cases h2 : a2 = b2
    · subst h2
      rw [if_pos rfl]
      by_cases h3 : a3 = b3
      · subst h3; simp
      · rw [if_neg h3]
        by_cases h4 : ltb a3 b3 = true
        · rw [if_pos h4]; simp [h4]
        · rw [if_neg h4]
          have : ltb b3 a3 = true := by
            cases h5 : ltb b3 a3 with
            | true => rfl
            | false => exact absurd (ltb_total _ _ (by simpa using h4) h5) h3
          simp [this]
    · rw [if_neg h2]
      by_cases h4 : a2 < b2
      · rw [if_pos h4]; simp [h4]
      · rw [if_neg h4]
        have : b2 < a2 := by omega
        simp [this]
  · rw [if_neg h1]
    by_cases h4 : a1 < b1
    · rw [if_pos h4]; simp [h4]
    · rw [if_neg h4]
      have : b1 < a1 := by omega
      simp [this]
theorem compare_f (k1 n1 : Int) (s1 : ByteArray) (k2 n2 : Int) (s2 : ByteArray) : value_Compare.f k1 n1 s1 k2 n2 s2 = some (cmpV (k1, n1, bytesOf s1) (k2, n2, bytesOf s2)) := by
  unfold value_Compare.f value_sign.f cmpV
  simp only [toList_eq_iff, less_bytes]
  by_cases h1 : k1 = k2
  · rw [if_pos h1, if_pos h1]
    by_cases h2 : n1 = n2
    · rw [if_pos h2, if_pos h2]
      by_cases h3 : bytesOf s1 = bytesOf s2
      · rw [if_pos h3, if_pos h3]
      · rw [if_neg h3, if_neg h3]
        by_cases h4 : ltb (bytesOf s1) (bytesOf s2) = true
        · rw [if_pos h4, if_pos h4]; rfl
        · rw [if_neg h4, if_neg h4]; rfl
    · rw [if_neg h2, if_neg h2]
      by_cases h4 : n1 < n2
      · rw [if_pos (by simpa using h4), if_pos h4]; rfl
      · rw [if_neg (by simpa using h4), if_neg h4]; rfl
  · rw [if_neg h1, if_neg h1]
    by_cases h4 : k1 < k2
    · rw [if_pos (by simpa using h4), if_pos h4]; rfl
    · rw [if_neg (by simpa using h4), if_neg h4]; rfl
end Go.Proofs.Ytekiaempcgjejaa.V4
