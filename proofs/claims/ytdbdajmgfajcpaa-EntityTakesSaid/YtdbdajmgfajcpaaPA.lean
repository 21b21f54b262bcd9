/- One thing that is read, by the program and by the document. -/
import Derived.Test.YtdbdajmgfajcpaaP9
namespace Go.Proofs.Ytdbdajmgfajcpaa.Asl
open Go Go.RowKit
set_option linter.unusedVariables false
set_option linter.unusedSimpArgs false
set_option maxRecDepth 100000
set_option maxHeartbeats 4000000
def toU (n : Int) : Int := if n < 0 then n + 18446744073709551616 else n
/-- What is read: a number, a text and an error; how many bytes; the error after it. -/
def rd1 (d n : Int) (l : List Int) (e : Int) : (Int × ByteArray × Int) × Nat × Int :=
  if d = 0 then ((if e ≠ 0 then 0 else (dU l (toU n)).1, ⟨#[]⟩, 0), nxA 0 e (dU l (toU n)), nxE e (dU l (toU n)))
  else if d = 1 then ((toU (if e ≠ 0 then 0 else (dI l).1), ⟨#[]⟩, 0), nxA 0 e (dI l), nxE e (dI l))
  else if d = 2 then ((if e ≠ 0 then 0 else (dB l).1, ⟨#[]⟩, 0), nxA 0 e (dB l), nxE e (dB l))
  else if d = 3 then ((0, if e ≠ 0 then ⟨#[]⟩ else strOfNums (dT l n).1, 0), nxA 0 e (dT l n), nxE e (dT l n))
  else ((0, ⟨#[]⟩, endE l e), 0, e)
theorem nxA_add {α : Type} (a : Nat) (e : Int) (d : α × Nat × Int) : nxA a e d = a + nxA 0 e d := by unfold nxA; split <;> omega
theorem toU_wrap {n : Int} (h0 : -9223372036854775808 ≤ n) (h1 : n < 9223372036854775808) : IntKind.wrap .u64 n = toU n := by
  unfold toU
  rw [wrap_u64']
  split <;> omega
theorem dU_le {l : List Int} (hB : IsB l) (most : Int) : (dU l most).2.1 ≤ l.length := by
  have ho := dec_ok0 hB
  unfold dU
  repeat' split
  all_goals simp <;> omega
theorem dT_le {l : List Int} (hB : IsB l) (most : Int) : (dT l most).2.1 ≤ l.length := by
  have ho := dec_ok0 hB
  unfold dT
  repeat' split
  all_goals simp <;> omega
theorem nxA_le {α : Type} (e : Int) (d : α × Nat × Int) {n : Nat} (h : d.2.1 ≤ n) : nxA 0 e d ≤ n := by unfold nxA; split <;> omega
theorem rd1_le {l : List Int} (hB : IsB l) (d n e : Int) : (rd1 d n l e).2.1 ≤ l.length := by
  unfold rd1
  by_cases h0 : d = 0
  · rw [if_pos h0]; exact nxA_le _ _ (dU_le hB _)
  rw [if_neg h0]
  by_cases h1 : d = 1
  · rw [if_pos h1]; exact nxA_le _ _ (dU_le hB _)
  rw [if_neg h1]
  by_cases h2 : d = 2
  · rw [if_pos h2]; exact nxA_le _ _ (by cases l <;> simp [dB])
  rw [if_neg h2]
  by_cases h3 : d = 3
  · rw [if_pos h3]; exact nxA_le _ _ (dT_le hB _)
  rw [if_neg h3]; exact Nat.zero_le _
abbrev opAV (o : Int × Int) : AV := .agg [.raw (.int .i64 o.1), .raw (.int .i64 o.2)]
abbrev triAV (t : Int × ByteArray × Int) : AV := .tup [.raw (.int .u64 t.1), .raw (.string t.2.1), .raw (.int .i64 t.2.2)]
theorem dI_range {l : List Int} (hB : IsB l) : -9223372036854775808 ≤ (dI l).1 ∧ (dI l).1 < 9223372036854775808 := by
  have hr : 0 ≤ (dU l 18446744073709551615).1 ∧ (dU l 18446744073709551615).1 < 18446744073709551616 := by
    have ho := dec_ok0 hB
    unfold dU
    repeat' split
    all_goals simp <;> omega
  show -9223372036854775808 ≤ unz (dU l 18446744073709551615).1 ∧ unz (dU l 18446744073709551615).1 < 9223372036854775808
  unfold unz
  split <;> omega
theorem dB_range {l : List Int} (hB : IsB l) : 0 ≤ (dB l).1 ∧ (dB l).1 ≤ 255 := by
  cases l with
  | nil => exact ⟨Int.le_refl _, by decide⟩
  | cons c l => exact (isB_cons.1 hB).1
end Go.Proofs.Ytdbdajmgfajcpaa.Asl
