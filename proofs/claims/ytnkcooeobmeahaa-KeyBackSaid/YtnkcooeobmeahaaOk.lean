/- What is known of arguments that came in: their bounds. -/
import Derived.Test.YtnkcooeobmeahaaRd
import Derived.Test.YtnkcooeobmeahaaZ0
import Derived.KernelRfl
namespace Go.Proofs.Ytnkcooeobmeahaa.Z
open Go.RowKit Go.Proofs.YtnkcooeobmeahaaW.PrintWords
def ok22 (l : List ByteArray) : Prop := l.length * 16 ≤ 140737488351232 ∧ l.length ≤ maxLen ∧ ∀ x ∈ l, x.size ≤ 140737488351232
theorem rd22 : Rd.Rdg Try.prog 22 (Kd.slice 9 Kd.string) ok22 := Rd.rdg_slice Try.underlying22 (by kernel_rfl) (by kernel_rfl) (Rd.rdg_string Try.underlying9)
end Go.Proofs.Ytnkcooeobmeahaa.Z
