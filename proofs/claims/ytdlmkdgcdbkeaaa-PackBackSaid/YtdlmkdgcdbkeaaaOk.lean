/- What is known of arguments that came in: their bounds. -/
import Derived.Test.YtdlmkdgcdbkeaaaRd
import Derived.Test.YtdlmkdgcdbkeaaaZ0
import Derived.KernelRfl
namespace Go.Proofs.Ytdlmkdgcdbkeaaa.Z
open Go.RowKit Go.Proofs.YtdlmkdgcdbkeaaaW.PrintWords
def ok25 (l : List Int) : Prop := l.length * 1 ≤ 140737488351232 ∧ l.length ≤ maxLen ∧ ∀ x ∈ l, (Lit.int .u8 x).wf = true
theorem rd25 : Rd.Rdg Try.prog 25 (Kd.slice 5 (Kd.int .u8)) ok25 := Rd.rdg_slice Try.underlying25 (by kernel_rfl) (by kernel_rfl) (Rd.rdg_int Try.underlying5)
def ok43 (l : List Int) : Prop := l.length * 8 ≤ 140737488351232 ∧ l.length ≤ maxLen ∧ ∀ x ∈ l, (Lit.int .u64 x).wf = true
theorem rd43 : Rd.Rdg Try.prog 43 (Kd.slice 22 (Kd.int .u64)) ok43 := Rd.rdg_slice Try.underlying43 (by kernel_rfl) (by kernel_rfl) (Rd.rdg_int Try.underlying22)
def ok44 (l : List Int) : Prop := l.length * 8 ≤ 140737488351232 ∧ l.length ≤ maxLen ∧ ∀ x ∈ l, (Lit.int .i64 x).wf = true
theorem rd44 : Rd.Rdg Try.prog 44 (Kd.slice 2 (Kd.int .i64)) ok44 := Rd.rdg_slice Try.underlying44 (by kernel_rfl) (by kernel_rfl) (Rd.rdg_int Try.underlying2)
def ok23 (l : List ByteArray) : Prop := l.length * 16 ≤ 140737488351232 ∧ l.length ≤ maxLen ∧ ∀ x ∈ l, x.size ≤ 140737488351232
theorem rd23 : Rd.Rdg Try.prog 23 (Kd.slice 9 Kd.string) ok23 := Rd.rdg_slice Try.underlying23 (by kernel_rfl) (by kernel_rfl) (Rd.rdg_string Try.underlying9)
end Go.Proofs.Ytdlmkdgcdbkeaaa.Z
