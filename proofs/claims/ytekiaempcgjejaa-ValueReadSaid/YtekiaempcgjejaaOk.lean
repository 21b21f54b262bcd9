/- What is known of arguments that came in: their bounds. -/
import Derived.Test.YtekiaempcgjejaaRd
import Derived.Test.YtekiaempcgjejaaZ0
import Derived.KernelRfl
namespace Go.Proofs.Ytekiaempcgjejaa.Z
open Go.RowKit Go.Proofs.YtekiaempcgjejaaW.PrintWords
def ok24 (x : S24) : Prop := (Lit.int .i64 x.f0).wf = true ∧ (Lit.int .i64 x.f1).wf = true ∧ x.f2.size ≤ 140737488351232
theorem rd24 : Rd.Rdg Try.prog 24 k24 ok24 := Rd.rdg_imp (Rd.rdg_struct (g := fun p => (⟨p.1, p.2.1, p.2.2⟩ : S24)) Try.underlying24 rfl (by kernel_rfl) (Rd.rdf_cons (off := 0) (by kernel_rfl) (Rd.rdg_int Try.underlying3) (Rd.rdf_cons (off := 1) (by kernel_rfl) (Rd.rdg_int Try.underlying2) (Rd.rdf_one (off := 2) (by kernel_rfl) (Rd.rdg_string Try.underlying9)))) (fun _ => rfl)) (fun _ h => h)
end Go.Proofs.Ytekiaempcgjejaa.Z
