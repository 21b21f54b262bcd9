/- The chapter's examples are so, and which parts are few and short. -/
import Derived.Test.YtnkcooeobmeahaaZ4
import Derived.Test.YtnkcooeobmeahaaPB
import Derived.KernelRfl
namespace Go.Proofs.Ytnkcooeobmeahaa.K3
open Go.RowKit Go.Proofs.Ytnkcooeobmeahaa.Z Go.Proofs.YtnkcooeobmeahaaW.PrintWords Go.Proofs.YtnkcooeobmeahaaW.PrintLast Go.Proofs.YtnkcooeobmeahaaW.PrintMore Go.Proofs.Ytnkcooeobmeahaa.PB
theorem live_at : conductorlaw03_live.f 40 = some true := by kernel_rfl
theorem ev_live : Ev (fun k => conductorlaw03_live.f k) true := Ev.of conductorlaw03_live.mono live_at
end Go.Proofs.Ytnkcooeobmeahaa.K3
