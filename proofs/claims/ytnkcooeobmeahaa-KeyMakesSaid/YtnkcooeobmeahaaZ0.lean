/- Each Go function that the statements reach, as a plain Lean function, and a proof that the call comes to what it says. -/
import Derived.Test.YtnkcooeobmeahaaProg
import Derived.Test.YtnkcooeobmeahaaStr
import Derived.WalkSpells
import Derived.Laws.NewBlocks
import Derived.Below
import Derived.Deep.Draws
import Derived.Deep.AppendLies
import Derived.Maps.AppendAt
import Derived.OwnWalk
import Derived.Laws.BytesArg
import Derived.Laws.MakeOwn
import Derived.Laws.OwnMore
import Derived.Deep.OwnRows
import Derived.Tactics
import Derived.Lib.ConvBytes
import Derived.Laws.Slices
import Derived.WalkKit
import Derived.KernelRfl
import Derived.RowKit3
import Derived.Deep.LoopGhost
import Derived.Deep.QuietTactic
import Derived.BigQuiet
import Derived.WideLaws
import Derived.Deep.DeepCutAuto
import Derived.Deep.CutBlock
import Derived.Deep.RegionHeld3
import Derived.Laws.Rows
import Derived.Lib.AppendStr
import Derived.ArgAppend
import Derived.Laws.IdiomCopy
import Derived.OrdersHeld
import Derived.Laws.BitsLemmas
import Derived.RowKit
import Derived.Test.YtnkcooeobmeahaaWWords
import Derived.Test.YtnkcooeobmeahaaWLast
import Derived.Test.YtnkcooeobmeahaaWTab
import Derived.Test.YtnkcooeobmeahaaWFour
import Derived.Test.YtnkcooeobmeahaaWQPut
import Derived.Test.YtnkcooeobmeahaaWApart
import Derived.Test.YtnkcooeobmeahaaWArr
import Derived.Test.YtnkcooeobmeahaaWZeros
import Derived.Test.YtnkcooeobmeahaaWFoot
import Derived.Test.YtnkcooeobmeahaaWKept
import Derived.Test.YtnkcooeobmeahaaWShare
import Derived.Test.YtnkcooeobmeahaaWN
import Derived.Test.YtnkcooeobmeahaaWFootNe
import Derived.Test.YtnkcooeobmeahaaWAt
import Derived.Test.YtnkcooeobmeahaaWEqStruct
import Derived.Test.YtnkcooeobmeahaaWRepsOne
import Derived.Test.YtnkcooeobmeahaaWInv
import Derived.Test.YtnkcooeobmeahaaWInvWords
import Derived.Test.YtnkcooeobmeahaaWGuard
import Derived.Test.YtnkcooeobmeahaaWNEv
import Derived.Test.YtnkcooeobmeahaaWMore
namespace Go.Proofs.Ytnkcooeobmeahaa.Z
open Go.RowKit Go.Proofs.YtnkcooeobmeahaaW.PrintWords Go.Proofs.YtnkcooeobmeahaaW.PrintLast Go.Proofs.YtnkcooeobmeahaaW.PrintMore
attribute [local go_sem] max2_int min2_int max_two min_two max_three min_three max_four min_four   -- for this text's walks alone
attribute [local go_sem] Go.Proofs.Ytnkcooeobmeahaa.Str.gtr_str Go.Proofs.Ytnkcooeobmeahaa.Str.leq_str Go.Proofs.Ytnkcooeobmeahaa.Str.geq_str
set_option linter.unusedVariables false
set_option linter.unusedSimpArgs false



def errW : Option Int → Value
  | none => .nilIface
  | some c => .iface 0 (.int .i64 c)
theorem errW_none : errW none = .nilIface := rfl
theorem errW_some (c : Int) : errW (some c) = .iface 0 (.int .i64 c) := rfl

theorem info5 : (Try.prog.info? 5).map (fun i => (i.zero, i.size, i.bytes)) = some (some (.int .u8 0), 1, 1) := by kernel_rfl
theorem info9 : (Try.prog.info? 9).map (fun i => (i.zero, i.size, i.bytes)) = some (some (.string ⟨#[]⟩), 1, 16) := by kernel_rfl
-- the values' own types

end Go.Proofs.Ytnkcooeobmeahaa.Z
