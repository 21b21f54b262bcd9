/-
  NARROWER THAN 'FOR EVERY INPUT', by the rows' own cells (each row's printed sentence says how): EvalOnes: laid · EvalTwos: laid · EvalParts: laid · EvalNumbers: laid · EvalOf: laid · EvalAsks: laid · EvalFuel: laid · EvalOther: laid.
  DERIVED. THE GIVEN ROWS OF THIS SEAT. 8 by the template 'for every input the law returns true; each argument reads behind the call as it read before'; 0 by the template 'total and deterministic' (their statements: YtjbbnollidcagaaDoorTotals.lean).
  GIVEN WITH THE SEED: the statements are not yours to turn. If you find one false, say at which input.
  Laid BY PROGRAM, IN A SANDBOX (cutbox-rows.mjs): the forced cells as the released guide's own fill.sh prints them over the translation e420c5566ebb9ca2… (all of the seat's roots in one cut). By AI agents, Wed Nov 11 2026. No macro, syntax, notation, axiom, sorry.
-/
import Derived.Test.YtjbbnollidcagaaDoorChecked
import GoSem.Claim
import GoSem.ClaimJoined
import GoSem.ClaimMapViews
import Derived.JoinedTies
import Derived.KernelRfl
namespace Go.Proofs.YtjbbnollidcagaaDoor
/- THE CELL 'sum', in the pinned program and in every row, IS THE sha256 OF THE DUMP (.gsa) THAT YtjbbnollidcagaaDoorProg.lean LOADS. Nothing in Lean hashes anything: it is a label: what it is worth is what the hold of that sum in a sandbox is worth. -/
noncomputable def Tryd.pinned : Pinned := { name := "ytjbbnollidcagaadoor", sum := "e420c5566ebb9ca2ef6fe7734b19b2665bbca9eac8ce9454c0f087b01af22d69", checked := Tryd.checked }
namespace Rows
def none {H : Type} : Left H := { results := [], args := [] }

/- WHAT THE LISTED PACKAGE-LEVEL VARIABLES READ AS WHEN THE CALL BEGINS. Each datum BY PROGRAM (the guide's laid-datum.mjs) off the statement by which the dump's own 'gosem.cut.vars' lays the variable. In a bare row this is a premise. The card (YtjbbnollidcagaaDoorCards.lean) ties it to the program's text. -/
def laid_errors_errorType {H : Type} : DataW H := .iface "internal/reflectlite.rtype" (.agg [.ptr (.lit (.string [101, 114, 114, 111, 114]))])

/-- 'conductorlaw06.EvalOnes': WHATEVER THE INPUT: true; the input reads as it did. -/
def evalOnesSpec : ChangeSpec := { name := "evalOnes", fn := fun _ => fun
  | [d1, d2] => { results := [.lit (.bool true)], args := [d1, d2] }
  | _ => none }
def evalOnesRow : OpenClaim := { program := "ytjbbnollidcagaadoor", sum := "e420c5566ebb9ca2ef6fe7734b19b2665bbca9eac8ce9454c0f087b01af22d69", func := "conductor/conductorlaw06.EvalOnes", spec := "evalOnes", inPlace := ["internal/reflectlite.ValueOf", "(internal/reflectlite.Value).Type", "(internal/reflectlite.Value).IsNil", "internal/reflectlite.TypeOf", "(internal/reflectlite.Value).Elem", "(internal/reflectlite.Value).Set"], unfollowed := true, recurses := true, named := ["errors.errorType"], apart := false, laid := [("errors.errorType", laid_errors_errorType)] }
def EvalOnesSaid : Prop := evalOnesRow.holds Tryd.pinned (OpenSpec.ofChange evalOnesSpec)

/-- ITS FALSE NEIGHBOUR: 'it returns false'. Refute it at one input. -/
def evalOnesWrong : ChangeSpec := { name := "evalOnes", fn := fun _ => fun
  | [d1, d2] => { results := [.lit (.bool false)], args := [d1, d2] }
  | _ => none }
def EvalOnesWrongFalsely : Prop := evalOnesRow.holds Tryd.pinned (OpenSpec.ofChange evalOnesWrong)

/-- 'conductorlaw06.EvalTwos': WHATEVER THE INPUT: true; the input reads as it did. -/
def evalTwosSpec : ChangeSpec := { name := "evalTwos", fn := fun _ => fun
  | [d1, d2, d3] => { results := [.lit (.bool true)], args := [d1, d2, d3] }
  | _ => none }
def evalTwosRow : OpenClaim := { program := "ytjbbnollidcagaadoor", sum := "e420c5566ebb9ca2ef6fe7734b19b2665bbca9eac8ce9454c0f087b01af22d69", func := "conductor/conductorlaw06.EvalTwos", spec := "evalTwos", inPlace := ["internal/reflectlite.ValueOf", "(internal/reflectlite.Value).Type", "(internal/reflectlite.Value).IsNil", "internal/reflectlite.TypeOf", "(internal/reflectlite.Value).Elem", "(internal/reflectlite.Value).Set"], unfollowed := true, recurses := true, named := ["errors.errorType"], apart := false, laid := [("errors.errorType", laid_errors_errorType)] }
def EvalTwosSaid : Prop := evalTwosRow.holds Tryd.pinned (OpenSpec.ofChange evalTwosSpec)

/-- ITS FALSE NEIGHBOUR: 'it returns false'. Refute it at one input. -/
def evalTwosWrong : ChangeSpec := { name := "evalTwos", fn := fun _ => fun
  | [d1, d2, d3] => { results := [.lit (.bool false)], args := [d1, d2, d3] }
  | _ => none }
def EvalTwosWrongFalsely : Prop := evalTwosRow.holds Tryd.pinned (OpenSpec.ofChange evalTwosWrong)

/-- 'conductorlaw06.EvalParts': WHATEVER THE INPUT: true; the input reads as it did. -/
def evalPartsSpec : ChangeSpec := { name := "evalParts", fn := fun _ => fun
  | [d1, d2, d3, d4] => { results := [.lit (.bool true)], args := [d1, d2, d3, d4] }
  | _ => none }
def evalPartsRow : OpenClaim := { program := "ytjbbnollidcagaadoor", sum := "e420c5566ebb9ca2ef6fe7734b19b2665bbca9eac8ce9454c0f087b01af22d69", func := "conductor/conductorlaw06.EvalParts", spec := "evalParts", inPlace := ["internal/reflectlite.ValueOf", "(internal/reflectlite.Value).Type", "(internal/reflectlite.Value).IsNil", "internal/reflectlite.TypeOf", "(internal/reflectlite.Value).Elem", "(internal/reflectlite.Value).Set"], unfollowed := true, recurses := true, named := ["errors.errorType"], apart := false, laid := [("errors.errorType", laid_errors_errorType)] }
def EvalPartsSaid : Prop := evalPartsRow.holds Tryd.pinned (OpenSpec.ofChange evalPartsSpec)

/-- ITS FALSE NEIGHBOUR: 'it returns false'. Refute it at one input. -/
def evalPartsWrong : ChangeSpec := { name := "evalParts", fn := fun _ => fun
  | [d1, d2, d3, d4] => { results := [.lit (.bool false)], args := [d1, d2, d3, d4] }
  | _ => none }
def EvalPartsWrongFalsely : Prop := evalPartsRow.holds Tryd.pinned (OpenSpec.ofChange evalPartsWrong)

/-- 'conductorlaw06.EvalNumbers': WHATEVER THE INPUT: true; the input reads as it did. -/
def evalNumbersSpec : ChangeSpec := { name := "evalNumbers", fn := fun _ => fun
  | [d1, d2] => { results := [.lit (.bool true)], args := [d1, d2] }
  | _ => none }
def evalNumbersRow : OpenClaim := { program := "ytjbbnollidcagaadoor", sum := "e420c5566ebb9ca2ef6fe7734b19b2665bbca9eac8ce9454c0f087b01af22d69", func := "conductor/conductorlaw06.EvalNumbers", spec := "evalNumbers", inPlace := ["internal/reflectlite.ValueOf", "(internal/reflectlite.Value).Type", "(internal/reflectlite.Value).IsNil", "internal/reflectlite.TypeOf", "(internal/reflectlite.Value).Elem", "(internal/reflectlite.Value).Set"], unfollowed := true, recurses := true, named := ["errors.errorType"], apart := false, laid := [("errors.errorType", laid_errors_errorType)] }
def EvalNumbersSaid : Prop := evalNumbersRow.holds Tryd.pinned (OpenSpec.ofChange evalNumbersSpec)

/-- ITS FALSE NEIGHBOUR: 'it returns false'. Refute it at one input. -/
def evalNumbersWrong : ChangeSpec := { name := "evalNumbers", fn := fun _ => fun
  | [d1, d2] => { results := [.lit (.bool false)], args := [d1, d2] }
  | _ => none }
def EvalNumbersWrongFalsely : Prop := evalNumbersRow.holds Tryd.pinned (OpenSpec.ofChange evalNumbersWrong)

/-- 'conductorlaw06.EvalOf': WHATEVER THE INPUT: true; the input reads as it did. -/
def evalOfSpec : ChangeSpec := { name := "evalOf", fn := fun _ => fun
  | [d1, d2, d3] => { results := [.lit (.bool true)], args := [d1, d2, d3] }
  | _ => none }
def evalOfRow : OpenClaim := { program := "ytjbbnollidcagaadoor", sum := "e420c5566ebb9ca2ef6fe7734b19b2665bbca9eac8ce9454c0f087b01af22d69", func := "conductor/conductorlaw06.EvalOf", spec := "evalOf", inPlace := ["internal/reflectlite.ValueOf", "(internal/reflectlite.Value).Type", "(internal/reflectlite.Value).IsNil", "internal/reflectlite.TypeOf", "(internal/reflectlite.Value).Elem", "(internal/reflectlite.Value).Set"], unfollowed := true, recurses := true, named := ["errors.errorType"], apart := false, laid := [("errors.errorType", laid_errors_errorType)] }
def EvalOfSaid : Prop := evalOfRow.holds Tryd.pinned (OpenSpec.ofChange evalOfSpec)

/-- ITS FALSE NEIGHBOUR: 'it returns false'. Refute it at one input. -/
def evalOfWrong : ChangeSpec := { name := "evalOf", fn := fun _ => fun
  | [d1, d2, d3] => { results := [.lit (.bool false)], args := [d1, d2, d3] }
  | _ => none }
def EvalOfWrongFalsely : Prop := evalOfRow.holds Tryd.pinned (OpenSpec.ofChange evalOfWrong)

/-- 'conductorlaw06.EvalAsks': WHATEVER THE INPUT: true; the input reads as it did. -/
def evalAsksSpec : ChangeSpec := { name := "evalAsks", fn := fun _ => fun
  | [d1, d2, d3, d4] => { results := [.lit (.bool true)], args := [d1, d2, d3, d4] }
  | _ => none }
def evalAsksRow : OpenClaim := { program := "ytjbbnollidcagaadoor", sum := "e420c5566ebb9ca2ef6fe7734b19b2665bbca9eac8ce9454c0f087b01af22d69", func := "conductor/conductorlaw06.EvalAsks", spec := "evalAsks", inPlace := ["internal/reflectlite.ValueOf", "(internal/reflectlite.Value).Type", "(internal/reflectlite.Value).IsNil", "internal/reflectlite.TypeOf", "(internal/reflectlite.Value).Elem", "(internal/reflectlite.Value).Set"], unfollowed := true, recurses := true, named := ["errors.errorType"], apart := false, laid := [("errors.errorType", laid_errors_errorType)] }
def EvalAsksSaid : Prop := evalAsksRow.holds Tryd.pinned (OpenSpec.ofChange evalAsksSpec)

/-- ITS FALSE NEIGHBOUR: 'it returns false'. Refute it at one input. -/
def evalAsksWrong : ChangeSpec := { name := "evalAsks", fn := fun _ => fun
  | [d1, d2, d3, d4] => { results := [.lit (.bool false)], args := [d1, d2, d3, d4] }
  | _ => none }
def EvalAsksWrongFalsely : Prop := evalAsksRow.holds Tryd.pinned (OpenSpec.ofChange evalAsksWrong)

/-- 'conductorlaw06.EvalFuel': WHATEVER THE INPUT: true; the input reads as it did. -/
def evalFuelSpec : ChangeSpec := { name := "evalFuel", fn := fun _ => fun
  | [d1, d2, d3, d4] => { results := [.lit (.bool true)], args := [d1, d2, d3, d4] }
  | _ => none }
def evalFuelRow : OpenClaim := { program := "ytjbbnollidcagaadoor", sum := "e420c5566ebb9ca2ef6fe7734b19b2665bbca9eac8ce9454c0f087b01af22d69", func := "conductor/conductorlaw06.EvalFuel", spec := "evalFuel", inPlace := ["internal/reflectlite.ValueOf", "(internal/reflectlite.Value).Type", "(internal/reflectlite.Value).IsNil", "internal/reflectlite.TypeOf", "(internal/reflectlite.Value).Elem", "(internal/reflectlite.Value).Set"], unfollowed := true, recurses := true, named := ["errors.errorType"], apart := false, laid := [("errors.errorType", laid_errors_errorType)] }
def EvalFuelSaid : Prop := evalFuelRow.holds Tryd.pinned (OpenSpec.ofChange evalFuelSpec)

/-- ITS FALSE NEIGHBOUR: 'it returns false'. Refute it at one input. -/
def evalFuelWrong : ChangeSpec := { name := "evalFuel", fn := fun _ => fun
  | [d1, d2, d3, d4] => { results := [.lit (.bool false)], args := [d1, d2, d3, d4] }
  | _ => none }
def EvalFuelWrongFalsely : Prop := evalFuelRow.holds Tryd.pinned (OpenSpec.ofChange evalFuelWrong)

/-- 'conductorlaw06.EvalOther': WHATEVER THE INPUT: true; the input reads as it did. -/
def evalOtherSpec : ChangeSpec := { name := "evalOther", fn := fun _ => fun
  | [d1, d2, d3] => { results := [.lit (.bool true)], args := [d1, d2, d3] }
  | _ => none }
def evalOtherRow : OpenClaim := { program := "ytjbbnollidcagaadoor", sum := "e420c5566ebb9ca2ef6fe7734b19b2665bbca9eac8ce9454c0f087b01af22d69", func := "conductor/conductorlaw06.EvalOther", spec := "evalOther", inPlace := ["internal/reflectlite.ValueOf", "(internal/reflectlite.Value).Type", "(internal/reflectlite.Value).IsNil", "internal/reflectlite.TypeOf", "(internal/reflectlite.Value).Elem", "(internal/reflectlite.Value).Set"], unfollowed := true, recurses := true, named := ["errors.errorType"], apart := false, laid := [("errors.errorType", laid_errors_errorType)] }
def EvalOtherSaid : Prop := evalOtherRow.holds Tryd.pinned (OpenSpec.ofChange evalOtherSpec)

/-- ITS FALSE NEIGHBOUR: 'it returns false'. Refute it at one input. -/
def evalOtherWrong : ChangeSpec := { name := "evalOther", fn := fun _ => fun
  | [d1, d2, d3] => { results := [.lit (.bool false)], args := [d1, d2, d3] }
  | _ => none }
def EvalOtherWrongFalsely : Prop := evalOtherRow.holds Tryd.pinned (OpenSpec.ofChange evalOtherWrong)

/- THE SECOND FORM. 'bulk': how many values and letters a reading holds, each counted each time it is reached (what is shared counts as often as it is met; a slice's spare places count too). A statement '..UptoSaid' is the law's where the arguments, and the package variables that the reading takes, are together of bulk at most 1048576: NARROWER than '..Said'. Prove '..Said' where nothing that the law and all that it calls make is longer than what came in: it says more and counts as full. Else prove '..UptoSaid'. A law counts once. -/
mutual
def uptoBulk {H : Type} : DataW H → Nat
  | .lit (.string bytes) => bytes.length + 1
  | .lit _ => 1
  | .nil => 1
  | .ptr d => uptoBulk d + 1
  | .slice elems spare => uptoBulkAll elems + uptoBulkAll spare + 1
  | .agg parts => uptoBulkAll parts + 1
  | .iface _ d => uptoBulk d + 1
  | .map entries => uptoBulkEntries entries + 1
  | .held _ => 1
def uptoBulkAll {H : Type} : List (DataW H) → Nat
  | [] => 0
  | d :: r => uptoBulk d + uptoBulkAll r
def uptoBulkEntries {H : Type} : List (Lit × DataW H) → Nat
  | [] => 0
  | x :: r => uptoBulkEntry x + uptoBulkEntries r
def uptoBulkEntry {H : Type} : Lit × DataW H → Nat
  | (.string bytes, d) => bytes.length + uptoBulk d + 1
  | (_, d) => uptoBulk d + 1
 end
def uptoSmall : (H : Type) → List (DataW H) → Bool := fun _ ds => decide (uptoBulkAll ds ≤ 1048576)
def OpenSpec.upto (s : _root_.Go.ChangeSpec) : _root_.Go.OpenSpec := { _root_.Go.OpenSpec.ofChange s with cond := some uptoSmall }

/-- 'conductorlaw06.EvalOnes', WHERE WHAT IT READS IS OF BULK AT MOST 1048576: true; the input reads as it did. -/
def evalOnesUptoRow : OpenClaim := { program := "ytjbbnollidcagaadoor", sum := "e420c5566ebb9ca2ef6fe7734b19b2665bbca9eac8ce9454c0f087b01af22d69", func := "conductor/conductorlaw06.EvalOnes", spec := "evalOnes", inPlace := ["internal/reflectlite.ValueOf", "(internal/reflectlite.Value).Type", "(internal/reflectlite.Value).IsNil", "internal/reflectlite.TypeOf", "(internal/reflectlite.Value).Elem", "(internal/reflectlite.Value).Set"], unfollowed := true, recurses := true, named := ["errors.errorType"], apart := false, laid := [("errors.errorType", laid_errors_errorType)], narrowed := true }
def EvalOnesUptoSaid : Prop := evalOnesUptoRow.holds Tryd.pinned (OpenSpec.upto evalOnesSpec)

/-- 'conductorlaw06.EvalTwos', WHERE WHAT IT READS IS OF BULK AT MOST 1048576: true; the input reads as it did. -/
def evalTwosUptoRow : OpenClaim := { program := "ytjbbnollidcagaadoor", sum := "e420c5566ebb9ca2ef6fe7734b19b2665bbca9eac8ce9454c0f087b01af22d69", func := "conductor/conductorlaw06.EvalTwos", spec := "evalTwos", inPlace := ["internal/reflectlite.ValueOf", "(internal/reflectlite.Value).Type", "(internal/reflectlite.Value).IsNil", "internal/reflectlite.TypeOf", "(internal/reflectlite.Value).Elem", "(internal/reflectlite.Value).Set"], unfollowed := true, recurses := true, named := ["errors.errorType"], apart := false, laid := [("errors.errorType", laid_errors_errorType)], narrowed := true }
def EvalTwosUptoSaid : Prop := evalTwosUptoRow.holds Tryd.pinned (OpenSpec.upto evalTwosSpec)

/-- 'conductorlaw06.EvalParts', WHERE WHAT IT READS IS OF BULK AT MOST 1048576: true; the input reads as it did. -/
def evalPartsUptoRow : OpenClaim := { program := "ytjbbnollidcagaadoor", sum := "e420c5566ebb9ca2ef6fe7734b19b2665bbca9eac8ce9454c0f087b01af22d69", func := "conductor/conductorlaw06.EvalParts", spec := "evalParts", inPlace := ["internal/reflectlite.ValueOf", "(internal/reflectlite.Value).Type", "(internal/reflectlite.Value).IsNil", "internal/reflectlite.TypeOf", "(internal/reflectlite.Value).Elem", "(internal/reflectlite.Value).Set"], unfollowed := true, recurses := true, named := ["errors.errorType"], apart := false, laid := [("errors.errorType", laid_errors_errorType)], narrowed := true }
def EvalPartsUptoSaid : Prop := evalPartsUptoRow.holds Tryd.pinned (OpenSpec.upto evalPartsSpec)

/-- 'conductorlaw06.EvalNumbers', WHERE WHAT IT READS IS OF BULK AT MOST 1048576: true; the input reads as it did. -/
def evalNumbersUptoRow : OpenClaim := { program := "ytjbbnollidcagaadoor", sum := "e420c5566ebb9ca2ef6fe7734b19b2665bbca9eac8ce9454c0f087b01af22d69", func := "conductor/conductorlaw06.EvalNumbers", spec := "evalNumbers", inPlace := ["internal/reflectlite.ValueOf", "(internal/reflectlite.Value).Type", "(internal/reflectlite.Value).IsNil", "internal/reflectlite.TypeOf", "(internal/reflectlite.Value).Elem", "(internal/reflectlite.Value).Set"], unfollowed := true, recurses := true, named := ["errors.errorType"], apart := false, laid := [("errors.errorType", laid_errors_errorType)], narrowed := true }
def EvalNumbersUptoSaid : Prop := evalNumbersUptoRow.holds Tryd.pinned (OpenSpec.upto evalNumbersSpec)

/-- 'conductorlaw06.EvalOf', WHERE WHAT IT READS IS OF BULK AT MOST 1048576: true; the input reads as it did. -/
def evalOfUptoRow : OpenClaim := { program := "ytjbbnollidcagaadoor", sum := "e420c5566ebb9ca2ef6fe7734b19b2665bbca9eac8ce9454c0f087b01af22d69", func := "conductor/conductorlaw06.EvalOf", spec := "evalOf", inPlace := ["internal/reflectlite.ValueOf", "(internal/reflectlite.Value).Type", "(internal/reflectlite.Value).IsNil", "internal/reflectlite.TypeOf", "(internal/reflectlite.Value).Elem", "(internal/reflectlite.Value).Set"], unfollowed := true, recurses := true, named := ["errors.errorType"], apart := false, laid := [("errors.errorType", laid_errors_errorType)], narrowed := true }
def EvalOfUptoSaid : Prop := evalOfUptoRow.holds Tryd.pinned (OpenSpec.upto evalOfSpec)

/-- 'conductorlaw06.EvalAsks', WHERE WHAT IT READS IS OF BULK AT MOST 1048576: true; the input reads as it did. -/
def evalAsksUptoRow : OpenClaim := { program := "ytjbbnollidcagaadoor", sum := "e420c5566ebb9ca2ef6fe7734b19b2665bbca9eac8ce9454c0f087b01af22d69", func := "conductor/conductorlaw06.EvalAsks", spec := "evalAsks", inPlace := ["internal/reflectlite.ValueOf", "(internal/reflectlite.Value).Type", "(internal/reflectlite.Value).IsNil", "internal/reflectlite.TypeOf", "(internal/reflectlite.Value).Elem", "(internal/reflectlite.Value).Set"], unfollowed := true, recurses := true, named := ["errors.errorType"], apart := false, laid := [("errors.errorType", laid_errors_errorType)], narrowed := true }
def EvalAsksUptoSaid : Prop := evalAsksUptoRow.holds Tryd.pinned (OpenSpec.upto evalAsksSpec)

/-- 'conductorlaw06.EvalFuel', WHERE WHAT IT READS IS OF BULK AT MOST 1048576: true; the input reads as it did. -/
def evalFuelUptoRow : OpenClaim := { program := "ytjbbnollidcagaadoor", sum := "e420c5566ebb9ca2ef6fe7734b19b2665bbca9eac8ce9454c0f087b01af22d69", func := "conductor/conductorlaw06.EvalFuel", spec := "evalFuel", inPlace := ["internal/reflectlite.ValueOf", "(internal/reflectlite.Value).Type", "(internal/reflectlite.Value).IsNil", "internal/reflectlite.TypeOf", "(internal/reflectlite.Value).Elem", "(internal/reflectlite.Value).Set"], unfollowed := true, recurses := true, named := ["errors.errorType"], apart := false, laid := [("errors.errorType", laid_errors_errorType)], narrowed := true }
def EvalFuelUptoSaid : Prop := evalFuelUptoRow.holds Tryd.pinned (OpenSpec.upto evalFuelSpec)

/-- 'conductorlaw06.EvalOther', WHERE WHAT IT READS IS OF BULK AT MOST 1048576: true; the input reads as it did. -/
def evalOtherUptoRow : OpenClaim := { program := "ytjbbnollidcagaadoor", sum := "e420c5566ebb9ca2ef6fe7734b19b2665bbca9eac8ce9454c0f087b01af22d69", func := "conductor/conductorlaw06.EvalOther", spec := "evalOther", inPlace := ["internal/reflectlite.ValueOf", "(internal/reflectlite.Value).Type", "(internal/reflectlite.Value).IsNil", "internal/reflectlite.TypeOf", "(internal/reflectlite.Value).Elem", "(internal/reflectlite.Value).Set"], unfollowed := true, recurses := true, named := ["errors.errorType"], apart := false, laid := [("errors.errorType", laid_errors_errorType)], narrowed := true }
def EvalOtherUptoSaid : Prop := evalOtherUptoRow.holds Tryd.pinned (OpenSpec.upto evalOtherSpec)

end Rows
end Go.Proofs.YtjbbnollidcagaaDoor
