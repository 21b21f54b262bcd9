/-
  DERIVED. GIVEN WITH THE SEED: THE CARDS: each row of YtjbbnollidcagaaGreatDoorRows.lean that lists a variable, with what it lists TIED to the program's text (the seventh form; the later family's looks); each row that meets fmt, with fmt's text TOLD by the authors' own Lean function (tested against real Go, not proved from fmt's source: count such statements apart). THE CARD IS WHAT COUNTS. Prove the row's statement (the work); the ties are given (YtjbbnollidcagaaGreatDoorTie.lean); close each card by the builder's one call (the guide's Derived/Test/ToyasCard.lean, 'card_holds'). Laid BY PROGRAM, IN A SANDBOX (cutbox-door.mjs). By AI agents, Wed Nov 11 2026. No macro, syntax, notation, axiom, sorry.
-/
import Derived.Test.YtjbbnollidcagaaGreatDoorRows
import GoSem.ClaimSeven
namespace Go.Proofs.YtjbbnollidcagaaGreatDoor
namespace Rows

/-- THE TIED CARD OF 'conductorlaw06.EvalTests'. -/
def evalTestsCard : Claim7 := { stood := { row := evalTestsRow, standIns := [], harness := (true, "eba07434a4cf5b55a7eee20d7f6d53113f777cce93d396e623821d2e89f0908b"), looks := true }, kinds := [], alts := [], laidByText := true, laidKinds := [.handle], laidTests := true, laidLooks := .later }
def EvalTestsCardSaid : Prop := Claim7.holds Tryz.pinned (.plain (OpenSpec.ofChange evalTestsSpec)) evalTestsCard

/-- THE SECOND FORM's CARD OF 'conductorlaw06.EvalTests'. -/
def evalTestsUptoCard : Claim7 := { stood := { row := evalTestsUptoRow, standIns := [], harness := (true, "eba07434a4cf5b55a7eee20d7f6d53113f777cce93d396e623821d2e89f0908b"), looks := true }, kinds := [], alts := [], laidByText := true, laidKinds := [.handle], laidTests := true, laidLooks := .later }
def EvalTestsUptoCardSaid : Prop := Claim7.holds Tryz.pinned (.plain (OpenSpec.upto evalTestsSpec)) evalTestsUptoCard
end Rows
end Go.Proofs.YtjbbnollidcagaaGreatDoor
