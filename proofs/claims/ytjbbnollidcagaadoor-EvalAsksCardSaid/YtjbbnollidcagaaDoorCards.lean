/-
  DERIVED. GIVEN WITH THE SEED: THE CARDS: each row of YtjbbnollidcagaaDoorRows.lean that lists a variable, with what it lists TIED to the program's text (the seventh form; the later family's looks); each row that meets fmt, with fmt's text TOLD by the authors' own Lean function (tested against real Go, not proved from fmt's source: count such statements apart). THE CARD IS WHAT COUNTS. Prove the row's statement (the work); the ties are given (YtjbbnollidcagaaDoorTie.lean); close each card by the builder's one call (the guide's Derived/Test/ToyasCard.lean, 'card_holds'). Laid BY PROGRAM, IN A SANDBOX (cutbox-door.mjs). By AI agents, Wed Nov 11 2026. No macro, syntax, notation, axiom, sorry.
-/
import Derived.Test.YtjbbnollidcagaaDoorRows
import GoSem.ClaimSeven
namespace Go.Proofs.YtjbbnollidcagaaDoor
namespace Rows

/-- THE TIED CARD OF 'conductorlaw06.EvalOnes'. -/
def evalOnesCard : Claim7 := { stood := { row := evalOnesRow, standIns := [], harness := (true, "8befc1c33afdc368b3b66d0e24f2a65a8c88f5ed28f6d18bef20289ee28bf83c"), looks := true }, kinds := [], alts := [], laidByText := true, laidKinds := [.handle], laidTests := true, laidLooks := .later }
def EvalOnesCardSaid : Prop := Claim7.holds Tryd.pinned (.plain (OpenSpec.ofChange evalOnesSpec)) evalOnesCard

/-- THE TIED CARD OF 'conductorlaw06.EvalTwos'. -/
def evalTwosCard : Claim7 := { stood := { row := evalTwosRow, standIns := [], harness := (true, "8befc1c33afdc368b3b66d0e24f2a65a8c88f5ed28f6d18bef20289ee28bf83c"), looks := true }, kinds := [], alts := [], laidByText := true, laidKinds := [.handle], laidTests := true, laidLooks := .later }
def EvalTwosCardSaid : Prop := Claim7.holds Tryd.pinned (.plain (OpenSpec.ofChange evalTwosSpec)) evalTwosCard

/-- THE TIED CARD OF 'conductorlaw06.EvalParts'. -/
def evalPartsCard : Claim7 := { stood := { row := evalPartsRow, standIns := [], harness := (true, "8befc1c33afdc368b3b66d0e24f2a65a8c88f5ed28f6d18bef20289ee28bf83c"), looks := true }, kinds := [], alts := [], laidByText := true, laidKinds := [.handle], laidTests := true, laidLooks := .later }
def EvalPartsCardSaid : Prop := Claim7.holds Tryd.pinned (.plain (OpenSpec.ofChange evalPartsSpec)) evalPartsCard

/-- THE TIED CARD OF 'conductorlaw06.EvalNumbers'. -/
def evalNumbersCard : Claim7 := { stood := { row := evalNumbersRow, standIns := [], harness := (true, "8befc1c33afdc368b3b66d0e24f2a65a8c88f5ed28f6d18bef20289ee28bf83c"), looks := true }, kinds := [], alts := [], laidByText := true, laidKinds := [.handle], laidTests := true, laidLooks := .later }
def EvalNumbersCardSaid : Prop := Claim7.holds Tryd.pinned (.plain (OpenSpec.ofChange evalNumbersSpec)) evalNumbersCard

/-- THE TIED CARD OF 'conductorlaw06.EvalOf'. -/
def evalOfCard : Claim7 := { stood := { row := evalOfRow, standIns := [], harness := (true, "8befc1c33afdc368b3b66d0e24f2a65a8c88f5ed28f6d18bef20289ee28bf83c"), looks := true }, kinds := [], alts := [], laidByText := true, laidKinds := [.handle], laidTests := true, laidLooks := .later }
def EvalOfCardSaid : Prop := Claim7.holds Tryd.pinned (.plain (OpenSpec.ofChange evalOfSpec)) evalOfCard

/-- THE TIED CARD OF 'conductorlaw06.EvalAsks'. -/
def evalAsksCard : Claim7 := { stood := { row := evalAsksRow, standIns := [], harness := (true, "8befc1c33afdc368b3b66d0e24f2a65a8c88f5ed28f6d18bef20289ee28bf83c"), looks := true }, kinds := [], alts := [], laidByText := true, laidKinds := [.handle], laidTests := true, laidLooks := .later }
def EvalAsksCardSaid : Prop := Claim7.holds Tryd.pinned (.plain (OpenSpec.ofChange evalAsksSpec)) evalAsksCard

/-- THE TIED CARD OF 'conductorlaw06.EvalFuel'. -/
def evalFuelCard : Claim7 := { stood := { row := evalFuelRow, standIns := [], harness := (true, "8befc1c33afdc368b3b66d0e24f2a65a8c88f5ed28f6d18bef20289ee28bf83c"), looks := true }, kinds := [], alts := [], laidByText := true, laidKinds := [.handle], laidTests := true, laidLooks := .later }
def EvalFuelCardSaid : Prop := Claim7.holds Tryd.pinned (.plain (OpenSpec.ofChange evalFuelSpec)) evalFuelCard

/-- THE TIED CARD OF 'conductorlaw06.EvalOther'. -/
def evalOtherCard : Claim7 := { stood := { row := evalOtherRow, standIns := [], harness := (true, "8befc1c33afdc368b3b66d0e24f2a65a8c88f5ed28f6d18bef20289ee28bf83c"), looks := true }, kinds := [], alts := [], laidByText := true, laidKinds := [.handle], laidTests := true, laidLooks := .later }
def EvalOtherCardSaid : Prop := Claim7.holds Tryd.pinned (.plain (OpenSpec.ofChange evalOtherSpec)) evalOtherCard

/-- THE SECOND FORM's CARD OF 'conductorlaw06.EvalOnes'. -/
def evalOnesUptoCard : Claim7 := { stood := { row := evalOnesUptoRow, standIns := [], harness := (true, "8befc1c33afdc368b3b66d0e24f2a65a8c88f5ed28f6d18bef20289ee28bf83c"), looks := true }, kinds := [], alts := [], laidByText := true, laidKinds := [.handle], laidTests := true, laidLooks := .later }
def EvalOnesUptoCardSaid : Prop := Claim7.holds Tryd.pinned (.plain (OpenSpec.upto evalOnesSpec)) evalOnesUptoCard

/-- THE SECOND FORM's CARD OF 'conductorlaw06.EvalTwos'. -/
def evalTwosUptoCard : Claim7 := { stood := { row := evalTwosUptoRow, standIns := [], harness := (true, "8befc1c33afdc368b3b66d0e24f2a65a8c88f5ed28f6d18bef20289ee28bf83c"), looks := true }, kinds := [], alts := [], laidByText := true, laidKinds := [.handle], laidTests := true, laidLooks := .later }
def EvalTwosUptoCardSaid : Prop := Claim7.holds Tryd.pinned (.plain (OpenSpec.upto evalTwosSpec)) evalTwosUptoCard

/-- THE SECOND FORM's CARD OF 'conductorlaw06.EvalParts'. -/
def evalPartsUptoCard : Claim7 := { stood := { row := evalPartsUptoRow, standIns := [], harness := (true, "8befc1c33afdc368b3b66d0e24f2a65a8c88f5ed28f6d18bef20289ee28bf83c"), looks := true }, kinds := [], alts := [], laidByText := true, laidKinds := [.handle], laidTests := true, laidLooks := .later }
def EvalPartsUptoCardSaid : Prop := Claim7.holds Tryd.pinned (.plain (OpenSpec.upto evalPartsSpec)) evalPartsUptoCard

/-- THE SECOND FORM's CARD OF 'conductorlaw06.EvalNumbers'. -/
def evalNumbersUptoCard : Claim7 := { stood := { row := evalNumbersUptoRow, standIns := [], harness := (true, "8befc1c33afdc368b3b66d0e24f2a65a8c88f5ed28f6d18bef20289ee28bf83c"), looks := true }, kinds := [], alts := [], laidByText := true, laidKinds := [.handle], laidTests := true, laidLooks := .later }
def EvalNumbersUptoCardSaid : Prop := Claim7.holds Tryd.pinned (.plain (OpenSpec.upto evalNumbersSpec)) evalNumbersUptoCard

/-- THE SECOND FORM's CARD OF 'conductorlaw06.EvalOf'. -/
def evalOfUptoCard : Claim7 := { stood := { row := evalOfUptoRow, standIns := [], harness := (true, "8befc1c33afdc368b3b66d0e24f2a65a8c88f5ed28f6d18bef20289ee28bf83c"), looks := true }, kinds := [], alts := [], laidByText := true, laidKinds := [.handle], laidTests := true, laidLooks := .later }
def EvalOfUptoCardSaid : Prop := Claim7.holds Tryd.pinned (.plain (OpenSpec.upto evalOfSpec)) evalOfUptoCard

/-- THE SECOND FORM's CARD OF 'conductorlaw06.EvalAsks'. -/
def evalAsksUptoCard : Claim7 := { stood := { row := evalAsksUptoRow, standIns := [], harness := (true, "8befc1c33afdc368b3b66d0e24f2a65a8c88f5ed28f6d18bef20289ee28bf83c"), looks := true }, kinds := [], alts := [], laidByText := true, laidKinds := [.handle], laidTests := true, laidLooks := .later }
def EvalAsksUptoCardSaid : Prop := Claim7.holds Tryd.pinned (.plain (OpenSpec.upto evalAsksSpec)) evalAsksUptoCard

/-- THE SECOND FORM's CARD OF 'conductorlaw06.EvalFuel'. -/
def evalFuelUptoCard : Claim7 := { stood := { row := evalFuelUptoRow, standIns := [], harness := (true, "8befc1c33afdc368b3b66d0e24f2a65a8c88f5ed28f6d18bef20289ee28bf83c"), looks := true }, kinds := [], alts := [], laidByText := true, laidKinds := [.handle], laidTests := true, laidLooks := .later }
def EvalFuelUptoCardSaid : Prop := Claim7.holds Tryd.pinned (.plain (OpenSpec.upto evalFuelSpec)) evalFuelUptoCard

/-- THE SECOND FORM's CARD OF 'conductorlaw06.EvalOther'. -/
def evalOtherUptoCard : Claim7 := { stood := { row := evalOtherUptoRow, standIns := [], harness := (true, "8befc1c33afdc368b3b66d0e24f2a65a8c88f5ed28f6d18bef20289ee28bf83c"), looks := true }, kinds := [], alts := [], laidByText := true, laidKinds := [.handle], laidTests := true, laidLooks := .later }
def EvalOtherUptoCardSaid : Prop := Claim7.holds Tryd.pinned (.plain (OpenSpec.upto evalOtherSpec)) evalOtherUptoCard
end Rows
end Go.Proofs.YtjbbnollidcagaaDoor
