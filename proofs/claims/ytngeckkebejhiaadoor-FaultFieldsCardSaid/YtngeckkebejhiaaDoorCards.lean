/-
  DERIVED. GIVEN WITH THE SEED: THE CARDS: each row of YtngeckkebejhiaaDoorRows.lean that lists a variable, with what it lists TIED to the program's text (the seventh form; the later family's looks); each row that meets fmt, with fmt's text TOLD by the authors' own Lean function (tested against real Go, not proved from fmt's source: count such statements apart). THE CARD IS WHAT COUNTS. Prove the row's statement (the work); the ties are given (YtngeckkebejhiaaDoorTie.lean); close each card by the builder's one call (the guide's Derived/Test/ToyasCard.lean, 'card_holds'). Laid BY PROGRAM, IN A SANDBOX (cutbox-door.mjs). By AI agents, Wed Nov 11 2026. No macro, syntax, notation, axiom, sorry.
-/
import Derived.Test.YtngeckkebejhiaaDoorRows
import GoSem.ClaimSeven
namespace Go.Proofs.YtngeckkebejhiaaDoor
namespace Rows

/-- THE TIED CARD OF 'conductorlaw02.FaultThrough'. -/
def faultThroughCard : Claim7 := { stood := { row := faultThroughRow, standIns := [], harness := (true, "90af4226c1bd4ab54397dc2f446a16574044c5414e70563b51a52399147ad2b2"), looks := true }, kinds := [], alts := [], laidByText := true, laidKinds := [.handle], laidTests := true, laidLooks := .later }
def FaultThroughCardSaid : Prop := Claim7.holds Tryd.pinned (.plain (OpenSpec.ofChange faultThroughSpec)) faultThroughCard

/-- THE TIED CARD OF 'conductorlaw02.FaultFields'. -/
def faultFieldsCard : Claim7 := { stood := { row := faultFieldsRow, standIns := [], harness := (true, "90af4226c1bd4ab54397dc2f446a16574044c5414e70563b51a52399147ad2b2"), looks := true }, kinds := [], alts := [], laidByText := true, laidKinds := [.handle], laidTests := true, laidLooks := .later }
def FaultFieldsCardSaid : Prop := Claim7.holds Tryd.pinned (.plain (OpenSpec.ofChange faultFieldsSpec)) faultFieldsCard

/-- THE TIED CARD OF 'conductorlaw02.FaultFirst'. -/
def faultFirstCard : Claim7 := { stood := { row := faultFirstRow, standIns := [], harness := (true, "90af4226c1bd4ab54397dc2f446a16574044c5414e70563b51a52399147ad2b2"), looks := true }, kinds := [], alts := [], laidByText := true, laidKinds := [.handle], laidTests := true, laidLooks := .later }
def FaultFirstCardSaid : Prop := Claim7.holds Tryd.pinned (.plain (OpenSpec.ofChange faultFirstSpec)) faultFirstCard

/-- THE TIED CARD OF 'conductorlaw02.FaultNone'. -/
def faultNoneCard : Claim7 := { stood := { row := faultNoneRow, standIns := [], harness := (true, "90af4226c1bd4ab54397dc2f446a16574044c5414e70563b51a52399147ad2b2"), looks := true }, kinds := [], alts := [], laidByText := true, laidKinds := [.handle], laidTests := true, laidLooks := .later }
def FaultNoneCardSaid : Prop := Claim7.holds Tryd.pinned (.plain (OpenSpec.ofChange faultNoneSpec)) faultNoneCard

/-- THE TIED CARD OF 'conductorlaw02.FaultTells'. -/
def faultTellsCard : Claim7 := { stood := { row := faultTellsRow, standIns := [], harness := (true, "90af4226c1bd4ab54397dc2f446a16574044c5414e70563b51a52399147ad2b2"), looks := true }, kinds := [], alts := [], laidByText := true, laidKinds := [.handle], laidTests := true, laidLooks := .later }
def FaultTellsCardSaid : Prop := Claim7.holds Tryd.pinned (.plain (OpenSpec.ofChange faultTellsSpec)) faultTellsCard

/-- THE SECOND FORM's CARD OF 'conductorlaw02.FaultThrough'. -/
def faultThroughUptoCard : Claim7 := { stood := { row := faultThroughUptoRow, standIns := [], harness := (true, "90af4226c1bd4ab54397dc2f446a16574044c5414e70563b51a52399147ad2b2"), looks := true }, kinds := [], alts := [], laidByText := true, laidKinds := [.handle], laidTests := true, laidLooks := .later }
def FaultThroughUptoCardSaid : Prop := Claim7.holds Tryd.pinned (.plain (OpenSpec.upto faultThroughSpec)) faultThroughUptoCard

/-- THE SECOND FORM's CARD OF 'conductorlaw02.FaultFields'. -/
def faultFieldsUptoCard : Claim7 := { stood := { row := faultFieldsUptoRow, standIns := [], harness := (true, "90af4226c1bd4ab54397dc2f446a16574044c5414e70563b51a52399147ad2b2"), looks := true }, kinds := [], alts := [], laidByText := true, laidKinds := [.handle], laidTests := true, laidLooks := .later }
def FaultFieldsUptoCardSaid : Prop := Claim7.holds Tryd.pinned (.plain (OpenSpec.upto faultFieldsSpec)) faultFieldsUptoCard

/-- THE SECOND FORM's CARD OF 'conductorlaw02.FaultFirst'. -/
def faultFirstUptoCard : Claim7 := { stood := { row := faultFirstUptoRow, standIns := [], harness := (true, "90af4226c1bd4ab54397dc2f446a16574044c5414e70563b51a52399147ad2b2"), looks := true }, kinds := [], alts := [], laidByText := true, laidKinds := [.handle], laidTests := true, laidLooks := .later }
def FaultFirstUptoCardSaid : Prop := Claim7.holds Tryd.pinned (.plain (OpenSpec.upto faultFirstSpec)) faultFirstUptoCard

/-- THE SECOND FORM's CARD OF 'conductorlaw02.FaultNone'. -/
def faultNoneUptoCard : Claim7 := { stood := { row := faultNoneUptoRow, standIns := [], harness := (true, "90af4226c1bd4ab54397dc2f446a16574044c5414e70563b51a52399147ad2b2"), looks := true }, kinds := [], alts := [], laidByText := true, laidKinds := [.handle], laidTests := true, laidLooks := .later }
def FaultNoneUptoCardSaid : Prop := Claim7.holds Tryd.pinned (.plain (OpenSpec.upto faultNoneSpec)) faultNoneUptoCard

/-- THE SECOND FORM's CARD OF 'conductorlaw02.FaultTells'. -/
def faultTellsUptoCard : Claim7 := { stood := { row := faultTellsUptoRow, standIns := [], harness := (true, "90af4226c1bd4ab54397dc2f446a16574044c5414e70563b51a52399147ad2b2"), looks := true }, kinds := [], alts := [], laidByText := true, laidKinds := [.handle], laidTests := true, laidLooks := .later }
def FaultTellsUptoCardSaid : Prop := Claim7.holds Tryd.pinned (.plain (OpenSpec.upto faultTellsSpec)) faultTellsUptoCard
end Rows
end Go.Proofs.YtngeckkebejhiaaDoor
