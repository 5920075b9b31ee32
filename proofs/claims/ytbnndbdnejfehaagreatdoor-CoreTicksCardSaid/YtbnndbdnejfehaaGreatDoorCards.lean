/-
  DERIVED. GIVEN WITH THE SEED: THE CARDS: each row of YtbnndbdnejfehaaGreatDoorRows.lean that lists a variable, with what it lists TIED to the program's text (the seventh form; the later family's looks); each row that meets fmt, with fmt's text TOLD by the authors' own Lean function (tested against real Go, not proved from fmt's source: count such statements apart). THE CARD IS WHAT COUNTS. Prove the row's statement (the work); the ties are given (YtbnndbdnejfehaaGreatDoorTie.lean); close each card by the builder's one call (the guide's Derived/Test/ToyasCard.lean, 'card_holds'). Laid BY PROGRAM, IN A SANDBOX (cutbox-door.mjs). By AI agents, Wed Nov 11 2026. No macro, syntax, notation, axiom, sorry.
-/
import Derived.Test.YtbnndbdnejfehaaGreatDoorRows
import GoSem.ClaimSeven
namespace Go.Proofs.YtbnndbdnejfehaaGreatDoor
namespace Rows

/-- THE TIED CARD OF 'antipodelaw13.CoreSteps'. -/
def coreStepsCard : Claim7 := { stood := { row := coreStepsRow, standIns := [], harness := (true, "0c315af89a5a3f3b4a89a97cfb0fe47e16e8145ba190cc6c80849d493239533c"), looks := false }, kinds := [], alts := [], laidByText := true, laidKinds := [.data], laidTests := true, laidLooks := .later }
def CoreStepsCardSaid : Prop := Claim7.holds Tryz.pinned (.plain (OpenSpec.ofChange coreStepsSpec)) coreStepsCard

/-- THE TIED CARD OF 'antipodelaw13.CoreStale'. -/
def coreStaleCard : Claim7 := { stood := { row := coreStaleRow, standIns := [], harness := (true, "0c315af89a5a3f3b4a89a97cfb0fe47e16e8145ba190cc6c80849d493239533c"), looks := false }, kinds := [], alts := [], laidByText := true, laidKinds := [.data], laidTests := true, laidLooks := .later }
def CoreStaleCardSaid : Prop := Claim7.holds Tryz.pinned (.plain (OpenSpec.ofChange coreStaleSpec)) coreStaleCard

/-- THE TIED CARD OF 'antipodelaw13.CoreTicks'. -/
def coreTicksCard : Claim7 := { stood := { row := coreTicksRow, standIns := [], harness := (true, "0c315af89a5a3f3b4a89a97cfb0fe47e16e8145ba190cc6c80849d493239533c"), looks := false }, kinds := [], alts := [], laidByText := true, laidKinds := [.data], laidTests := true, laidLooks := .later }
def CoreTicksCardSaid : Prop := Claim7.holds Tryz.pinned (.plain (OpenSpec.ofChange coreTicksSpec)) coreTicksCard

/-- THE TIED CARD OF 'antipodelaw13.CoreProposes'. -/
def coreProposesCard : Claim7 := { stood := { row := coreProposesRow, standIns := [], harness := (true, "0c315af89a5a3f3b4a89a97cfb0fe47e16e8145ba190cc6c80849d493239533c"), looks := false }, kinds := [], alts := [], laidByText := true, laidKinds := [.data], laidTests := true, laidLooks := .later }
def CoreProposesCardSaid : Prop := Claim7.holds Tryz.pinned (.plain (OpenSpec.ofChange coreProposesSpec)) coreProposesCard

/-- THE SECOND FORM's CARD OF 'antipodelaw13.CoreSteps'. -/
def coreStepsUptoCard : Claim7 := { stood := { row := coreStepsUptoRow, standIns := [], harness := (true, "0c315af89a5a3f3b4a89a97cfb0fe47e16e8145ba190cc6c80849d493239533c"), looks := false }, kinds := [], alts := [], laidByText := true, laidKinds := [.data], laidTests := true, laidLooks := .later }
def CoreStepsUptoCardSaid : Prop := Claim7.holds Tryz.pinned (.plain (OpenSpec.upto coreStepsSpec)) coreStepsUptoCard

/-- THE SECOND FORM's CARD OF 'antipodelaw13.CoreStale'. -/
def coreStaleUptoCard : Claim7 := { stood := { row := coreStaleUptoRow, standIns := [], harness := (true, "0c315af89a5a3f3b4a89a97cfb0fe47e16e8145ba190cc6c80849d493239533c"), looks := false }, kinds := [], alts := [], laidByText := true, laidKinds := [.data], laidTests := true, laidLooks := .later }
def CoreStaleUptoCardSaid : Prop := Claim7.holds Tryz.pinned (.plain (OpenSpec.upto coreStaleSpec)) coreStaleUptoCard

/-- THE SECOND FORM's CARD OF 'antipodelaw13.CoreTicks'. -/
def coreTicksUptoCard : Claim7 := { stood := { row := coreTicksUptoRow, standIns := [], harness := (true, "0c315af89a5a3f3b4a89a97cfb0fe47e16e8145ba190cc6c80849d493239533c"), looks := false }, kinds := [], alts := [], laidByText := true, laidKinds := [.data], laidTests := true, laidLooks := .later }
def CoreTicksUptoCardSaid : Prop := Claim7.holds Tryz.pinned (.plain (OpenSpec.upto coreTicksSpec)) coreTicksUptoCard

/-- THE SECOND FORM's CARD OF 'antipodelaw13.CoreProposes'. -/
def coreProposesUptoCard : Claim7 := { stood := { row := coreProposesUptoRow, standIns := [], harness := (true, "0c315af89a5a3f3b4a89a97cfb0fe47e16e8145ba190cc6c80849d493239533c"), looks := false }, kinds := [], alts := [], laidByText := true, laidKinds := [.data], laidTests := true, laidLooks := .later }
def CoreProposesUptoCardSaid : Prop := Claim7.holds Tryz.pinned (.plain (OpenSpec.upto coreProposesSpec)) coreProposesUptoCard
end Rows
end Go.Proofs.YtbnndbdnejfehaaGreatDoor
