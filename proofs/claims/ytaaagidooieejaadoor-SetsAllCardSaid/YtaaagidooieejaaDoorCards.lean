/-
  DERIVED. GIVEN WITH THE SEED: THE CARDS: each row of YtaaagidooieejaaDoorRows.lean that lists a variable, with what it lists TIED to the program's text (the seventh form; the later family's looks); each row that meets fmt, with fmt's text TOLD by the authors' own Lean function (tested against real Go, not proved from fmt's source: count such statements apart). THE CARD IS WHAT COUNTS. Prove the row's statement (the work); the ties are given (YtaaagidooieejaaDoorTie.lean); close each card by the builder's one call (the guide's Derived/Test/ToyasCard.lean, 'card_holds'). Laid BY PROGRAM, IN A SANDBOX (cutbox-door.mjs). By AI agents, Wed Nov 11 2026. No macro, syntax, notation, axiom, sorry.
-/
import Derived.Test.YtaaagidooieejaaDoorRows
import GoSem.ClaimSeven
namespace Go.Proofs.YtaaagidooieejaaDoor
namespace Rows

/-- THE TIED CARD OF 'antipodelaw9.SetsAll'. -/
def setsAllCard : Claim7 := { stood := { row := setsAllRow, standIns := [], harness := (true, "2c37426e5871a29e352ac5a0095f777a39334ca82190d3581708861b5a7a9afd"), looks := false }, kinds := [], alts := [], laidByText := true, laidKinds := [.data], laidTests := true, laidLooks := .later }
def SetsAllCardSaid : Prop := Claim7.holds Tryd.pinned (.plain (OpenSpec.ofChange setsAllSpec)) setsAllCard

/-- THE TIED CARD OF 'antipodelaw9.SetsBack'. -/
def setsBackCard : Claim7 := { stood := { row := setsBackRow, standIns := [], harness := (true, "2c37426e5871a29e352ac5a0095f777a39334ca82190d3581708861b5a7a9afd"), looks := false }, kinds := [], alts := [], laidByText := true, laidKinds := [.data], laidTests := true, laidLooks := .later }
def SetsBackCardSaid : Prop := Claim7.holds Tryd.pinned (.plain (OpenSpec.ofChange setsBackSpec)) setsBackCard

/-- THE SECOND FORM's CARD OF 'antipodelaw9.SetsAll'. -/
def setsAllUptoCard : Claim7 := { stood := { row := setsAllUptoRow, standIns := [], harness := (true, "2c37426e5871a29e352ac5a0095f777a39334ca82190d3581708861b5a7a9afd"), looks := false }, kinds := [], alts := [], laidByText := true, laidKinds := [.data], laidTests := true, laidLooks := .later }
def SetsAllUptoCardSaid : Prop := Claim7.holds Tryd.pinned (.plain (OpenSpec.upto setsAllSpec)) setsAllUptoCard

/-- THE SECOND FORM's CARD OF 'antipodelaw9.SetsBack'. -/
def setsBackUptoCard : Claim7 := { stood := { row := setsBackUptoRow, standIns := [], harness := (true, "2c37426e5871a29e352ac5a0095f777a39334ca82190d3581708861b5a7a9afd"), looks := false }, kinds := [], alts := [], laidByText := true, laidKinds := [.data], laidTests := true, laidLooks := .later }
def SetsBackUptoCardSaid : Prop := Claim7.holds Tryd.pinned (.plain (OpenSpec.upto setsBackSpec)) setsBackUptoCard
end Rows
end Go.Proofs.YtaaagidooieejaaDoor
