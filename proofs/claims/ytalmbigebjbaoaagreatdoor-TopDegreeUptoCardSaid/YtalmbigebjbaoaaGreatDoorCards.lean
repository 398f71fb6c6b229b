/-
  DERIVED. GIVEN WITH THE SEED: THE CARDS: each row of YtalmbigebjbaoaaGreatDoorRows.lean that lists a variable, with what it lists TIED to the program's text (the seventh form; the later family's looks); each row that meets fmt, with fmt's text TOLD by the authors' own Lean function (tested against real Go, not proved from fmt's source: count such statements apart). THE CARD IS WHAT COUNTS. Prove the row's statement (the work); the ties are given (YtalmbigebjbaoaaGreatDoorTie.lean); close each card by the builder's one call (the guide's Derived/Test/ToyasCard.lean, 'card_holds'). Laid BY PROGRAM, IN A SANDBOX (cutbox-door.mjs). By AI agents, Wed Nov 11 2026. No macro, syntax, notation, axiom, sorry.
-/
import Derived.Test.YtalmbigebjbaoaaGreatDoorRows
import GoSem.ClaimSeven
namespace Go.Proofs.YtalmbigebjbaoaaGreatDoor
namespace Rows

/-- THE TIED CARD OF 'sizartop.TopDegree'. -/
def topDegreeCard : Claim7 := { stood := { row := topDegreeRow, standIns := [], harness := (true, "16650d8a6b2823c2340d40834aa1bbce5a75ed4e646246d4d54ecc512009256e"), looks := true }, kinds := [], alts := [], laidByText := true, laidKinds := [.funcs], laidTests := true, laidLooks := .later }
def TopDegreeCardSaid : Prop := Claim7.holds Tryz.pinned (.plain (OpenSpec.ofChange topDegreeSpec)) topDegreeCard

/-- THE SECOND FORM's CARD OF 'sizartop.TopDegree'. -/
def topDegreeUptoCard : Claim7 := { stood := { row := topDegreeUptoRow, standIns := [], harness := (true, "16650d8a6b2823c2340d40834aa1bbce5a75ed4e646246d4d54ecc512009256e"), looks := true }, kinds := [], alts := [], laidByText := true, laidKinds := [.funcs], laidTests := true, laidLooks := .later }
def TopDegreeUptoCardSaid : Prop := Claim7.holds Tryz.pinned (.plain (OpenSpec.upto topDegreeSpec)) topDegreeUptoCard
end Rows
end Go.Proofs.YtalmbigebjbaoaaGreatDoor
