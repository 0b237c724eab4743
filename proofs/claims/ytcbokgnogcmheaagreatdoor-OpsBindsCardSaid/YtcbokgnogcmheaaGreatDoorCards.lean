/-
  DERIVED. GIVEN WITH THE SEED: THE CARDS: each row of YtcbokgnogcmheaaGreatDoorRows.lean that lists a variable, with what it lists TIED to the program's text (the seventh form; the later family's looks); each row that meets fmt, with fmt's text TOLD by the authors' own Lean function (tested against real Go, not proved from fmt's source: count such statements apart). THE CARD IS WHAT COUNTS. Prove the row's statement (the work); the ties are given (YtcbokgnogcmheaaGreatDoorTie.lean); close each card by the builder's one call (the guide's Derived/Test/ToyasCard.lean, 'card_holds'). Laid BY PROGRAM, IN A SANDBOX (cutbox-door.mjs). By AI agents, Wed Nov 11 2026. No macro, syntax, notation, axiom, sorry.
-/
import Derived.Test.YtcbokgnogcmheaaGreatDoorRows
import GoSem.ClaimSeven
namespace Go.Proofs.YtcbokgnogcmheaaGreatDoor
namespace Rows

/-- THE TIED CARD OF 'portagelaw13.OpsPieces'. -/
def opsPiecesCard : Claim7 := { stood := { row := opsPiecesRow, standIns := [], harness := (true, "cafb1d01378436b5a4d7a7108a87a48fe022fd1406c0b8ef39c8c6cee8879362"), looks := true }, kinds := [], alts := [], laidByText := true, laidKinds := [.data, .data, .widerDeep, .widerDeep, .data, .data, .data, .data, .data, .data, .sentinel, .sentinel, .pinned, .pinned, .pinned], laidTests := true, laidLooks := .later }
def OpsPiecesCardSaid : Prop := Claim7.holds Tryz.pinned (.plain (OpenSpec.ofChange opsPiecesSpec)) opsPiecesCard

/-- THE TIED CARD OF 'portagelaw13.OpsBinds'. -/
def opsBindsCard : Claim7 := { stood := { row := opsBindsRow, standIns := [], harness := (true, "cafb1d01378436b5a4d7a7108a87a48fe022fd1406c0b8ef39c8c6cee8879362"), looks := true }, kinds := [], alts := [], laidByText := true, laidKinds := [.data, .data, .widerDeep, .widerDeep, .data, .data, .data, .data, .data, .data, .sentinel, .sentinel, .pinned, .pinned, .pinned], laidTests := true, laidLooks := .later }
def OpsBindsCardSaid : Prop := Claim7.holds Tryz.pinned (.plain (OpenSpec.ofChange opsBindsSpec)) opsBindsCard

/-- THE SECOND FORM's CARD OF 'portagelaw13.OpsPieces'. -/
def opsPiecesUptoCard : Claim7 := { stood := { row := opsPiecesUptoRow, standIns := [], harness := (true, "cafb1d01378436b5a4d7a7108a87a48fe022fd1406c0b8ef39c8c6cee8879362"), looks := true }, kinds := [], alts := [], laidByText := true, laidKinds := [.data, .data, .widerDeep, .widerDeep, .data, .data, .data, .data, .data, .data, .sentinel, .sentinel, .pinned, .pinned, .pinned], laidTests := true, laidLooks := .later }
def OpsPiecesUptoCardSaid : Prop := Claim7.holds Tryz.pinned (.plain (OpenSpec.upto opsPiecesSpec)) opsPiecesUptoCard

/-- THE SECOND FORM's CARD OF 'portagelaw13.OpsBinds'. -/
def opsBindsUptoCard : Claim7 := { stood := { row := opsBindsUptoRow, standIns := [], harness := (true, "cafb1d01378436b5a4d7a7108a87a48fe022fd1406c0b8ef39c8c6cee8879362"), looks := true }, kinds := [], alts := [], laidByText := true, laidKinds := [.data, .data, .widerDeep, .widerDeep, .data, .data, .data, .data, .data, .data, .sentinel, .sentinel, .pinned, .pinned, .pinned], laidTests := true, laidLooks := .later }
def OpsBindsUptoCardSaid : Prop := Claim7.holds Tryz.pinned (.plain (OpenSpec.upto opsBindsSpec)) opsBindsUptoCard
end Rows
end Go.Proofs.YtcbokgnogcmheaaGreatDoor
