/-
  DERIVED. GIVEN WITH THE SEED: THE CARDS: each row of YtidppalhjknlfaaGreatDoorRows.lean that lists a variable, with what it lists TIED to the program's text (the seventh form; the later family's looks); each row that meets fmt, with fmt's text TOLD by the authors' own Lean function (tested against real Go, not proved from fmt's source: count such statements apart). THE CARD IS WHAT COUNTS. Prove the row's statement (the work); the ties are given (YtidppalhjknlfaaGreatDoorTie.lean); close each card by the builder's one call (the guide's Derived/Test/ToyasCard.lean, 'card_holds'). Laid BY PROGRAM, IN A SANDBOX (cutbox-door.mjs). By AI agents, Wed Nov 11 2026. No macro, syntax, notation, axiom, sorry.
-/
import Derived.Test.YtidppalhjknlfaaGreatDoorRows
import GoSem.ClaimSeven
namespace Go.Proofs.YtidppalhjknlfaaGreatDoor
namespace Rows

/-- THE TIED CARD OF 'quitrentlaw21.CyclePlays'. -/
def cyclePlaysCard : Claim7 := { stood := { row := cyclePlaysRow, standIns := [], harness := (true, "f15a0f181b1288f25a5ad4e5c49ff9d64774304c97d8b6d78f849faba4bc1d1e"), looks := false }, kinds := [], alts := [], laidByText := true, laidKinds := [.data], laidTests := true, laidLooks := .later }
def CyclePlaysCardSaid : Prop := Claim7.holds Tryz.pinned (.plain (OpenSpec.ofChange cyclePlaysSpec)) cyclePlaysCard

/-- THE SECOND FORM's CARD OF 'quitrentlaw21.CyclePlays'. -/
def cyclePlaysUptoCard : Claim7 := { stood := { row := cyclePlaysUptoRow, standIns := [], harness := (true, "f15a0f181b1288f25a5ad4e5c49ff9d64774304c97d8b6d78f849faba4bc1d1e"), looks := false }, kinds := [], alts := [], laidByText := true, laidKinds := [.data], laidTests := true, laidLooks := .later }
def CyclePlaysUptoCardSaid : Prop := Claim7.holds Tryz.pinned (.plain (OpenSpec.upto cyclePlaysSpec)) cyclePlaysUptoCard
end Rows
end Go.Proofs.YtidppalhjknlfaaGreatDoor
