/-
  DERIVED. GIVEN WITH THE SEED: THE CARDS: each row of YtidppalhjknlfaaDoorRows.lean that lists a variable, with what it lists TIED to the program's text (the seventh form; the later family's looks); each row that meets fmt, with fmt's text TOLD by the authors' own Lean function (tested against real Go, not proved from fmt's source: count such statements apart). THE CARD IS WHAT COUNTS. Prove the row's statement (the work); the ties are given (YtidppalhjknlfaaDoorTie.lean); close each card by the builder's one call (the guide's Derived/Test/ToyasCard.lean, 'card_holds'). Laid BY PROGRAM, IN A SANDBOX (cutbox-door.mjs). By AI agents, Wed Nov 11 2026. No macro, syntax, notation, axiom, sorry.
-/
import Derived.Test.YtidppalhjknlfaaDoorRows
import GoSem.ClaimSeven
namespace Go.Proofs.YtidppalhjknlfaaDoor
namespace Rows

/-- THE TIED CARD OF 'quitrentlaw21.CycleDays'. -/
def cycleDaysCard : Claim7 := { stood := { row := cycleDaysRow, standIns := [], harness := (true, "526f847d329bb3284e23c22000cf73d6967e900d3b8c3f98698cc2706b1241b1"), looks := false }, kinds := [], alts := [], laidByText := true, laidKinds := [.data], laidTests := true, laidLooks := .later }
def CycleDaysCardSaid : Prop := Claim7.holds Tryd.pinned (.plain (OpenSpec.ofChange cycleDaysSpec)) cycleDaysCard

/-- THE TIED CARD OF 'quitrentlaw21.CycleWhole'. -/
def cycleWholeCard : Claim7 := { stood := { row := cycleWholeRow, standIns := [], harness := (true, "526f847d329bb3284e23c22000cf73d6967e900d3b8c3f98698cc2706b1241b1"), looks := false }, kinds := [], alts := [], laidByText := true, laidKinds := [.data], laidTests := true, laidLooks := .later }
def CycleWholeCardSaid : Prop := Claim7.holds Tryd.pinned (.plain (OpenSpec.ofChange cycleWholeSpec)) cycleWholeCard

/-- THE TIED CARD OF 'quitrentlaw21.CycleOnce'. -/
def cycleOnceCard : Claim7 := { stood := { row := cycleOnceRow, standIns := [], harness := (true, "526f847d329bb3284e23c22000cf73d6967e900d3b8c3f98698cc2706b1241b1"), looks := false }, kinds := [], alts := [], laidByText := true, laidKinds := [.data], laidTests := true, laidLooks := .later }
def CycleOnceCardSaid : Prop := Claim7.holds Tryd.pinned (.plain (OpenSpec.ofChange cycleOnceSpec)) cycleOnceCard

/-- THE TIED CARD OF 'quitrentlaw21.CycleLater'. -/
def cycleLaterCard : Claim7 := { stood := { row := cycleLaterRow, standIns := [], harness := (true, "526f847d329bb3284e23c22000cf73d6967e900d3b8c3f98698cc2706b1241b1"), looks := false }, kinds := [], alts := [], laidByText := true, laidKinds := [.data], laidTests := true, laidLooks := .later }
def CycleLaterCardSaid : Prop := Claim7.holds Tryd.pinned (.plain (OpenSpec.ofChange cycleLaterSpec)) cycleLaterCard

/-- THE TIED CARD OF 'quitrentlaw21.CycleKnown'. -/
def cycleKnownCard : Claim7 := { stood := { row := cycleKnownRow, standIns := [], harness := (true, "526f847d329bb3284e23c22000cf73d6967e900d3b8c3f98698cc2706b1241b1"), looks := false }, kinds := [], alts := [], laidByText := true, laidKinds := [.data], laidTests := true, laidLooks := .later }
def CycleKnownCardSaid : Prop := Claim7.holds Tryd.pinned (.plain (OpenSpec.ofChange cycleKnownSpec)) cycleKnownCard

/-- THE SECOND FORM's CARD OF 'quitrentlaw21.CycleDays'. -/
def cycleDaysUptoCard : Claim7 := { stood := { row := cycleDaysUptoRow, standIns := [], harness := (true, "526f847d329bb3284e23c22000cf73d6967e900d3b8c3f98698cc2706b1241b1"), looks := false }, kinds := [], alts := [], laidByText := true, laidKinds := [.data], laidTests := true, laidLooks := .later }
def CycleDaysUptoCardSaid : Prop := Claim7.holds Tryd.pinned (.plain (OpenSpec.upto cycleDaysSpec)) cycleDaysUptoCard

/-- THE SECOND FORM's CARD OF 'quitrentlaw21.CycleWhole'. -/
def cycleWholeUptoCard : Claim7 := { stood := { row := cycleWholeUptoRow, standIns := [], harness := (true, "526f847d329bb3284e23c22000cf73d6967e900d3b8c3f98698cc2706b1241b1"), looks := false }, kinds := [], alts := [], laidByText := true, laidKinds := [.data], laidTests := true, laidLooks := .later }
def CycleWholeUptoCardSaid : Prop := Claim7.holds Tryd.pinned (.plain (OpenSpec.upto cycleWholeSpec)) cycleWholeUptoCard

/-- THE SECOND FORM's CARD OF 'quitrentlaw21.CycleOnce'. -/
def cycleOnceUptoCard : Claim7 := { stood := { row := cycleOnceUptoRow, standIns := [], harness := (true, "526f847d329bb3284e23c22000cf73d6967e900d3b8c3f98698cc2706b1241b1"), looks := false }, kinds := [], alts := [], laidByText := true, laidKinds := [.data], laidTests := true, laidLooks := .later }
def CycleOnceUptoCardSaid : Prop := Claim7.holds Tryd.pinned (.plain (OpenSpec.upto cycleOnceSpec)) cycleOnceUptoCard

/-- THE SECOND FORM's CARD OF 'quitrentlaw21.CycleLater'. -/
def cycleLaterUptoCard : Claim7 := { stood := { row := cycleLaterUptoRow, standIns := [], harness := (true, "526f847d329bb3284e23c22000cf73d6967e900d3b8c3f98698cc2706b1241b1"), looks := false }, kinds := [], alts := [], laidByText := true, laidKinds := [.data], laidTests := true, laidLooks := .later }
def CycleLaterUptoCardSaid : Prop := Claim7.holds Tryd.pinned (.plain (OpenSpec.upto cycleLaterSpec)) cycleLaterUptoCard

/-- THE SECOND FORM's CARD OF 'quitrentlaw21.CycleKnown'. -/
def cycleKnownUptoCard : Claim7 := { stood := { row := cycleKnownUptoRow, standIns := [], harness := (true, "526f847d329bb3284e23c22000cf73d6967e900d3b8c3f98698cc2706b1241b1"), looks := false }, kinds := [], alts := [], laidByText := true, laidKinds := [.data], laidTests := true, laidLooks := .later }
def CycleKnownUptoCardSaid : Prop := Claim7.holds Tryd.pinned (.plain (OpenSpec.upto cycleKnownSpec)) cycleKnownUptoCard
end Rows
end Go.Proofs.YtidppalhjknlfaaDoor
