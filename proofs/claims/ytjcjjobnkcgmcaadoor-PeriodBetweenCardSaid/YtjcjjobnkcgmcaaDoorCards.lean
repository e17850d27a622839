/-
  DERIVED. GIVEN WITH THE SEED: THE CARDS: each row of YtjcjjobnkcgmcaaDoorRows.lean that lists a variable, with what it lists TIED to the program's text (the seventh form; the later family's looks); each row that meets fmt, with fmt's text TOLD by the authors' own Lean function (tested against real Go, not proved from fmt's source: count such statements apart). THE CARD IS WHAT COUNTS. Prove the row's statement (the work); the ties are given (YtjcjjobnkcgmcaaDoorTie.lean); close each card by the builder's one call (the guide's Derived/Test/ToyasCard.lean, 'card_holds'). Laid BY PROGRAM, IN A SANDBOX (cutbox-door.mjs). By AI agents, Wed Nov 11 2026. No macro, syntax, notation, axiom, sorry.
-/
import Derived.Test.YtjcjjobnkcgmcaaDoorRows
import GoSem.ClaimSeven
namespace Go.Proofs.YtjcjjobnkcgmcaaDoor
namespace Rows

/-- THE TIED CARD OF 'quitrentlaw09.PeriodTimes'. -/
def periodTimesCard : Claim7 := { stood := { row := periodTimesRow, standIns := [], harness := (true, "f9d4b3ac0c0ef5eb5bcc2bb30673b562488a8975197722ba7065a0ef177ac22f"), looks := false }, kinds := [], alts := [], laidByText := true, laidKinds := [.data], laidTests := true, laidLooks := .later }
def PeriodTimesCardSaid : Prop := Claim7.holds Tryd.pinned (.plain (OpenSpec.ofChange periodTimesSpec)) periodTimesCard

/-- THE TIED CARD OF 'quitrentlaw09.PeriodStarts'. -/
def periodStartsCard : Claim7 := { stood := { row := periodStartsRow, standIns := [], harness := (true, "f9d4b3ac0c0ef5eb5bcc2bb30673b562488a8975197722ba7065a0ef177ac22f"), looks := false }, kinds := [], alts := [], laidByText := true, laidKinds := [.data], laidTests := true, laidLooks := .later }
def PeriodStartsCardSaid : Prop := Claim7.holds Tryd.pinned (.plain (OpenSpec.ofChange periodStartsSpec)) periodStartsCard

/-- THE TIED CARD OF 'quitrentlaw09.PeriodBetween'. -/
def periodBetweenCard : Claim7 := { stood := { row := periodBetweenRow, standIns := [], harness := (true, "f9d4b3ac0c0ef5eb5bcc2bb30673b562488a8975197722ba7065a0ef177ac22f"), looks := false }, kinds := [], alts := [], laidByText := true, laidKinds := [.data], laidTests := true, laidLooks := .later }
def PeriodBetweenCardSaid : Prop := Claim7.holds Tryd.pinned (.plain (OpenSpec.ofChange periodBetweenSpec)) periodBetweenCard

/-- THE TIED CARD OF 'quitrentlaw09.PeriodNext'. -/
def periodNextCard : Claim7 := { stood := { row := periodNextRow, standIns := [], harness := (true, "f9d4b3ac0c0ef5eb5bcc2bb30673b562488a8975197722ba7065a0ef177ac22f"), looks := false }, kinds := [], alts := [], laidByText := true, laidKinds := [.data], laidTests := true, laidLooks := .later }
def PeriodNextCardSaid : Prop := Claim7.holds Tryd.pinned (.plain (OpenSpec.ofChange periodNextSpec)) periodNextCard

/-- THE TIED CARD OF 'quitrentlaw09.PeriodShift'. -/
def periodShiftCard : Claim7 := { stood := { row := periodShiftRow, standIns := [], harness := (true, "f9d4b3ac0c0ef5eb5bcc2bb30673b562488a8975197722ba7065a0ef177ac22f"), looks := false }, kinds := [], alts := [], laidByText := true, laidKinds := [.data], laidTests := true, laidLooks := .later }
def PeriodShiftCardSaid : Prop := Claim7.holds Tryd.pinned (.plain (OpenSpec.ofChange periodShiftSpec)) periodShiftCard

/-- THE TIED CARD OF 'quitrentlaw09.PeriodKnown'. -/
def periodKnownCard : Claim7 := { stood := { row := periodKnownRow, standIns := [], harness := (true, "f9d4b3ac0c0ef5eb5bcc2bb30673b562488a8975197722ba7065a0ef177ac22f"), looks := false }, kinds := [], alts := [], laidByText := true, laidKinds := [.data], laidTests := true, laidLooks := .later }
def PeriodKnownCardSaid : Prop := Claim7.holds Tryd.pinned (.plain (OpenSpec.ofChange periodKnownSpec)) periodKnownCard

/-- THE SECOND FORM's CARD OF 'quitrentlaw09.PeriodTimes'. -/
def periodTimesUptoCard : Claim7 := { stood := { row := periodTimesUptoRow, standIns := [], harness := (true, "f9d4b3ac0c0ef5eb5bcc2bb30673b562488a8975197722ba7065a0ef177ac22f"), looks := false }, kinds := [], alts := [], laidByText := true, laidKinds := [.data], laidTests := true, laidLooks := .later }
def PeriodTimesUptoCardSaid : Prop := Claim7.holds Tryd.pinned (.plain (OpenSpec.upto periodTimesSpec)) periodTimesUptoCard

/-- THE SECOND FORM's CARD OF 'quitrentlaw09.PeriodStarts'. -/
def periodStartsUptoCard : Claim7 := { stood := { row := periodStartsUptoRow, standIns := [], harness := (true, "f9d4b3ac0c0ef5eb5bcc2bb30673b562488a8975197722ba7065a0ef177ac22f"), looks := false }, kinds := [], alts := [], laidByText := true, laidKinds := [.data], laidTests := true, laidLooks := .later }
def PeriodStartsUptoCardSaid : Prop := Claim7.holds Tryd.pinned (.plain (OpenSpec.upto periodStartsSpec)) periodStartsUptoCard

/-- THE SECOND FORM's CARD OF 'quitrentlaw09.PeriodBetween'. -/
def periodBetweenUptoCard : Claim7 := { stood := { row := periodBetweenUptoRow, standIns := [], harness := (true, "f9d4b3ac0c0ef5eb5bcc2bb30673b562488a8975197722ba7065a0ef177ac22f"), looks := false }, kinds := [], alts := [], laidByText := true, laidKinds := [.data], laidTests := true, laidLooks := .later }
def PeriodBetweenUptoCardSaid : Prop := Claim7.holds Tryd.pinned (.plain (OpenSpec.upto periodBetweenSpec)) periodBetweenUptoCard

/-- THE SECOND FORM's CARD OF 'quitrentlaw09.PeriodNext'. -/
def periodNextUptoCard : Claim7 := { stood := { row := periodNextUptoRow, standIns := [], harness := (true, "f9d4b3ac0c0ef5eb5bcc2bb30673b562488a8975197722ba7065a0ef177ac22f"), looks := false }, kinds := [], alts := [], laidByText := true, laidKinds := [.data], laidTests := true, laidLooks := .later }
def PeriodNextUptoCardSaid : Prop := Claim7.holds Tryd.pinned (.plain (OpenSpec.upto periodNextSpec)) periodNextUptoCard

/-- THE SECOND FORM's CARD OF 'quitrentlaw09.PeriodShift'. -/
def periodShiftUptoCard : Claim7 := { stood := { row := periodShiftUptoRow, standIns := [], harness := (true, "f9d4b3ac0c0ef5eb5bcc2bb30673b562488a8975197722ba7065a0ef177ac22f"), looks := false }, kinds := [], alts := [], laidByText := true, laidKinds := [.data], laidTests := true, laidLooks := .later }
def PeriodShiftUptoCardSaid : Prop := Claim7.holds Tryd.pinned (.plain (OpenSpec.upto periodShiftSpec)) periodShiftUptoCard

/-- THE SECOND FORM's CARD OF 'quitrentlaw09.PeriodKnown'. -/
def periodKnownUptoCard : Claim7 := { stood := { row := periodKnownUptoRow, standIns := [], harness := (true, "f9d4b3ac0c0ef5eb5bcc2bb30673b562488a8975197722ba7065a0ef177ac22f"), looks := false }, kinds := [], alts := [], laidByText := true, laidKinds := [.data], laidTests := true, laidLooks := .later }
def PeriodKnownUptoCardSaid : Prop := Claim7.holds Tryd.pinned (.plain (OpenSpec.upto periodKnownSpec)) periodKnownUptoCard
end Rows
end Go.Proofs.YtjcjjobnkcgmcaaDoor
