/-
  NARROWER THAN 'FOR EVERY INPUT', by the rows' own cells (each row's printed sentence says how): PeriodTimes: laid · PeriodStarts: laid · PeriodBetween: laid · PeriodNext: laid · PeriodShift: laid · PeriodKnown: laid.
  DERIVED. THE GIVEN ROWS OF THIS SEAT. 6 by the template 'for every input the law returns true; each argument reads behind the call as it read before'; 0 by the template 'total and deterministic' (their statements: YtjcjjobnkcgmcaaDoorTotals.lean).
  GIVEN WITH THE SEED: the statements are not yours to turn. If you find one false, say at which input.
  Laid BY PROGRAM, IN A SANDBOX (cutbox-rows.mjs): the forced cells as the released guide's own fill.sh prints them over the translation 1bf1664170617e41… (all of the seat's roots in one cut). By AI agents, Wed Nov 11 2026. No macro, syntax, notation, axiom, sorry.
-/
import Derived.Test.YtjcjjobnkcgmcaaDoorChecked
import GoSem.Claim
import GoSem.ClaimJoined
import GoSem.ClaimMapViews
import Derived.JoinedTies
import Derived.KernelRfl
namespace Go.Proofs.YtjcjjobnkcgmcaaDoor
/- THE CELL 'sum', in the pinned program and in every row, IS THE sha256 OF THE DUMP (.gsa) THAT YtjcjjobnkcgmcaaDoorProg.lean LOADS. Nothing in Lean hashes anything: it is a label: what it is worth is what the hold of that sum in a sandbox is worth. -/
noncomputable def Tryd.pinned : Pinned := { name := "ytjcjjobnkcgmcaadoor", sum := "1bf1664170617e4133cf665a83092dd1fd7a1e6ebc903d7b30a1b0b50d49b872", checked := Tryd.checked }
namespace Rows
def none {H : Type} : Left H := { results := [], args := [] }

/- WHAT THE LISTED PACKAGE-LEVEL VARIABLES READ AS WHEN THE CALL BEGINS. Each datum BY PROGRAM (the guide's laid-datum.mjs) off the statement by which the dump's own 'gosem.cut.vars' lays the variable. In a bare row this is a premise. The card (YtjcjjobnkcgmcaaDoorCards.lean) ties it to the program's text. -/
def laid_quitrent_civil_lengths {H : Type} : DataW H := .agg [.lit (.int .i64 31), .lit (.int .i64 28), .lit (.int .i64 31), .lit (.int .i64 30), .lit (.int .i64 31), .lit (.int .i64 30), .lit (.int .i64 31), .lit (.int .i64 31), .lit (.int .i64 30), .lit (.int .i64 31), .lit (.int .i64 30), .lit (.int .i64 31)]

/-- 'quitrentlaw09.PeriodTimes': WHATEVER THE INPUT: true; the input reads as it did. -/
def periodTimesSpec : ChangeSpec := { name := "periodTimes", fn := fun _ => fun
  | [d1, d2] => { results := [.lit (.bool true)], args := [d1, d2] }
  | _ => none }
def periodTimesRow : OpenClaim := { program := "ytjcjjobnkcgmcaadoor", sum := "1bf1664170617e4133cf665a83092dd1fd7a1e6ebc903d7b30a1b0b50d49b872", func := "quitrent/quitrentlaw09.PeriodTimes", spec := "periodTimes", unfollowed := true, recurses := true, named := ["quitrent/civil.lengths"], apart := false, laid := [("quitrent/civil.lengths", laid_quitrent_civil_lengths)] }
def PeriodTimesSaid : Prop := periodTimesRow.holds Tryd.pinned (OpenSpec.ofChange periodTimesSpec)

/-- ITS FALSE NEIGHBOUR: 'it returns false'. Refute it at one input. -/
def periodTimesWrong : ChangeSpec := { name := "periodTimes", fn := fun _ => fun
  | [d1, d2] => { results := [.lit (.bool false)], args := [d1, d2] }
  | _ => none }
def PeriodTimesWrongFalsely : Prop := periodTimesRow.holds Tryd.pinned (OpenSpec.ofChange periodTimesWrong)

/-- 'quitrentlaw09.PeriodStarts': WHATEVER THE INPUT: true; the input reads as it did. -/
def periodStartsSpec : ChangeSpec := { name := "periodStarts", fn := fun _ => fun
  | [d1, d2, d3] => { results := [.lit (.bool true)], args := [d1, d2, d3] }
  | _ => none }
def periodStartsRow : OpenClaim := { program := "ytjcjjobnkcgmcaadoor", sum := "1bf1664170617e4133cf665a83092dd1fd7a1e6ebc903d7b30a1b0b50d49b872", func := "quitrent/quitrentlaw09.PeriodStarts", spec := "periodStarts", unfollowed := true, recurses := true, named := ["quitrent/civil.lengths"], apart := false, laid := [("quitrent/civil.lengths", laid_quitrent_civil_lengths)] }
def PeriodStartsSaid : Prop := periodStartsRow.holds Tryd.pinned (OpenSpec.ofChange periodStartsSpec)

/-- ITS FALSE NEIGHBOUR: 'it returns false'. Refute it at one input. -/
def periodStartsWrong : ChangeSpec := { name := "periodStarts", fn := fun _ => fun
  | [d1, d2, d3] => { results := [.lit (.bool false)], args := [d1, d2, d3] }
  | _ => none }
def PeriodStartsWrongFalsely : Prop := periodStartsRow.holds Tryd.pinned (OpenSpec.ofChange periodStartsWrong)

/-- 'quitrentlaw09.PeriodBetween': WHATEVER THE INPUT: true; the input reads as it did. -/
def periodBetweenSpec : ChangeSpec := { name := "periodBetween", fn := fun _ => fun
  | [d1, d2] => { results := [.lit (.bool true)], args := [d1, d2] }
  | _ => none }
def periodBetweenRow : OpenClaim := { program := "ytjcjjobnkcgmcaadoor", sum := "1bf1664170617e4133cf665a83092dd1fd7a1e6ebc903d7b30a1b0b50d49b872", func := "quitrent/quitrentlaw09.PeriodBetween", spec := "periodBetween", unfollowed := true, recurses := true, named := ["quitrent/civil.lengths"], apart := false, laid := [("quitrent/civil.lengths", laid_quitrent_civil_lengths)] }
def PeriodBetweenSaid : Prop := periodBetweenRow.holds Tryd.pinned (OpenSpec.ofChange periodBetweenSpec)

/-- ITS FALSE NEIGHBOUR: 'it returns false'. Refute it at one input. -/
def periodBetweenWrong : ChangeSpec := { name := "periodBetween", fn := fun _ => fun
  | [d1, d2] => { results := [.lit (.bool false)], args := [d1, d2] }
  | _ => none }
def PeriodBetweenWrongFalsely : Prop := periodBetweenRow.holds Tryd.pinned (OpenSpec.ofChange periodBetweenWrong)

/-- 'quitrentlaw09.PeriodNext': WHATEVER THE INPUT: true; the input reads as it did. -/
def periodNextSpec : ChangeSpec := { name := "periodNext", fn := fun _ => fun
  | [d1, d2, d3] => { results := [.lit (.bool true)], args := [d1, d2, d3] }
  | _ => none }
def periodNextRow : OpenClaim := { program := "ytjcjjobnkcgmcaadoor", sum := "1bf1664170617e4133cf665a83092dd1fd7a1e6ebc903d7b30a1b0b50d49b872", func := "quitrent/quitrentlaw09.PeriodNext", spec := "periodNext", unfollowed := true, recurses := true, named := ["quitrent/civil.lengths"], apart := false, laid := [("quitrent/civil.lengths", laid_quitrent_civil_lengths)] }
def PeriodNextSaid : Prop := periodNextRow.holds Tryd.pinned (OpenSpec.ofChange periodNextSpec)

/-- ITS FALSE NEIGHBOUR: 'it returns false'. Refute it at one input. -/
def periodNextWrong : ChangeSpec := { name := "periodNext", fn := fun _ => fun
  | [d1, d2, d3] => { results := [.lit (.bool false)], args := [d1, d2, d3] }
  | _ => none }
def PeriodNextWrongFalsely : Prop := periodNextRow.holds Tryd.pinned (OpenSpec.ofChange periodNextWrong)

/-- 'quitrentlaw09.PeriodShift': WHATEVER THE INPUT: true; the input reads as it did. -/
def periodShiftSpec : ChangeSpec := { name := "periodShift", fn := fun _ => fun
  | [d1, d2] => { results := [.lit (.bool true)], args := [d1, d2] }
  | _ => none }
def periodShiftRow : OpenClaim := { program := "ytjcjjobnkcgmcaadoor", sum := "1bf1664170617e4133cf665a83092dd1fd7a1e6ebc903d7b30a1b0b50d49b872", func := "quitrent/quitrentlaw09.PeriodShift", spec := "periodShift", unfollowed := true, recurses := true, named := ["quitrent/civil.lengths"], apart := false, laid := [("quitrent/civil.lengths", laid_quitrent_civil_lengths)] }
def PeriodShiftSaid : Prop := periodShiftRow.holds Tryd.pinned (OpenSpec.ofChange periodShiftSpec)

/-- ITS FALSE NEIGHBOUR: 'it returns false'. Refute it at one input. -/
def periodShiftWrong : ChangeSpec := { name := "periodShift", fn := fun _ => fun
  | [d1, d2] => { results := [.lit (.bool false)], args := [d1, d2] }
  | _ => none }
def PeriodShiftWrongFalsely : Prop := periodShiftRow.holds Tryd.pinned (OpenSpec.ofChange periodShiftWrong)

/-- 'quitrentlaw09.PeriodKnown': WHATEVER THE INPUT: true; the input reads as it did. -/
def periodKnownSpec : ChangeSpec := { name := "periodKnown", fn := fun _ => fun
  | [] => { results := [.lit (.bool true)], args := [] }
  | _ => none }
def periodKnownRow : OpenClaim := { program := "ytjcjjobnkcgmcaadoor", sum := "1bf1664170617e4133cf665a83092dd1fd7a1e6ebc903d7b30a1b0b50d49b872", func := "quitrent/quitrentlaw09.PeriodKnown", spec := "periodKnown", unfollowed := true, recurses := true, named := ["quitrent/civil.lengths"], apart := false, laid := [("quitrent/civil.lengths", laid_quitrent_civil_lengths)] }
def PeriodKnownSaid : Prop := periodKnownRow.holds Tryd.pinned (OpenSpec.ofChange periodKnownSpec)

/-- ITS FALSE NEIGHBOUR: 'it returns false'. Refute it at one input. -/
def periodKnownWrong : ChangeSpec := { name := "periodKnown", fn := fun _ => fun
  | [] => { results := [.lit (.bool false)], args := [] }
  | _ => none }
def PeriodKnownWrongFalsely : Prop := periodKnownRow.holds Tryd.pinned (OpenSpec.ofChange periodKnownWrong)

/- THE SECOND FORM. 'bulk': how many values and letters a reading holds, each counted each time it is reached (what is shared counts as often as it is met; a slice's spare places count too). A statement '..UptoSaid' is the law's where the arguments, and the package variables that the reading takes, are together of bulk at most 1048576: NARROWER than '..Said'. Prove '..Said' where nothing that the law and all that it calls make is longer than what came in: it says more and counts as full. Else prove '..UptoSaid'. A law counts once. -/
mutual
def uptoBulk {H : Type} : DataW H → Nat
  | .lit (.string bytes) => bytes.length + 1
  | .lit _ => 1
  | .nil => 1
  | .ptr d => uptoBulk d + 1
  | .slice elems spare => uptoBulkAll elems + uptoBulkAll spare + 1
  | .agg parts => uptoBulkAll parts + 1
  | .iface _ d => uptoBulk d + 1
  | .map entries => uptoBulkEntries entries + 1
  | .held _ => 1
def uptoBulkAll {H : Type} : List (DataW H) → Nat
  | [] => 0
  | d :: r => uptoBulk d + uptoBulkAll r
def uptoBulkEntries {H : Type} : List (Lit × DataW H) → Nat
  | [] => 0
  | x :: r => uptoBulkEntry x + uptoBulkEntries r
def uptoBulkEntry {H : Type} : Lit × DataW H → Nat
  | (.string bytes, d) => bytes.length + uptoBulk d + 1
  | (_, d) => uptoBulk d + 1
 end
def uptoSmall : (H : Type) → List (DataW H) → Bool := fun _ ds => decide (uptoBulkAll ds ≤ 1048576)
def OpenSpec.upto (s : _root_.Go.ChangeSpec) : _root_.Go.OpenSpec := { _root_.Go.OpenSpec.ofChange s with cond := some uptoSmall }

/-- 'quitrentlaw09.PeriodTimes', WHERE WHAT IT READS IS OF BULK AT MOST 1048576: true; the input reads as it did. -/
def periodTimesUptoRow : OpenClaim := { program := "ytjcjjobnkcgmcaadoor", sum := "1bf1664170617e4133cf665a83092dd1fd7a1e6ebc903d7b30a1b0b50d49b872", func := "quitrent/quitrentlaw09.PeriodTimes", spec := "periodTimes", unfollowed := true, recurses := true, named := ["quitrent/civil.lengths"], apart := false, laid := [("quitrent/civil.lengths", laid_quitrent_civil_lengths)], narrowed := true }
def PeriodTimesUptoSaid : Prop := periodTimesUptoRow.holds Tryd.pinned (OpenSpec.upto periodTimesSpec)

/-- 'quitrentlaw09.PeriodStarts', WHERE WHAT IT READS IS OF BULK AT MOST 1048576: true; the input reads as it did. -/
def periodStartsUptoRow : OpenClaim := { program := "ytjcjjobnkcgmcaadoor", sum := "1bf1664170617e4133cf665a83092dd1fd7a1e6ebc903d7b30a1b0b50d49b872", func := "quitrent/quitrentlaw09.PeriodStarts", spec := "periodStarts", unfollowed := true, recurses := true, named := ["quitrent/civil.lengths"], apart := false, laid := [("quitrent/civil.lengths", laid_quitrent_civil_lengths)], narrowed := true }
def PeriodStartsUptoSaid : Prop := periodStartsUptoRow.holds Tryd.pinned (OpenSpec.upto periodStartsSpec)

/-- 'quitrentlaw09.PeriodBetween', WHERE WHAT IT READS IS OF BULK AT MOST 1048576: true; the input reads as it did. -/
def periodBetweenUptoRow : OpenClaim := { program := "ytjcjjobnkcgmcaadoor", sum := "1bf1664170617e4133cf665a83092dd1fd7a1e6ebc903d7b30a1b0b50d49b872", func := "quitrent/quitrentlaw09.PeriodBetween", spec := "periodBetween", unfollowed := true, recurses := true, named := ["quitrent/civil.lengths"], apart := false, laid := [("quitrent/civil.lengths", laid_quitrent_civil_lengths)], narrowed := true }
def PeriodBetweenUptoSaid : Prop := periodBetweenUptoRow.holds Tryd.pinned (OpenSpec.upto periodBetweenSpec)

/-- 'quitrentlaw09.PeriodNext', WHERE WHAT IT READS IS OF BULK AT MOST 1048576: true; the input reads as it did. -/
def periodNextUptoRow : OpenClaim := { program := "ytjcjjobnkcgmcaadoor", sum := "1bf1664170617e4133cf665a83092dd1fd7a1e6ebc903d7b30a1b0b50d49b872", func := "quitrent/quitrentlaw09.PeriodNext", spec := "periodNext", unfollowed := true, recurses := true, named := ["quitrent/civil.lengths"], apart := false, laid := [("quitrent/civil.lengths", laid_quitrent_civil_lengths)], narrowed := true }
def PeriodNextUptoSaid : Prop := periodNextUptoRow.holds Tryd.pinned (OpenSpec.upto periodNextSpec)

/-- 'quitrentlaw09.PeriodShift', WHERE WHAT IT READS IS OF BULK AT MOST 1048576: true; the input reads as it did. -/
def periodShiftUptoRow : OpenClaim := { program := "ytjcjjobnkcgmcaadoor", sum := "1bf1664170617e4133cf665a83092dd1fd7a1e6ebc903d7b30a1b0b50d49b872", func := "quitrent/quitrentlaw09.PeriodShift", spec := "periodShift", unfollowed := true, recurses := true, named := ["quitrent/civil.lengths"], apart := false, laid := [("quitrent/civil.lengths", laid_quitrent_civil_lengths)], narrowed := true }
def PeriodShiftUptoSaid : Prop := periodShiftUptoRow.holds Tryd.pinned (OpenSpec.upto periodShiftSpec)

/-- 'quitrentlaw09.PeriodKnown', WHERE WHAT IT READS IS OF BULK AT MOST 1048576: true; the input reads as it did. -/
def periodKnownUptoRow : OpenClaim := { program := "ytjcjjobnkcgmcaadoor", sum := "1bf1664170617e4133cf665a83092dd1fd7a1e6ebc903d7b30a1b0b50d49b872", func := "quitrent/quitrentlaw09.PeriodKnown", spec := "periodKnown", unfollowed := true, recurses := true, named := ["quitrent/civil.lengths"], apart := false, laid := [("quitrent/civil.lengths", laid_quitrent_civil_lengths)], narrowed := true }
def PeriodKnownUptoSaid : Prop := periodKnownUptoRow.holds Tryd.pinned (OpenSpec.upto periodKnownSpec)

end Rows
end Go.Proofs.YtjcjjobnkcgmcaaDoor
