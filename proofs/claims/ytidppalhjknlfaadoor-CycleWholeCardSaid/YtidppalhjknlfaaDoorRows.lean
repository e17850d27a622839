/-
  NARROWER THAN 'FOR EVERY INPUT', by the rows' own cells (each row's printed sentence says how): CycleDays: laid · CycleWhole: laid · CycleOnce: laid · CycleLater: laid · CycleKnown: laid.
  DERIVED. THE GIVEN ROWS OF THIS SEAT. 5 by the template 'for every input the law returns true; each argument reads behind the call as it read before'; 0 by the template 'total and deterministic' (their statements: YtidppalhjknlfaaDoorTotals.lean).
  GIVEN WITH THE SEED: the statements are not yours to turn. If you find one false, say at which input.
  Laid BY PROGRAM, IN A SANDBOX (cutbox-rows.mjs): the forced cells as the released guide's own fill.sh prints them over the translation b4231b46784ba2da… (all of the seat's roots in one cut). By AI agents, Wed Nov 11 2026. No macro, syntax, notation, axiom, sorry.
-/
import Derived.Test.YtidppalhjknlfaaDoorChecked
import GoSem.Claim
import GoSem.ClaimJoined
import GoSem.ClaimMapViews
import Derived.JoinedTies
import Derived.KernelRfl
namespace Go.Proofs.YtidppalhjknlfaaDoor
/- THE CELL 'sum', in the pinned program and in every row, IS THE sha256 OF THE DUMP (.gsa) THAT YtidppalhjknlfaaDoorProg.lean LOADS. Nothing in Lean hashes anything: it is a label: what it is worth is what the hold of that sum in a sandbox is worth. -/
noncomputable def Tryd.pinned : Pinned := { name := "ytidppalhjknlfaadoor", sum := "b4231b46784ba2da00a68b426b80ce678cf58c01400d9336964200fec36ea0c4", checked := Tryd.checked }
namespace Rows
def none {H : Type} : Left H := { results := [], args := [] }

/- WHAT THE LISTED PACKAGE-LEVEL VARIABLES READ AS WHEN THE CALL BEGINS. Each datum BY PROGRAM (the guide's laid-datum.mjs) off the statement by which the dump's own 'gosem.cut.vars' lays the variable. In a bare row this is a premise. The card (YtidppalhjknlfaaDoorCards.lean) ties it to the program's text. -/
def laid_quitrent_civil_lengths {H : Type} : DataW H := .agg [.lit (.int .i64 31), .lit (.int .i64 28), .lit (.int .i64 31), .lit (.int .i64 30), .lit (.int .i64 31), .lit (.int .i64 30), .lit (.int .i64 31), .lit (.int .i64 31), .lit (.int .i64 30), .lit (.int .i64 31), .lit (.int .i64 30), .lit (.int .i64 31)]

/-- 'quitrentlaw21.CycleDays': WHATEVER THE INPUT: true; the input reads as it did. -/
def cycleDaysSpec : ChangeSpec := { name := "cycleDays", fn := fun _ => fun
  | [d1, d2] => { results := [.lit (.bool true)], args := [d1, d2] }
  | _ => none }
def cycleDaysRow : OpenClaim := { program := "ytidppalhjknlfaadoor", sum := "b4231b46784ba2da00a68b426b80ce678cf58c01400d9336964200fec36ea0c4", func := "quitrent/quitrentlaw21.CycleDays", spec := "cycleDays", unfollowed := true, recurses := true, named := ["quitrent/civil.lengths"], apart := false, laid := [("quitrent/civil.lengths", laid_quitrent_civil_lengths)] }
def CycleDaysSaid : Prop := cycleDaysRow.holds Tryd.pinned (OpenSpec.ofChange cycleDaysSpec)

/-- ITS FALSE NEIGHBOUR: 'it returns false'. Refute it at one input. -/
def cycleDaysWrong : ChangeSpec := { name := "cycleDays", fn := fun _ => fun
  | [d1, d2] => { results := [.lit (.bool false)], args := [d1, d2] }
  | _ => none }
def CycleDaysWrongFalsely : Prop := cycleDaysRow.holds Tryd.pinned (OpenSpec.ofChange cycleDaysWrong)

/-- 'quitrentlaw21.CycleWhole': WHATEVER THE INPUT: true; the input reads as it did. -/
def cycleWholeSpec : ChangeSpec := { name := "cycleWhole", fn := fun _ => fun
  | [d1, d2, d3] => { results := [.lit (.bool true)], args := [d1, d2, d3] }
  | _ => none }
def cycleWholeRow : OpenClaim := { program := "ytidppalhjknlfaadoor", sum := "b4231b46784ba2da00a68b426b80ce678cf58c01400d9336964200fec36ea0c4", func := "quitrent/quitrentlaw21.CycleWhole", spec := "cycleWhole", unfollowed := true, recurses := true, named := ["quitrent/civil.lengths"], apart := false, laid := [("quitrent/civil.lengths", laid_quitrent_civil_lengths)] }
def CycleWholeSaid : Prop := cycleWholeRow.holds Tryd.pinned (OpenSpec.ofChange cycleWholeSpec)

/-- ITS FALSE NEIGHBOUR: 'it returns false'. Refute it at one input. -/
def cycleWholeWrong : ChangeSpec := { name := "cycleWhole", fn := fun _ => fun
  | [d1, d2, d3] => { results := [.lit (.bool false)], args := [d1, d2, d3] }
  | _ => none }
def CycleWholeWrongFalsely : Prop := cycleWholeRow.holds Tryd.pinned (OpenSpec.ofChange cycleWholeWrong)

/-- 'quitrentlaw21.CycleOnce': WHATEVER THE INPUT: true; the input reads as it did. -/
def cycleOnceSpec : ChangeSpec := { name := "cycleOnce", fn := fun _ => fun
  | [d1, d2] => { results := [.lit (.bool true)], args := [d1, d2] }
  | _ => none }
def cycleOnceRow : OpenClaim := { program := "ytidppalhjknlfaadoor", sum := "b4231b46784ba2da00a68b426b80ce678cf58c01400d9336964200fec36ea0c4", func := "quitrent/quitrentlaw21.CycleOnce", spec := "cycleOnce", unfollowed := true, recurses := true, named := ["quitrent/civil.lengths"], apart := false, laid := [("quitrent/civil.lengths", laid_quitrent_civil_lengths)] }
def CycleOnceSaid : Prop := cycleOnceRow.holds Tryd.pinned (OpenSpec.ofChange cycleOnceSpec)

/-- ITS FALSE NEIGHBOUR: 'it returns false'. Refute it at one input. -/
def cycleOnceWrong : ChangeSpec := { name := "cycleOnce", fn := fun _ => fun
  | [d1, d2] => { results := [.lit (.bool false)], args := [d1, d2] }
  | _ => none }
def CycleOnceWrongFalsely : Prop := cycleOnceRow.holds Tryd.pinned (OpenSpec.ofChange cycleOnceWrong)

/-- 'quitrentlaw21.CycleLater': WHATEVER THE INPUT: true; the input reads as it did. -/
def cycleLaterSpec : ChangeSpec := { name := "cycleLater", fn := fun _ => fun
  | [d1, d2, d3] => { results := [.lit (.bool true)], args := [d1, d2, d3] }
  | _ => none }
def cycleLaterRow : OpenClaim := { program := "ytidppalhjknlfaadoor", sum := "b4231b46784ba2da00a68b426b80ce678cf58c01400d9336964200fec36ea0c4", func := "quitrent/quitrentlaw21.CycleLater", spec := "cycleLater", unfollowed := true, recurses := true, named := ["quitrent/civil.lengths"], apart := false, laid := [("quitrent/civil.lengths", laid_quitrent_civil_lengths)] }
def CycleLaterSaid : Prop := cycleLaterRow.holds Tryd.pinned (OpenSpec.ofChange cycleLaterSpec)

/-- ITS FALSE NEIGHBOUR: 'it returns false'. Refute it at one input. -/
def cycleLaterWrong : ChangeSpec := { name := "cycleLater", fn := fun _ => fun
  | [d1, d2, d3] => { results := [.lit (.bool false)], args := [d1, d2, d3] }
  | _ => none }
def CycleLaterWrongFalsely : Prop := cycleLaterRow.holds Tryd.pinned (OpenSpec.ofChange cycleLaterWrong)

/-- 'quitrentlaw21.CycleKnown': WHATEVER THE INPUT: true; the input reads as it did. -/
def cycleKnownSpec : ChangeSpec := { name := "cycleKnown", fn := fun _ => fun
  | [] => { results := [.lit (.bool true)], args := [] }
  | _ => none }
def cycleKnownRow : OpenClaim := { program := "ytidppalhjknlfaadoor", sum := "b4231b46784ba2da00a68b426b80ce678cf58c01400d9336964200fec36ea0c4", func := "quitrent/quitrentlaw21.CycleKnown", spec := "cycleKnown", unfollowed := true, recurses := true, named := ["quitrent/civil.lengths"], apart := false, laid := [("quitrent/civil.lengths", laid_quitrent_civil_lengths)] }
def CycleKnownSaid : Prop := cycleKnownRow.holds Tryd.pinned (OpenSpec.ofChange cycleKnownSpec)

/-- ITS FALSE NEIGHBOUR: 'it returns false'. Refute it at one input. -/
def cycleKnownWrong : ChangeSpec := { name := "cycleKnown", fn := fun _ => fun
  | [] => { results := [.lit (.bool false)], args := [] }
  | _ => none }
def CycleKnownWrongFalsely : Prop := cycleKnownRow.holds Tryd.pinned (OpenSpec.ofChange cycleKnownWrong)

/- THE SECOND FORM. 'bulk': how many values and letters a reading holds, each counted each time it is reached (what is shared counts as often as it is met; a slice's spare places count too). A statement '..UptoSaid' is the law's where the arguments, and the package variables that the reading takes, are together of bulk at most 1048576: NARROWER than '..Said'. Prove '..Said' where nothing that the law and all that it calls make is longer than what came in: it says more and counts as full. Else prove '..UptoSaid'. A law counts once. -/
mutual
def uptoBulk {H : Type} : DataW H → Nat
  | .lit (.string bytes) => bytes.length + 1
  | .lit _ => 1
  | .nil => 1
  | .ptr d => uptoBulk d + 1
  | .slice elems spare => uptoBulkAll elems + uptoBulkAll spare + 1
  | .agg parts => uptoBulkAll parts + 1
  | .iface _ d => uptoBulk d + 1
  | .map entries => uptoBulkEntries entries + 1
  | .held _ => 1
def uptoBulkAll {H : Type} : List (DataW H) → Nat
  | [] => 0
  | d :: r => uptoBulk d + uptoBulkAll r
def uptoBulkEntries {H : Type} : List (Lit × DataW H) → Nat
  | [] => 0
  | x :: r => uptoBulkEntry x + uptoBulkEntries r
def uptoBulkEntry {H : Type} : Lit × DataW H → Nat
  | (.string bytes, d) => bytes.length + uptoBulk d + 1
  | (_, d) => uptoBulk d + 1
 end
def uptoSmall : (H : Type) → List (DataW H) → Bool := fun _ ds => decide (uptoBulkAll ds ≤ 1048576)
def OpenSpec.upto (s : _root_.Go.ChangeSpec) : _root_.Go.OpenSpec := { _root_.Go.OpenSpec.ofChange s with cond := some uptoSmall }

/-- 'quitrentlaw21.CycleDays', WHERE WHAT IT READS IS OF BULK AT MOST 1048576: true; the input reads as it did. -/
def cycleDaysUptoRow : OpenClaim := { program := "ytidppalhjknlfaadoor", sum := "b4231b46784ba2da00a68b426b80ce678cf58c01400d9336964200fec36ea0c4", func := "quitrent/quitrentlaw21.CycleDays", spec := "cycleDays", unfollowed := true, recurses := true, named := ["quitrent/civil.lengths"], apart := false, laid := [("quitrent/civil.lengths", laid_quitrent_civil_lengths)], narrowed := true }
def CycleDaysUptoSaid : Prop := cycleDaysUptoRow.holds Tryd.pinned (OpenSpec.upto cycleDaysSpec)

/-- 'quitrentlaw21.CycleWhole', WHERE WHAT IT READS IS OF BULK AT MOST 1048576: true; the input reads as it did. -/
def cycleWholeUptoRow : OpenClaim := { program := "ytidppalhjknlfaadoor", sum := "b4231b46784ba2da00a68b426b80ce678cf58c01400d9336964200fec36ea0c4", func := "quitrent/quitrentlaw21.CycleWhole", spec := "cycleWhole", unfollowed := true, recurses := true, named := ["quitrent/civil.lengths"], apart := false, laid := [("quitrent/civil.lengths", laid_quitrent_civil_lengths)], narrowed := true }
def CycleWholeUptoSaid : Prop := cycleWholeUptoRow.holds Tryd.pinned (OpenSpec.upto cycleWholeSpec)

/-- 'quitrentlaw21.CycleOnce', WHERE WHAT IT READS IS OF BULK AT MOST 1048576: true; the input reads as it did. -/
def cycleOnceUptoRow : OpenClaim := { program := "ytidppalhjknlfaadoor", sum := "b4231b46784ba2da00a68b426b80ce678cf58c01400d9336964200fec36ea0c4", func := "quitrent/quitrentlaw21.CycleOnce", spec := "cycleOnce", unfollowed := true, recurses := true, named := ["quitrent/civil.lengths"], apart := false, laid := [("quitrent/civil.lengths", laid_quitrent_civil_lengths)], narrowed := true }
def CycleOnceUptoSaid : Prop := cycleOnceUptoRow.holds Tryd.pinned (OpenSpec.upto cycleOnceSpec)

/-- 'quitrentlaw21.CycleLater', WHERE WHAT IT READS IS OF BULK AT MOST 1048576: true; the input reads as it did. -/
def cycleLaterUptoRow : OpenClaim := { program := "ytidppalhjknlfaadoor", sum := "b4231b46784ba2da00a68b426b80ce678cf58c01400d9336964200fec36ea0c4", func := "quitrent/quitrentlaw21.CycleLater", spec := "cycleLater", unfollowed := true, recurses := true, named := ["quitrent/civil.lengths"], apart := false, laid := [("quitrent/civil.lengths", laid_quitrent_civil_lengths)], narrowed := true }
def CycleLaterUptoSaid : Prop := cycleLaterUptoRow.holds Tryd.pinned (OpenSpec.upto cycleLaterSpec)

/-- 'quitrentlaw21.CycleKnown', WHERE WHAT IT READS IS OF BULK AT MOST 1048576: true; the input reads as it did. -/
def cycleKnownUptoRow : OpenClaim := { program := "ytidppalhjknlfaadoor", sum := "b4231b46784ba2da00a68b426b80ce678cf58c01400d9336964200fec36ea0c4", func := "quitrent/quitrentlaw21.CycleKnown", spec := "cycleKnown", unfollowed := true, recurses := true, named := ["quitrent/civil.lengths"], apart := false, laid := [("quitrent/civil.lengths", laid_quitrent_civil_lengths)], narrowed := true }
def CycleKnownUptoSaid : Prop := cycleKnownUptoRow.holds Tryd.pinned (OpenSpec.upto cycleKnownSpec)

end Rows
end Go.Proofs.YtidppalhjknlfaaDoor
