/-
  No cell of these rows narrows 'for every input' (looked for: loops, veiled, ifaces, maps, wideKeys, modest, calm, conditions, laid).
  DERIVED. THE GIVEN ROWS OF THIS SEAT. 11 by the template 'for every input the law returns true; each argument reads behind the call as it read before'; 0 by the template 'total and deterministic' (their statements: YtiadoimdohnebaaTotals.lean).
  GIVEN WITH THE SEED: the statements are not yours to turn. If you find one false, say at which input.
  Laid BY PROGRAM, IN A SANDBOX (cutbox-rows.mjs): the forced cells as the released guide's own fill.sh prints them over the translation a58bddd54b9e8764… (all of the seat's roots in one cut). By AI agents, Wed Nov 11 2026. No macro, syntax, notation, axiom, sorry.
-/
import Derived.Test.YtiadoimdohnebaaChecked
import GoSem.Claim
import GoSem.ClaimJoined
import GoSem.ClaimMapViews
import Derived.JoinedTies
import Derived.KernelRfl
namespace Go.Proofs.Ytiadoimdohnebaa
/- THE CELL 'sum', in the pinned program and in every row, IS THE sha256 OF THE DUMP (.gsa) THAT YtiadoimdohnebaaProg.lean LOADS. Nothing in Lean hashes anything: it is a label: what it is worth is what the hold of that sum in a sandbox is worth. -/
noncomputable def Try.pinned : Pinned := { name := "ytiadoimdohnebaa", sum := "a58bddd54b9e87646e1af3f845ce6d20ac41a80e0b3dee7f994f2b7580bed235", checked := Try.checked }
namespace Rows
def none {H : Type} : Left H := { results := [], args := [] }

/-- 'quitrentlaw16.KvKeys': WHATEVER THE INPUT: true; the input reads as it did. -/
def kvKeysSpec : ChangeSpec := { name := "kvKeys", fn := fun _ => fun
  | [d1, d2, d3, d4] => { results := [.lit (.bool true)], args := [d1, d2, d3, d4] }
  | _ => none }
def kvKeysRow : OpenClaim := { program := "ytiadoimdohnebaa", sum := "a58bddd54b9e87646e1af3f845ce6d20ac41a80e0b3dee7f994f2b7580bed235", func := "quitrent/quitrentlaw16.KvKeys", spec := "kvKeys", inPlace := ["maps.clone"], apart := false }
def KvKeysSaid : Prop := kvKeysRow.holds Try.pinned (OpenSpec.ofChange kvKeysSpec)

/-- ITS FALSE NEIGHBOUR: 'it returns false'. Refute it at one input. -/
def kvKeysWrong : ChangeSpec := { name := "kvKeys", fn := fun _ => fun
  | [d1, d2, d3, d4] => { results := [.lit (.bool false)], args := [d1, d2, d3, d4] }
  | _ => none }
def KvKeysWrongFalsely : Prop := kvKeysRow.holds Try.pinned (OpenSpec.ofChange kvKeysWrong)

/-- 'quitrentlaw16.KvNil': WHATEVER THE INPUT: true; the input reads as it did. -/
def kvNilSpec : ChangeSpec := { name := "kvNil", fn := fun _ => fun
  | [d1, d2] => { results := [.lit (.bool true)], args := [d1, d2] }
  | _ => none }
def kvNilRow : OpenClaim := { program := "ytiadoimdohnebaa", sum := "a58bddd54b9e87646e1af3f845ce6d20ac41a80e0b3dee7f994f2b7580bed235", func := "quitrent/quitrentlaw16.KvNil", spec := "kvNil", inPlace := ["maps.clone"], recurses := true, apart := false }
def KvNilSaid : Prop := kvNilRow.holds Try.pinned (OpenSpec.ofChange kvNilSpec)

/-- ITS FALSE NEIGHBOUR: 'it returns false'. Refute it at one input. -/
def kvNilWrong : ChangeSpec := { name := "kvNil", fn := fun _ => fun
  | [d1, d2] => { results := [.lit (.bool false)], args := [d1, d2] }
  | _ => none }
def KvNilWrongFalsely : Prop := kvNilRow.holds Try.pinned (OpenSpec.ofChange kvNilWrong)

/-- 'quitrentlaw16.KvOrder': WHATEVER THE INPUT: true; the input reads as it did. -/
def kvOrderSpec : ChangeSpec := { name := "kvOrder", fn := fun _ => fun
  | [d1, d2] => { results := [.lit (.bool true)], args := [d1, d2] }
  | _ => none }
def kvOrderRow : OpenClaim := { program := "ytiadoimdohnebaa", sum := "a58bddd54b9e87646e1af3f845ce6d20ac41a80e0b3dee7f994f2b7580bed235", func := "quitrent/quitrentlaw16.KvOrder", spec := "kvOrder", inPlace := ["maps.clone"], unfollowed := true, recurses := true, apart := false }
def KvOrderSaid : Prop := kvOrderRow.holds Try.pinned (OpenSpec.ofChange kvOrderSpec)

/-- ITS FALSE NEIGHBOUR: 'it returns false'. Refute it at one input. -/
def kvOrderWrong : ChangeSpec := { name := "kvOrder", fn := fun _ => fun
  | [d1, d2] => { results := [.lit (.bool false)], args := [d1, d2] }
  | _ => none }
def KvOrderWrongFalsely : Prop := kvOrderRow.holds Try.pinned (OpenSpec.ofChange kvOrderWrong)

/-- 'quitrentlaw16.KvKnown': WHATEVER THE INPUT: true; the input reads as it did. -/
def kvKnownSpec : ChangeSpec := { name := "kvKnown", fn := fun _ => fun
  | [] => { results := [.lit (.bool true)], args := [] }
  | _ => none }
def kvKnownRow : OpenClaim := { program := "ytiadoimdohnebaa", sum := "a58bddd54b9e87646e1af3f845ce6d20ac41a80e0b3dee7f994f2b7580bed235", func := "quitrent/quitrentlaw16.KvKnown", spec := "kvKnown", inPlace := ["maps.clone"], unfollowed := true, recurses := true, apart := false }
def KvKnownSaid : Prop := kvKnownRow.holds Try.pinned (OpenSpec.ofChange kvKnownSpec)

/-- ITS FALSE NEIGHBOUR: 'it returns false'. Refute it at one input. -/
def kvKnownWrong : ChangeSpec := { name := "kvKnown", fn := fun _ => fun
  | [] => { results := [.lit (.bool false)], args := [] }
  | _ => none }
def KvKnownWrongFalsely : Prop := kvKnownRow.holds Try.pinned (OpenSpec.ofChange kvKnownWrong)

/-- 'quitrentlaw18.IdemPlays': WHATEVER THE INPUT: true; the input reads as it did. -/
def idemPlaysSpec : ChangeSpec := { name := "idemPlays", fn := fun _ => fun
  | [d] => { results := [.lit (.bool true)], args := [d] }
  | _ => none }
def idemPlaysRow : OpenClaim := { program := "ytiadoimdohnebaa", sum := "a58bddd54b9e87646e1af3f845ce6d20ac41a80e0b3dee7f994f2b7580bed235", func := "quitrent/quitrentlaw18.IdemPlays", spec := "idemPlays", unfollowed := true, recurses := true, apart := false }
def IdemPlaysSaid : Prop := idemPlaysRow.holds Try.pinned (OpenSpec.ofChange idemPlaysSpec)

/-- ITS FALSE NEIGHBOUR: 'it returns false'. Refute it at one input. -/
def idemPlaysWrong : ChangeSpec := { name := "idemPlays", fn := fun _ => fun
  | [d] => { results := [.lit (.bool false)], args := [d] }
  | _ => none }
def IdemPlaysWrongFalsely : Prop := idemPlaysRow.holds Try.pinned (OpenSpec.ofChange idemPlaysWrong)

/-- 'quitrentlaw18.IdemOnce': WHATEVER THE INPUT: true; the input reads as it did. -/
def idemOnceSpec : ChangeSpec := { name := "idemOnce", fn := fun _ => fun
  | [d1, d2] => { results := [.lit (.bool true)], args := [d1, d2] }
  | _ => none }
def idemOnceRow : OpenClaim := { program := "ytiadoimdohnebaa", sum := "a58bddd54b9e87646e1af3f845ce6d20ac41a80e0b3dee7f994f2b7580bed235", func := "quitrent/quitrentlaw18.IdemOnce", spec := "idemOnce", unfollowed := true, recurses := true, apart := false }
def IdemOnceSaid : Prop := idemOnceRow.holds Try.pinned (OpenSpec.ofChange idemOnceSpec)

/-- ITS FALSE NEIGHBOUR: 'it returns false'. Refute it at one input. -/
def idemOnceWrong : ChangeSpec := { name := "idemOnce", fn := fun _ => fun
  | [d1, d2] => { results := [.lit (.bool false)], args := [d1, d2] }
  | _ => none }
def IdemOnceWrongFalsely : Prop := idemOnceRow.holds Try.pinned (OpenSpec.ofChange idemOnceWrong)

/-- 'quitrentlaw18.IdemApart': WHATEVER THE INPUT: true; the input reads as it did. -/
def idemApartSpec : ChangeSpec := { name := "idemApart", fn := fun _ => fun
  | [d1, d2, d3] => { results := [.lit (.bool true)], args := [d1, d2, d3] }
  | _ => none }
def idemApartRow : OpenClaim := { program := "ytiadoimdohnebaa", sum := "a58bddd54b9e87646e1af3f845ce6d20ac41a80e0b3dee7f994f2b7580bed235", func := "quitrent/quitrentlaw18.IdemApart", spec := "idemApart", unfollowed := true, recurses := true, apart := false }
def IdemApartSaid : Prop := idemApartRow.holds Try.pinned (OpenSpec.ofChange idemApartSpec)

/-- ITS FALSE NEIGHBOUR: 'it returns false'. Refute it at one input. -/
def idemApartWrong : ChangeSpec := { name := "idemApart", fn := fun _ => fun
  | [d1, d2, d3] => { results := [.lit (.bool false)], args := [d1, d2, d3] }
  | _ => none }
def IdemApartWrongFalsely : Prop := idemApartRow.holds Try.pinned (OpenSpec.ofChange idemApartWrong)

/-- 'quitrentlaw18.IdemKnown': WHATEVER THE INPUT: true; the input reads as it did. -/
def idemKnownSpec : ChangeSpec := { name := "idemKnown", fn := fun _ => fun
  | [] => { results := [.lit (.bool true)], args := [] }
  | _ => none }
def idemKnownRow : OpenClaim := { program := "ytiadoimdohnebaa", sum := "a58bddd54b9e87646e1af3f845ce6d20ac41a80e0b3dee7f994f2b7580bed235", func := "quitrent/quitrentlaw18.IdemKnown", spec := "idemKnown", unfollowed := true, recurses := true, apart := false }
def IdemKnownSaid : Prop := idemKnownRow.holds Try.pinned (OpenSpec.ofChange idemKnownSpec)

/-- ITS FALSE NEIGHBOUR: 'it returns false'. Refute it at one input. -/
def idemKnownWrong : ChangeSpec := { name := "idemKnown", fn := fun _ => fun
  | [] => { results := [.lit (.bool false)], args := [] }
  | _ => none }
def IdemKnownWrongFalsely : Prop := idemKnownRow.holds Try.pinned (OpenSpec.ofChange idemKnownWrong)

/-- 'quitrentlaw18.IdemFinds': WHATEVER THE INPUT: true; the input reads as it did. -/
def idemFindsSpec : ChangeSpec := { name := "idemFinds", fn := fun _ => fun
  | [d1, d2] => { results := [.lit (.bool true)], args := [d1, d2] }
  | _ => none }
def idemFindsRow : OpenClaim := { program := "ytiadoimdohnebaa", sum := "a58bddd54b9e87646e1af3f845ce6d20ac41a80e0b3dee7f994f2b7580bed235", func := "quitrent/quitrentlaw18.IdemFinds", spec := "idemFinds", unfollowed := true, recurses := true, apart := false }
def IdemFindsSaid : Prop := idemFindsRow.holds Try.pinned (OpenSpec.ofChange idemFindsSpec)

/-- ITS FALSE NEIGHBOUR: 'it returns false'. Refute it at one input. -/
def idemFindsWrong : ChangeSpec := { name := "idemFinds", fn := fun _ => fun
  | [d1, d2] => { results := [.lit (.bool false)], args := [d1, d2] }
  | _ => none }
def IdemFindsWrongFalsely : Prop := idemFindsRow.holds Try.pinned (OpenSpec.ofChange idemFindsWrong)

/-- 'quitrentlaw16.KvPlays': WHATEVER THE INPUT: true; the input reads as it did. -/
def kvPlaysSpec : ChangeSpec := { name := "kvPlays", fn := fun _ => fun
  | [d1, d2] => { results := [.lit (.bool true)], args := [d1, d2] }
  | _ => none }
def kvPlaysRow : OpenClaim := { program := "ytiadoimdohnebaa", sum := "a58bddd54b9e87646e1af3f845ce6d20ac41a80e0b3dee7f994f2b7580bed235", func := "quitrent/quitrentlaw16.KvPlays", spec := "kvPlays", inPlace := ["maps.clone"], unfollowed := true, recurses := true, apart := false }
def KvPlaysSaid : Prop := kvPlaysRow.holds Try.pinned (OpenSpec.ofChange kvPlaysSpec)

/-- ITS FALSE NEIGHBOUR: 'it returns false'. Refute it at one input. -/
def kvPlaysWrong : ChangeSpec := { name := "kvPlays", fn := fun _ => fun
  | [d1, d2] => { results := [.lit (.bool false)], args := [d1, d2] }
  | _ => none }
def KvPlaysWrongFalsely : Prop := kvPlaysRow.holds Try.pinned (OpenSpec.ofChange kvPlaysWrong)

/-- 'quitrentlaw16.KvAborts': WHATEVER THE INPUT: true; the input reads as it did. -/
def kvAbortsSpec : ChangeSpec := { name := "kvAborts", fn := fun _ => fun
  | [d1, d2] => { results := [.lit (.bool true)], args := [d1, d2] }
  | _ => none }
def kvAbortsRow : OpenClaim := { program := "ytiadoimdohnebaa", sum := "a58bddd54b9e87646e1af3f845ce6d20ac41a80e0b3dee7f994f2b7580bed235", func := "quitrent/quitrentlaw16.KvAborts", spec := "kvAborts", inPlace := ["maps.clone"], unfollowed := true, recurses := true, apart := false }
def KvAbortsSaid : Prop := kvAbortsRow.holds Try.pinned (OpenSpec.ofChange kvAbortsSpec)

/-- ITS FALSE NEIGHBOUR: 'it returns false'. Refute it at one input. -/
def kvAbortsWrong : ChangeSpec := { name := "kvAborts", fn := fun _ => fun
  | [d1, d2] => { results := [.lit (.bool false)], args := [d1, d2] }
  | _ => none }
def KvAbortsWrongFalsely : Prop := kvAbortsRow.holds Try.pinned (OpenSpec.ofChange kvAbortsWrong)

/- THE SECOND FORM. 'bulk': how many values and letters a reading holds, each counted each time it is reached (what is shared counts as often as it is met; a slice's spare places count too). A statement '..UptoSaid' is the law's where the arguments, and the package variables that the reading takes, are together of bulk at most 1048576: NARROWER than '..Said'. Prove '..Said' where nothing that the law and all that it calls make is longer than what came in: it says more and counts as full. Else prove '..UptoSaid'. A law counts once. -/
mutual
def uptoBulk {H : Type} : DataW H → Nat
  | .lit (.string bytes) => bytes.length + 1
  | .lit _ => 1
  | .nil => 1
  | .ptr d => uptoBulk d + 1
  | .slice elems spare => uptoBulkAll elems + uptoBulkAll spare + 1
  | .agg parts => uptoBulkAll parts + 1
  | .iface _ d => uptoBulk d + 1
  | .map entries => uptoBulkEntries entries + 1
  | .held _ => 1
def uptoBulkAll {H : Type} : List (DataW H) → Nat
  | [] => 0
  | d :: r => uptoBulk d + uptoBulkAll r
def uptoBulkEntries {H : Type} : List (Lit × DataW H) → Nat
  | [] => 0
  | x :: r => uptoBulkEntry x + uptoBulkEntries r
def uptoBulkEntry {H : Type} : Lit × DataW H → Nat
  | (.string bytes, d) => bytes.length + uptoBulk d + 1
  | (_, d) => uptoBulk d + 1
 end
def uptoSmall : (H : Type) → List (DataW H) → Bool := fun _ ds => decide (uptoBulkAll ds ≤ 1048576)
def OpenSpec.upto (s : _root_.Go.ChangeSpec) : _root_.Go.OpenSpec := { _root_.Go.OpenSpec.ofChange s with cond := some uptoSmall }

/-- 'quitrentlaw16.KvKeys', WHERE WHAT IT READS IS OF BULK AT MOST 1048576: true; the input reads as it did. -/
def kvKeysUptoRow : OpenClaim := { program := "ytiadoimdohnebaa", sum := "a58bddd54b9e87646e1af3f845ce6d20ac41a80e0b3dee7f994f2b7580bed235", func := "quitrent/quitrentlaw16.KvKeys", spec := "kvKeys", inPlace := ["maps.clone"], apart := false, narrowed := true }
def KvKeysUptoSaid : Prop := kvKeysUptoRow.holds Try.pinned (OpenSpec.upto kvKeysSpec)

/-- 'quitrentlaw16.KvNil', WHERE WHAT IT READS IS OF BULK AT MOST 1048576: true; the input reads as it did. -/
def kvNilUptoRow : OpenClaim := { program := "ytiadoimdohnebaa", sum := "a58bddd54b9e87646e1af3f845ce6d20ac41a80e0b3dee7f994f2b7580bed235", func := "quitrent/quitrentlaw16.KvNil", spec := "kvNil", inPlace := ["maps.clone"], recurses := true, apart := false, narrowed := true }
def KvNilUptoSaid : Prop := kvNilUptoRow.holds Try.pinned (OpenSpec.upto kvNilSpec)

/-- 'quitrentlaw16.KvOrder', WHERE WHAT IT READS IS OF BULK AT MOST 1048576: true; the input reads as it did. -/
def kvOrderUptoRow : OpenClaim := { program := "ytiadoimdohnebaa", sum := "a58bddd54b9e87646e1af3f845ce6d20ac41a80e0b3dee7f994f2b7580bed235", func := "quitrent/quitrentlaw16.KvOrder", spec := "kvOrder", inPlace := ["maps.clone"], unfollowed := true, recurses := true, apart := false, narrowed := true }
def KvOrderUptoSaid : Prop := kvOrderUptoRow.holds Try.pinned (OpenSpec.upto kvOrderSpec)

/-- 'quitrentlaw16.KvKnown', WHERE WHAT IT READS IS OF BULK AT MOST 1048576: true; the input reads as it did. -/
def kvKnownUptoRow : OpenClaim := { program := "ytiadoimdohnebaa", sum := "a58bddd54b9e87646e1af3f845ce6d20ac41a80e0b3dee7f994f2b7580bed235", func := "quitrent/quitrentlaw16.KvKnown", spec := "kvKnown", inPlace := ["maps.clone"], unfollowed := true, recurses := true, apart := false, narrowed := true }
def KvKnownUptoSaid : Prop := kvKnownUptoRow.holds Try.pinned (OpenSpec.upto kvKnownSpec)

/-- 'quitrentlaw18.IdemPlays', WHERE WHAT IT READS IS OF BULK AT MOST 1048576: true; the input reads as it did. -/
def idemPlaysUptoRow : OpenClaim := { program := "ytiadoimdohnebaa", sum := "a58bddd54b9e87646e1af3f845ce6d20ac41a80e0b3dee7f994f2b7580bed235", func := "quitrent/quitrentlaw18.IdemPlays", spec := "idemPlays", unfollowed := true, recurses := true, apart := false, narrowed := true }
def IdemPlaysUptoSaid : Prop := idemPlaysUptoRow.holds Try.pinned (OpenSpec.upto idemPlaysSpec)

/-- 'quitrentlaw18.IdemOnce', WHERE WHAT IT READS IS OF BULK AT MOST 1048576: true; the input reads as it did. -/
def idemOnceUptoRow : OpenClaim := { program := "ytiadoimdohnebaa", sum := "a58bddd54b9e87646e1af3f845ce6d20ac41a80e0b3dee7f994f2b7580bed235", func := "quitrent/quitrentlaw18.IdemOnce", spec := "idemOnce", unfollowed := true, recurses := true, apart := false, narrowed := true }
def IdemOnceUptoSaid : Prop := idemOnceUptoRow.holds Try.pinned (OpenSpec.upto idemOnceSpec)

/-- 'quitrentlaw18.IdemApart', WHERE WHAT IT READS IS OF BULK AT MOST 1048576: true; the input reads as it did. -/
def idemApartUptoRow : OpenClaim := { program := "ytiadoimdohnebaa", sum := "a58bddd54b9e87646e1af3f845ce6d20ac41a80e0b3dee7f994f2b7580bed235", func := "quitrent/quitrentlaw18.IdemApart", spec := "idemApart", unfollowed := true, recurses := true, apart := false, narrowed := true }
def IdemApartUptoSaid : Prop := idemApartUptoRow.holds Try.pinned (OpenSpec.upto idemApartSpec)

/-- 'quitrentlaw18.IdemKnown', WHERE WHAT IT READS IS OF BULK AT MOST 1048576: true; the input reads as it did. -/
def idemKnownUptoRow : OpenClaim := { program := "ytiadoimdohnebaa", sum := "a58bddd54b9e87646e1af3f845ce6d20ac41a80e0b3dee7f994f2b7580bed235", func := "quitrent/quitrentlaw18.IdemKnown", spec := "idemKnown", unfollowed := true, recurses := true, apart := false, narrowed := true }
def IdemKnownUptoSaid : Prop := idemKnownUptoRow.holds Try.pinned (OpenSpec.upto idemKnownSpec)

/-- 'quitrentlaw18.IdemFinds', WHERE WHAT IT READS IS OF BULK AT MOST 1048576: true; the input reads as it did. -/
def idemFindsUptoRow : OpenClaim := { program := "ytiadoimdohnebaa", sum := "a58bddd54b9e87646e1af3f845ce6d20ac41a80e0b3dee7f994f2b7580bed235", func := "quitrent/quitrentlaw18.IdemFinds", spec := "idemFinds", unfollowed := true, recurses := true, apart := false, narrowed := true }
def IdemFindsUptoSaid : Prop := idemFindsUptoRow.holds Try.pinned (OpenSpec.upto idemFindsSpec)

/-- 'quitrentlaw16.KvPlays', WHERE WHAT IT READS IS OF BULK AT MOST 1048576: true; the input reads as it did. -/
def kvPlaysUptoRow : OpenClaim := { program := "ytiadoimdohnebaa", sum := "a58bddd54b9e87646e1af3f845ce6d20ac41a80e0b3dee7f994f2b7580bed235", func := "quitrent/quitrentlaw16.KvPlays", spec := "kvPlays", inPlace := ["maps.clone"], unfollowed := true, recurses := true, apart := false, narrowed := true }
def KvPlaysUptoSaid : Prop := kvPlaysUptoRow.holds Try.pinned (OpenSpec.upto kvPlaysSpec)

/-- 'quitrentlaw16.KvAborts', WHERE WHAT IT READS IS OF BULK AT MOST 1048576: true; the input reads as it did. -/
def kvAbortsUptoRow : OpenClaim := { program := "ytiadoimdohnebaa", sum := "a58bddd54b9e87646e1af3f845ce6d20ac41a80e0b3dee7f994f2b7580bed235", func := "quitrent/quitrentlaw16.KvAborts", spec := "kvAborts", inPlace := ["maps.clone"], unfollowed := true, recurses := true, apart := false, narrowed := true }
def KvAbortsUptoSaid : Prop := kvAbortsUptoRow.holds Try.pinned (OpenSpec.upto kvAbortsSpec)

end Rows
end Go.Proofs.Ytiadoimdohnebaa
