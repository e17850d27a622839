/- Arguments that came in: ints, bools. -/
import Derived.Test.YtiadoimdohnebaaRow
import Derived.DataShut
import Derived.ChangeShapes
namespace Go.Proofs.Ytiadoimdohnebaa
open Go.ChangeShapes Go.WideShapes Go.Deep Go.RowKit
set_option linter.unusedVariables false
set_option linter.unusedSimpArgs false
set_option maxRecDepth 100000
section
variable {H : Type} {enc : TypeId × Value → H} {w : World} {base : Nat} {spare : Nat → Bool} {held : Bool} {r : Reach} {b0 : Nat} {v : Value} {d : DataW H} {ps : List MemPlace}
theorem u8_in (hv : Value.okWide Try.prog w r b0 5 v) (h : DataW.Trod enc Try.prog w base spare held 5 v d ps) : ∃ n, v = .int .u8 n ∧ 0 ≤ n ∧ n < 256 := by
  obtain ⟨n, rfl, _, _, hn⟩ := open_int Try.underlying5 hv h
  have g := (Lit.wf_int_iff .u8 _).1 hn
  have e1 : IntKind.u8.min = 0 := rfl
  have e2 : IntKind.u8.max = 255 := rfl
  rw [e1, e2] at g
  exact ⟨n, rfl, g.1, by omega⟩
theorem int_in (hv : Value.okWide Try.prog w r b0 3 v) (h : DataW.Trod enc Try.prog w base spare held 3 v d ps) : ∃ n, v = .int .i64 n ∧ -9223372036854775808 ≤ n ∧ n ≤ 9223372036854775807 := by
  obtain ⟨n, rfl, _, _, hn⟩ := open_int Try.underlying3 hv h
  have g := (Lit.wf_int_iff .i64 _).1 hn
  have e1 : IntKind.i64.min = -9223372036854775808 := rfl
  have e2 : IntKind.i64.max = 9223372036854775807 := rfl
  rw [e1, e2] at g
  exact ⟨n, rfl, g.1, g.2⟩
theorem bool_in (hv : Value.okWide Try.prog w r b0 4 v) : ∃ b, v = .bool b := okWide_bool Try.underlying4 hv
end
end Go.Proofs.Ytiadoimdohnebaa
