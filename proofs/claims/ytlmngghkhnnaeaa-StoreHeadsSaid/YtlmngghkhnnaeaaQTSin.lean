/- A slice of strings that came in, in the walks' words. -/
import Derived.Test.YtlmngghkhnnaeaaQHds
import Derived.Test.YtlmngghkhnnaeaaQRow
import Derived.SliceStrings
import Derived.DataShut
namespace Go.Proofs.Ytlmngghkhnnaeaa
open Go.ChangeShapes Go.WideShapes Go.Deep Go.RowKit
set_option linter.unusedVariables false
set_option linter.unusedSimpArgs false
set_option maxRecDepth 100000
theorem uStrs : Try.prog.underlying 22 = some (.slice 9) := by kernel_rfl
theorem strs_in {H : Type} {enc : TypeId × Value → H} {w : World} {r : Reach} {b0 : Nat} {v : Value} {d : DataW H} {ps : List MemPlace} (hv : Value.okWide Try.prog w r b0 22 v) (h : DataW.Trod enc Try.prog w 0 (fun _ => true) true 22 v d ps) : ∃ l, TS w v l := by
  obtain ⟨a, len, cap, rfl⟩ := okWide_slice uStrs hv
  obtain ⟨fuel, hf⟩ := h
  rcases open_strings uStrs uStr (by kernel_rfl) hf with ⟨hcs, _⟩ | ⟨x, l, c, ss, hcs, _, hl, hm, hz, _, hcell, hwz⟩
  · simp [Value.cells] at hcs
    obtain ⟨rfl, rfl, rfl⟩ := hcs
    exact ⟨[], none, 0, rfl, Nat.le_refl _, by decide, by simp, .inl rfl⟩
  · simp [Value.cells] at hcs
    obtain ⟨rfl, rfl, rfl⟩ := hcs
    have hz' : ss.length = cap := by simpa using hz
    have htl : (ss.take len).length = len := by rw [List.length_take]; omega
    refine ⟨ss.take len, some x, cap, by rw [htl], by rw [htl]; exact hl, hm, fun s hs => hwz s (List.mem_of_mem_take hs), ?_⟩
    cases hlen : len with
    | zero => exact .inl (by simp)
    | succ n =>
      have hc0 := hcell 0 (by omega)
      obtain ⟨b, o, s⟩ := x
      obtain rfl : s = none := by simpa [Addr.add] using World.cell?_spot hc0
      refine .inr ⟨b, o, rfl, by simpa [Addr.add] using World.block_lt_of_cell? w _ hc0, fun i y hy => ?_⟩
      rw [List.getElem?_take] at hy
      split at hy
      · have hi' := (List.getElem?_eq_some_iff.1 hy).1
        have := hcell i hi'
        rw [add_plain, List.getD_eq_getElem?_getD, hy, Option.getD_some] at this
        exact this
      · cases hy
end Go.Proofs.Ytlmngghkhnnaeaa
