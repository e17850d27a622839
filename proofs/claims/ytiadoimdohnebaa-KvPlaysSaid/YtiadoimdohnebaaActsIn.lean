/- A slice of acts that came in, in the walks' words. -/
import Derived.Test.YtiadoimdohnebaaRow
import Derived.DataShut
import Derived.Test.YtiadoimdohnebaaActs
import Derived.Test.YtiadoimdohnebaaGreat
namespace Go.Proofs.Ytiadoimdohnebaa
open Go.ChangeShapes Go.WideShapes Go.Deep Go.RowKit
set_option maxRecDepth 100000
set_option linter.unusedVariables false
set_option linter.unusedSimpArgs false
section
variable {H : Type} {enc : TypeId × Value → H} {w : World} {held : Bool}
theorem uActs : Try.prog.underlying 72 = some (.slice 80) := by kernel_rfl
theorem leaf1 {t : TypeId} {k : IntKind} {n : Nat} {v : Value} {y : DataW H × List MemPlace} {sp : Nat → Bool} (ht : Try.prog.underlying t = some (.int k)) (h : DataW.trod enc Try.prog w 0 sp held n t [v] = some y) : ∃ z, v = .int k z ∧ (Lit.int k z).wf = true := by
  obtain ⟨z, hz, hw⟩ := leaf_int ht h
  exact ⟨z, by simpa using hz, hw⟩
theorem leaf2 {t : TypeId} {n : Nat} {v : Value} {y : DataW H × List MemPlace} {sp : Nat → Bool} (ht : Try.prog.underlying t = some .string) (h : DataW.trod enc Try.prog w 0 sp held n t [v] = some y) : ∃ s, v = .string s ∧ s.size ≤ maxLen := by
  obtain ⟨s, hs, hw⟩ := leaf_str ht h
  exact ⟨s, by simpa using hs, hw⟩
theorem acts_in {r : Reach} {b0 : Nat} {v : Value} {d : DataW H} {ps : List MemPlace} {sp : Nat → Bool} (hv : Value.okWide Try.prog w r b0 72 v) (h : DataW.Trod enc Try.prog w 0 sp held 72 v d ps) : ∃ l, AS w v l := by
  obtain ⟨a, len, cap, rfl⟩ := okWide_slice uActs hv
  obtain ⟨m, hm⟩ := h
  rcases struct_rows uActs Try.underlying80 (by kernel_rfl) (by kernel_rfl) hm with hn | ⟨x, len', cap', hc, hl, hcm, hf⟩
  · simp [Value.cells] at hn
    obtain ⟨rfl, rfl, rfl⟩ := hn
    exact ⟨[], none, 0, rfl, by simp, fun i x h => by simp at h, .inl rfl⟩
  · simp [Value.cells] at hc
    obtain ⟨rfl, rfl, rfl⟩ := hc
    obtain ⟨l, hlen, hR⟩ := list_of (fun i (y : A16) => y.Ok ∧ w.cell? (x.add (i * 4)) = some (.int .u8 y.doo) ∧ w.cell? (x.add (i * 4 + 1)) = some (.string y.key) ∧ w.cell? (x.add (i * 4 + 2)) = some (.string y.val) ∧ w.cell? (x.add (i * 4 + 3)) = some (.int .u64 y.n)) len (fun i hi => by
      obtain ⟨v0, n0, y0, c0, t0⟩ := hf i hi 0 _ rfl
      obtain ⟨v1, n1, y1, c1, t1⟩ := hf i hi 1 _ rfl
      obtain ⟨v2, n2, y2, c2, t2⟩ := hf i hi 2 _ rfl
      obtain ⟨v3, n3, y3, c3, t3⟩ := hf i hi 3 _ rfl
      obtain ⟨z0, rfl, w0⟩ := leaf1 Try.underlying5 t0
      obtain ⟨z1, rfl, w1⟩ := leaf2 Try.underlying9 t1
      obtain ⟨z2, rfl, w2⟩ := leaf2 Try.underlying9 t2
      obtain ⟨z3, rfl, w3⟩ := leaf1 Try.underlying42 t3
      exact ⟨⟨z0, z1, z2, z3⟩, ⟨(Lit.wf_int_iff .u8 _).1 w0, w1, w2, (Lit.wf_int_iff .u64 _).1 w3⟩, c0, c1, c2, c3⟩)
    subst hlen
    refine ⟨l, some x, cap, rfl, Nat.le_trans hl hcm, fun i y hy => (hR i y hy).1, ?_⟩
    cases hl0 : l with
    | nil => exact .inl rfl
    | cons y r =>
      obtain ⟨b, o, s⟩ := x
      have hc0 := (hR 0 y (by rw [hl0]; rfl)).2.1
      obtain rfl : s = none := by simpa [Addr.add] using World.cell?_spot hc0
      rw [← hl0]
      refine .inr ⟨b, o, rfl, fun i y hy => ?_⟩
      obtain ⟨_, c0, c1, c2, c3⟩ := hR i y hy
      rw [add_plain] at c0 c1 c2 c3
      exact ⟨c0, c1, c2, c3⟩
end
end Go.Proofs.Ytiadoimdohnebaa
