/- Acts of quitrentlaw18 that came in, in the walks' words. -/
import Derived.Test.YtiadoimdohnebaaGreat18
namespace Go.Proofs.Ytiadoimdohnebaa
open Go.ChangeShapes Go.WideShapes Go.Deep Go.RowKit
set_option linter.unusedVariables false
set_option linter.unusedSimpArgs false
set_option maxRecDepth 100000
section
variable {H : Type} {enc : TypeId × Value → H} {w : World} {held : Bool}
theorem uActs18 : Try.prog.underlying 51 = some (.slice 59) := by kernel_rfl
theorem one_i {t : TypeId} {k : IntKind} {n : Nat} {v : Value} {y : DataW H × List MemPlace} {sp : Nat → Bool} (ht : Try.prog.underlying t = some (.int k)) (h : DataW.trod enc Try.prog w 0 sp held n t [v] = some y) : ∃ z, v = .int k z ∧ k.min ≤ z ∧ z ≤ k.max := by
  obtain ⟨z, hz, hw⟩ := leaf_int ht h
  obtain ⟨r0, r1⟩ := (Lit.wf_int_iff k _).1 hw
  exact ⟨z, by simpa using hz, r0, r1⟩
theorem one_s {t : TypeId} {n : Nat} {v : Value} {y : DataW H × List MemPlace} {sp : Nat → Bool} (ht : Try.prog.underlying t = some .string) (h : DataW.trod enc Try.prog w 0 sp held n t [v] = some y) : ∃ s, v = .string s ∧ s.size ≤ maxLen := by
  obtain ⟨s, hs, hw⟩ := leaf_str ht h
  exact ⟨s, by simpa using hs, hw⟩
theorem acts18_in {r : Reach} {b0 : Nat} {v : Value} {d : DataW H} {ps : List MemPlace} {sp : Nat → Bool} (hv : Value.okWide Try.prog w r b0 51 v) (h : DataW.Trod enc Try.prog w 0 sp held 51 v d ps) : ∃ l, AS8 w v l := by
  obtain ⟨a, len, cap, rfl⟩ := okWide_slice uActs18 hv
  obtain ⟨m, hm⟩ := h
  rcases struct_rows uActs18 Try.underlying59 (by kernel_rfl) (by kernel_rfl) hm with hn | ⟨x, len', cap', hc, hl, hcm, hf⟩
  · simp [Value.cells] at hn
    obtain ⟨rfl, rfl, rfl⟩ := hn
    exact ⟨[], none, 0, rfl, by simp, fun i x h => by simp at h, .inl rfl⟩
  · simp [Value.cells] at hc
    obtain ⟨rfl, rfl, rfl⟩ := hc
    obtain ⟨l, hlen, hR⟩ := list_of (fun i (y : A18) => y.Ok ∧ w.cell? (x.add (i * 6)) = some (.int .u8 y.doo) ∧ w.cell? (x.add (i * 6 + 1)) = some (.int .u32 y.ten) ∧ w.cell? (x.add (i * 6 + 2)) = some (.string y.text) ∧ w.cell? (x.add (i * 6 + 3)) = some (.string y.body) ∧ w.cell? (x.add (i * 6 + 4)) = some (.string y.reply) ∧ w.cell? (x.add (i * 6 + 5)) = some (.int .u64 y.seq)) len (fun i hi => by
      obtain ⟨v0, n0, y0, c0, t0⟩ := hf i hi 0 _ rfl
      obtain ⟨v1, n1, y1, c1, t1⟩ := hf i hi 1 _ rfl
      obtain ⟨v2, n2, y2, c2, t2⟩ := hf i hi 2 _ rfl
      obtain ⟨v3, n3, y3, c3, t3⟩ := hf i hi 3 _ rfl
      obtain ⟨v4, n4, y4, c4, t4⟩ := hf i hi 4 _ rfl
      obtain ⟨v5, n5, y5, c5, t5⟩ := hf i hi 5 _ rfl
      obtain ⟨z0, rfl, w0⟩ := one_i Try.underlying5 t0
      obtain ⟨z1, rfl, w1⟩ := one_i Try.underlying57 t1
      obtain ⟨z2, rfl, w2⟩ := one_s Try.underlying9 t2
      obtain ⟨z3, rfl, w3⟩ := one_s Try.underlying9 t3
      obtain ⟨z4, rfl, w4⟩ := one_s Try.underlying9 t4
      obtain ⟨z5, rfl, w5⟩ := one_i Try.underlying42 t5
      exact ⟨⟨z0, z1, z2, z3, z4, z5⟩, ⟨w0, w1, w2, w3, w4, w5⟩, c0, c1, c2, c3, c4, c5⟩)
    subst hlen
    refine ⟨l, some x, cap, rfl, Nat.le_trans hl hcm, fun i y hy => (hR i y hy).1, ?_⟩
    cases hl0 : l with
    | nil => exact .inl rfl
    | cons y r =>
      obtain ⟨b, o, s⟩ := x
      have hc0 := (hR 0 y (by rw [hl0]; rfl)).2.1
      obtain rfl : s = none := by simpa [Addr.add] using World.cell?_spot hc0
      rw [← hl0]
      refine .inr ⟨b, o, rfl, fun i y hy => ?_⟩
      obtain ⟨_, c0, c1, c2, c3, c4, c5⟩ := hR i y hy
      rw [add_plain] at c0 c1 c2 c3 c4 c5
      exact ⟨c0, c1, c2, c3, c4, c5⟩
theorem act18_in {r : Reach} {b0 : Nat} {v : Value} {d : DataW H} {ps : List MemPlace} {sp : Nat → Bool} (hv : Value.okWide Try.prog w r b0 59 v) (h : DataW.Trod enc Try.prog w 0 sp held 59 v d ps) : ∃ x : A18, v = .agg x.cells.toArray ∧ x.Ok := by
  obtain ⟨cs, rfl, hsz⟩ := okWide_struct Try.underlying59 hv
  obtain ⟨m, hm⟩ := h
  obtain ⟨_, hf⟩ := field_trod Try.underlying59 hm
  rw [show Try.prog.cellsOf 59 = 6 by kernel_rfl] at hsz
  obtain ⟨cl⟩ := cs
  obtain ⟨v0, v1, v2, v3, v4, v5, rfl⟩ : ∃ v0 v1 v2 v3 v4 v5, cl = [v0, v1, v2, v3, v4, v5] := by
    match cl, hsz with
    | [v0, v1, v2, v3, v4, v5], _ => exact ⟨_, _, _, _, _, _, rfl⟩
  have c1 : Try.prog.cellsOf 5 = 1 := by kernel_rfl
  have c2 : Try.prog.cellsOf 57 = 1 := by kernel_rfl
  have c3 : Try.prog.cellsOf 9 = 1 := by kernel_rfl
  have c4 : Try.prog.cellsOf 42 = 1 := by kernel_rfl
  obtain ⟨n0, y0, t0⟩ := hf 0 _ rfl
  obtain ⟨n1, y1, t1⟩ := hf 1 _ rfl
  obtain ⟨n2, y2, t2⟩ := hf 2 _ rfl
  obtain ⟨n3, y3, t3⟩ := hf 3 _ rfl
  obtain ⟨n4, y4, t4⟩ := hf 4 _ rfl
  obtain ⟨n5, y5, t5⟩ := hf 5 _ rfl
  simp only [c1, c2, c3, c4, Value.cells] at t0 t1 t2 t3 t4 t5
  obtain ⟨z0, rfl, w0⟩ := one_i Try.underlying5 t0
  obtain ⟨z1, rfl, w1⟩ := one_i Try.underlying57 t1
  obtain ⟨z2, rfl, w2⟩ := one_s Try.underlying9 t2
  obtain ⟨z3, rfl, w3⟩ := one_s Try.underlying9 t3
  obtain ⟨z4, rfl, w4⟩ := one_s Try.underlying9 t4
  obtain ⟨z5, rfl, w5⟩ := one_i Try.underlying42 t5
  exact ⟨⟨z0, z1, z2, z3, z4, z5⟩, rfl, ⟨w0, w1, w2, w3, w4, w5⟩⟩
theorem bool_in {r : Reach} {b0 : Nat} {v : Value} (hv : Value.okWide Try.prog w r b0 4 v) : ∃ b, v = .bool b := okWide_bool Try.underlying4 hv
end
end Go.Proofs.Ytiadoimdohnebaa
