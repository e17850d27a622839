/- Acts of chapter 3 that came in, in the walks' words. -/
import Derived.Test.YtpclfnamknioaaaIn3
namespace Go.Proofs.Ytpclfnamknioaaa
open Go.ChangeShapes Go.WideShapes Go.Deep Go.RowKit
set_option linter.unusedVariables false
set_option linter.unusedSimpArgs false
set_option maxRecDepth 100000
section
variable {H : Type} {enc : TypeId × Value → H} {w : World} {held : Bool}
theorem uActs3 : Try.prog.underlying 38 = some (.slice 45) := by kernel_rfl
theorem one_u8 {t : TypeId} {n : Nat} {v : Value} {y : DataW H × List MemPlace} {sp : Nat → Bool} (ht : Try.prog.underlying t = some (.int .u8)) (h : DataW.trod enc Try.prog w 0 sp held n t [v] = some y) : ∃ z, v = .int .u8 z ∧ 0 ≤ z ∧ z < 256 := by
  obtain ⟨z, hz, hw⟩ := leaf_int ht h
  have g := (Lit.wf_int_iff .u8 _).1 hw
  rw [show IntKind.u8.min = 0 from rfl, show IntKind.u8.max = 255 from rfl] at g
  exact ⟨z, by simpa using hz, g.1, by omega⟩
theorem one_i64 {t : TypeId} {n : Nat} {v : Value} {y : DataW H × List MemPlace} {sp : Nat → Bool} (ht : Try.prog.underlying t = some (.int .i64)) (h : DataW.trod enc Try.prog w 0 sp held n t [v] = some y) : ∃ z, v = .int .i64 z ∧ -9223372036854775808 ≤ z ∧ z ≤ 9223372036854775807 := by
  obtain ⟨z, hz, hw⟩ := leaf_int ht h
  have g := (Lit.wf_int_iff .i64 _).1 hw
  rw [show IntKind.i64.min = -9223372036854775808 from rfl, show IntKind.i64.max = 9223372036854775807 from rfl] at g
  exact ⟨z, by simpa using hz, g⟩
theorem one_ints {n : Nat} {v : Value} {y : DataW H × List MemPlace} {sp : Nat → Bool} (h : DataW.trod enc Try.prog w 0 sp held n 29 [v] = some y) :
    ∃ l, IS w v l ∧ (∀ x ∈ l, -9223372036854775808 ≤ x ∧ x ≤ 9223372036854775807) ∧ (l ≠ [] → ∀ k, v.ownBlock = some k → k < w.heap.size) := by
  rcases open_ints uInts Try.underlying3 (by kernel_rfl) h with ⟨hv, _⟩ | ⟨a, len, cap, zs, hv, _, hl, hm, hz, _, hc, hw⟩
  · obtain rfl : v = .slice none 0 0 := by simpa using hv
    exact ⟨[], ⟨none, 0, rfl, Nat.le_refl _, by decide, .inl rfl⟩, by simp, fun h => absurd rfl h⟩
  · obtain rfl : v = .slice (some a) len cap := by simpa using hv
    have hzl : len ≤ zs.length := by rw [hz]; split <;> omega
    have htl : (zs.take len).length = len := by rw [List.length_take]; omega
    refine ⟨zs.take len, ⟨some a, cap, by rw [htl], by rw [htl]; exact hl, hm, ?_⟩, fun x hx => ?_, fun hne k hk => ?_⟩
    · cases hlen : len with
      | zero => exact .inl (by simp)
      | succ n =>
        obtain ⟨b, o, sp⟩ := a
        have hc0 := hc 0 (by omega)
        obtain rfl : sp = none := by simpa [Addr.add] using World.cell?_spot hc0
        refine .inr ⟨b, o, rfl, fun i x hi => ?_⟩
        rw [List.getElem?_take] at hi
        split at hi
        · have hi' := (List.getElem?_eq_some_iff.1 hi).1
          have := hc i hi'
          rw [add_plain, List.getD_eq_getElem?_getD, hi, Option.getD_some] at this
          exact this
        · cases hi
    · have g := (Lit.wf_int_iff .i64 _).1 (hw x (List.mem_of_mem_take hx))
      rw [show IntKind.i64.min = -9223372036854775808 from rfl, show IntKind.i64.max = 9223372036854775807 from rfl] at g
      exact g
    · cases hk
      have hpos : 0 < zs.length := by
        rcases Nat.eq_zero_or_pos zs.length with h0 | h0
        · exact absurd (by rw [List.eq_nil_of_length_eq_zero h0]; simp) hne
        · exact h0
      have := World.block_lt_of_cell? w _ (hc 0 hpos)
      simpa [Addr.add] using this
theorem acts3_in {r : Reach} {b0 : Nat} {v : Value} {d : DataW H} {ps : List MemPlace} {sp : Nat → Bool} (hv : Value.okWide Try.prog w r b0 38 v) (h : DataW.Trod enc Try.prog w 0 sp held 38 v d ps) : ∃ l, AS3 w v l := by
  obtain ⟨a, len, cap, rfl⟩ := okWide_slice uActs3 hv
  obtain ⟨m, hm⟩ := h
  rcases struct_rows uActs3 Try.underlying45 (by kernel_rfl) (by kernel_rfl) hm with hn | ⟨x, len', cap', hc, hl, hcm, hf⟩
  · simp [Value.cells] at hn
    obtain ⟨rfl, rfl, rfl⟩ := hn
    exact ⟨[], none, 0, rfl, by simp, fun i x h => by simp at h, .inl rfl⟩
  · simp [Value.cells] at hc
    obtain ⟨rfl, rfl, rfl⟩ := hc
    obtain ⟨l, hlen, hR⟩ := list_of (fun i (y : A3) => y.Ok w ∧ ∀ (j : Nat) u, y.cells[j]? = some u → w.cell? (x.add (i * 6 + j)) = some u) len (fun i hi => by
      obtain ⟨v0, n0, y0, c0, t0⟩ := hf i hi 0 _ rfl
      obtain ⟨v1, n1, y1, c1, t1⟩ := hf i hi 1 _ rfl
      obtain ⟨v2, n2, y2, c2, t2⟩ := hf i hi 2 _ rfl
      obtain ⟨v3, n3, y3, c3, t3⟩ := hf i hi 3 _ rfl
      obtain ⟨v4, n4, y4, c4, t4⟩ := hf i hi 4 _ rfl
      obtain ⟨v5, n5, y5, c5, t5⟩ := hf i hi 5 _ rfl
      obtain ⟨z0, rfl, w0⟩ := one_u8 Try.underlying5 t0
      obtain ⟨z1, rfl, w1⟩ := one_i64 Try.underlying3 t1
      obtain ⟨z2, rfl, w2⟩ := one_u8 Try.underlying5 t2
      obtain ⟨z3, rfl, w3⟩ := one_u8 Try.underlying5 t3
      obtain ⟨z4, rfl, w4⟩ := one_u8 Try.underlying5 t4
      obtain ⟨fl, f1, f2, f3⟩ := one_ints t5
      refine ⟨⟨z0, z1, z2, z3, z4, v5, fl⟩, ⟨w0, w1, w2, w3, w4, f1, f2, f3⟩, fun j u hu => ?_⟩
      match j, hu with
      | 0, hu => simp [A3.cells] at hu; subst hu; exact c0
      | 1, hu => simp [A3.cells] at hu; subst hu; exact c1
      | 2, hu => simp [A3.cells] at hu; subst hu; exact c2
      | 3, hu => simp [A3.cells] at hu; subst hu; exact c3
      | 4, hu => simp [A3.cells] at hu; subst hu; exact c4
      | 5, hu => simp [A3.cells] at hu; subst hu; exact c5
      | k + 6, hu => simp [A3.cells] at hu)
    subst hlen
    refine ⟨l, some x, cap, rfl, Nat.le_trans hl hcm, fun i y hy => (hR i y hy).1, ?_⟩
    cases hl0 : l with
    | nil => exact .inl rfl
    | cons y r =>
      obtain ⟨b, o, s⟩ := x
      have hc0 := (hR 0 y (by rw [hl0]; rfl)).2 0 _ rfl
      obtain rfl : s = none := by simpa [Addr.add] using World.cell?_spot hc0
      rw [← hl0]
      refine .inr ⟨b, o, rfl, by simpa [Addr.add] using World.block_lt_of_cell? w _ hc0, fun i y hy j u hu => ?_⟩
      have := (hR i y hy).2 j u hu
      rw [add_plain] at this
      exact this
theorem ints3_in {r : Reach} {b0 : Nat} {v : Value} {d : DataW H} {ps : List MemPlace} {sp : Nat → Bool} (hv : Value.okWide Try.prog w r b0 29 v) (h : DataW.Trod enc Try.prog w 0 sp held 29 v d ps) :
    ∃ l, IS w v l ∧ (∀ x ∈ l, -9223372036854775808 ≤ x ∧ x ≤ 9223372036854775807) ∧ (l ≠ [] → ∀ k, v.ownBlock = some k → k < w.heap.size) := by
  obtain ⟨a, len, cap, rfl⟩ := okWide_slice uInts hv
  obtain ⟨m, hm⟩ := h
  exact one_ints hm
end
end Go.Proofs.Ytpclfnamknioaaa
