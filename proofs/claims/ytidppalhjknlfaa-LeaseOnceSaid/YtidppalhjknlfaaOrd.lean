/- quitrentref16.Value; keys in order are numbers in order. -/
import Derived.Test.YtidppalhjknlfaaScan2
namespace Go.Proofs.Ytidppalhjknlfaa
open Go.RowKit
set_option maxRecDepth 100000
set_option linter.unusedVariables false
set_option linter.unusedSimpArgs false
/-! ### keys in order -/
theorem bl_append : ∀ (x y x' y' : List UInt8), x.length = y.length → Op.bytesLess (x ++ x') (y ++ y') = (Op.bytesLess x y || (x == y && Op.bytesLess x' y'))
  | [], [], x', y', _ => by simp [Op.bytesLess]
  | a :: x, b :: y, x', y', h => by
    have ih := bl_append x y x' y' (by simpa using h)
    simp only [List.cons_append, Op.bytesLess, ih]
    cases h1 : decide (a < b) <;> cases h2 : (a == b) <;> cases h3 : Op.bytesLess x y <;> cases h4 : (x == y) <;> simp_all
theorem bl_val : ∀ (x y : List UInt8), x.length = y.length → Op.bytesLess x y = decide (valN x < valN y) := by
  have aux : ∀ (n : Nat) (x y : List UInt8), x.length = n → y.length = n → Op.bytesLess x y = decide (valN x < valN y) := by
    intro n
    induction n with
    | zero =>
      intro x y hx hy
      rw [List.eq_nil_of_length_eq_zero hx, List.eq_nil_of_length_eq_zero hy]
      rfl
    | succ n ih =>
      intro x y hx hy
      obtain ⟨x0, a, rfl⟩ : ∃ x0 a, x = x0 ++ [a] := ⟨x.dropLast, x.getLast (by intro h; simp [h] at hx), (List.dropLast_concat_getLast _).symm⟩
      obtain ⟨y0, b, rfl⟩ : ∃ y0 b, y = y0 ++ [b] := ⟨y.dropLast, y.getLast (by intro h; simp [h] at hy), (List.dropLast_concat_getLast _).symm⟩
      simp at hx hy
      rw [bl_append _ _ _ _ (by omega), ih x0 y0 hx hy, valN_snoc, valN_snoc]
      have ha := a.toNat_lt
      have hb := b.toNat_lt
      have hab : Op.bytesLess [a] [b] = decide (a.toNat < b.toNat) := by
        simp only [Op.bytesLess, Bool.and_false, Bool.or_false]
        rfl
      rw [hab]
      by_cases he : x0 = y0
      · subst he
        simp
      · have hne : (x0 == y0) = false := beq_eq_false_iff_ne.2 he
        have hvv : valN x0 ≠ valN y0 := by
          intro hv
          refine he ?_
          have h1 := ih x0 y0 hx hy
          have h2 := ih y0 x0 hy hx
          rw [hv, decide_eq_false (Nat.lt_irrefl _)] at h1
          rw [hv, decide_eq_false (Nat.lt_irrefl _)] at h2
          exact bl_total _ _ h1 h2
        rw [hne]
        simp only [Bool.false_and, Bool.or_false]
        rw [decide_eq_decide]
        omega
  intro x y h
  exact aux _ x y rfl h.symm
end Go.Proofs.Ytidppalhjknlfaa
