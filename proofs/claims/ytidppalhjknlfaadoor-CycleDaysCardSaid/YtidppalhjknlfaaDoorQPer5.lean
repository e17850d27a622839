/- The walks of quitrentref08.First, quitrentref09.Start, and of the example of quitrentlaw09. -/
import Derived.Test.YtidppalhjknlfaaDoorQPer4
namespace Go.Proofs.YtidppalhjknlfaaDoor
set_option linter.unusedVariables false
set_option linter.unusedSimpArgs false
open Go.RowKit
theorem rfirst_no (M : Int) (h : M < 12 ∨ 120000 ≤ M) (w : World) :
    Calls Tryd.prog 24 #[.int .i64 M] w fun e w' => e = .returned (.tuple #[.int .i64 0, .int .i64 1]) ∧ w' = w := by
  go_enter Tryd.func24, Tryd.ntmps24
  go_wp2_with (go_at_call 25; refine (rlength_no _ h _).mono ?_; rintro e w' ⟨rfl, rfl⟩)
  go_ret2
  exact ⟨rfl, rfl⟩
theorem rfirst_yes (M : Int) (h1 : 12 ≤ M) (h2 : M < 120000) (w : World) :
    Calls Tryd.prog 24 #[.int .i64 M] w fun e w' => e = .returned (.tuple #[.int .i64 (Cal.first M), .int .i64 0]) ∧ Below w.heap.size w w' := by
  have hl := Cal.len_bd M
  have hn : (Cal.len M == 0) = false := by simp; omega
  have hc := fun w => rdate_yes (M / 12) (M % 12 + 1) (by omega) (by omega) (by omega) (by omega) w
  rw [show 12 * (M / 12) + (M % 12 + 1) - 1 = M by omega] at hc
  have HC := Lib.hid hc
  clear hc
  go_enter Tryd.func24, Tryd.ntmps24
  go_wp2_with (go_at_call 25; refine (rlength_yes _ h1 h2 _).mono ?_; rintro e w' ⟨rfl, rfl⟩)
  refine (HC.out _).mono ?_
  rintro e w1 ⟨rfl, hb⟩
  have HB := Lib.hid hb
  clear hb
  go_wp2
  go_ret2
  exact ⟨rfl, HB.out⟩
theorem In_exists (d : Int) (h0 : -719162 ≤ d) (h1 : d ≤ 2932896) : ∃ M, 12 ≤ M ∧ M < 120000 ∧ Cal.In M d := by
  have step : ∀ k : Nat, ∀ M : Int, 12 ≤ M → M + k = 120000 → Cal.first M ≤ d → ∃ M, 12 ≤ M ∧ M < 120000 ∧ Cal.In M d := by
    intro k
    induction k with
    | zero =>
      intro M _ h h2
      have : M = 120000 := by omega
      rw [this, Cal.first_end] at h2; omega
    | succ k ih =>
      intro M hM h h2
      by_cases hd : d < Cal.first (M + 1)
      · exact ⟨M, hM, by omega, h2, hd⟩
      · exact ih (M + 1) (by omega) (by omega) (by omega)
  exact step 119988 12 (by omega) (by omega) (by rw [Cal.first_12]; exact h0)
theorem ok_or (t s : Int) : (0 ≤ t ∧ t ≤ 137438953472 ∧ shiftB s = true) ∨ (t < 0 ∨ 137438953472 < t ∨ shiftB s = false) := by
  by_cases h0 : t < 0
  · exact .inr (.inl h0)
  · by_cases h1 : 137438953472 < t
    · exact .inr (.inr (.inl h1))
    · cases h : shiftB s
      · exact .inr (.inr (.inr rfl))
      · exact .inl ⟨by omega, by omega, rfl⟩
end Go.Proofs.YtidppalhjknlfaaDoor
