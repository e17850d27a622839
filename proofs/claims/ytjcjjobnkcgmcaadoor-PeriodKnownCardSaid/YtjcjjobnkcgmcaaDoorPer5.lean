/- The walks of quitrentref08.First, quitrentref09.Start, and of the example of quitrentlaw09. -/
import Derived.Test.YtjcjjobnkcgmcaaDoorPer4
namespace Go.Proofs.YtjcjjobnkcgmcaaDoor
open Go.RowKit
theorem rfirst_no (M : Int) (h : M < 12 ∨ 120000 ≤ M) (w : World) :
    Calls Tryd.prog 26 #[.int .i64 M] w fun e w' => e = .returned (.tuple #[.int .i64 0, .int .i64 1]) ∧ w' = w := by
  go_enter Tryd.func26, Tryd.ntmps26
  go_wp2_with (go_at_call 34; refine (rlength_no _ h _).mono ?_; rintro e w' ⟨rfl, rfl⟩)
  go_ret2
  exact ⟨rfl, rfl⟩
theorem rfirst_yes (M : Int) (h1 : 12 ≤ M) (h2 : M < 120000) (w : World) :
    Calls Tryd.prog 26 #[.int .i64 M] w fun e w' => e = .returned (.tuple #[.int .i64 (Cal.first M), .int .i64 0]) ∧ Below w.heap.size w w' := by
  have hl := Cal.len_bd M
  have hn : (Cal.len M == 0) = false := by simp; omega
  have hc := fun w => rdate_yes (M / 12) (M % 12 + 1) (by omega) (by omega) (by omega) (by omega) w
  rw [show 12 * (M / 12) + (M % 12 + 1) - 1 = M by omega] at hc
  have HC := Lib.hid hc
  clear hc
  go_enter Tryd.func26, Tryd.ntmps26
  go_wp2_with (go_at_call 34; refine (rlength_yes _ h1 h2 _).mono ?_; rintro e w' ⟨rfl, rfl⟩)
  refine (HC.out _).mono ?_
  rintro e w1 ⟨rfl, hb⟩
  have HB := Lib.hid hb
  clear hb
  go_wp2
  go_ret2
  exact ⟨rfl, HB.out⟩
theorem rstart_no (M s : Int) (g1 : -9223372036854775808 ≤ s) (g2 : s ≤ 9223372036854775807) (h : M < 12 ∨ 120000 ≤ M) (w : World) :
    Calls Tryd.prog 17 #[.int .i64 M, .int .i64 s] w fun e w' => e = .returned (.tuple #[.int .i64 0, .int .i64 1]) ∧ w' = w := by
  go_enter Tryd.func17, Tryd.ntmps17
  go_wp2_with (first | (go_at_call 26; refine (rfirst_no _ h _).mono ?_; rintro e w' ⟨rfl, rfl⟩) | (go_at_call 14; refine (rcheck_any _ g1 g2 _).mono ?_; rintro e w' ⟨rfl, rfl⟩))
  go_ret2
  exact ⟨rfl, rfl⟩
theorem rstart_yes (M s : Int) (h1 : 12 ≤ M) (h2 : M < 120000) (hs : shiftB s = true) (w : World) :
    Calls Tryd.prog 17 #[.int .i64 M, .int .i64 s] w fun e w' => e = .returned (.tuple #[.int .i64 (86400 * Cal.first M - s), .int .i64 0]) ∧ Below w.heap.size w w' := by
  have HS := Lib.hid hs
  have hsb := shift_bd hs
  have hb := first_bd M h1 h2
  clear hs
  go_enter Tryd.func17, Tryd.ntmps17
  go_wp2_with fail
  refine (rfirst_yes M h1 h2 _).mono ?_
  rintro e w1 ⟨rfl, hb1⟩
  have HB := Lib.hid hb1
  clear hb1
  go_wp2_with (go_at_call 14; refine (rcheck_any _ (by omega) (by omega) _).mono ?_; rintro e w' ⟨rfl, rfl⟩; rw [HS.out])
  go_ret2
  exact ⟨rfl, HB.out⟩
theorem rstart_shift (M s : Int) (h1 : 12 ≤ M) (h2 : M < 120000) (g1 : -9223372036854775808 ≤ s) (g2 : s ≤ 9223372036854775807) (hs : shiftB s = false) (w : World) :
    Calls Tryd.prog 17 #[.int .i64 M, .int .i64 s] w fun e w' => e = .returned (.tuple #[.int .i64 0, .int .i64 1]) ∧ Below w.heap.size w w' := by
  have HS := Lib.hid hs
  have hb := first_bd M h1 h2
  clear hs
  go_enter Tryd.func17, Tryd.ntmps17
  go_wp2_with fail
  refine (rfirst_yes M h1 h2 _).mono ?_
  rintro e w1 ⟨rfl, hb1⟩
  have HB := Lib.hid hb1
  clear hb1
  go_wp2_with (go_at_call 14; refine (rcheck_any _ (by omega) (by omega) _).mono ?_; rintro e w' ⟨rfl, rfl⟩; rw [HS.out])
  go_ret2
  exact ⟨rfl, HB.out⟩
theorem goes_any (w : World) (hT : Tab w) :
    Calls Tryd.prog 15 #[] w fun e w' => e = .returned (.bool true) ∧ Below w.heap.size w w' := by
  have c1 := fun w => day_yes 0 (-900) (by decide) (by decide) (by decide) w
  have c2 := fun w => month_yes 0 (-900) 23639 (by decide) (by decide) (by decide) (by unfold Cal.In; decide) (by decide) (by decide) w
  have c3 := fun w => start_yes 23641 3600 (by decide) (by decide) (by decide) w
  rw [show ((0 : Int) + -900) / 86400 = -1 by decide] at c1
  rw [show 86400 * Cal.first 23641 - 3600 = 2674800 by decide] at c3
  have C1 := Lib.hid c1
  have C2 := Lib.hid c2
  have C3 := Lib.hid c3
  have HT := Lib.hid hT
  clear c1 c2 c3 hT
  go_enter Tryd.func15, Tryd.ntmps15
  go_wp2_with fail
  refine (C1.out _).mono ?_
  rintro e w' ⟨rfl, rfl⟩
  go_wp2_with fail
  refine (C2.out _ HT.out).mono ?_
  rintro e w1 ⟨rfl, hb1⟩
  have HB1 := Lib.hid hb1
  have HT1 := Lib.hid (HT.out.below hb1 (Nat.le_refl _))
  clear hb1
  go_wp2_with fail
  refine (C3.out _ HT1.out).mono ?_
  rintro e w2 ⟨rfl, hb2⟩
  have HB2 := Lib.hid hb2
  clear hb2
  have k1 : shiftB 901 = false := by decide
  have k2 : shiftB 50400 = true := by decide
  go_wp2_with (go_at_call 13; refine (check_any _ _).mono ?_; rintro e w' ⟨rfl, rfl⟩; first | rw [k1] | rw [k2])
  go_ret
  exact ⟨rfl, HB1.out.trans (HB2.out.mono HB1.out.size)⟩
theorem In_exists (d : Int) (h0 : -719162 ≤ d) (h1 : d ≤ 2932896) : ∃ M, 12 ≤ M ∧ M < 120000 ∧ Cal.In M d := by
  have step : ∀ k : Nat, ∀ M : Int, 12 ≤ M → M + k = 120000 → Cal.first M ≤ d → ∃ M, 12 ≤ M ∧ M < 120000 ∧ Cal.In M d := by
    intro k
    induction k with
    | zero =>
      intro M _ h h2
      have : M = 120000 := by omega
      rw [this, Cal.first_end] at h2; omega
    | succ k ih =>
      intro M hM h h2
      by_cases hd : d < Cal.first (M + 1)
      · exact ⟨M, hM, by omega, h2, hd⟩
      · exact ih (M + 1) (by omega) (by omega) (by omega)
  exact step 119988 12 (by omega) (by omega) (by rw [Cal.first_12]; exact h0)
theorem ok_or (t s : Int) : (0 ≤ t ∧ t ≤ 137438953472 ∧ shiftB s = true) ∨ (t < 0 ∨ 137438953472 < t ∨ shiftB s = false) := by
  by_cases h0 : t < 0
  · exact .inr (.inl h0)
  · by_cases h1 : 137438953472 < t
    · exact .inr (.inr (.inl h1))
    · cases h : shiftB s
      · exact .inr (.inr (.inr rfl))
      · exact .inl ⟨by omega, by omega, rfl⟩
theorem times_any (t s : Int) (g1 : -9223372036854775808 ≤ s) (g2 : s ≤ 9223372036854775807) (w : World) (hT : Tab w) :
    Calls Tryd.prog 3 #[.int .i64 t, .int .i64 s] w fun e w' => e = .returned (.bool true) ∧ Below w.heap.size w w' := by
  have HT := Lib.hid hT
  clear hT
  rcases ok_or t s with ⟨h0, h1, hs⟩ | hno
  · have hsb := shift_bd hs
    obtain ⟨M, h2, h3, hM⟩ := In_exists ((t + s) / 86400) (by omega) (by omega)
    have C1 := Lib.hid (fun w => day_yes t s h0 h1 hs w)
    have C2 := Lib.hid (fun w => rday_yes t s h0 h1 hs w)
    have C3 := Lib.hid (fun w hT => month_yes t s M h0 h1 hs hM h2 h3 w hT)
    have C4 := Lib.hid (fun w => rmonth_yes t s M h0 h1 hs hM h2 h3 w)
    clear hM hs hsb
    go_enter Tryd.func3, Tryd.ntmps3
    go_wp2_with fail
    refine (C1.out _).mono ?_
    rintro e w' ⟨rfl, rfl⟩
    go_wp2_with fail
    refine (C2.out _).mono ?_
    rintro e w' ⟨rfl, rfl⟩
    go_wp2_with fail
    refine (C3.out _ HT.out).mono ?_
    rintro e w1 ⟨rfl, hb1⟩
    have HB1 := Lib.hid hb1
    have HT1 := Lib.hid (HT.out.below hb1 (Nat.le_refl _))
    clear hb1
    go_wp2_with fail
    refine (C4.out _).mono ?_
    rintro e w2 ⟨rfl, hb2⟩
    have HB2 := Lib.hid (HB1.out.trans (hb2.mono HB1.out.size))
    have HT2 := Lib.hid (HT1.out.below hb2 (Nat.le_refl _))
    clear hb2
    go_wp2_with (first
      | (go_at_call 13; refine (check_any _ _).mono ?_; rintro e w' ⟨rfl, rfl⟩)
      | (go_at_call 14; refine (rcheck_any _ g1 g2 _).mono ?_; rintro e w' ⟨rfl, rfl⟩)
      | (go_at_call 15; refine (goes_any _ HT2.out).mono ?_; rintro e w3 ⟨rfl, hb3⟩; have HB3 := Lib.hid (HB2.out.trans (hb3.mono HB2.out.size)); clear hb3))
    go_ret
    exact ⟨rfl, HB3.out⟩
  · have C1 := Lib.hid (fun w => day_no t s hno w)
    have C2 := Lib.hid (fun w => rday_no t s g1 g2 hno w)
    have C3 := Lib.hid (fun w => month_no t s hno w)
    have C4 := Lib.hid (fun w => rmonth_no t s g1 g2 hno w)
    clear hno
    go_enter Tryd.func3, Tryd.ntmps3
    go_wp2_with (first
      | (go_at_call 9; refine (C1.out _).mono ?_; rintro e w' ⟨rfl, rfl⟩)
      | (go_at_call 10; refine (C2.out _).mono ?_; rintro e w' ⟨rfl, rfl⟩)
      | (go_at_call 11; refine (C3.out _).mono ?_; rintro e w' ⟨rfl, rfl⟩)
      | (go_at_call 12; refine (C4.out _).mono ?_; rintro e w' ⟨rfl, rfl⟩)
      | (go_at_call 13; refine (check_any _ _).mono ?_; rintro e w' ⟨rfl, rfl⟩)
      | (go_at_call 14; refine (rcheck_any _ g1 g2 _).mono ?_; rintro e w' ⟨rfl, rfl⟩)
      | (go_at_call 15; refine (goes_any _ HT.out).mono ?_; rintro e w3 ⟨rfl, hb3⟩; have HB3 := Lib.hid hb3; clear hb3))
    go_ret
    exact ⟨rfl, HB3.out⟩
end Go.Proofs.YtjcjjobnkcgmcaaDoor
