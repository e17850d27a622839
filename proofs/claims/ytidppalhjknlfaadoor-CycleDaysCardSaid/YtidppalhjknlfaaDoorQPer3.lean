/- The walks of the references quitrentref08, quitrentref09. -/
import Derived.Test.YtidppalhjknlfaaDoorQPer2
namespace Go.Proofs.YtidppalhjknlfaaDoor
set_option linter.unusedVariables false
set_option linter.unusedSimpArgs false
open Go.RowKit
theorem rleap_any (y : Int) (h0 : 0 ≤ y) (h1 : y ≤ 10000) (w : World) :
    Calls Tryd.prog 64 #[.int .i64 y] w fun e w' => e = .returned (.bool (Cal.leap y)) ∧ w' = w := by
  go_enter Tryd.func64, Tryd.ntmps64
  go_wp2
  all_goals
    go_ret
    refine ⟨ret_b ?_, rfl⟩
    unfold Cal.leap
    first
      | (simp_all; done)
      | (rw [Bool.eq_iff_iff]; simp_all <;> omega)
theorem l01_of {y : Int} (h : Cal.leap y = true) : Cal.l01 y = 1 := by unfold Cal.l01; rw [if_pos h]
theorem l01_no {y : Int} (h : Cal.leap y = false) : Cal.l01 y = 0 := by unfold Cal.l01; rw [h]; simp
theorem days_any (y : Int) (h0 : 0 ≤ y) (h1 : y ≤ 10000) (w : World) :
    Calls Tryd.prog 63 #[.int .i64 y] w fun e w' => e = .returned (.int .i64 (365 + Cal.l01 y)) ∧ w' = w := by
  cases hl : Cal.leap y with
  | true =>
    have HL := Lib.hid hl
    clear hl
    go_enter Tryd.func63, Tryd.ntmps63
    go_wp2_with (go_at_call 64; refine (rleap_any _ (by omega) (by omega) _).mono ?_; rintro e w' ⟨rfl, rfl⟩; rw [HL.out])
    go_ret
    exact ⟨ret_i (by rw [l01_of HL.out]; rfl), rfl⟩
  | false =>
    have HL := Lib.hid hl
    clear hl
    go_enter Tryd.func63, Tryd.ntmps63
    go_wp2_with (go_at_call 64; refine (rleap_any _ (by omega) (by omega) _).mono ?_; rintro e w' ⟨rfl, rfl⟩; rw [HL.out])
    go_ret
    exact ⟨ret_i (by rw [l01_no HL.out]; rfl), rfl⟩
theorem long_val (y m : Int) (h2 : 1 ≤ m) (h3 : m ≤ 12) : Cal.len (12 * y + m - 1) = Cal.base (m - 1) + (if m = 2 then Cal.l01 y else 0) := by
  unfold Cal.len
  rw [show (12 * y + m - 1) % 12 = m - 1 by omega, show (12 * y + m - 1) / 12 = y by omega]
  by_cases h : m = 2
  · subst h; rfl
  · rw [if_neg h, if_neg (by omega)]
theorem long_any (y m : Int) (h0 : 0 ≤ y) (h1 : y ≤ 10000) (h2 : 1 ≤ m) (h3 : m ≤ 12) (w : World) :
    Calls Tryd.prog 44 #[.int .i64 y, .int .i64 m] w fun e w' => e = .returned (.int .i64 (Cal.len (12 * y + m - 1))) ∧ w' = w := by
  have HV := Lib.hid (long_val y m h2 h3)
  have hm : m = 1 ∨ m = 2 ∨ m = 3 ∨ m = 4 ∨ m = 5 ∨ m = 6 ∨ m = 7 ∨ m = 8 ∨ m = 9 ∨ m = 10 ∨ m = 11 ∨ m = 12 := by omega
  cases hl : Cal.leap y with
  | true =>
    have HL := Lib.hid hl
    clear hl
    rcases hm with rfl | rfl | rfl | rfl | rfl | rfl | rfl | rfl | rfl | rfl | rfl | rfl
    all_goals
      go_enter Tryd.func44, Tryd.ntmps44
      go_wp2_with (go_at_call 64; refine (rleap_any _ (by omega) (by omega) _).mono ?_; rintro e w' ⟨rfl, rfl⟩; rw [HL.out])
      go_ret
      exact ⟨ret_i (by rw [HV.out, l01_of HL.out]; rfl), rfl⟩
  | false =>
    have HL := Lib.hid hl
    clear hl
    rcases hm with rfl | rfl | rfl | rfl | rfl | rfl | rfl | rfl | rfl | rfl | rfl | rfl
    all_goals
      go_enter Tryd.func44, Tryd.ntmps44
      go_wp2_with (go_at_call 64; refine (rleap_any _ (by omega) (by omega) _).mono ?_; rintro e w' ⟨rfl, rfl⟩; rw [HL.out])
      go_ret
      exact ⟨ret_i (by rw [HV.out, l01_no HL.out]; rfl), rfl⟩
theorem rlength_no (s : Int) (h : s < 12 ∨ 120000 ≤ s) (w : World) :
    Calls Tryd.prog 25 #[.int .i64 s] w fun e w' => e = .returned (.int .i64 0) ∧ w' = w := by
  rcases h with h | h
  · go_enter Tryd.func25, Tryd.ntmps25
    go_wp2
    go_ret
    exact ⟨rfl, rfl⟩
  · go_enter Tryd.func25, Tryd.ntmps25
    go_wp2
    go_ret
    exact ⟨rfl, rfl⟩
theorem rlength_yes (M : Int) (h1 : 12 ≤ M) (h2 : M < 120000) (w : World) :
    Calls Tryd.prog 25 #[.int .i64 M] w fun e w' => e = .returned (.int .i64 (Cal.len M)) ∧ w' = w := by
  have e : (12 * (M / 12) + (M % 12 + 1) - 1) = M := by omega
  have HE := Lib.hid e
  clear e
  go_enter Tryd.func25, Tryd.ntmps25
  go_wp2_with (go_at_call 44; refine (long_any _ _ (by omega) (by omega) (by omega) (by omega) _).mono ?_; rintro e w' ⟨rfl, rfl⟩; rw [HE.out])
  go_ret
  exact ⟨rfl, rfl⟩
end Go.Proofs.YtidppalhjknlfaaDoor
