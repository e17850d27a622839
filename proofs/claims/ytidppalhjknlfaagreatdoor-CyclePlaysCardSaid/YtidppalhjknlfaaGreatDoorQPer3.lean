/- The walks of the references quitrentref08, quitrentref09. -/
import Derived.Test.YtidppalhjknlfaaGreatDoorQPer2
namespace Go.Proofs.YtidppalhjknlfaaGreatDoor
set_option linter.unusedVariables false
set_option linter.unusedSimpArgs false
open Go.RowKit
theorem rleap_any (y : Int) (h0 : 0 ≤ y) (h1 : y ≤ 10000) (w : World) :
    Calls Tryz.prog 81 #[.int .i64 y] w fun e w' => e = .returned (.bool (Cal.leap y)) ∧ w' = w := by
  go_enter Tryz.func81, Tryz.ntmps81
  go_wp2
  all_goals
    go_ret
    refine ⟨ret_b ?_, rfl⟩
    unfold Cal.leap
    first
      | (simp_all; done)
      | (rw [Bool.eq_iff_iff]; simp_all <;> omega)
theorem l01_of {y : Int} (h : Cal.leap y = true) : Cal.l01 y = 1 := by unfold Cal.l01; rw [if_pos h]
theorem l01_no {y : Int} (h : Cal.leap y = false) : Cal.l01 y = 0 := by unfold Cal.l01; rw [h]; simp
theorem days_any (y : Int) (h0 : 0 ≤ y) (h1 : y ≤ 10000) (w : World) :
    Calls Tryz.prog 61 #[.int .i64 y] w fun e w' => e = .returned (.int .i64 (365 + Cal.l01 y)) ∧ w' = w := by
  cases hl : Cal.leap y with
  | true =>
    have HL := Lib.hid hl
    clear hl
    go_enter Tryz.func61, Tryz.ntmps61
    go_wp2_with (go_at_call 81; refine (rleap_any _ (by omega) (by omega) _).mono ?_; rintro e w' ⟨rfl, rfl⟩; rw [HL.out])
    go_ret
    exact ⟨ret_i (by rw [l01_of HL.out]; rfl), rfl⟩
  | false =>
    have HL := Lib.hid hl
    clear hl
    go_enter Tryz.func61, Tryz.ntmps61
    go_wp2_with (go_at_call 81; refine (rleap_any _ (by omega) (by omega) _).mono ?_; rintro e w' ⟨rfl, rfl⟩; rw [HL.out])
    go_ret
    exact ⟨ret_i (by rw [l01_no HL.out]; rfl), rfl⟩
theorem long_val (y m : Int) (h2 : 1 ≤ m) (h3 : m ≤ 12) : Cal.len (12 * y + m - 1) = Cal.base (m - 1) + (if m = 2 then Cal.l01 y else 0) := by
  unfold Cal.len
  rw [show (12 * y + m - 1) % 12 = m - 1 by omega, show (12 * y + m - 1) / 12 = y by omega]
  by_cases h : m = 2
  · subst h; rfl
  · rw [if_neg h, if_neg (by omega)]
theorem long_any (y m : Int) (h0 : 0 ≤ y) (h1 : y ≤ 10000) (h2 : 1 ≤ m) (h3 : m ≤ 12) (w : World) :
    Calls Tryz.prog 62 #[.int .i64 y, .int .i64 m] w fun e w' => e = .returned (.int .i64 (Cal.len (12 * y + m - 1))) ∧ w' = w := by
  have HV := Lib.hid (long_val y m h2 h3)
  have hm : m = 1 ∨ m = 2 ∨ m = 3 ∨ m = 4 ∨ m = 5 ∨ m = 6 ∨ m = 7 ∨ m = 8 ∨ m = 9 ∨ m = 10 ∨ m = 11 ∨ m = 12 := by omega
  cases hl : Cal.leap y with
  | true =>
    have HL := Lib.hid hl
    clear hl
    rcases hm with rfl | rfl | rfl | rfl | rfl | rfl | rfl | rfl | rfl | rfl | rfl | rfl
    all_goals
      go_enter Tryz.func62, Tryz.ntmps62
      go_wp2_with (go_at_call 81; refine (rleap_any _ (by omega) (by omega) _).mono ?_; rintro e w' ⟨rfl, rfl⟩; rw [HL.out])
      go_ret
      exact ⟨ret_i (by rw [HV.out, l01_of HL.out]; rfl), rfl⟩
  | false =>
    have HL := Lib.hid hl
    clear hl
    rcases hm with rfl | rfl | rfl | rfl | rfl | rfl | rfl | rfl | rfl | rfl | rfl | rfl
    all_goals
      go_enter Tryz.func62, Tryz.ntmps62
      go_wp2_with (go_at_call 81; refine (rleap_any _ (by omega) (by omega) _).mono ?_; rintro e w' ⟨rfl, rfl⟩; rw [HL.out])
      go_ret
      exact ⟨ret_i (by rw [HV.out, l01_no HL.out]; rfl), rfl⟩
theorem rlength_no (s : Int) (h : s < 12 ∨ 120000 ≤ s) (w : World) :
    Calls Tryz.prog 44 #[.int .i64 s] w fun e w' => e = .returned (.int .i64 0) ∧ w' = w := by
  rcases h with h | h
  · go_enter Tryz.func44, Tryz.ntmps44
    go_wp2
    go_ret
    exact ⟨rfl, rfl⟩
  · go_enter Tryz.func44, Tryz.ntmps44
    go_wp2
    go_ret
    exact ⟨rfl, rfl⟩
theorem rlength_yes (M : Int) (h1 : 12 ≤ M) (h2 : M < 120000) (w : World) :
    Calls Tryz.prog 44 #[.int .i64 M] w fun e w' => e = .returned (.int .i64 (Cal.len M)) ∧ w' = w := by
  have e : (12 * (M / 12) + (M % 12 + 1) - 1) = M := by omega
  have HE := Lib.hid e
  clear e
  go_enter Tryz.func44, Tryz.ntmps44
  go_wp2_with (go_at_call 62; refine (long_any _ _ (by omega) (by omega) (by omega) (by omega) _).mono ?_; rintro e w' ⟨rfl, rfl⟩; rw [HE.out])
  go_ret
  exact ⟨rfl, rfl⟩
theorem rcheck_any (s : Int) (h1 : -9223372036854775808 ≤ s) (h2 : s ≤ 9223372036854775807) (w : World) :
    Calls Tryz.prog 34 #[.int .i64 s] w fun e w' => e = .returned (.bool (shiftB s)) ∧ w' = w := by
  go_enter Tryz.func34, Tryz.ntmps34
  go_wp2
  go_loop [3] (fun a => ∃ k : Int, -56 ≤ k ∧ k ≤ 57 ∧ a = .int .i64 k ∧ Hid (∀ j : Int, -56 ≤ j → j < k → s ≠ 900 * j)) (fun a => (57 - intOf a).toNat)
  case atStart => exact ⟨-56, by omega, by omega, rfl, Lib.hid (fun j h1 h2 => by omega)⟩
  case round =>
    obtain ⟨k, hk1, hk2, rfl, HN⟩ := hrel
    by_cases hlt : k ≤ 56
    · by_cases he : s = 900 * k
      · have hb : (s == 900 * k) = true := by simpa using he
        have HE := Lib.hid he
        clear he
        go_wp2
        go_ret
        exact ⟨ret_b (by have := HE.out; unfold shiftB; rw [eq_comm, decide_eq_true_eq]; omega), rfl⟩
      · have hb : (s == 900 * k) = false := by simpa using he
        have HE := Lib.hid he
        clear he
        go_wp2
        go_round
        case rel => exact ⟨k + 1, by omega, by omega, by go_num, Lib.hid (fun j h1 h2 => by
          by_cases hj : j = k
          · subst hj; exact HE.out
          · exact HN.out j h1 (by omega))⟩
        case measure => simp [intOf]; omega
    · go_wp2
      go_ret
      exact ⟨ret_b (by
        unfold shiftB; rw [eq_comm, decide_eq_false_iff_not]
        intro ⟨g1, g2, g3⟩
        exact HN.out (s / 900) (by omega) (by omega) (by omega)), rfl⟩
set_option maxHeartbeats 1000000 in
theorem rof_yes (d M : Int) (hM : Cal.In M d) (h1 : 12 ≤ M) (h2 : M < 120000) (w : World) :
    Calls Tryz.prog 38 #[.int .i64 d] w fun e w' => e = .returned (.tuple #[dateV M d, .int .i64 0]) ∧ Below w.heap.size w w' := by
  have hd0 : -719162 ≤ d := by have := Cal.first_mono h1; have := Cal.first_12; unfold Cal.In at hM; omega
  have hd1 : d ≤ 2932896 := by have := Cal.first_mono (M := M + 1) (N := 120000) (by omega); have := Cal.first_end; unfold Cal.In at hM; omega
  have HI : Hid (Cal.In M d) := Lib.hid hM
  clear hM
  go_enter Tryz.func38, Tryz.ntmps38
  go_wp2
  go_loop [0, 4] (fun a b => ∃ y : Int, 1 ≤ y ∧ y ≤ 1970 ∧ b = .int .i64 y ∧ a = .int .i64 (d - (Cal.years y - 719162))) (fun _ b => (intOf b).toNat)
  case atStart => exact ⟨1970, by omega, by omega, rfl, by simp [Cal.years]⟩
  case round =>
    obtain ⟨y, hy1, hy2, rfl, rfl⟩ := hrel
    have hyb := Cal.years_bd (y := y) (by omega) (by omega)
    by_cases hlt : d - (Cal.years y - 719162) < 0
    · have hy3 : 2 ≤ y := by
        by_cases e : y = 1
        · subst e; have : Cal.years 1 = 0 := rfl; omega
        · omega
      have hs := Cal.years_succ (y - 1)
      rw [show y - 1 + 1 = y by omega] at hs
      have hl := Cal.l01_bd (y - 1)
      have hyb2 := Cal.years_bd (y := y - 1) (by omega) (by omega)
      have HS := Lib.hid hs
      clear hs
      go_wp2_with (go_at_call 61; refine (days_any _ (by omega) (by omega) _).mono ?_; rintro e w' ⟨rfl, rfl⟩)
      go_round
      case rel => exact ⟨y - 1, by omega, by omega, by go_num, by have := HS.out; go_num⟩
      case measure => simp [intOf]; omega
    · have hge : Cal.years y - 719162 ≤ d := by omega
      have hyM : y ≤ M / 12 := by
        have := Cal.In_ge HI.out (N := 12 * y) (by rw [Cal.first_year]; omega)
        omega
      have HG := Lib.hid hge
      go_wp2
      go_loop [0, 4] (fun a b => ∃ y : Int, 1 ≤ y ∧ y ≤ M / 12 ∧ b = .int .i64 y ∧ a = .int .i64 (d - (Cal.years y - 719162))) (fun _ b => (10000 - intOf b).toNat)
      case atStart => exact ⟨y, by omega, by omega, rfl, rfl⟩
      case round =>
        clear hge hlt HG
        clear hyb
        obtain ⟨z, hz1, hz2, rfl, rfl⟩ := hrel
        have hyb := Cal.years_bd (y := z) (by omega) (by omega)
        have hyb2 := Cal.years_bd (y := z + 1) (by omega) (by omega)
        have hs := Cal.years_succ z
        have hl := Cal.l01_bd z
        have hzd : Cal.years z - 719162 ≤ d := by
          have := Cal.first_mono (M := 12 * z) (N := M) (by omega)
          rw [Cal.first_year] at this
          have := HI.out.1
          omega
        by_cases hlt : z < M / 12
        · have hs2 : 365 + Cal.l01 z ≤ d - (Cal.years z - 719162) := by
            have := Cal.first_mono (M := 12 * (z + 1)) (N := M) (by omega)
            rw [Cal.first_year] at this
            have := HI.out.1
            omega
          have HS := Lib.hid hs
          clear hs
          go_wp2_with (go_at_call 61; refine (days_any _ (by omega) (by omega) _).mono ?_; rintro e w' ⟨rfl, rfl⟩)
          go_round
          case rel => exact ⟨z + 1, by omega, by omega, by go_num, by have := HS.out; go_num⟩
          case measure => simp [intOf]; omega
        · have hye : z = M / 12 := by omega
          have hs2 : d - (Cal.years z - 719162) < 365 + Cal.l01 z := by
            have := Cal.first_mono (M := M + 1) (N := 12 * (z + 1)) (by omega)
            rw [Cal.first_year] at this
            have := HI.out.2
            omega
          have HS := Lib.hid hs
          have HY := Lib.hid hye
          clear hs hye
          go_wp2_with (go_at_call 61; refine (days_any _ (by omega) (by omega) _).mono ?_; rintro e w' ⟨rfl, rfl⟩)
          go_loop [0, 5] (fun a b => ∃ m : Int, 1 ≤ m ∧ m ≤ M % 12 + 1 ∧ b = .int .i64 m ∧ a = .int .i64 (d - Cal.first (12 * z + m - 1))) (fun _ b => (13 - intOf b).toNat)
          case atStart => exact ⟨1, by omega, by omega, rfl, by rw [show 12 * z + 1 - 1 = 12 * z by omega, Cal.first_year]⟩
          case round =>
            obtain ⟨m, hm1, hm2, rfl, rfl⟩ := hrel
            have hf := Cal.first_succ (12 * z + m - 1)
            have hlb := Cal.len_bd (12 * z + m - 1)
            have hzM : M = 12 * z + M % 12 := by have := HY.out; omega
            have hmd : Cal.first (12 * z + m - 1) ≤ d := by
              have := Cal.first_mono (M := 12 * z + m - 1) (N := M) (by omega)
              have := HI.out.1
              omega
            have hfb : -719162 ≤ Cal.first (12 * z + m - 1) := by
              have := Cal.first_mono (M := 12) (N := 12 * z + m - 1) (by omega)
              have := Cal.first_12
              omega
            by_cases hmM : m < M % 12 + 1
            · have hs3 : Cal.len (12 * z + m - 1) ≤ d - Cal.first (12 * z + m - 1) := by
                have := Cal.first_mono (M := 12 * z + m - 1 + 1) (N := M) (by omega)
                have := HI.out.1
                omega
              have HF := Lib.hid hf
              have HZ := Lib.hid hzM
              clear hf hzM
              go_wp2_with (go_at_call 62; refine (long_any _ _ (by omega) (by omega) (by omega) (by omega) _).mono ?_; rintro e w' ⟨rfl, rfl⟩)
              go_round
              case rel => exact ⟨m + 1, by omega, by omega, by go_num, by
                have := HF.out
                rw [show 12 * z + (m + 1) - 1 = 12 * z + m - 1 + 1 by omega]
                go_num⟩
              case measure => simp [intOf]; omega
            · have hme : m = M % 12 + 1 := by omega
              have e1 : 12 * z + m - 1 = M := by omega
              have hs3 : d - Cal.first (12 * z + m - 1) < Cal.len (12 * z + m - 1) := by
                rw [e1] at hf ⊢
                have := HI.out.2
                omega
              have HF := Lib.hid hf
              have HZ := Lib.hid hzM
              have HM := Lib.hid hme
              have HE := Lib.hid e1
              clear hf hzM hme e1
              go_wp2_with (go_at_call 62; refine (long_any _ _ (by omega) (by omega) (by omega) (by omega) _).mono ?_; rintro e w' ⟨rfl, rfl⟩)
              go_returns
              exact ⟨by unfold dateV; rw [HE.out, HM.out, HY.out]; try rfl, by go_grown⟩
end Go.Proofs.YtidppalhjknlfaaGreatDoor
