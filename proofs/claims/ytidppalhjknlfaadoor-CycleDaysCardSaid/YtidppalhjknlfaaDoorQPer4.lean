/- The walks of the references quitrentref08.Day, First, quitrentref09.Month, Start. -/
import Derived.Test.YtidppalhjknlfaaDoorQPer3
namespace Go.Proofs.YtidppalhjknlfaaDoor
set_option linter.unusedVariables false
set_option linter.unusedSimpArgs false
open Go.RowKit
theorem rvalid_any (y m : Int) (h1 : 1 ≤ y) (h2 : y ≤ 9999) (h3 : 1 ≤ m) (h4 : m ≤ 12) (w : World) :
    Calls Tryd.prog 62 #[.agg #[.int .i64 y, .int .i64 m, .int .i64 1]] w fun e w' => e = .returned (.bool true) ∧ Below w.heap.size w w' := by
  have hl := Cal.len_bd (12 * y + m - 1)
  have d1 : decide (0 < y) = true := decide_eq_true (by omega)
  have d2 : decide (y < 10000) = true := decide_eq_true (by omega)
  have d3 : decide (0 < m) = true := decide_eq_true (by omega)
  have d4 : decide (m < 13) = true := decide_eq_true (by omega)
  have d6 : decide (1 ≤ Cal.len (12 * y + m - 1)) = true := decide_eq_true (by omega)
  go_enter Tryd.func62, Tryd.ntmps62
  go_wp2_with fail
  go_quiet ((first
    | (go_at_call 44; exact Calls.quiet_of_same (long_any _ _ (by omega) (by omega) (by omega) (by omega) _))))
  go_wp2
  go_ret
  exact ⟨rfl, below_drewN ((Below.refl _ _).alloc (Nat.le_refl _) _) _⟩
set_option maxHeartbeats 1000000 in
theorem rdate_yes (y m : Int) (h1 : 1 ≤ y) (h2 : y ≤ 9999) (h3 : 1 ≤ m) (h4 : m ≤ 12) (w : World) :
    Calls Tryd.prog 43 #[.agg #[.int .i64 y, .int .i64 m, .int .i64 1]] w fun e w' => e = .returned (.tuple #[.int .i64 (Cal.first (12 * y + m - 1)), .int .i64 0]) ∧ Below w.heap.size w w' := by
  go_enter Tryd.func43, Tryd.ntmps43
  go_wp2_with fail
  refine (rvalid_any y m h1 h2 h3 h4 _).mono ?_
  rintro e w1 ⟨rfl, hb⟩
  have HB := Lib.hid hb
  obtain ⟨hc, hf⟩ := bcell hb
  have hz : w.heap.size < w1.heap.size := by have := hb.size; simp at this; omega
  clear hb
  go_wp2_with fail
  have hF := first_bd (12 * y + m - 1) (by omega) (by omega)
  have hG := Cal.first_year y
  have hGb := Cal.years_bd (y := y) (by omega) (by omega)
  have HG := Lib.hid hG
  clear hG
  obtain ⟨F, hFe⟩ : ∃ F, F = Cal.first (12 * y + m - 1) := ⟨_, rfl⟩
  have HF := Lib.hid hFe
  rw [← hFe] at hF
  have e0 : Hid (Ending.returned (.tuple #[.int .i64 (Cal.first (12 * y + m - 1)), .int .i64 0]) = Ending.returned (.tuple #[.int .i64 F, .int .i64 0])) := Lib.hid (by rw [hFe])
  clear hFe
  go_loop [4, 5] (fun a b => ∃ k : Int, 1 ≤ k ∧ k ≤ m ∧ b = .int .i64 k ∧ a = .int .i64 (Cal.first (12 * y + k - 1) - Cal.first (12 * y))) (fun _ b => (13 - intOf b).toNat)
  case atStart => exact ⟨1, by omega, by omega, rfl, by rw [show 12 * y + 1 - 1 = 12 * y by omega]; simp⟩
  case round =>
    obtain ⟨k, hk1, hk2, rfl, rfl⟩ := hrel
    have hf1 := Cal.first_succ (12 * y + k - 1)
    have hlb := Cal.len_bd (12 * y + k - 1)
    have hfb := first_bd (12 * y + k - 1) (by omega) (by omega)
    have hfc := first_bd (12 * y) (by omega) (by omega)
    have HF1 := Lib.hid hf1
    clear hf1
    by_cases hkm : k < m
    · go_wp2_with (go_at_call 44; refine (long_any _ _ (by omega) (by omega) (by omega) (by omega) _).mono ?_; rintro e w' ⟨rfl, rfl⟩)
      go_round
      case rel => exact ⟨k + 1, by omega, by omega, by go_num, by
                have := HF1.out
                rw [show 12 * y + (k + 1) - 1 = 12 * y + k - 1 + 1 by omega]
                go_num⟩
      case measure => simp [intOf]; omega
    · have hke : k = m := by omega
      subst hke
      go_wp2
      have hfk : Hid (Cal.first (12 * y + k - 1) = F) := Lib.hid HF.out.symm
      rw [hfk.out]
      go_loop [4, 6] (fun a b => ∃ z : Int, 1970 ≤ z ∧ (z ≤ y ∨ z = 1970) ∧ b = .int .i64 z ∧ a = .int .i64 (F - Cal.first (12 * y) + (Cal.years z - 719162))) (fun _ b => (10000 - intOf b).toNat)
      case atStart => exact ⟨1970, by omega, by omega, rfl, by simp [Cal.years]⟩
      case round =>
        obtain ⟨z, hz1, hz2, rfl, rfl⟩ := hrel
        have hyb := Cal.years_bd (y := z) (by omega) (by omega)
        have hyb2 := Cal.years_bd (y := z + 1) (by omega) (by omega)
        have hs := Cal.years_succ z
        have hl := Cal.l01_bd z
        have HS := Lib.hid hs
        clear hs
        by_cases hlt : z < y
        · go_wp2_with (go_at_call 63; refine (days_any _ (by omega) (by omega) _).mono ?_; rintro e w' ⟨rfl, rfl⟩)
          go_round
          case rel => exact ⟨z + 1, by omega, by omega, by go_num, by have := HS.out; go_num⟩
          case measure => simp [intOf]; omega
        · go_wp2
          clear HS hyb2 hl
          go_loop [4, 6] (fun a b => ∃ u : Int, y ≤ u ∧ (u ≤ 1970 ∨ u = y) ∧ b = .int .i64 u ∧ a = .int .i64 (F - Cal.first (12 * y) + (Cal.years u - 719162))) (fun _ b => (intOf b).toNat)
          case atStart => exact ⟨z, by omega, by omega, rfl, rfl⟩
          case round =>
            clear hz1 hz2 hyb hlt
            obtain ⟨u, hu1, hu2, rfl, rfl⟩ := hrel
            have hyb := Cal.years_bd (y := u) (by omega) (by omega)
            have hyb2 := Cal.years_bd (y := u - 1) (by omega) (by omega)
            have hs := Cal.years_succ (u - 1)
            rw [show u - 1 + 1 = u by omega] at hs
            have hl := Cal.l01_bd (u - 1)
            have HS := Lib.hid hs
            clear hs
            by_cases hlt : y < u
            · go_wp2_with (go_at_call 63; refine (days_any _ (by omega) (by omega) _).mono ?_; rintro e w' ⟨rfl, rfl⟩)
              go_round
              case rel => exact ⟨u - 1, by omega, by omega, by go_num, by have := HS.out; go_num⟩
              case measure => simp [intOf]; omega
            · have hue : u = y := by omega
              subst hue
              go_wp2
              go_ret2
              exact ⟨by rw [e0.out]; have := HG.out; rw [this, show F - (Cal.years u - 719162) + (Cal.years u - 719162) = F by omega]; rfl, ((Below.refl _ _).alloc (Nat.le_refl _) _).trans (HB.out.mono (by simp))⟩
end Go.Proofs.YtidppalhjknlfaaDoor
