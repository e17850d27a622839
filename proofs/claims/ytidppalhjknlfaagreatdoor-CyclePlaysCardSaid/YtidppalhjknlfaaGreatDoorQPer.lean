/- The walks of packages civil, period, quitrentref08, quitrentref09: what each call answers. -/
import Derived.Test.YtidppalhjknlfaaGreatDoorQMOrd3
import Derived.Test.YtidppalhjknlfaaGreatDoorProg
import Derived.Handy
import Derived.LoopTactic
import Derived.Lib.Hide
namespace Go.Proofs.YtidppalhjknlfaaGreatDoor
set_option linter.unusedVariables false
set_option linter.unusedSimpArgs false
open Go.RowKit
theorem ret_i {k : IntKind} {a b : Int} (h : a = b) : Ending.returned (.int k a) = .returned (.int k b) := by rw [h]
theorem ret_b {a b : Bool} (h : a = b) : Ending.returned (.bool a) = .returned (.bool b) := by rw [h]
/-- the table civil.lengths lies in memory -/
def Tab (w : World) : Prop := 0 < w.heap.size ∧ ∀ i : Nat, i < 12 → w.cell? ⟨0, i, none⟩ = some (.int .i64 (Cal.base i))
theorem Tab.below {B : Nat} {w w' : World} (h : Tab w) (hb : Below B w w') (hB : w.heap.size ≤ B) : Tab w' :=
  ⟨Nat.lt_of_lt_of_le h.1 hb.size, fun i hi => by rw [hb.cell (p := ⟨0, i, none⟩) (Nat.lt_of_lt_of_le h.1 hB)]; exact h.2 i hi⟩
theorem Tab.alloc {w : World} (h : Tab w) (o : Obj) : Tab (w.alloc o) := h.below ((Below.refl w.heap.size w).alloc (Nat.le_refl _) o) (Nat.le_refl _)
theorem Tab.setCell {w : World} (h : Tab w) {p : Addr} (hp : 0 < p.block) (u : Value) : Tab (w.setCell p u) :=
  ⟨by simpa [World.setCell] using h.1, fun i hi => by
    rw [World.cell?_of_block (w := w) (Below.heap_setCell w p u _ (by show 0 ≠ p.block; omega))]; exact h.2 i hi⟩
theorem Tab.drew {w : World} (h : Tab w) : Tab w.drew := h
/-- is it a shift? -/
def shiftB (s : Int) : Bool := decide (-50400 ≤ s ∧ s ≤ 50400 ∧ s % 900 = 0)
theorem tmod_900 (s : Int) : (s.tmod 900 == 0) = decide (s % 900 = 0) := by
  have h : s.tmod 900 = 0 ↔ s % 900 = 0 := by
    rw [← Int.dvd_iff_tmod_eq_zero, Int.dvd_iff_emod_eq_zero]
  rw [Bool.eq_iff_iff]; simp only [beq_iff_eq, decide_eq_true_eq]; exact h
theorem check_any (s : Int) (w : World) : Calls Tryz.prog 30 #[.int .i64 s] w fun e w' => e = .returned (.bool (shiftB s)) ∧ w' = w := by
  have ht := tmod_900 s
  have HT : Hid ((s.tmod 900 == 0) = decide (s % 900 = 0)) := Lib.hid ht
  clear ht
  go_enter Tryz.func30, Tryz.ntmps30
  go_wp2_with fail
  all_goals
    go_ret
    refine ⟨ret_b ?_, rfl⟩
    have := HT.out
    unfold shiftB
    first
      | (rw [this]; simp_all; done)
      | (rw [eq_comm, decide_eq_false_iff_not]; omega)
theorem leap_any (y : Int) (h0 : 0 ≤ y) (h1 : y ≤ 10000) (w : World) :
    Calls Tryz.prog 66 #[.int .i64 y] w fun e w' => e = .returned (.bool (Cal.leap y)) ∧ w' = w := by
  go_enter Tryz.func66, Tryz.ntmps66
  go_wp2
  all_goals
    go_ret
    refine ⟨ret_b ?_, rfl⟩
    unfold Cal.leap
    first
      | (simp_all; done)
      | (rw [Bool.eq_iff_iff]; simp_all <;> omega)
theorem years_any (y : Int) (h0 : 1 ≤ y) (h1 : y ≤ 10000) (w : World) :
    Calls Tryz.prog 75 #[.int .i64 y] w fun e w' => e = .returned (.int .i64 (Cal.years y)) ∧ w' = w := by
  go_enter Tryz.func75, Tryz.ntmps75
  go_wp2
  go_ret
  exact ⟨rfl, rfl⟩
theorem length_no (s : Int) (h : s < 12 ∨ 120000 ≤ s) (w : World) :
    Calls Tryz.prog 41 #[.int .i64 s] w fun e w' => e = .returned (.int .i64 0) ∧ w' = w := by
  rcases h with h | h
  · go_enter Tryz.func41, Tryz.ntmps41
    go_wp2
    go_ret
    exact ⟨rfl, rfl⟩
  · go_enter Tryz.func41, Tryz.ntmps41
    go_wp2
    go_ret
    exact ⟨rfl, rfl⟩
theorem length_yes (M : Int) (h1 : 12 ≤ M) (h2 : M < 120000) (w : World) (hT : Tab w) :
    Calls Tryz.prog 41 #[.int .i64 M] w fun e w' => e = .returned (.int .i64 (Cal.len M)) ∧ w' = w := by
  have hc : w.cell? ⟨0, (M % 12).toNat, none⟩ = some (.int .i64 (Cal.base (M % 12))) := by
    have := hT.2 (M % 12).toNat (by omega)
    rw [this, show (((M % 12).toNat : Nat) : Int) = M % 12 by omega]
  have hb := Cal.base_bd (M % 12)
  clear hT
  by_cases hm : M % 12 = 1
  · have hm1 : (M % 12 == 1) = true := by simpa using hm
    by_cases hl : Cal.leap (M / 12) = true
    · have HL : Hid (Cal.leap (M / 12) = true) := Lib.hid hl
      have HM : Hid (M % 12 = 1) := Lib.hid hm
      clear hl hm
      go_enter Tryz.func41, Tryz.ntmps41
      go_wp2_with (go_at_call 66; refine (leap_any _ (by omega) (by omega) _).mono ?_; rintro e w' ⟨rfl, rfl⟩; rw [HL.out])
      go_ret
      exact ⟨ret_i (by unfold Cal.len Cal.l01; rw [if_pos HM.out, if_pos HL.out]), rfl⟩
    · have hl' : Cal.leap (M / 12) = false := by simpa using hl
      have HL : Hid (Cal.leap (M / 12) = false) := Lib.hid hl'
      have HM : Hid (M % 12 = 1) := Lib.hid hm
      clear hl hm hl'
      go_enter Tryz.func41, Tryz.ntmps41
      go_wp2_with (go_at_call 66; refine (leap_any _ (by omega) (by omega) _).mono ?_; rintro e w' ⟨rfl, rfl⟩; rw [HL.out])
      go_ret
      exact ⟨ret_i (by unfold Cal.len Cal.l01; rw [if_pos HM.out, HL.out]; simp), rfl⟩
  · have hm1 : (M % 12 == 1) = false := by simpa using hm
    have HM : Hid (¬ M % 12 = 1) := Lib.hid hm
    clear hm
    go_enter Tryz.func41, Tryz.ntmps41
    go_wp2
    go_ret
    exact ⟨ret_i (by unfold Cal.len; rw [if_neg HM.out]; omega), rfl⟩
theorem len_in (M k : Int) (h0 : 0 ≤ k) (h1 : k ≤ 11) : Cal.len (M - M % 12 + k) = Cal.base k + (if k = 1 then Cal.l01 (M / 12) else 0) := by
  unfold Cal.len
  rw [show (M - M % 12 + k) % 12 = k by omega, show (M - M % 12 + k) / 12 = M / 12 by omega]
theorem first_any (M : Int) (h1 : 12 ≤ M) (h2 : M < 120000) (w : World) (hT : Tab w) :
    Calls Tryz.prog 65 #[.int .i64 M] w fun e w' => e = .returned (.int .i64 (Cal.first M)) ∧ w' = w := by
  have HT : Hid (Tab w) := Lib.hid hT
  clear hT
  have hb := Cal.years_bd (y := M / 12) (by omega) (by omega)
  have hl := Cal.l01_bd (M / 12)
  go_enter Tryz.func65, Tryz.ntmps65
  go_wp2_with (go_at_call 75; refine (years_any _ (by omega) (by omega) _).mono ?_; rintro e w' ⟨rfl, rfl⟩)
  go_loop [3, 11] (fun n i => ∃ k : Nat, (k : Int) ≤ M % 12 ∧ i = .int .i64 k ∧ n = .int .i64 (Cal.years (M / 12) - 719162 + Cal.cum k (Cal.l01 (M / 12)))) (fun _ i => (M % 12).toNat - (intOf i).toNat)
  case atStart => exact ⟨0, by omega, rfl, by simp [Cal.cum]⟩
  case round =>
    obtain ⟨k, hk, rfl, rfl⟩ := hrel
    have hcb := Cal.cum_bd k (Cal.l01 (M / 12)) (by omega) (by omega) hl.1 hl.2
    by_cases hlt : (k : Int) < M % 12
    · have hs := Cal.cum_succ k (Cal.l01 (M / 12)) (by omega) (by omega)
      have hi := len_in M k (by omega) (by omega)
      have hlb := Cal.len_bd (M - M % 12 + k)
      have HS : Hid (Cal.cum ((k : Int) + 1) (Cal.l01 (M / 12)) = Cal.cum k (Cal.l01 (M / 12)) + Cal.len (M - M % 12 + k)) := Lib.hid (by rw [hs, hi])
      clear hs hi
      go_wp2_with (go_at_call 41; refine (length_yes _ (by omega) (by omega) _ HT.out).mono ?_; rintro e w' ⟨rfl, rfl⟩)
      go_round
      case rel => exact ⟨k + 1, by omega, by go_num, by rw [show ((k + 1 : Nat) : Int) = (k : Int) + 1 by omega, HS.out]; go_num⟩
      case measure => simp [intOf]; omega
    · have hke : (k : Int) = M % 12 := by omega
      have HK := Lib.hid hke
      clear hke
      go_wp2
      go_ret
      exact ⟨ret_i (by unfold Cal.first; rw [HK.out]), rfl⟩
theorem of_no (d : Int) (h : d < -719162 ∨ 2932896 < d) (w : World) :
    Calls Tryz.prog 55 #[.int .i64 d] w fun e w' => e = .returned (.tuple #[.agg #[.int .i64 0, .int .i64 0, .int .i64 0], .int .i64 1]) ∧ Below w.heap.size w w' := by
  rcases h with h | h
  · go_enter Tryz.func55, Tryz.ntmps55
    go_wp2
    go_returns
    exact ⟨rfl, by go_grown⟩
  · go_enter Tryz.func55, Tryz.ntmps55
    go_wp2
    go_returns
    exact ⟨rfl, by go_grown⟩
def dateV (M d : Int) : Value := .agg #[.int .i64 (M / 12), .int .i64 (M % 12 + 1), .int .i64 (d - Cal.first M + 1)]
set_option maxHeartbeats 1000000 in
theorem of_yes (d M : Int) (hM : Cal.In M d) (h1 : 12 ≤ M) (h2 : M < 120000) (w : World) (hT : Tab w) :
    Calls Tryz.prog 55 #[.int .i64 d] w fun e w' => e = .returned (.tuple #[dateV M d, .int .i64 0]) ∧ Below w.heap.size w w' := by
  have hd0 : -719162 ≤ d := by have := Cal.first_mono h1; have := Cal.first_12; unfold Cal.In at hM; omega
  have hd1 : d ≤ 2932896 := by have := Cal.first_mono (M := M + 1) (N := 120000) (by omega); have := Cal.first_end; unfold Cal.In at hM; omega
  have HI : Hid (Cal.In M d) := Lib.hid hM
  have HT : Hid (Tab w) := Lib.hid hT
  clear hT hM
  go_enter Tryz.func55, Tryz.ntmps55
  go_wp2
  go_loop [4] (fun a => ∃ y : Int, 1 ≤ y ∧ y ≤ M / 12 ∧ a = .int .i64 y) (fun a => (9999 - intOf a).toNat)
  case atStart =>
    refine ⟨(d + 719162) / 366 + 1, by omega, ?_, rfl⟩
    have : Cal.first (12 * ((d + 719162) / 366 + 1)) ≤ d := by rw [Cal.first_year]; unfold Cal.years; omega
    have := Cal.In_ge HI.out this
    omega
  case round =>
    obtain ⟨y, hy1, hy2, rfl⟩ := hrel
    have hyb := Cal.years_bd (y := y + 1) (by omega) (by omega)
    by_cases hlt : y < M / 12
    · have hs : Cal.years (y + 1) - 719162 ≤ d := by
        have := Cal.first_mono (M := 12 * (y + 1)) (N := M) (by omega)
        rw [Cal.first_year] at this
        have hI := HI.out
        unfold Cal.In at hI
        omega
      go_wp2_with (go_at_call 75; refine (years_any _ (by omega) (by omega) _).mono ?_; rintro e w' ⟨rfl, rfl⟩)
      go_round
      case rel => exact ⟨y + 1, by omega, by omega, by go_num⟩
      case measure => simp [intOf]; omega
    · have hz : y < 9999 → d < Cal.years (y + 1) - 719162 := by
        intro h
        have hI := HI.out
        unfold Cal.In at hI
        have := Cal.first_mono (M := M + 1) (N := 12 * (y + 1)) (by omega)
        rw [Cal.first_year] at this
        omega
      have hye : y = M / 12 := by omega
      have HY := Lib.hid hye
      have HZ := Lib.hid hz
      clear hye hz
      by_cases hy9 : y < 9999
      · have hz := HZ.out hy9
        go_wp2_with (go_at_call 75; refine (years_any _ (by omega) (by omega) _).mono ?_; rintro e w' ⟨rfl, rfl⟩)
        go_loop [5] (fun a => ∃ m : Int, 12 * y ≤ m ∧ m ≤ M ∧ a = .int .i64 m) (fun a => (M - intOf a).toNat)
        case atStart => exact ⟨12 * y, by omega, by omega, rfl⟩
        case round =>
          obtain ⟨m, hm1, hm2, rfl⟩ := hrel
          have hM12 : M < 12 * y + 12 := by have := HY.out; omega
          by_cases hmM : m < M
          · have hs : Cal.first (m + 1) ≤ d := by
              have := Cal.first_mono (M := m + 1) (N := M) (by omega)
              have hI := HI.out
              unfold Cal.In at hI
              omega
            go_wp2_with (go_at_call 65; refine (first_any _ (by omega) (by omega) _ ((HT.out).alloc _)).mono ?_; rintro e w' ⟨rfl, rfl⟩)
            go_round
            case rel => exact ⟨m + 1, by omega, by omega, by go_num⟩
            case measure => simp [intOf]; omega
          · have hme : m = M := by omega
            subst hme
            have hI := HI.out
            have hs : d < Cal.first (m + 1) := hI.2
            have hs0 : Cal.first m ≤ d := hI.1
            have hfb : -719162 ≤ Cal.first m := by have := Cal.first_mono (M := 12) (N := m) (by omega); have := Cal.first_12; omega
            clear hI
            by_cases hm12 : m % 12 < 11
            all_goals
              go_wp2_with (go_at_call 65; refine (first_any _ (by omega) (by omega) _ ((HT.out).alloc _)).mono ?_; rintro e w' ⟨rfl, rfl⟩)
              go_returns
              exact ⟨by unfold dateV; rw [HY.out], by go_grown⟩
      · go_wp2
        go_loop [5] (fun a => ∃ m : Int, 12 * y ≤ m ∧ m ≤ M ∧ a = .int .i64 m) (fun a => (M - intOf a).toNat)
        case atStart => exact ⟨12 * y, by omega, by omega, rfl⟩
        case round =>
          obtain ⟨m, hm1, hm2, rfl⟩ := hrel
          have hM12 : M < 12 * y + 12 := by have := HY.out; omega
          by_cases hmM : m < M
          · have hs : Cal.first (m + 1) ≤ d := by
              have := Cal.first_mono (M := m + 1) (N := M) (by omega)
              have hI := HI.out
              unfold Cal.In at hI
              omega
            go_wp2_with (go_at_call 65; refine (first_any _ (by omega) (by omega) _ ((HT.out).alloc _)).mono ?_; rintro e w' ⟨rfl, rfl⟩)
            go_round
            case rel => exact ⟨m + 1, by omega, by omega, by go_num⟩
            case measure => simp [intOf]; omega
          · have hme : m = M := by omega
            subst hme
            have hI := HI.out
            have hs : d < Cal.first (m + 1) := hI.2
            have hs0 : Cal.first m ≤ d := hI.1
            have hfb : -719162 ≤ Cal.first m := by have := Cal.first_mono (M := 12) (N := m) (by omega); have := Cal.first_12; omega
            clear hI
            by_cases hm12 : m % 12 < 11
            all_goals
              go_wp2_with (go_at_call 65; refine (first_any _ (by omega) (by omega) _ ((HT.out).alloc _)).mono ?_; rintro e w' ⟨rfl, rfl⟩)
              go_returns
              exact ⟨by unfold dateV; rw [HY.out], by go_grown⟩
end Go.Proofs.YtidppalhjknlfaaGreatDoor
