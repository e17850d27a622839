/- The walks of the laws of quitrentlaw09. -/
import Derived.Test.YtjcjjobnkcgmcaaDoorPer5
namespace Go.Proofs.YtjcjjobnkcgmcaaDoor
open Go.RowKit
/-- what both starts answer -/
theorem start_pair (M s : Int) (g1 : -9223372036854775808 ≤ s) (g2 : s ≤ 9223372036854775807) : ∃ a e : Int,
    (∀ w, Tab w → Calls Tryd.prog 16 #[.int .i64 M, .int .i64 s] w fun x w' => x = .returned (.tuple #[.int .i64 a, .int .i64 e]) ∧ Below w.heap.size w w') ∧
    (∀ w, Calls Tryd.prog 17 #[.int .i64 M, .int .i64 s] w fun x w' => x = .returned (.tuple #[.int .i64 a, .int .i64 e]) ∧ Below w.heap.size w w') := by
  by_cases h : 12 ≤ M ∧ M < 120000
  · obtain ⟨h1, h2⟩ := h
    cases hs : shiftB s
    · exact ⟨0, 1, fun w hT => start_shift M s h1 h2 hs w hT, fun w => rstart_shift M s h1 h2 g1 g2 hs w⟩
    · exact ⟨_, 0, fun w hT => start_yes M s h1 h2 hs w hT, fun w => rstart_yes M s h1 h2 hs w⟩
  · have h' : M < 12 ∨ 120000 ≤ M := by omega
    exact ⟨0, 1, fun w _ => (start_no M s h' w).mono fun _ _ ⟨a, b⟩ => ⟨a, b ▸ Below.refl _ _⟩, fun w => (rstart_no M s g1 g2 h' w).mono fun _ _ ⟨a, b⟩ => ⟨a, b ▸ Below.refl _ _⟩⟩
def okDawn (d s : Int) : Bool := decide (-719162 ≤ d ∧ d ≤ 2932896) && shiftB s
theorem dawn_all (d s : Int) (w : World) (hT : Tab w) :
    Calls Tryd.prog 18 #[.int .i64 d, .int .i64 s] w fun x w' => x = .returned (.tuple #[.int .i64 (if okDawn d s = true then 86400 * d - s else 0), .int .i64 (if okDawn d s = true then 0 else 1)]) ∧ Below w.heap.size w w' := by
  by_cases h : -719162 ≤ d ∧ d ≤ 2932896
  · obtain ⟨M, h2, h3, hM⟩ := In_exists d h.1 h.2
    cases hs : shiftB s
    · have e : okDawn d s = false := by unfold okDawn; rw [hs]; simp
      rw [e]
      exact dawn_shift d s h.1 h.2 hs M hM h2 h3 w hT
    · have e : okDawn d s = true := by unfold okDawn; rw [hs]; simp [h]
      rw [e]
      exact dawn_yes d s h.1 h.2 hs M hM h2 h3 w hT
  · have e : okDawn d s = false := by unfold okDawn; simp [h]
    rw [e]
    exact dawn_no d s (by omega) w
theorem starts_any (M d s : Int) (g1 : -9223372036854775808 ≤ s) (g2 : s ≤ 9223372036854775807) (w : World) (hT : Tab w) :
    Calls Tryd.prog 4 #[.int .i64 M, .int .i64 d, .int .i64 s] w fun e w' => e = .returned (.bool true) ∧ Below w.heap.size w w' := by
  have HT := Lib.hid hT
  obtain ⟨a, e, c1, c2⟩ := start_pair M s g1 g2
  have C1 := Lib.hid c1
  have C2 := Lib.hid c2
  have c3 := fun w hT => dawn_all d s w hT
  clear hT c1 c2
  by_cases h : okDawn d s = true
  · simp only [if_pos h] at c3
    have C3 := Lib.hid c3
    have hs : shiftB s = true := by unfold okDawn at h; simp at h; exact h.2
    have hd0 : -719162 ≤ d := by unfold okDawn at h; simp at h; exact h.1.1
    have hd1 : d ≤ 2932896 := by unfold okDawn at h; simp at h; exact h.1.2
    have hsb := shift_bd hs
    have HS := Lib.hid hs
    clear c3 h hs
    go_enter Tryd.func4, Tryd.ntmps4
    go_wp2_with fail
    refine (C1.out _ HT.out).mono ?_
    rintro e w1 ⟨rfl, hb1⟩
    have HB1 := Lib.hid hb1
    have HT1 := Lib.hid (HT.out.below hb1 (Nat.le_refl _))
    clear hb1
    go_wp2_with fail
    refine (C2.out _).mono ?_
    rintro e w2 ⟨rfl, hb2⟩
    have HB2 := Lib.hid (HB1.out.trans (hb2.mono HB1.out.size))
    have HT2 := Lib.hid (HT1.out.below hb2 (Nat.le_refl _))
    clear hb2
    go_wp2_with fail
    refine (C3.out _ HT2.out).mono ?_
    rintro e w3 ⟨rfl, hb3⟩
    have HB3 := Lib.hid (HB2.out.trans (hb3.mono HB2.out.size))
    have HT3 := Lib.hid (HT2.out.below hb3 (Nat.le_refl _))
    clear hb3
    go_wp2_with (first
      | (go_at_call 14; refine (rcheck_any _ g1 g2 _).mono ?_; rintro e w' ⟨rfl, rfl⟩; rw [HS.out])
      | (go_at_call 15; refine (goes_any _ HT3.out).mono ?_; rintro e w4 ⟨rfl, hb4⟩; have HB4 := Lib.hid (HB3.out.trans (hb4.mono HB3.out.size)); clear hb4))
    go_ret
    exact ⟨rfl, HB4.out⟩
  · simp only [if_neg h] at c3
    have C3 := Lib.hid c3
    have hno : (d < -719162 ∨ 2932896 < d) ∨ shiftB s = false := by
      unfold okDawn at h; simp at h
      by_cases h1 : d < -719162 ∨ 2932896 < d
      · exact .inl h1
      · exact .inr (by simpa using h (by omega) (by omega))
    clear c3 h
    go_enter Tryd.func4, Tryd.ntmps4
    go_wp2_with fail
    refine (C1.out _ HT.out).mono ?_
    rintro e w1 ⟨rfl, hb1⟩
    have HB1 := Lib.hid hb1
    have HT1 := Lib.hid (HT.out.below hb1 (Nat.le_refl _))
    clear hb1
    go_wp2_with fail
    refine (C2.out _).mono ?_
    rintro e w2 ⟨rfl, hb2⟩
    have HB2 := Lib.hid (HB1.out.trans (hb2.mono HB1.out.size))
    have HT2 := Lib.hid (HT1.out.below hb2 (Nat.le_refl _))
    clear hb2
    go_wp2_with fail
    refine (C3.out _ HT2.out).mono ?_
    rintro e w3 ⟨rfl, hb3⟩
    have HB3 := Lib.hid (HB2.out.trans (hb3.mono HB2.out.size))
    have HT3 := Lib.hid (HT2.out.below hb3 (Nat.le_refl _))
    clear hb3
    rcases hno with (hd | hd) | hs
    · go_wp2_with (first
        | (go_at_call 15; refine (goes_any _ HT3.out).mono ?_; rintro e w4 ⟨rfl, hb4⟩; have HB4 := Lib.hid (HB3.out.trans (hb4.mono HB3.out.size)); clear hb4))
      go_ret
      exact ⟨rfl, HB4.out⟩
    · go_wp2_with (first
        | (go_at_call 15; refine (goes_any _ HT3.out).mono ?_; rintro e w4 ⟨rfl, hb4⟩; have HB4 := Lib.hid (HB3.out.trans (hb4.mono HB3.out.size)); clear hb4))
      go_ret
      exact ⟨rfl, HB4.out⟩
    · have HS := Lib.hid hs
      clear hs
      go_wp2_with (first
        | (go_at_call 14; refine (rcheck_any _ g1 g2 _).mono ?_; rintro e w' ⟨rfl, rfl⟩; rw [HS.out])
        | (go_at_call 15; refine (goes_any _ HT3.out).mono ?_; rintro e w4 ⟨rfl, hb4⟩; have HB4 := Lib.hid (HB3.out.trans (hb4.mono HB3.out.size)); clear hb4))
      all_goals
        go_ret
        exact ⟨rfl, HB4.out⟩
theorem next_any (t m s : Int) (w : World) (hT : Tab w) :
    Calls Tryd.prog 6 #[.int .i64 t, .int .i64 m, .int .i64 s] w fun e w' => e = .returned (.bool true) ∧ Below w.heap.size w w' := by
  have HT := Lib.hid hT
  clear hT
  by_cases h : 0 ≤ t ∧ 0 ≤ m ∧ t + m ≤ 137438953472 ∧ shiftB s = true
  · obtain ⟨h0, h1, h2, hs⟩ := h
    have hsb := shift_bd hs
    obtain ⟨M, h4, h5, hM⟩ := In_exists ((t + s) / 86400) (by omega) (by omega)
    obtain ⟨N, h6, h7, hN⟩ := In_exists ((t + m + s) / 86400) (by omega) (by omega)
    have hMN : M ≤ N := Cal.In_ge hN (by have := hM.1; omega)
    have C1 := Lib.hid (fun w => day_yes t s h0 (by omega) hs w)
    have C2 := Lib.hid (fun w => day_yes (t + m) s (by omega) (by omega) hs w)
    have C3 := Lib.hid (fun w hT => month_yes t s M h0 (by omega) hs hM h4 h5 w hT)
    have C4 := Lib.hid (fun w hT => month_yes (t + m) s N (by omega) (by omega) hs hN h6 h7 w hT)
    have hq : (t + s) / 86400 ≤ (t + m + s) / 86400 := by omega
    have hq2 : (t + m + s) / 86400 - (t + s) / 86400 ≤ m / 86400 + 1 := by omega
    have HS := Lib.hid hs
    obtain ⟨a, ha⟩ : ∃ a, a = (t + s) / 86400 := ⟨_, rfl⟩
    obtain ⟨b, hb⟩ : ∃ b, b = (t + m + s) / 86400 := ⟨_, rfl⟩
    rw [← ha] at C1 hq hq2
    rw [← hb] at C2 hq hq2
    have ha1 : -1 ≤ a := by omega
    have hb1 : b ≤ 1600000 := by omega
    clear hM hs hN ha hb
    go_enter Tryd.func6, Tryd.ntmps6
    go_wp2_with (first
      | (go_at_call 13; refine (check_any _ _).mono ?_; rintro e w' ⟨rfl, rfl⟩; rw [HS.out]))
    refine (C1.out _).mono ?_
    rintro e w' ⟨rfl, rfl⟩
    go_wp2_with fail
    refine (C2.out _).mono ?_
    rintro e w' ⟨rfl, rfl⟩
    go_wp2_with fail
    refine (C3.out _ HT.out).mono ?_
    rintro e w1 ⟨rfl, hb1⟩
    have HB1 := Lib.hid hb1
    have HT1 := Lib.hid (HT.out.below hb1 (Nat.le_refl _))
    clear hb1
    go_wp2_with fail
    refine (C4.out _ HT1.out).mono ?_
    rintro e w2 ⟨rfl, hb2⟩
    have HB2 := Lib.hid (HB1.out.trans (hb2.mono HB1.out.size))
    have HT2 := Lib.hid (HT1.out.below hb2 (Nat.le_refl _))
    clear hb2
    go_wp2_with (go_at_call 15; refine (goes_any _ HT2.out).mono ?_; rintro e w4 ⟨rfl, hb4⟩; have HB4 := Lib.hid (HB2.out.trans (hb4.mono HB2.out.size)); clear hb4)
    go_ret
    exact ⟨rfl, HB4.out⟩
  · have hno : t < 0 ∨ (0 ≤ t ∧ m < 0) ∨ (0 ≤ t ∧ 0 ≤ m ∧ 137438953472 < t) ∨ (0 ≤ t ∧ 0 ≤ m ∧ t ≤ 137438953472 ∧ 137438953472 - t < m) ∨ (0 ≤ t ∧ 0 ≤ m ∧ t ≤ 137438953472 ∧ m ≤ 137438953472 - t ∧ shiftB s = false) := by
      cases hs : shiftB s
      · rw [hs] at h; simp; omega
      · rw [hs] at h; simp at h ⊢; omega
    clear h
    rcases hno with h | h | h | h | ⟨h0, h1, h2, h3, hs⟩
    · go_enter Tryd.func6, Tryd.ntmps6
      go_wp2_with (go_at_call 15; refine (goes_any _ HT.out).mono ?_; rintro e w4 ⟨rfl, hb4⟩; have HB4 := Lib.hid hb4; clear hb4)
      go_ret
      exact ⟨rfl, HB4.out⟩
    · obtain ⟨_, _⟩ := h
      go_enter Tryd.func6, Tryd.ntmps6
      go_wp2_with (go_at_call 15; refine (goes_any _ HT.out).mono ?_; rintro e w4 ⟨rfl, hb4⟩; have HB4 := Lib.hid hb4; clear hb4)
      go_ret
      exact ⟨rfl, HB4.out⟩
    · obtain ⟨_, _, _⟩ := h
      go_enter Tryd.func6, Tryd.ntmps6
      go_wp2_with (go_at_call 15; refine (goes_any _ HT.out).mono ?_; rintro e w4 ⟨rfl, hb4⟩; have HB4 := Lib.hid hb4; clear hb4)
      go_ret
      exact ⟨rfl, HB4.out⟩
    · obtain ⟨_, _, _, _⟩ := h
      go_enter Tryd.func6, Tryd.ntmps6
      go_wp2_with (go_at_call 15; refine (goes_any _ HT.out).mono ?_; rintro e w4 ⟨rfl, hb4⟩; have HB4 := Lib.hid hb4; clear hb4)
      go_ret
      exact ⟨rfl, HB4.out⟩
    · have HS := Lib.hid hs
      clear hs
      go_enter Tryd.func6, Tryd.ntmps6
      go_wp2_with (first
        | (go_at_call 13; refine (check_any _ _).mono ?_; rintro e w' ⟨rfl, rfl⟩; rw [HS.out])
        | (go_at_call 15; refine (goes_any _ HT.out).mono ?_; rintro e w4 ⟨rfl, hb4⟩; have HB4 := Lib.hid hb4; clear hb4))
      go_ret
      exact ⟨rfl, HB4.out⟩
theorem shift0 : shiftB 0 = true := by decide
theorem shift_any (t s : Int) (w : World) (hT : Tab w) :
    Calls Tryd.prog 7 #[.int .i64 t, .int .i64 s] w fun e w' => e = .returned (.bool true) ∧ Below w.heap.size w w' := by
  have HT := Lib.hid hT
  clear hT
  cases hs : shiftB s
  · have HS := Lib.hid hs
    clear hs
    go_enter Tryd.func7, Tryd.ntmps7
    go_wp2_with (first
      | (go_at_call 13; refine (check_any _ _).mono ?_; rintro e w' ⟨rfl, rfl⟩; rw [HS.out])
      | (go_at_call 15; refine (goes_any _ HT.out).mono ?_; rintro e w4 ⟨rfl, hb4⟩; have HB4 := Lib.hid hb4; clear hb4))
    go_ret
    exact ⟨rfl, HB4.out⟩
  · by_cases h0 : t < 50400
    · have HS := Lib.hid hs
      clear hs
      go_enter Tryd.func7, Tryd.ntmps7
      go_wp2_with (first
        | (go_at_call 13; refine (check_any _ _).mono ?_; rintro e w' ⟨rfl, rfl⟩; rw [HS.out])
        | (go_at_call 15; refine (goes_any _ HT.out).mono ?_; rintro e w4 ⟨rfl, hb4⟩; have HB4 := Lib.hid hb4; clear hb4))
      go_ret
      exact ⟨rfl, HB4.out⟩
    · by_cases h1 : 137438903072 < t
      · have HS := Lib.hid hs
        clear hs
        go_enter Tryd.func7, Tryd.ntmps7
        go_wp2_with (first
          | (go_at_call 13; refine (check_any _ _).mono ?_; rintro e w' ⟨rfl, rfl⟩; rw [HS.out])
          | (go_at_call 15; refine (goes_any _ HT.out).mono ?_; rintro e w4 ⟨rfl, hb4⟩; have HB4 := Lib.hid hb4; clear hb4))
        go_ret
        exact ⟨rfl, HB4.out⟩
      · have hsb := shift_bd hs
        obtain ⟨M, h4, h5, hM⟩ := In_exists ((t + s) / 86400) (by omega) (by omega)
        have C1 := Lib.hid (fun w => day_yes t s (by omega) (by omega) hs w)
        have c2 := fun w => day_yes (t + s) 0 (by omega) (by omega) shift0 w
        have C3 := Lib.hid (fun w hT => month_yes t s M (by omega) (by omega) hs hM h4 h5 w hT)
        have c4 := fun w hT => month_yes (t + s) 0 M (by omega) (by omega) shift0 (by rw [Int.add_zero]; exact hM) h4 h5 w hT
        rw [Int.add_zero] at c2
        have C2 := Lib.hid c2
        have C4 := Lib.hid c4
        have HS := Lib.hid hs
        clear hM hs c2 c4
        go_enter Tryd.func7, Tryd.ntmps7
        go_wp2_with (go_at_call 13; refine (check_any _ _).mono ?_; rintro e w' ⟨rfl, rfl⟩; rw [HS.out])
        refine (C1.out _).mono ?_
        rintro e w' ⟨rfl, rfl⟩
        go_wp2_with fail
        refine (C2.out _).mono ?_
        rintro e w' ⟨rfl, rfl⟩
        go_wp2_with fail
        refine (C3.out _ HT.out).mono ?_
        rintro e w1 ⟨rfl, hb1⟩
        have HB1 := Lib.hid hb1
        have HT1 := Lib.hid (HT.out.below hb1 (Nat.le_refl _))
        clear hb1
        go_wp2_with fail
        refine (C4.out _ HT1.out).mono ?_
        rintro e w2 ⟨rfl, hb2⟩
        have HB2 := Lib.hid (HB1.out.trans (hb2.mono HB1.out.size))
        have HT2 := Lib.hid (HT1.out.below hb2 (Nat.le_refl _))
        clear hb2
        go_wp2_with (go_at_call 15; refine (goes_any _ HT2.out).mono ?_; rintro e w4 ⟨rfl, hb4⟩; have HB4 := Lib.hid (HB2.out.trans (hb4.mono HB2.out.size)); clear hb4)
        go_ret
        exact ⟨rfl, HB4.out⟩
theorem between_any (t s : Int) (w : World) (hT : Tab w) :
    Calls Tryd.prog 5 #[.int .i64 t, .int .i64 s] w fun e w' => e = .returned (.bool true) ∧ Below w.heap.size w w' := by
  have HT := Lib.hid hT
  clear hT
  rcases ok_or t s with ⟨h0, h1, hs⟩ | hno
  · have hsb := shift_bd hs
    obtain ⟨d, hd⟩ : ∃ d, d = (t + s) / 86400 := ⟨_, rfl⟩
    have hd1 : -1 ≤ d := by omega
    have hd2 : d ≤ 1600000 := by omega
    obtain ⟨M, h2, h3, hM⟩ := In_exists d (by omega) (by omega)
    have c1 := fun w => day_yes t s h0 h1 hs w
    rw [← hd] at c1
    have C1 := Lib.hid c1
    have C2 := Lib.hid (fun w hT => month_yes t s M h0 h1 hs (by rw [← hd]; exact hM) h2 h3 w hT)
    have c3 := fun w hT => dawn_all d s w hT
    have e3 : okDawn d s = true := by unfold okDawn; rw [hs]; simp; omega
    simp only [if_pos e3] at c3
    have C3 := Lib.hid c3
    have c4 := fun w hT => dawn_all (d + 1) s w hT
    have e4 : okDawn (d + 1) s = true := by unfold okDawn; rw [hs]; simp; omega
    simp only [if_pos e4] at c4
    have C4 := Lib.hid c4
    have hM9 : M < 119999 := Cal.In_lt hM (N := 119999) (by have : Cal.first 119999 = 2932866 := by decide
                                                            omega)
    have C5 := Lib.hid (fun w hT => start_yes M s h2 h3 hs w hT)
    have C6 := Lib.hid (fun w hT => start_yes (M + 1) s (by omega) (by omega) hs w hT)
    have c7 := fun w hT => of_yes d M hM h2 h3 w hT
    have c8 := fun w hT => month_of M d hM h2 h3 w hT
    unfold dateV at c7 c8
    obtain ⟨x, hx⟩ : ∃ x, x = d - Cal.first M + 1 := ⟨_, rfl⟩
    obtain ⟨y, hy⟩ : ∃ y, y = M / 12 := ⟨_, rfl⟩
    obtain ⟨m, hm⟩ : ∃ m, m = M % 12 + 1 := ⟨_, rfl⟩
    rw [← hx, ← hy, ← hm] at c7 c8
    have C7 := Lib.hid c7
    have C8 := Lib.hid c8
    have hI1 := hM.1
    have hI2 := hM.2
    have hF1 := first_bd M h2 h3
    have hF2 := first_bd (M + 1) (by omega) (by omega)
    obtain ⟨F, hF⟩ : ∃ F, F = Cal.first M := ⟨_, rfl⟩
    obtain ⟨G, hG⟩ : ∃ G, G = Cal.first (M + 1) := ⟨_, rfl⟩
    rw [← hF] at hI1 hF1 C5
    rw [← hG] at hI2 hF2 C6
    have k1 : 86400 * d - s ≤ t := by omega
    have k2 : t < 86400 * (d + 1) - s := by omega
    have k3 : 86400 * F - s ≤ 86400 * d - s := by omega
    have k4 : 86400 * (d + 1) - s ≤ 86400 * G - s := by omega
    have k5 : (86400 * (d + 1) - s - (86400 * d - s) == 86400) = true := by simp; omega
    clear hd hs c1 c3 c4 e3 e4 c7 c8 hx hy hm hM hF hG
    go_enter Tryd.func5, Tryd.ntmps5
    go_wp2_with fail
    refine (C1.out _).mono ?_
    rintro e w' ⟨rfl, rfl⟩
    go_wp2_with fail
    refine (C2.out _ HT.out).mono ?_
    rintro e w1 ⟨rfl, hb1⟩
    have HB1 := Lib.hid hb1
    have HT1 := Lib.hid (HT.out.below hb1 (Nat.le_refl _))
    clear hb1
    go_wp2_with fail
    refine (C3.out _ HT1.out).mono ?_
    rintro e w2 ⟨rfl, hb⟩
    have HB2 := Lib.hid (HB1.out.trans (hb.mono HB1.out.size))
    have HT2 := Lib.hid (HT1.out.below hb (Nat.le_refl _))
    clear hb
    go_wp2_with fail
    refine (C4.out _ HT2.out).mono ?_
    rintro e w3 ⟨rfl, hb⟩
    have HB3 := Lib.hid (HB2.out.trans (hb.mono HB2.out.size))
    have HT3 := Lib.hid (HT2.out.below hb (Nat.le_refl _))
    clear hb
    go_wp2_with fail
    refine (C5.out _ HT3.out).mono ?_
    rintro e w4 ⟨rfl, hb⟩
    have HB4 := Lib.hid (HB3.out.trans (hb.mono HB3.out.size))
    have HT4 := Lib.hid (HT3.out.below hb (Nat.le_refl _))
    clear hb
    go_wp2_with fail
    refine (C6.out _ HT4.out).mono ?_
    rintro e w5 ⟨rfl, hb⟩
    have HB5 := Lib.hid (HB4.out.trans (hb.mono HB4.out.size))
    have HT5 := Lib.hid (HT4.out.below hb (Nat.le_refl _))
    clear hb
    go_wp2_with fail
    refine (C7.out _ HT5.out).mono ?_
    rintro e w6 ⟨rfl, hb⟩
    have HB6 := Lib.hid (HB5.out.trans (hb.mono HB5.out.size))
    have HT6 := Lib.hid (HT5.out.below hb (Nat.le_refl _))
    clear hb
    go_wp2_with fail
    refine (C8.out _ (HT6.out.alloc _)).mono ?_
    rintro e w7 ⟨rfl, hb⟩
    have HB7 := Lib.hid ((HB6.out.alloc HB6.out.size _).trans (hb.mono (by have := HB6.out.size; simp; omega)))
    have HT7 := Lib.hid ((HT6.out.alloc _).below hb (Nat.le_refl _))
    clear hb
    go_wp2_with fail
    refine (goes_any _ HT7.out).mono ?_
    rintro e w8 ⟨rfl, hb⟩
    have HB8 := Lib.hid (HB7.out.trans (hb.mono HB7.out.size))
    clear hb
    go_wp2
    go_ret
    exact ⟨rfl, HB8.out⟩
  · have C1 := Lib.hid (fun w => day_no t s hno w)
    have C2 := Lib.hid (fun w => month_no t s hno w)
    have arms : t < 0 ∨ (0 ≤ t ∧ 137438953472 < t) ∨ (0 ≤ t ∧ t ≤ 137438953472 ∧ shiftB s = false) := by
      rcases hno with h | h | h
      · exact .inl h
      · omega
      · by_cases h0 : t < 0
        · exact .inl h0
        · by_cases h1 : 137438953472 < t
          · omega
          · exact .inr (.inr ⟨by omega, by omega, h⟩)
    clear hno
    rcases arms with h | ⟨h, h'⟩ | ⟨h, h', hs⟩
    · go_enter Tryd.func5, Tryd.ntmps5
      go_wp2_with (first
        | (go_at_call 9; refine (C1.out _).mono ?_; rintro e w' ⟨rfl, rfl⟩)
        | (go_at_call 11; refine (C2.out _).mono ?_; rintro e w' ⟨rfl, rfl⟩)
        | (go_at_call 15; refine (goes_any _ HT.out).mono ?_; rintro e w4 ⟨rfl, hb4⟩; have HB4 := Lib.hid hb4; clear hb4))
      go_ret
      exact ⟨rfl, HB4.out⟩
    · go_enter Tryd.func5, Tryd.ntmps5
      go_wp2_with (first
        | (go_at_call 9; refine (C1.out _).mono ?_; rintro e w' ⟨rfl, rfl⟩)
        | (go_at_call 11; refine (C2.out _).mono ?_; rintro e w' ⟨rfl, rfl⟩)
        | (go_at_call 15; refine (goes_any _ HT.out).mono ?_; rintro e w4 ⟨rfl, hb4⟩; have HB4 := Lib.hid hb4; clear hb4))
      go_ret
      exact ⟨rfl, HB4.out⟩
    · have HS := Lib.hid hs
      clear hs
      go_enter Tryd.func5, Tryd.ntmps5
      go_wp2_with (first
        | (go_at_call 9; refine (C1.out _).mono ?_; rintro e w' ⟨rfl, rfl⟩)
        | (go_at_call 11; refine (C2.out _).mono ?_; rintro e w' ⟨rfl, rfl⟩)
        | (go_at_call 13; refine (check_any _ _).mono ?_; rintro e w' ⟨rfl, rfl⟩; rw [HS.out])
        | (go_at_call 15; refine (goes_any _ HT.out).mono ?_; rintro e w4 ⟨rfl, hb4⟩; have HB4 := Lib.hid hb4; clear hb4))
      go_ret
      exact ⟨rfl, HB4.out⟩
theorem known_any (w : World) (hT : Tab w) :
    Calls Tryd.prog 8 #[] w fun e w' => e = .returned (.bool true) ∧ Below w.heap.size w w' := by
  have HT := Lib.hid hT
  have c1 := fun w => day_yes 0 0 (by decide) (by decide) (by decide) w
  have C2 := Lib.hid (fun w => day_no (-1) 0 (by decide) w)
  have C3 := Lib.hid (fun w => day_no 137438953473 0 (by decide) w)
  have C4 := Lib.hid (fun w => day_no 0 50401 (by decide) w)
  have C5 := Lib.hid (fun w hT => month_yes 137438953472 50400 75903 (by decide) (by decide) (by decide) (by unfold Cal.In; decide) (by decide) (by decide) w hT)
  have C6 := Lib.hid (fun w => start_no 11 0 (by decide) w)
  have C7 := Lib.hid (fun w => dawn_no 1099511627776 0 (by decide) w)
  have c8 := fun w hT => dawn_all (-1) 900 w hT
  rw [show ((0 : Int) + 0) / 86400 = 0 by decide] at c1
  have e8 : okDawn (-1) 900 = true := by decide
  simp only [if_pos e8] at c8
  rw [show (86400 : Int) * -1 - 900 = -87300 by decide] at c8
  have C1 := Lib.hid c1
  have C8 := Lib.hid c8
  clear c1 c8 e8 hT
  go_enter Tryd.func8, Tryd.ntmps8
  go_wp2_with fail
  refine (C1.out _).mono ?_
  rintro e w' ⟨rfl, rfl⟩
  go_wp2_with fail
  refine (C2.out _).mono ?_
  rintro e w' ⟨rfl, rfl⟩
  go_wp2_with fail
  refine (C3.out _).mono ?_
  rintro e w' ⟨rfl, rfl⟩
  go_wp2_with fail
  refine (C4.out _).mono ?_
  rintro e w' ⟨rfl, rfl⟩
  go_wp2_with fail
  refine (C5.out _ HT.out).mono ?_
  rintro e w1 ⟨rfl, hb⟩
  have HB1 := Lib.hid hb
  have HT1 := Lib.hid (HT.out.below hb (Nat.le_refl _))
  clear hb
  go_wp2_with fail
  refine (C6.out _).mono ?_
  rintro e w' ⟨rfl, rfl⟩
  go_wp2_with fail
  refine (C7.out _).mono ?_
  rintro e w2 ⟨rfl, hb⟩
  have HB2 := Lib.hid (HB1.out.trans (hb.mono HB1.out.size))
  have HT2 := Lib.hid (HT1.out.below hb (Nat.le_refl _))
  clear hb
  go_wp2_with fail
  refine (C8.out _ HT2.out).mono ?_
  rintro e w3 ⟨rfl, hb⟩
  have HB3 := Lib.hid (HB2.out.trans (hb.mono HB2.out.size))
  have HT3 := Lib.hid (HT2.out.below hb (Nat.le_refl _))
  clear hb
  have k1 : shiftB 51300 = false := by decide
  have k2 : shiftB (-50400) = true := by decide
  go_wp2_with (first
    | (go_at_call 13; refine (check_any _ _).mono ?_; rintro e w' ⟨rfl, rfl⟩; first | rw [k1] | rw [k2])
    | (go_at_call 15; refine (goes_any _ HT3.out).mono ?_; rintro e w4 ⟨rfl, hb4⟩; have HB4 := Lib.hid (HB3.out.trans (hb4.mono HB3.out.size)); clear hb4))
  go_ret
  exact ⟨rfl, HB4.out⟩
end Go.Proofs.YtjcjjobnkcgmcaaDoor
