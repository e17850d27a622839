/- The walks of package period over those of package civil. -/
import Derived.Test.YtjcjjobnkcgmcaaDoorPer
import Derived.Deep.QuietTactic
import Derived.BigQuiet
import Derived.WalkSmall
namespace Go.Proofs.YtjcjjobnkcgmcaaDoor
open Go.RowKit
theorem bcell {W w1 : World} (hb : Below W.heap.size W w1) : (∀ b o, b < W.heap.size → w1.cell? ⟨b, o, none⟩ = W.cell? ⟨b, o, none⟩) ∧ (∀ b o, b < W.heap.size → w1.frozen? ⟨b, o, none⟩ = W.frozen? ⟨b, o, none⟩) :=
  ⟨fun b o h => hb.cell (p := ⟨b, o, none⟩) h, fun b o h => hb.frozen (p := ⟨b, o, none⟩) h⟩
theorem shift_bd {s : Int} (h : shiftB s = true) : -50400 ≤ s ∧ s ≤ 50400 := by unfold shiftB at h; simp at h; omega
theorem date_bd (M d : Int) (h : Cal.In M d) : 1 ≤ d - Cal.first M + 1 ∧ d - Cal.first M + 1 ≤ Cal.len M := by
  unfold Cal.In at h; have := Cal.first_succ M; omega
theorem number_any (y m : Int) (h0 : 0 ≤ y) (h1 : y ≤ 10000) (h2 : 0 ≤ m) (h3 : m ≤ 100) (w : World) :
    Calls Tryd.prog 30 #[.int .i64 y, .int .i64 m] w fun e w' => e = .returned (.int .i64 (12 * y + m - 1)) ∧ w' = w := by
  go_enter Tryd.func30, Tryd.ntmps30
  go_wp2
  go_ret
  exact ⟨rfl, rfl⟩
theorem valid_any (y m x : Int) (h1 : 1 ≤ y) (h2 : y ≤ 9999) (h3 : 1 ≤ m) (h4 : m ≤ 12) (h5 : 1 ≤ x) (h6 : x ≤ Cal.len (12 * y + m - 1)) (w : World) (hT : Tab w) :
    Calls Tryd.prog 29 #[.agg #[.int .i64 y, .int .i64 m, .int .i64 x]] w fun e w' => e = .returned (.bool true) ∧ Below w.heap.size w w' := by
  have HT : Hid (Tab w) := Lib.hid hT
  have d1 : decide (1 ≤ y) = true := decide_eq_true h1
  have d2 : decide (y ≤ 9999) = true := decide_eq_true h2
  have d3 : decide (1 ≤ m) = true := decide_eq_true h3
  have d4 : decide (m ≤ 12) = true := decide_eq_true h4
  have d5 : decide (1 ≤ x) = true := decide_eq_true h5
  have d6 : decide (x ≤ Cal.len (12 * y + m - 1)) = true := decide_eq_true h6
  clear hT
  go_enter Tryd.func29, Tryd.ntmps29
  go_wp2_with fail
  go_quiet ((first
    | (go_at_call 30; exact Calls.quiet_of_same (number_any _ _ (by omega) (by omega) (by omega) (by omega) _))
    | (go_at_call 33; exact Calls.quiet_of_same (length_yes _ (by omega) (by omega) _ ((HT.out).alloc _)))))
  go_wp2
  go_ret
  exact ⟨rfl, below_drewN ((Below.refl _ _).alloc (Nat.le_refl _) _) _⟩
theorem month_of (M d : Int) (hM : Cal.In M d) (h1 : 12 ≤ M) (h2 : M < 120000) (w : World) (hT : Tab w) :
    Calls Tryd.prog 20 #[dateV M d] w fun e w' => e = .returned (.int .i64 M) ∧ Below w.heap.size w w' := by
  have hd := date_bd M d hM
  have HT : Hid (Tab w) := Lib.hid hT
  obtain ⟨x, hx⟩ : ∃ x, x = d - Cal.first M + 1 := ⟨_, rfl⟩
  rw [← hx] at hd
  unfold dateV
  rw [← hx]
  have hl := Cal.len_bd M
  have e : (12 * (M / 12) + (M % 12 + 1) - 1) = M := by omega
  obtain ⟨y, hy⟩ : ∃ y, y = M / 12 := ⟨_, rfl⟩
  obtain ⟨m, hm⟩ : ∃ m, m = M % 12 + 1 := ⟨_, rfl⟩
  rw [← hy, ← hm] at e ⊢
  have hy1 : 1 ≤ y := by omega
  have hy2 : y ≤ 9999 := by omega
  have hm1 : 1 ≤ m := by omega
  have hm2 : m ≤ 12 := by omega
  have HE := Lib.hid e
  have h6 : x ≤ Cal.len (12 * y + m - 1) := by rw [e]; exact hd.2
  have h5 := hd.1
  clear hx hM hT e hy hm hd
  go_enter Tryd.func20, Tryd.ntmps20
  go_wp2_with fail
  refine (valid_any y m x hy1 hy2 hm1 hm2 h5 h6 _ ((HT.out).alloc _)).mono ?_
  rintro e w1 ⟨rfl, hb⟩
  obtain ⟨hc, hf⟩ := bcell hb
  go_wp2_with (go_at_call 30; refine (number_any _ _ (by omega) (by omega) (by omega) (by omega) _).mono ?_; rintro e w' ⟨rfl, rfl⟩)
  go_ret
  exact ⟨ret_i HE.out, ((Below.refl _ _).alloc (Nat.le_refl _) _).trans (hb.mono (by simp))⟩
theorem first_no (M : Int) (h : M < 12 ∨ 120000 ≤ M) (w : World) :
    Calls Tryd.prog 25 #[.int .i64 M] w fun e w' => e = .returned (.tuple #[.int .i64 0, .int .i64 1]) ∧ w' = w := by
  go_enter Tryd.func25, Tryd.ntmps25
  go_wp2_with (go_at_call 33; refine (length_no _ h _).mono ?_; rintro e w' ⟨rfl, rfl⟩)
  go_ret2
  exact ⟨rfl, rfl⟩
theorem first_yes (M : Int) (h1 : 12 ≤ M) (h2 : M < 120000) (w : World) (hT : Tab w) :
    Calls Tryd.prog 25 #[.int .i64 M] w fun e w' => e = .returned (.tuple #[.int .i64 (Cal.first M), .int .i64 0]) ∧ w' = w := by
  have HT : Hid (Tab w) := Lib.hid hT
  have hl := Cal.len_bd M
  have hn : (Cal.len M == 0) = false := by simp; omega
  clear hT
  go_enter Tryd.func25, Tryd.ntmps25
  go_wp2_with (first
    | (go_at_call 33; refine (length_yes _ h1 h2 _ HT.out).mono ?_; rintro e w' ⟨rfl, rfl⟩)
    | (go_at_call 28; refine (first_any _ h1 h2 _ HT.out).mono ?_; rintro e w' ⟨rfl, rfl⟩))
  go_ret2
  exact ⟨rfl, rfl⟩
def isTime (t : Int) : Prop := 0 ≤ t ∧ t ≤ 137438953472
theorem on_yes (t s : Int) (h0 : 0 ≤ t) (h1 : t ≤ 137438953472) (hs : shiftB s = true) (w : World) (f : Nat) (r : Int) (Q : World → Prop) (hcf : ∀ a w, (callFunc f a).run Tryd.prog w = .ok (.enter f a) w)
    (hf : Calls Tryd.prog f #[.int .i64 ((t + s) / 86400)] w fun e w' => e = .returned (.int .i64 r) ∧ Q w') :
    Calls Tryd.prog 21 #[.int .i64 t, .int .i64 s, .func (Fn.func f) #[] #[]] w fun e w' => e = .returned (.tuple #[.int .i64 r, .int .i64 0]) ∧ Q w' := by
  have hb := shift_bd hs
  have HS := Lib.hid hs
  clear hs
  by_cases hn : 0 ≤ t + s
  · go_enter Tryd.func21, Tryd.ntmps21
    go_wp2_with (go_at_call 13; refine (check_any _ _).mono ?_; rintro e w' ⟨rfl, rfl⟩; rw [HS.out])
    refine hf.mono ?_
    rintro e w1 ⟨rfl, hq⟩
    go_wp2
    go_ret2
    exact ⟨rfl, hq⟩
  · have e0 : t + s = 0 - (0 - (t + s)) := by omega
    have hd : (t + s).tdiv 86400 = 0 := by
      have : (-(t + s)).tdiv 86400 = 0 := by rw [Int.tdiv_eq_ediv_of_nonneg (by omega)]; omega
      rw [Int.neg_tdiv] at this; omega
    have hm : (t + s).tmod 86400 = t + s := by
      have := Int.mul_tdiv_add_tmod (t + s) 86400
      rw [hd] at this; omega
    have he : (t + s) / 86400 = -1 := by omega
    rw [he] at hf
    clear he e0
    go_enter Tryd.func21, Tryd.ntmps21
    go_wp2_with (go_at_call 13; refine (check_any _ _).mono ?_; rintro e w' ⟨rfl, rfl⟩; rw [HS.out])
    refine hf.mono ?_
    rintro e w1 ⟨rfl, hq⟩
    go_wp2
    go_ret2
    exact ⟨rfl, hq⟩
theorem on_no (t s : Int) (h : t < 0 ∨ 137438953472 < t ∨ shiftB s = false) (w : World) (v : Value) :
    Calls Tryd.prog 21 #[.int .i64 t, .int .i64 s, v] w fun e w' => e = .returned (.tuple #[.int .i64 0, .int .i64 1]) ∧ w' = w := by
  by_cases h0 : t < 0
  · go_enter Tryd.func21, Tryd.ntmps21
    go_wp2
    go_ret2
    exact ⟨rfl, rfl⟩
  · by_cases h1 : 137438953472 < t
    · go_enter Tryd.func21, Tryd.ntmps21
      go_wp2
      go_ret2
      exact ⟨rfl, rfl⟩
    · have hs : shiftB s = false := by rcases h with h | h | h; exact absurd h h0; exact absurd h h1; exact h
      have HS := Lib.hid hs
      clear hs h
      go_enter Tryd.func21, Tryd.ntmps21
      go_wp2_with (go_at_call 13; refine (check_any _ _).mono ?_; rintro e w' ⟨rfl, rfl⟩; rw [HS.out])
      go_ret2
      exact ⟨rfl, rfl⟩
theorem day_yes (t s : Int) (h0 : 0 ≤ t) (h1 : t ≤ 137438953472) (hs : shiftB s = true) (w : World) :
    Calls Tryd.prog 9 #[.int .i64 t, .int .i64 s] w fun e w' => e = .returned (.tuple #[.int .i64 ((t + s) / 86400), .int .i64 0]) ∧ w' = w := by
  have hf : Calls Tryd.prog 22 #[.int .i64 ((t + s) / 86400)] w fun e w' => e = .returned (.int .i64 ((t + s) / 86400)) ∧ w' = w := by
    obtain ⟨x, hx⟩ : ∃ x, x = (t + s) / 86400 := ⟨_, rfl⟩
    rw [← hx]; clear hx
    go_enter Tryd.func22, Tryd.ntmps22
    go_wp2
    go_ret
    exact ⟨rfl, rfl⟩
  have hc := on_yes t s h0 h1 hs w _ _ (fun w' => w' = w) (fun _ _ => by kernel_rfl) hf
  clear hf
  go_enter Tryd.func9, Tryd.ntmps9
  go_wp2_with fail
  refine hc.mono ?_
  rintro e w' ⟨rfl, rfl⟩
  go_wp2
  go_ret2
  exact ⟨rfl, rfl⟩
theorem day_no (t s : Int) (h : t < 0 ∨ 137438953472 < t ∨ shiftB s = false) (w : World) :
    Calls Tryd.prog 9 #[.int .i64 t, .int .i64 s] w fun e w' => e = .returned (.tuple #[.int .i64 0, .int .i64 1]) ∧ w' = w := by
  go_enter Tryd.func9, Tryd.ntmps9
  go_wp2_with fail
  refine (on_no t s h _ _).mono ?_
  rintro e w' ⟨rfl, rfl⟩
  go_wp2
  go_ret2
  exact ⟨rfl, rfl⟩
theorem month_no (t s : Int) (h : t < 0 ∨ 137438953472 < t ∨ shiftB s = false) (w : World) :
    Calls Tryd.prog 11 #[.int .i64 t, .int .i64 s] w fun e w' => e = .returned (.tuple #[.int .i64 0, .int .i64 1]) ∧ w' = w := by
  go_enter Tryd.func11, Tryd.ntmps11
  go_wp2_with fail
  refine (on_no t s h _ _).mono ?_
  rintro e w' ⟨rfl, rfl⟩
  go_wp2
  go_ret2
  exact ⟨rfl, rfl⟩
theorem month_tell (d M : Int) (hM : Cal.In M d) (h1 : 12 ≤ M) (h2 : M < 120000) (w : World) (hT : Tab w) :
    Calls Tryd.prog 23 #[.int .i64 d] w fun e w' => e = .returned (.int .i64 M) ∧ Below w.heap.size w w' := by
  have c1 := fun (w : World) (h : Hid (Tab w)) => of_yes d M hM h1 h2 w h.out
  have c2 := fun (w : World) (h : Hid (Tab w)) => month_of M d hM h1 h2 w h.out
  have HT : Hid (Tab w) := Lib.hid hT
  unfold dateV at c1 c2
  obtain ⟨x, hx⟩ : ∃ x, x = d - Cal.first M + 1 := ⟨_, rfl⟩
  obtain ⟨y, hy⟩ : ∃ y, y = M / 12 := ⟨_, rfl⟩
  obtain ⟨m, hm⟩ : ∃ m, m = M % 12 + 1 := ⟨_, rfl⟩
  rw [← hy, ← hm, ← hx] at c1 c2
  have C1 := Lib.hid c1
  have C2 := Lib.hid c2
  clear c1 c2 hM hT hx hy hm
  go_enter Tryd.func23, Tryd.ntmps23
  go_wp2_with fail
  refine (C1.out _ HT).mono ?_
  rintro e w1 ⟨rfl, hb⟩
  have HB := Lib.hid hb
  have HT1 := Lib.hid (HT.out.below hb (Nat.le_refl _))
  clear hb
  go_wp2_with fail
  refine (C2.out _ (Lib.hid (HT1.out.alloc _))).mono ?_
  rintro e w2 ⟨rfl, hb2⟩
  have HB2 := Lib.hid hb2
  clear hb2
  go_wp2
  go_ret
  exact ⟨rfl, (HB.out.alloc HB.out.size _).trans (HB2.out.mono (by have := HB.out.size; simp; omega))⟩
theorem month_yes (t s M : Int) (h0 : 0 ≤ t) (h1 : t ≤ 137438953472) (hs : shiftB s = true) (hM : Cal.In M ((t + s) / 86400)) (h2 : 12 ≤ M) (h3 : M < 120000) (w : World) (hT : Tab w) :
    Calls Tryd.prog 11 #[.int .i64 t, .int .i64 s] w fun e w' => e = .returned (.tuple #[.int .i64 M, .int .i64 0]) ∧ Below w.heap.size w w' := by
  have hc := on_yes t s h0 h1 hs w _ _ (fun w' => Below w.heap.size w w') (fun _ _ => by kernel_rfl) (month_tell _ M hM h2 h3 w hT)
  clear hT
  go_enter Tryd.func11, Tryd.ntmps11
  go_wp2_with fail
  refine hc.mono ?_
  rintro e w' ⟨rfl, hb⟩
  have HB := Lib.hid hb
  clear hb hc
  go_wp2
  go_ret2
  exact ⟨rfl, HB.out⟩
theorem dawn_yes (d s : Int) (h0 : -719162 ≤ d) (h1 : d ≤ 2932896) (hs : shiftB s = true) (M : Int) (hM : Cal.In M d) (h2 : 12 ≤ M) (h3 : M < 120000) (w : World) (hT : Tab w) :
    Calls Tryd.prog 18 #[.int .i64 d, .int .i64 s] w fun e w' => e = .returned (.tuple #[.int .i64 (86400 * d - s), .int .i64 0]) ∧ Below w.heap.size w w' := by
  have hc := of_yes d M hM h2 h3 w hT
  have hb := shift_bd hs
  have HS := Lib.hid hs
  unfold dateV at hc
  obtain ⟨x, hx⟩ : ∃ x, x = d - Cal.first M + 1 := ⟨_, rfl⟩
  obtain ⟨y, hy⟩ : ∃ y, y = M / 12 := ⟨_, rfl⟩
  obtain ⟨m, hm⟩ : ∃ m, m = M % 12 + 1 := ⟨_, rfl⟩
  rw [← hy, ← hm, ← hx] at hc
  clear hs hT hM hx hy hm
  go_enter Tryd.func18, Tryd.ntmps18
  go_wp2_with fail
  refine hc.mono ?_
  rintro e w1 ⟨rfl, hb1⟩
  have HB := Lib.hid hb1
  clear hb1 hc
  go_wp2_with (go_at_call 13; refine (check_any _ _).mono ?_; rintro e w' ⟨rfl, rfl⟩; rw [HS.out])
  go_ret2
  exact ⟨by rw [Int.mul_comm]; rfl, HB.out.alloc HB.out.size _⟩
theorem dawn_no (d s : Int) (h : d < -719162 ∨ 2932896 < d) (w : World) :
    Calls Tryd.prog 18 #[.int .i64 d, .int .i64 s] w fun e w' => e = .returned (.tuple #[.int .i64 0, .int .i64 1]) ∧ Below w.heap.size w w' := by
  go_enter Tryd.func18, Tryd.ntmps18
  go_wp2_with fail
  refine (of_no d h _).mono ?_
  rintro e w1 ⟨rfl, hb1⟩
  have HB := Lib.hid hb1
  clear hb1
  go_wp2
  go_ret2
  exact ⟨rfl, HB.out.alloc HB.out.size _⟩
theorem dawn_shift (d s : Int) (h0 : -719162 ≤ d) (h1 : d ≤ 2932896) (hs : shiftB s = false) (M : Int) (hM : Cal.In M d) (h2 : 12 ≤ M) (h3 : M < 120000) (w : World) (hT : Tab w) :
    Calls Tryd.prog 18 #[.int .i64 d, .int .i64 s] w fun e w' => e = .returned (.tuple #[.int .i64 0, .int .i64 1]) ∧ Below w.heap.size w w' := by
  have hc := of_yes d M hM h2 h3 w hT
  have HS := Lib.hid hs
  unfold dateV at hc
  obtain ⟨x, hx⟩ : ∃ x, x = d - Cal.first M + 1 := ⟨_, rfl⟩
  obtain ⟨y, hy⟩ : ∃ y, y = M / 12 := ⟨_, rfl⟩
  obtain ⟨m, hm⟩ : ∃ m, m = M % 12 + 1 := ⟨_, rfl⟩
  rw [← hy, ← hm, ← hx] at hc
  clear hs hT hM hx hy hm
  go_enter Tryd.func18, Tryd.ntmps18
  go_wp2_with fail
  refine hc.mono ?_
  rintro e w1 ⟨rfl, hb1⟩
  have HB := Lib.hid hb1
  clear hb1 hc
  go_wp2_with (go_at_call 13; refine (check_any _ _).mono ?_; rintro e w' ⟨rfl, rfl⟩; rw [HS.out])
  go_ret2
  exact ⟨rfl, HB.out.alloc HB.out.size _⟩
theorem start_no (M s : Int) (h : M < 12 ∨ 120000 ≤ M) (w : World) :
    Calls Tryd.prog 16 #[.int .i64 M, .int .i64 s] w fun e w' => e = .returned (.tuple #[.int .i64 0, .int .i64 1]) ∧ w' = w := by
  go_enter Tryd.func16, Tryd.ntmps16
  go_wp2_with fail
  refine (first_no M h _).mono ?_
  rintro e w1 ⟨rfl, rfl⟩
  go_wp2
  go_ret2
  exact ⟨rfl, rfl⟩
theorem In_first (M : Int) : Cal.In M (Cal.first M) := by
  unfold Cal.In; have := Cal.first_succ M; have := Cal.len_bd M; omega
theorem first_bd (M : Int) (h1 : 12 ≤ M) (h2 : M < 120000) : -719162 ≤ Cal.first M ∧ Cal.first M ≤ 2932896 := by
  have := Cal.first_mono h1; have := Cal.first_12; have := Cal.first_mono (M := M) (N := 120000) (by omega); have := Cal.first_end; omega
theorem start_yes (M s : Int) (h1 : 12 ≤ M) (h2 : M < 120000) (hs : shiftB s = true) (w : World) (hT : Tab w) :
    Calls Tryd.prog 16 #[.int .i64 M, .int .i64 s] w fun e w' => e = .returned (.tuple #[.int .i64 (86400 * Cal.first M - s), .int .i64 0]) ∧ Below w.heap.size w w' := by
  have HT := Lib.hid hT
  have HS := Lib.hid hs
  have hb := first_bd M h1 h2
  clear hT hs
  go_enter Tryd.func16, Tryd.ntmps16
  go_wp2_with fail
  refine (first_yes M h1 h2 _ HT.out).mono ?_
  rintro e w1 ⟨rfl, rfl⟩
  go_wp2_with fail
  refine (dawn_yes _ s hb.1 hb.2 HS.out M (In_first M) h1 h2 _ HT.out).mono ?_
  rintro e w2 ⟨rfl, hb2⟩
  have HB := Lib.hid hb2
  clear hb2
  go_wp2
  go_ret2
  exact ⟨rfl, HB.out⟩
theorem start_shift (M s : Int) (h1 : 12 ≤ M) (h2 : M < 120000) (hs : shiftB s = false) (w : World) (hT : Tab w) :
    Calls Tryd.prog 16 #[.int .i64 M, .int .i64 s] w fun e w' => e = .returned (.tuple #[.int .i64 0, .int .i64 1]) ∧ Below w.heap.size w w' := by
  have HT := Lib.hid hT
  have HS := Lib.hid hs
  have hb := first_bd M h1 h2
  clear hT hs
  go_enter Tryd.func16, Tryd.ntmps16
  go_wp2_with fail
  refine (first_yes M h1 h2 _ HT.out).mono ?_
  rintro e w1 ⟨rfl, rfl⟩
  go_wp2_with fail
  refine (dawn_shift _ s hb.1 hb.2 HS.out M (In_first M) h1 h2 _ HT.out).mono ?_
  rintro e w2 ⟨rfl, hb2⟩
  have HB := Lib.hid hb2
  clear hb2
  go_wp2
  go_ret2
  exact ⟨rfl, HB.out⟩
end Go.Proofs.YtjcjjobnkcgmcaaDoor
