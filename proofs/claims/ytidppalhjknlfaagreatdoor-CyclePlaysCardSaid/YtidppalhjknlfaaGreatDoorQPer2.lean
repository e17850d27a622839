/- The walks of package period over those of package civil. -/
import Derived.Test.YtidppalhjknlfaaGreatDoorQPer
import Derived.Deep.QuietTactic
import Derived.BigQuiet
import Derived.WalkSmall
namespace Go.Proofs.YtidppalhjknlfaaGreatDoor
set_option linter.unusedVariables false
set_option linter.unusedSimpArgs false
open Go.RowKit
theorem bcell {W w1 : World} (hb : Below W.heap.size W w1) : (∀ b o, b < W.heap.size → w1.cell? ⟨b, o, none⟩ = W.cell? ⟨b, o, none⟩) ∧ (∀ b o, b < W.heap.size → w1.frozen? ⟨b, o, none⟩ = W.frozen? ⟨b, o, none⟩) :=
  ⟨fun b o h => hb.cell (p := ⟨b, o, none⟩) h, fun b o h => hb.frozen (p := ⟨b, o, none⟩) h⟩
theorem shift_bd {s : Int} (h : shiftB s = true) : -50400 ≤ s ∧ s ≤ 50400 := by unfold shiftB at h; simp at h; omega
theorem date_bd (M d : Int) (h : Cal.In M d) : 1 ≤ d - Cal.first M + 1 ∧ d - Cal.first M + 1 ≤ Cal.len M := by
  unfold Cal.In at h; have := Cal.first_succ M; omega
theorem civnum_any (y m : Int) (h0 : 0 ≤ y) (h1 : y ≤ 10000) (h2 : 0 ≤ m) (h3 : m ≤ 100) (w : World) :
    Calls Tryz.prog 80 #[.int .i64 y, .int .i64 m] w fun e w' => e = .returned (.int .i64 (12 * y + m - 1)) ∧ w' = w := by
  go_enter Tryz.func80, Tryz.ntmps80
  go_wp2
  go_ret
  exact ⟨rfl, rfl⟩
theorem valid_any (y m x : Int) (h1 : 1 ≤ y) (h2 : y ≤ 9999) (h3 : 1 ≤ m) (h4 : m ≤ 12) (h5 : 1 ≤ x) (h6 : x ≤ Cal.len (12 * y + m - 1)) (w : World) (hT : Tab w) :
    Calls Tryz.prog 79 #[.agg #[.int .i64 y, .int .i64 m, .int .i64 x]] w fun e w' => e = .returned (.bool true) ∧ Below w.heap.size w w' := by
  have HT : Hid (Tab w) := Lib.hid hT
  have d1 : decide (1 ≤ y) = true := decide_eq_true h1
  have d2 : decide (y ≤ 9999) = true := decide_eq_true h2
  have d3 : decide (1 ≤ m) = true := decide_eq_true h3
  have d4 : decide (m ≤ 12) = true := decide_eq_true h4
  have d5 : decide (1 ≤ x) = true := decide_eq_true h5
  have d6 : decide (x ≤ Cal.len (12 * y + m - 1)) = true := decide_eq_true h6
  clear hT
  go_enter Tryz.func79, Tryz.ntmps79
  go_wp2_with fail
  go_quiet ((first
    | (go_at_call 80; exact Calls.quiet_of_same (civnum_any _ _ (by omega) (by omega) (by omega) (by omega) _))
    | (go_at_call 41; exact Calls.quiet_of_same (length_yes _ (by omega) (by omega) _ ((HT.out).alloc _)))))
  go_wp2
  go_ret
  exact ⟨rfl, below_drewN ((Below.refl _ _).alloc (Nat.le_refl _) _) _⟩
theorem month_of (M d : Int) (hM : Cal.In M d) (h1 : 12 ≤ M) (h2 : M < 120000) (w : World) (hT : Tab w) :
    Calls Tryz.prog 60 #[dateV M d] w fun e w' => e = .returned (.int .i64 M) ∧ Below w.heap.size w w' := by
  have hd := date_bd M d hM
  have HT : Hid (Tab w) := Lib.hid hT
  obtain ⟨x, hx⟩ : ∃ x, x = d - Cal.first M + 1 := ⟨_, rfl⟩
  rw [← hx] at hd
  unfold dateV
  rw [← hx]
  have hl := Cal.len_bd M
  have e : (12 * (M / 12) + (M % 12 + 1) - 1) = M := by omega
  obtain ⟨y, hy⟩ : ∃ y, y = M / 12 := ⟨_, rfl⟩
  obtain ⟨m, hm⟩ : ∃ m, m = M % 12 + 1 := ⟨_, rfl⟩
  rw [← hy, ← hm] at e ⊢
  have hy1 : 1 ≤ y := by omega
  have hy2 : y ≤ 9999 := by omega
  have hm1 : 1 ≤ m := by omega
  have hm2 : m ≤ 12 := by omega
  have HE := Lib.hid e
  have h6 : x ≤ Cal.len (12 * y + m - 1) := by rw [e]; exact hd.2
  have h5 := hd.1
  clear hx hM hT e hy hm hd
  go_enter Tryz.func60, Tryz.ntmps60
  go_wp2_with fail
  refine (valid_any y m x hy1 hy2 hm1 hm2 h5 h6 _ ((HT.out).alloc _)).mono ?_
  rintro e w1 ⟨rfl, hb⟩
  obtain ⟨hc, hf⟩ := bcell hb
  go_wp2_with (go_at_call 80; refine (civnum_any _ _ (by omega) (by omega) (by omega) (by omega) _).mono ?_; rintro e w' ⟨rfl, rfl⟩)
  go_ret
  exact ⟨ret_i HE.out, ((Below.refl _ _).alloc (Nat.le_refl _) _).trans (hb.mono (by simp))⟩
theorem first_no (M : Int) (h : M < 12 ∨ 120000 ≤ M) (w : World) :
    Calls Tryz.prog 40 #[.int .i64 M] w fun e w' => e = .returned (.tuple #[.int .i64 0, .int .i64 1]) ∧ w' = w := by
  go_enter Tryz.func40, Tryz.ntmps40
  go_wp2_with (go_at_call 41; refine (length_no _ h _).mono ?_; rintro e w' ⟨rfl, rfl⟩)
  go_ret2
  exact ⟨rfl, rfl⟩
theorem first_yes (M : Int) (h1 : 12 ≤ M) (h2 : M < 120000) (w : World) (hT : Tab w) :
    Calls Tryz.prog 40 #[.int .i64 M] w fun e w' => e = .returned (.tuple #[.int .i64 (Cal.first M), .int .i64 0]) ∧ w' = w := by
  have HT : Hid (Tab w) := Lib.hid hT
  have hl := Cal.len_bd M
  have hn : (Cal.len M == 0) = false := by simp; omega
  clear hT
  go_enter Tryz.func40, Tryz.ntmps40
  go_wp2_with (first
    | (go_at_call 41; refine (length_yes _ h1 h2 _ HT.out).mono ?_; rintro e w' ⟨rfl, rfl⟩)
    | (go_at_call 65; refine (first_any _ h1 h2 _ HT.out).mono ?_; rintro e w' ⟨rfl, rfl⟩))
  go_ret2
  exact ⟨rfl, rfl⟩
def isTime (t : Int) : Prop := 0 ≤ t ∧ t ≤ 137438953472
theorem In_first (M : Int) : Cal.In M (Cal.first M) := by
  unfold Cal.In; have := Cal.first_succ M; have := Cal.len_bd M; omega
theorem first_bd (M : Int) (h1 : 12 ≤ M) (h2 : M < 120000) : -719162 ≤ Cal.first M ∧ Cal.first M ≤ 2932896 := by
  have := Cal.first_mono h1; have := Cal.first_12; have := Cal.first_mono (M := M) (N := 120000) (by omega); have := Cal.first_end; omega
end Go.Proofs.YtidppalhjknlfaaGreatDoor
