/- quitrentref13.Check, quitrentref21.date. -/
import Derived.Test.YtidppalhjknlfaaGreatDoorQChk13
namespace Go.Proofs.YtidppalhjknlfaaGreatDoor
open Go.RowKit
set_option maxRecDepth 100000
set_option maxHeartbeats 2000000
set_option linter.unusedVariables false
set_option linter.unusedSimpArgs false
def unitB (n : Int) : Bool := decide (0 ≤ n ∧ n ≤ 1099511627776)
theorem plchk_eq (p : Pl) (hid : 0 ≤ p.id) : plchk p = (!(p.id == 0) && (unitB p.daily && (unitB p.monthly && (unitB p.over && (unitB p.roll && (decide (0 ≤ p.base ∧ p.base ≤ 1125899906842624) && tchk p.tiers)))))) := by
  unfold plchk
  rw [show NUMS.all (goodN p) = (unitB p.daily && (unitB p.monthly && (unitB p.over && (unitB p.roll && (decide (0 ≤ p.base ∧ p.base ≤ 1125899906842624) && true))))) from rfl]
  have e : decide (0 < p.id) = !(p.id == 0) := by
    by_cases h : p.id = 0
    · rw [decide_eq_false (by omega), beq_iff_eq.2 h]; rfl
    · rw [decide_eq_true (by omega), beq_eq_false_iff_ne.2 h]; rfl
  rw [e]
  cases (!(p.id == 0)) <;> cases unitB p.daily <;> cases unitB p.monthly <;> cases unitB p.over <;> cases unitB p.roll <;> cases decide (0 ≤ p.base ∧ p.base ≤ 1125899906842624) <;> rfl
theorem rdate_any (d : Int) (w : World) :
    Calls Tryz.prog 35 #[.int .i64 d] w fun e w' => e = .returned (.bool (isDate d)) ∧ w' = w := by
  by_cases h0 : d ≥ -719162
  · by_cases h1 : d ≤ 2932896
    · rw [show isDate d = true from isDate_iff.2 ⟨h0, h1⟩]
      go_enter Tryz.func35, Tryz.ntmps35
      go_wp2
      go_ret
      exact ⟨rfl, rfl⟩
    · rw [show isDate d = false from decide_eq_false (fun h => h1 h.2)]
      go_enter Tryz.func35, Tryz.ntmps35
      go_wp2
      go_ret
      exact ⟨rfl, rfl⟩
  · rw [show isDate d = false from decide_eq_false (fun h => h0 h.1)]
    go_enter Tryz.func35, Tryz.ntmps35
    go_wp2
    go_ret
    exact ⟨rfl, rfl⟩
theorem rpcheck_any (P : Pl) (hid : 0 ≤ P.id ∧ P.id ≤ 4294967295) (a : Option Addr) (c : Nat) (w : World) (hv : GR shT w (.slice a P.tiers.length c) P.tiers) (hl : P.tiers.length ≤ 1000000) :
    Calls Tryz.prog 29 #[.agg #[.int .u32 P.id, .int .i64 P.daily, .int .i64 P.monthly, .int .i64 P.over, .int .i64 P.roll, .int .i64 P.base, .slice a P.tiers.length c]] w fun e w' => e = .returned (.bool (plchk P)) ∧ Below w.heap.size w w' := by
  obtain ⟨W, hW⟩ : ∃ W, W = w.alloc (.cells #[.int .u32 P.id, .int .i64 P.daily, .int .i64 P.monthly, .int .i64 P.over, .int .i64 P.roll, .int .i64 P.base, .slice a P.tiers.length c] 35) := ⟨_, rfl⟩
  have hbW : Below w.heap.size w W := by rw [hW]; exact (Below.refl _ _).alloc (Nat.le_refl _) _
  have q0 : W.heap[w.heap.size]? = some (.cells #[.int .u32 P.id, .int .i64 P.daily, .int .i64 P.monthly, .int .i64 P.over, .int .i64 P.roll, .int .i64 P.base, .slice a P.tiers.length c] 35 (0, 0)) := by rw [hW]; exact blk_new _ _
  have HTC := Lib.hid (rtiers_any _ P.tiers W (hv.below hbW) hl)
  obtain ⟨U, hU⟩ : ∃ U : Int → Bool, U = unitB := ⟨_, rfl⟩
  have hun := fun (n : Int) => show Calls Tryz.prog 53 #[.int .i64 n] W fun e w' => e = .returned (.bool (U n)) ∧ w' = W by rw [hU]; exact units_any n W
  have HUN := Lib.hid hun
  have hR := plchk_eq P hid.1
  rw [← hU] at hR
  obtain ⟨R, hRR⟩ : ∃ R, R = plchk P := ⟨_, rfl⟩
  obtain ⟨T, hT⟩ : ∃ T, T = tchk P.tiers := ⟨_, rfl⟩
  rw [← hRR, ← hT] at hR
  rw [← hT] at HTC
  rw [← hRR]
  have HR := Lib.hid hR
  have HBW := Lib.hid hbW
  have k0 := blk_cell q0 0
  have k1 := blk_cell q0 1
  have k2 := blk_cell q0 2
  have k3 := blk_cell q0 3
  have k4 := blk_cell q0 4
  have k5 := blk_cell q0 5
  have k6 := blk_cell q0 6
  clear hv hbW q0 hU hun hR hRR hT
  go_enter Tryz.func29, Tryz.ntmps29
  go_upto_region 1 with fail
  rw [← hW]
  clear hW
  by_cases h0 : P.id = 0
  · have hR2 : R = false := by rw [HR.out, beq_iff_eq.2 h0]; rfl
    obtain rfl := hR2
    have e0 : (P.id == 0) = true := beq_iff_eq.2 h0
    go_wp2_with fail
    go_ret
    exact ⟨rfl, HBW.out⟩
  · have e0 : (P.id == 0) = false := beq_eq_false_iff_ne.2 h0
    cases u0 : U P.daily with
    | false =>
      have hR2 : R = false := by rw [HR.out, e0, u0]; simp
      obtain rfl := hR2
      go_wp2_with (go_at_call 53; refine (HUN.out _).mono ?_; rintro e w' ⟨rfl, hw⟩; obtain rfl := hw.symm; clear hw)
      go_ret
      exact ⟨rfl, HBW.out⟩
    | true =>
      cases u1 : U P.monthly with
      | false =>
        have hR2 : R = false := by rw [HR.out, e0, u0, u1]; simp
        obtain rfl := hR2
        go_wp2_with (go_at_call 53; refine (HUN.out _).mono ?_; rintro e w' ⟨rfl, hw⟩; obtain rfl := hw.symm; clear hw)
        go_ret
        exact ⟨rfl, HBW.out⟩
      | true =>
        cases u2 : U P.over with
        | false =>
          have hR2 : R = false := by rw [HR.out, e0, u0, u1, u2]; simp
          obtain rfl := hR2
          go_wp2_with (go_at_call 53; refine (HUN.out _).mono ?_; rintro e w' ⟨rfl, hw⟩; obtain rfl := hw.symm; clear hw)
          go_ret
          exact ⟨rfl, HBW.out⟩
        | true =>
          cases u3 : U P.roll with
          | false =>
            have hR2 : R = false := by rw [HR.out, e0, u0, u1, u2, u3]; simp
            obtain rfl := hR2
            go_wp2_with (go_at_call 53; refine (HUN.out _).mono ?_; rintro e w' ⟨rfl, hw⟩; obtain rfl := hw.symm; clear hw)
            go_ret
            exact ⟨rfl, HBW.out⟩
          | true =>
            by_cases hb0 : P.base ≥ 0
            · by_cases hb1 : P.base ≤ 1125899906842624
              · have hR2 : R = T := by rw [HR.out, e0, u0, u1, u2, u3, decide_eq_true ⟨hb0, hb1⟩]; simp
                obtain rfl := hR2
                go_wp2_with (first
                  | (go_at_call 53; refine (HUN.out _).mono ?_; rintro e w' ⟨rfl, hw⟩; obtain rfl := hw.symm; clear hw)
                  | (go_at_call 54; refine HTC.out.mono ?_; rintro e w2 ⟨rfl, hb⟩; have HB2 := Lib.hid (HBW.out.trans (hb.mono HBW.out.size)); clear hb))
                go_ret
                exact ⟨by simp [bne, e0], HB2.out⟩
              · have hR2 : R = false := by rw [HR.out, e0, u0, u1, u2, u3, decide_eq_false (fun h => hb1 h.2)]; simp
                obtain rfl := hR2
                go_wp2_with (go_at_call 53; refine (HUN.out _).mono ?_; rintro e w' ⟨rfl, hw⟩; obtain rfl := hw.symm; clear hw)
                go_ret
                exact ⟨rfl, HBW.out⟩
            · have hR2 : R = false := by rw [HR.out, e0, u0, u1, u2, u3, decide_eq_false (fun h => hb0 h.1)]; simp
              obtain rfl := hR2
              go_wp2_with (go_at_call 53; refine (HUN.out _).mono ?_; rintro e w' ⟨rfl, hw⟩; obtain rfl := hw.symm; clear hw)
              go_ret
              exact ⟨rfl, HBW.out⟩
end Go.Proofs.YtidppalhjknlfaaGreatDoor
