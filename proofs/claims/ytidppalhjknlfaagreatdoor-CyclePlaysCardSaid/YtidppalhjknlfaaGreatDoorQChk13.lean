/- quitrentref11.Check, quitrentref13.Check. -/
import Derived.Test.YtidppalhjknlfaaGreatDoorQBk21b
namespace Go.Proofs.YtidppalhjknlfaaGreatDoor
open Go.RowKit
set_option maxRecDepth 100000
set_option maxHeartbeats 2000000
set_option linter.unusedVariables false
set_option linter.unusedSimpArgs false
theorem units_any (n : Int) (w : World) :
    Calls Tryz.prog 53 #[.int .i64 n] w fun e w' => e = .returned (.bool (decide (0 ≤ n ∧ n ≤ 1099511627776))) ∧ w' = w := by
  by_cases h0 : n ≥ 0
  · by_cases h1 : n ≤ 1099511627776
    · rw [decide_eq_true ⟨h0, h1⟩]
      go_enter Tryz.func53, Tryz.ntmps53
      go_wp2
      go_ret
      exact ⟨rfl, rfl⟩
    · rw [decide_eq_false (fun h => h1 h.2)]
      go_enter Tryz.func53, Tryz.ntmps53
      go_wp2
      go_ret
      exact ⟨rfl, rfl⟩
  · rw [decide_eq_false (fun h => h0 h.1)]
    go_enter Tryz.func53, Tryz.ntmps53
    go_wp2
    go_ret
    exact ⟨rfl, rfl⟩
theorem tck_cons (was : Int) (t : Tr) (r : List Tr) : tckGo was (t :: r) = (decide (0 ≤ t.price ∧ t.price ≤ 1125899906842624) && (if r.isEmpty = true then t.upto == 0 else decide (was < t.upto ∧ t.upto ≤ 1099511627776) && tckGo t.upto r)) := rfl
theorem rtiers_any (v : Value) (L : List Tr) (w : World) (hv : GR shT w v L) (hl : L.length ≤ 1000000) :
    Calls Tryz.prog 54 #[v] w fun e w' => e = .returned (.bool (tchk L)) ∧ Below w.heap.size w w' := by
  obtain ⟨a, cap, rfl, h1, h2, h3⟩ := hv.shape
  have HV := Lib.hid hv
  obtain ⟨R, hR⟩ : ∃ R, R = tchk L := ⟨_, rfl⟩
  rw [← hR]
  have HR := Lib.hid hR
  obtain ⟨G, hG⟩ : ∃ G, G = tckGo 0 L := ⟨_, rfl⟩
  have HGE := Lib.hid (show R = (decide (1 ≤ L.length ∧ L.length ≤ 4) && G) by rw [hR, hG]; rfl)
  have HG0 := Lib.hid (show L = [] → G = true by intro h; rw [hG, h]; rfl)
  have HGG0 := Lib.hid hG
  clear hv h3 hR hG
  go_enter Tryz.func54, Tryz.ntmps54
  go_wp2_with fail
  go_loopw [3] (fun i wr => ∃ (j : Nat) (was : Int), j ≤ L.length ∧ i = .int .i64 j ∧ Hid (j < L.length → G = tckGo was (L.drop j)) ∧ Hid (j = L.length → 0 < j → G = true) ∧ Hid (0 < j → ∃ t, L[j - 1]? = some t ∧ t.upto = was) ∧ Hid ((j = 0 → was = 0) ∧ 0 ≤ was) ∧ Hid (Below w.heap.size w wr)) (fun i _ => L.length - (intOf i).toNat)
  case atStart => exact ⟨0, 0, by omega, rfl, Lib.hid (fun _ => HGG0.out), Lib.hid (fun _ h => absurd h (by omega)), Lib.hid (fun h => absurd h (by omega)), Lib.hid ⟨fun _ => rfl, by decide⟩, Lib.hid (Below.refl _ _)⟩
  case round =>
    obtain ⟨j, was, hj, rfl, HG, HE, HW, HW0, HB⟩ := hrel
    by_cases hlt : j < L.length
    · obtain ⟨t, ht⟩ : ∃ t, L[j]? = some t := ⟨_, List.getElem?_eq_getElem hlt⟩
      obtain ⟨g, off, cap', he, c0, c1⟩ := (HV.out.below HB.out).at2 ht
      injection he with he n1 n2
      subst he; subst n2
      clear n1
      have hd : L.drop j = t :: L.drop (j + 1) := by
        rw [List.drop_eq_getElem_cons hlt, (List.getElem?_eq_some_iff.1 ht).2]
      have hg := HG.out hlt
      rw [hd, tck_cons] at hg
      have HT := Lib.hid ht
      obtain ⟨up, pr⟩ := t
      dsimp only at c0 c1 hg
      have i1 : (j : Int) < (L.length : Int) := by omega
      have HBAD := Lib.hid (show G = false → R = false from fun h => by rw [HGE.out, h, Bool.and_false])
      clear ht hd HG HE
      have BAD : (pr < 0 ∨ 1125899906842624 < pr ∨ (j + 1 = L.length ∧ up ≠ 0) ∨ (j + 1 ≠ L.length ∧ (up = 0 ∨ up < 0 ∨ 1099511627776 < up ∨ up ≤ was))) → R = false := fun h => by
        refine HBAD.out ?_
        rw [hg]
        by_cases hp : 0 ≤ pr ∧ pr ≤ 1125899906842624
        · rw [decide_eq_true hp, Bool.true_and]
          by_cases hl : j + 1 = L.length
          · rw [if_pos (by rw [List.drop_eq_nil_of_le (by omega)]; rfl)]
            exact beq_eq_false_iff_ne.2 (by omega)
          · rw [if_neg (by rw [List.isEmpty_iff]; intro h; have := congrArg List.length h; rw [List.length_drop] at this; simp at this; omega)]
            have hww := HW0.out.2
            by_cases hu : was < up ∧ up ≤ 1099511627776
            · exfalso
              omega
            · rw [decide_eq_false hu, Bool.false_and]
        · rw [decide_eq_false hp, Bool.false_and]
      have HBD := Lib.hid BAD
      have HGR := Lib.hid hg
      clear BAD hg
      by_cases p1 : pr < 0
      · obtain rfl := HBD.out (.inl p1)
        go_wp2_with fail
        go_ret
        exact ⟨rfl, HB.out⟩
      · by_cases p2 : pr > 1125899906842624
        · obtain rfl := HBD.out (.inr (.inl p2))
          go_wp2_with fail
          go_ret
          exact ⟨rfl, HB.out⟩
        · by_cases hlast : j + 1 = L.length
          · have i5 : ((j : Int) == (L.length : Int) - 1) = true := beq_iff_eq.2 (by omega)
            by_cases hu : up = 0
            · have HGT := Lib.hid (show G = true by
                rw [HGR.out, decide_eq_true ⟨by omega, by omega⟩, Bool.true_and, if_pos (by rw [List.drop_eq_nil_of_le (by omega)]; rfl)]
                exact beq_iff_eq.2 hu)
              have HLL := Lib.hid hlast
              subst hu
              clear hlast
              by_cases hj0 : (j : Int) > 0
              · go_upto_region 7 with fail
                refine wp_region_held_drew (S := (fun w' => True)) (by kernel_rfl) ?_ (fun hHeld0 => ?_)
                · dsimp only
                refine takeN (v := ?_) 0 rfl (by kernel_rfl) (by kernel_rfl) (by kernel_rfl) (fun _ _ _ h => h) (by rfl) ?_ hHeld0 ?_
                rotate_left
                · intro w hSw; (try dsimp only at hSw); go_simp; with_reducible rfl
                try simp only [Act.put, List.setIfInBounds_toArray, List.set_cons_zero, List.set_cons_succ]
                refine takeN (v := ?_) 1 rfl (by kernel_rfl) (by kernel_rfl) (by kernel_rfl) (fun _ _ _ h => h) (by rfl) ?_ hHeld0 ?_
                rotate_left
                · intro w hSw; (try dsimp only at hSw); go_simp; with_reducible rfl
                try simp only [Act.put, List.setIfInBounds_toArray, List.set_cons_zero, List.set_cons_succ]
                refine takeN (v := ?_) 2 rfl (by kernel_rfl) (by kernel_rfl) (by kernel_rfl) (fun _ _ _ h => h) (by rfl) ?_ hHeld0 ?_
                rotate_left
                · intro w hSw; (try dsimp only at hSw); go_simp; with_reducible rfl
                try simp only [Act.put, List.setIfInBounds_toArray, List.set_cons_zero, List.set_cons_succ]
                refine wpAnyH_ready (rs := [3]) (by kernel_rfl) (by simp) ?_
                refine readyN rfl (fun K hK => ?_) ?_
                · -- operation 3
                  go_simp
                  go_wp2_with (
                      fail)
                  refine hK.out _ _ ?_ (fun hHeld1 => ?_)
                  · dsimp only
                  clear hK K hHeld0
                  try simp only [Act.put, List.setIfInBounds_toArray, List.set_cons_zero, List.set_cons_succ]
                  refine takeN (v := ?_) 4 rfl (by kernel_rfl) (by kernel_rfl) (by kernel_rfl) (fun _ _ _ h => h) (by rfl) ?_ hHeld1 ?_
                  rotate_left
                  · intro w hSw; (try dsimp only at hSw); go_simp; with_reducible rfl
                  try simp only [Act.put, List.setIfInBounds_toArray, List.set_cons_zero, List.set_cons_succ]
                  refine takeN (v := ?_) 5 rfl (by kernel_rfl) (by kernel_rfl) (by kernel_rfl) (fun _ _ _ h => h) (by rfl) ?_ hHeld1 ?_
                  rotate_left
                  · intro w hSw; (try dsimp only at hSw); go_simp; with_reducible rfl
                  try simp only [Act.put, List.setIfInBounds_toArray, List.set_cons_zero, List.set_cons_succ]
                  refine takeN (v := ?_) 6 rfl (by kernel_rfl) (by kernel_rfl) (by kernel_rfl) (fun _ _ _ h => h) (by rfl) ?_ hHeld1 ?_
                  rotate_left
                  · intro w hSw; (try dsimp only at hSw); go_simp; with_reducible rfl
                  try simp only [Act.put, List.setIfInBounds_toArray, List.set_cons_zero, List.set_cons_succ]
                  refine skipN 7 rfl (by kernel_rfl) (by kernel_rfl) (by kernel_rfl) (fun _ _ _ h => h) (by rfl) hHeld1 ?_
                  try simp only [Act.put, List.setIfInBounds_toArray, List.set_cons_zero, List.set_cons_succ]
                  refine skipN 8 rfl (by kernel_rfl) (by kernel_rfl) (by kernel_rfl) (fun _ _ _ h => h) (by rfl) hHeld1 ?_
                  try simp only [Act.put, List.setIfInBounds_toArray, List.set_cons_zero, List.set_cons_succ]
                  refine skipN 9 rfl (by kernel_rfl) (by kernel_rfl) (by kernel_rfl) (fun _ _ _ h => h) (by rfl) hHeld1 ?_
                  try simp only [Act.put, List.setIfInBounds_toArray, List.set_cons_zero, List.set_cons_succ]
                  refine skipN 10 rfl (by kernel_rfl) (by kernel_rfl) (by kernel_rfl) (fun _ _ _ h => h) (by rfl) hHeld1 ?_
                  try simp only [Act.put, List.setIfInBounds_toArray, List.set_cons_zero, List.set_cons_succ]
                  refine skipN 11 rfl (by kernel_rfl) (by kernel_rfl) (by kernel_rfl) (fun _ _ _ h => h) (by rfl) hHeld1 ?_
                  try simp only [Act.put, List.setIfInBounds_toArray, List.set_cons_zero, List.set_cons_succ]
                  refine skipN 12 rfl (by kernel_rfl) (by kernel_rfl) (by kernel_rfl) (fun _ _ _ h => h) (by rfl) hHeld1 ?_
                  try simp only [Act.put, List.setIfInBounds_toArray, List.set_cons_zero, List.set_cons_succ]
                  refine skipN 13 rfl (by kernel_rfl) (by kernel_rfl) (by kernel_rfl) (fun _ _ _ h => h) (by rfl) hHeld1 ?_
                  try simp only [Act.put, List.setIfInBounds_toArray, List.set_cons_zero, List.set_cons_succ]
                  refine skipN 14 rfl (by kernel_rfl) (by kernel_rfl) (by kernel_rfl) (fun _ _ _ h => h) (by rfl) hHeld1 ?_
                  try simp only [Act.put, List.setIfInBounds_toArray, List.set_cons_zero, List.set_cons_succ]
                  refine skipN 15 rfl (by kernel_rfl) (by kernel_rfl) (by kernel_rfl) (fun _ _ _ h => h) (by rfl) hHeld1 ?_
                  try simp only [Act.put, List.setIfInBounds_toArray, List.set_cons_zero, List.set_cons_succ]
                  refine skipN 16 rfl (by kernel_rfl) (by kernel_rfl) (by kernel_rfl) (fun _ _ _ h => h) (by rfl) hHeld1 ?_
                  try simp only [Act.put, List.setIfInBounds_toArray, List.set_cons_zero, List.set_cons_succ]
                  refine skipN 17 rfl (by kernel_rfl) (by kernel_rfl) (by kernel_rfl) (fun _ _ _ h => h) (by rfl) hHeld1 ?_
                  try simp only [Act.put, List.setIfInBounds_toArray, List.set_cons_zero, List.set_cons_succ]
                  refine skipN 18 rfl (by kernel_rfl) (by kernel_rfl) (by kernel_rfl) (fun _ _ _ h => h) (by rfl) hHeld1 ?_
                  try simp only [Act.put, List.setIfInBounds_toArray, List.set_cons_zero, List.set_cons_succ]
                  refine takeN (v := ?_) 19 rfl (by kernel_rfl) (by kernel_rfl) (by kernel_rfl) (fun _ _ _ h => h) (by rfl) ?_ hHeld1 ?_
                  rotate_left
                  · intro w hSw; (try dsimp only at hSw); go_simp; with_reducible rfl
                  try simp only [Act.put, List.setIfInBounds_toArray, List.set_cons_zero, List.set_cons_succ]
                  refine wpAnyH_done (by kernel_rfl) ?_ _
                  go_wp2_with fail
                  refine ⟨⟨j + 1, 0, by omega, by go_num, Lib.hid (fun h => by have := HLL.out; omega), Lib.hid (fun _ _ => HGT.out), Lib.hid (fun _ => ⟨_, by rw [Nat.add_sub_cancel]; exact HT.out, rfl⟩), Lib.hid ⟨fun h => by omega, by decide⟩, Lib.hid (below_drewN HB.out _)⟩, by simp [intOf]; omega⟩
                exact AllReadyH.nil
              · go_upto_region 7 with fail
                refine wp_region_held_drew (S := (fun w' => True)) (by kernel_rfl) ?_ (fun hHeld0 => ?_)
                · dsimp only
                refine takeN (v := ?_) 0 rfl (by kernel_rfl) (by kernel_rfl) (by kernel_rfl) (fun _ _ _ h => h) (by rfl) ?_ hHeld0 ?_
                rotate_left
                · intro w hSw; (try dsimp only at hSw); go_simp; with_reducible rfl
                try simp only [Act.put, List.setIfInBounds_toArray, List.set_cons_zero, List.set_cons_succ]
                refine takeN (v := ?_) 1 rfl (by kernel_rfl) (by kernel_rfl) (by kernel_rfl) (fun _ _ _ h => h) (by rfl) ?_ hHeld0 ?_
                rotate_left
                · intro w hSw; (try dsimp only at hSw); go_simp; with_reducible rfl
                try simp only [Act.put, List.setIfInBounds_toArray, List.set_cons_zero, List.set_cons_succ]
                refine takeN (v := ?_) 2 rfl (by kernel_rfl) (by kernel_rfl) (by kernel_rfl) (fun _ _ _ h => h) (by rfl) ?_ hHeld0 ?_
                rotate_left
                · intro w hSw; (try dsimp only at hSw); go_simp; with_reducible rfl
                try simp only [Act.put, List.setIfInBounds_toArray, List.set_cons_zero, List.set_cons_succ]
                refine wpAnyH_ready (rs := [3]) (by kernel_rfl) (by simp) ?_
                refine readyN rfl (fun K hK => ?_) ?_
                · -- operation 3
                  go_simp
                  go_wp2_with (
                      fail)
                  refine hK.out _ _ ?_ (fun hHeld1 => ?_)
                  · dsimp only
                  clear hK K hHeld0
                  try simp only [Act.put, List.setIfInBounds_toArray, List.set_cons_zero, List.set_cons_succ]
                  refine skipN 4 rfl (by kernel_rfl) (by kernel_rfl) (by kernel_rfl) (fun _ _ _ h => h) (by rfl) hHeld1 ?_
                  try simp only [Act.put, List.setIfInBounds_toArray, List.set_cons_zero, List.set_cons_succ]
                  refine takeN (v := ?_) 5 rfl (by kernel_rfl) (by kernel_rfl) (by kernel_rfl) (fun _ _ _ h => h) (by rfl) ?_ hHeld1 ?_
                  rotate_left
                  · intro w hSw; (try dsimp only at hSw); go_simp; with_reducible rfl
                  try simp only [Act.put, List.setIfInBounds_toArray, List.set_cons_zero, List.set_cons_succ]
                  refine takeN (v := ?_) 6 rfl (by kernel_rfl) (by kernel_rfl) (by kernel_rfl) (fun _ _ _ h => h) (by rfl) ?_ hHeld1 ?_
                  rotate_left
                  · intro w hSw; (try dsimp only at hSw); go_simp; with_reducible rfl
                  try simp only [Act.put, List.setIfInBounds_toArray, List.set_cons_zero, List.set_cons_succ]
                  refine skipN 7 rfl (by kernel_rfl) (by kernel_rfl) (by kernel_rfl) (fun _ _ _ h => h) (by rfl) hHeld1 ?_
                  try simp only [Act.put, List.setIfInBounds_toArray, List.set_cons_zero, List.set_cons_succ]
                  refine skipN 8 rfl (by kernel_rfl) (by kernel_rfl) (by kernel_rfl) (fun _ _ _ h => h) (by rfl) hHeld1 ?_
                  try simp only [Act.put, List.setIfInBounds_toArray, List.set_cons_zero, List.set_cons_succ]
                  refine skipN 9 rfl (by kernel_rfl) (by kernel_rfl) (by kernel_rfl) (fun _ _ _ h => h) (by rfl) hHeld1 ?_
                  try simp only [Act.put, List.setIfInBounds_toArray, List.set_cons_zero, List.set_cons_succ]
                  refine skipN 10 rfl (by kernel_rfl) (by kernel_rfl) (by kernel_rfl) (fun _ _ _ h => h) (by rfl) hHeld1 ?_
                  try simp only [Act.put, List.setIfInBounds_toArray, List.set_cons_zero, List.set_cons_succ]
                  refine skipN 11 rfl (by kernel_rfl) (by kernel_rfl) (by kernel_rfl) (fun _ _ _ h => h) (by rfl) hHeld1 ?_
                  try simp only [Act.put, List.setIfInBounds_toArray, List.set_cons_zero, List.set_cons_succ]
                  refine skipN 12 rfl (by kernel_rfl) (by kernel_rfl) (by kernel_rfl) (fun _ _ _ h => h) (by rfl) hHeld1 ?_
                  try simp only [Act.put, List.setIfInBounds_toArray, List.set_cons_zero, List.set_cons_succ]
                  refine skipN 13 rfl (by kernel_rfl) (by kernel_rfl) (by kernel_rfl) (fun _ _ _ h => h) (by rfl) hHeld1 ?_
                  try simp only [Act.put, List.setIfInBounds_toArray, List.set_cons_zero, List.set_cons_succ]
                  refine skipN 14 rfl (by kernel_rfl) (by kernel_rfl) (by kernel_rfl) (fun _ _ _ h => h) (by rfl) hHeld1 ?_
                  try simp only [Act.put, List.setIfInBounds_toArray, List.set_cons_zero, List.set_cons_succ]
                  refine skipN 15 rfl (by kernel_rfl) (by kernel_rfl) (by kernel_rfl) (fun _ _ _ h => h) (by rfl) hHeld1 ?_
                  try simp only [Act.put, List.setIfInBounds_toArray, List.set_cons_zero, List.set_cons_succ]
                  refine skipN 16 rfl (by kernel_rfl) (by kernel_rfl) (by kernel_rfl) (fun _ _ _ h => h) (by rfl) hHeld1 ?_
                  try simp only [Act.put, List.setIfInBounds_toArray, List.set_cons_zero, List.set_cons_succ]
                  refine skipN 17 rfl (by kernel_rfl) (by kernel_rfl) (by kernel_rfl) (fun _ _ _ h => h) (by rfl) hHeld1 ?_
                  try simp only [Act.put, List.setIfInBounds_toArray, List.set_cons_zero, List.set_cons_succ]
                  refine skipN 18 rfl (by kernel_rfl) (by kernel_rfl) (by kernel_rfl) (fun _ _ _ h => h) (by rfl) hHeld1 ?_
                  try simp only [Act.put, List.setIfInBounds_toArray, List.set_cons_zero, List.set_cons_succ]
                  refine takeN (v := ?_) 19 rfl (by kernel_rfl) (by kernel_rfl) (by kernel_rfl) (fun _ _ _ h => h) (by rfl) ?_ hHeld1 ?_
                  rotate_left
                  · intro w hSw; (try dsimp only at hSw); go_simp; with_reducible rfl
                  try simp only [Act.put, List.setIfInBounds_toArray, List.set_cons_zero, List.set_cons_succ]
                  refine wpAnyH_done (by kernel_rfl) ?_ _
                  go_wp2_with fail
                  refine ⟨⟨j + 1, 0, by omega, by go_num, Lib.hid (fun h => by have := HLL.out; omega), Lib.hid (fun _ _ => HGT.out), Lib.hid (fun _ => ⟨_, by rw [Nat.add_sub_cancel]; exact HT.out, rfl⟩), Lib.hid ⟨fun h => by omega, by decide⟩, Lib.hid (below_drewN HB.out _)⟩, by simp [intOf]; omega⟩
                exact AllReadyH.nil
            · obtain rfl := HBD.out (.inr (.inr (.inl ⟨hlast, hu⟩)))
              clear hlast
              go_wp2_with fail
              go_ret
              exact ⟨rfl, HB.out⟩
          · have i5 : ((j : Int) == (L.length : Int) - 1) = false := beq_eq_false_iff_ne.2 (by omega)
            by_cases hu : up = 0
            · obtain rfl := HBD.out (.inr (.inr (.inr ⟨hlast, .inl hu⟩)))
              subst hu
              clear hlast
              go_wp2_with fail
              go_ret
              exact ⟨rfl, HB.out⟩
            · by_cases hu1 : up < 0
              · obtain rfl := HBD.out (.inr (.inr (.inr ⟨hlast, .inr (.inl hu1)⟩)))
                clear hlast
                go_wp2_with fail
                go_ret
                exact ⟨rfl, HB.out⟩
              · by_cases hu2 : up > 1099511627776
                · obtain rfl := HBD.out (.inr (.inr (.inr ⟨hlast, .inr (.inr (.inl hu2))⟩)))
                  clear hlast
                  go_wp2_with fail
                  go_ret
                  exact ⟨rfl, HB.out⟩
                · have HNX := Lib.hid (show was < up → G = tckGo up (L.drop (j + 1)) from fun h => by
                    rw [HGR.out, decide_eq_true ⟨by omega, by omega⟩, Bool.true_and, if_neg (by rw [List.isEmpty_iff]; intro h; have := congrArg List.length h; rw [List.length_drop] at this; simp at this; omega), decide_eq_true ⟨h, by omega⟩, Bool.true_and])
                  have HLN := Lib.hid hlast
                  by_cases hj0 : (j : Int) > 0
                  · obtain ⟨t0, ht0, hw⟩ := HW.out (by omega)
                    obtain ⟨g', off', cap'', he, d0, d1⟩ := (HV.out.below HB.out).at2 ht0
                    injection he with he n1 n2
                    injection he with he
                    injection he with e1 e2
                    subst e1; subst e2
                    rw [hw] at d0
                    have i8 : wrap64 ((j : Int) - 1) = ((j - 1 : Nat) : Int) := by unfold wrap64; omega
                    have i9 : ((j - 1 : Nat) : Int) < (L.length : Int) := by omega
                    have i10 : IntKind.i64.wrap ((j : Int) - 1) = ((j - 1 : Nat) : Int) := by rw [IntKind.wrap_i64]; omega
                    clear n1 n2 ht0 hw d1
                    by_cases hb : up ≤ was
                    · obtain rfl := HBD.out (.inr (.inr (.inr ⟨hlast, .inr (.inr (.inr hb))⟩)))
                      clear hlast
                      go_upto_region 7 with fail
                      have C0 := Lib.hid (show wr.drew.cell? ⟨g, off + j * 2, none⟩ = some (.int .i64 up) ∧ wr.drew.cell? ⟨g, off + (j - 1) * 2, none⟩ = some (.int .i64 was) from ⟨c0, d0⟩)
                      clear c0 c1 d0
                      refine wp_region_held_drew (S := (fun w' => w'.cell? ⟨g, off + j * 2, none⟩ = some (.int .i64 up) ∧ w'.cell? ⟨g, off + (j - 1) * 2, none⟩ = some (.int .i64 was))) (by kernel_rfl) ?_ (fun hHeld0 => ?_)
                      · (try dsimp only)
                        with_reducible exact C0.out
                      refine takeN (v := ?_) 0 rfl (by kernel_rfl) (by kernel_rfl) (by kernel_rfl) (fun _ _ _ h => h) (by rfl) ?_ hHeld0 ?_
                      rotate_left
                      · intro w hSw; (try dsimp only at hSw); go_simp; with_reducible rfl
                      try simp only [Act.put, List.setIfInBounds_toArray, List.set_cons_zero, List.set_cons_succ]
                      refine takeN (v := ?_) 1 rfl (by kernel_rfl) (by kernel_rfl) (by kernel_rfl) (fun _ _ _ h => h) (by rfl) ?_ hHeld0 ?_
                      rotate_left
                      · intro w hSw; (try dsimp only at hSw); go_simp; with_reducible rfl
                      try simp only [Act.put, List.setIfInBounds_toArray, List.set_cons_zero, List.set_cons_succ]
                      refine takeN (v := ?_) 2 rfl (by kernel_rfl) (by kernel_rfl) (by kernel_rfl) (fun _ _ _ h => h) (by rfl) ?_ hHeld0 ?_
                      rotate_left
                      · intro w hSw; (try dsimp only at hSw); go_simp; with_reducible rfl
                      try simp only [Act.put, List.setIfInBounds_toArray, List.set_cons_zero, List.set_cons_succ]
                      refine wpAnyH_ready (rs := [3]) (by kernel_rfl) (by simp) ?_
                      refine readyN rfl (fun K hK => ?_) ?_
                      · -- operation 3
                        go_simp
                        go_wp2_with (
                            fail)
                        refine hK.out _ _ ?_ (fun hHeld1 => ?_)
                        · (try dsimp only)
                          with_reducible exact C0.out
                        clear hK K hHeld0
                        try simp only [Act.put, List.setIfInBounds_toArray, List.set_cons_zero, List.set_cons_succ]
                        refine takeN (v := ?_) 4 rfl (by kernel_rfl) (by kernel_rfl) (by kernel_rfl) (fun _ _ _ h => h) (by rfl) ?_ hHeld1 ?_
                        rotate_left
                        · intro w hSw; (try dsimp only at hSw); go_simp; with_reducible rfl
                        try simp only [Act.put, List.setIfInBounds_toArray, List.set_cons_zero, List.set_cons_succ]
                        refine takeN (v := ?_) 5 rfl (by kernel_rfl) (by kernel_rfl) (by kernel_rfl) (fun _ _ _ h => h) (by rfl) ?_ hHeld1 ?_
                        rotate_left
                        · intro w hSw; (try dsimp only at hSw); go_simp; with_reducible rfl
                        try simp only [Act.put, List.setIfInBounds_toArray, List.set_cons_zero, List.set_cons_succ]
                        refine takeN (v := ?_) 6 rfl (by kernel_rfl) (by kernel_rfl) (by kernel_rfl) (fun _ _ _ h => h) (by rfl) ?_ hHeld1 ?_
                        rotate_left
                        · intro w hSw; (try dsimp only at hSw); go_simp; with_reducible rfl
                        try simp only [Act.put, List.setIfInBounds_toArray, List.set_cons_zero, List.set_cons_succ]
                        refine takeN (v := ?_) 7 rfl (by kernel_rfl) (by kernel_rfl) (by kernel_rfl) (fun _ _ _ h => h) (by rfl) ?_ hHeld1 ?_
                        rotate_left
                        · intro w hSw; (try dsimp only at hSw); go_simp; with_reducible rfl
                        try simp only [Act.put, List.setIfInBounds_toArray, List.set_cons_zero, List.set_cons_succ]
                        refine takeN (v := ?_) 8 rfl (by kernel_rfl) (by kernel_rfl) (by kernel_rfl) (fun _ _ _ h => h) (by rfl) ?_ hHeld1 ?_
                        rotate_left
                        · intro w hSw; (try dsimp only at hSw); go_simp; with_reducible rfl
                        try simp only [Act.put, List.setIfInBounds_toArray, List.set_cons_zero, List.set_cons_succ]
                        refine takeN (v := ?_) 9 rfl (by kernel_rfl) (by kernel_rfl) (by kernel_rfl) (fun _ _ _ h => h) (by rfl) ?_ hHeld1 ?_
                        rotate_left
                        · intro w hSw; (try dsimp only at hSw); go_simp; with_reducible rfl
                        try simp only [Act.put, List.setIfInBounds_toArray, List.set_cons_zero, List.set_cons_succ]
                        refine takeN (v := ?_) 10 rfl (by kernel_rfl) (by kernel_rfl) (by kernel_rfl) (fun _ _ _ h => h) (by rfl) ?_ hHeld1 ?_
                        rotate_left
                        · intro w hSw; (try dsimp only at hSw); go_simp; with_reducible rfl
                        try simp only [Act.put, List.setIfInBounds_toArray, List.set_cons_zero, List.set_cons_succ]
                        refine takeN (v := ?_) 11 rfl (by kernel_rfl) (by kernel_rfl) (by kernel_rfl) (fun _ _ _ h => h) (by rfl) ?_ hHeld1 ?_
                        rotate_left
                        · intro w hSw; (try dsimp only at hSw); go_simp; with_reducible rfl
                        try simp only [Act.put, List.setIfInBounds_toArray, List.set_cons_zero, List.set_cons_succ]
                        refine takeN (v := ?_) 12 rfl (by kernel_rfl) (by kernel_rfl) (by kernel_rfl) (fun _ _ _ h => h) (by rfl) ?_ hHeld1 ?_
                        rotate_left
                        · intro w hSw; (try dsimp only at hSw); go_simp; with_reducible rfl
                        try simp only [Act.put, List.setIfInBounds_toArray, List.set_cons_zero, List.set_cons_succ]
                        refine takeN (v := ?_) 13 rfl (by kernel_rfl) (by kernel_rfl) (by kernel_rfl) (fun _ _ _ h => h) (by rfl) ?_ hHeld1 ?_
                        rotate_left
                        · intro w hSw; (try dsimp only at hSw); go_simp; with_reducible rfl
                        try simp only [Act.put, List.setIfInBounds_toArray, List.set_cons_zero, List.set_cons_succ]
                        refine takeN (v := ?_) 14 rfl (by kernel_rfl) (by kernel_rfl) (by kernel_rfl) (fun _ _ _ h => h) (by rfl) ?_ hHeld1 ?_
                        rotate_left
                        · intro w hSw; (try dsimp only at hSw); go_simp; with_reducible rfl
                        try simp only [Act.put, List.setIfInBounds_toArray, List.set_cons_zero, List.set_cons_succ]
                        refine takeN (v := ?_) 15 rfl (by kernel_rfl) (by kernel_rfl) (by kernel_rfl) (fun _ _ _ h => h) (by rfl) ?_ hHeld1 ?_
                        rotate_left
                        · intro w hSw; (try dsimp only at hSw); go_simp; with_reducible rfl
                        try simp only [Act.put, List.setIfInBounds_toArray, List.set_cons_zero, List.set_cons_succ]
                        refine takeN (v := ?_) 16 rfl (by kernel_rfl) (by kernel_rfl) (by kernel_rfl) (fun _ _ _ h => h) (by rfl) ?_ hHeld1 ?_
                        rotate_left
                        · intro w hSw; (try dsimp only at hSw); go_simp; with_reducible rfl
                        try simp only [Act.put, List.setIfInBounds_toArray, List.set_cons_zero, List.set_cons_succ]
                        refine takeN (v := ?_) 17 rfl (by kernel_rfl) (by kernel_rfl) (by kernel_rfl) (fun _ _ _ h => h) (by rfl) ?_ hHeld1 ?_
                        rotate_left
                        · intro w hSw; (try dsimp only at hSw); go_simp; with_reducible rfl
                        try simp only [Act.put, List.setIfInBounds_toArray, List.set_cons_zero, List.set_cons_succ]
                        refine takeN (v := ?_) 18 rfl (by kernel_rfl) (by kernel_rfl) (by kernel_rfl) (fun _ _ _ h => h) (by rfl) ?_ hHeld1 ?_
                        rotate_left
                        · intro w hSw; (try dsimp only at hSw); go_simp; with_reducible rfl
                        try simp only [Act.put, List.setIfInBounds_toArray, List.set_cons_zero, List.set_cons_succ]
                        refine takeN (v := ?_) 19 rfl (by kernel_rfl) (by kernel_rfl) (by kernel_rfl) (fun _ _ _ h => h) (by rfl) ?_ hHeld1 ?_
                        rotate_left
                        · intro w hSw; (try dsimp only at hSw); go_simp; with_reducible rfl
                        try simp only [Act.put, List.setIfInBounds_toArray, List.set_cons_zero, List.set_cons_succ]
                        refine wpAnyH_done (by kernel_rfl) ?_ _
                        go_wp2_with fail
                        go_ret
                        exact ⟨rfl, below_drewN HB.out _⟩
                      exact AllReadyH.nil
                    · clear hlast
                      go_upto_region 7 with fail
                      have C0 := Lib.hid (show wr.drew.cell? ⟨g, off + j * 2, none⟩ = some (.int .i64 up) ∧ wr.drew.cell? ⟨g, off + (j - 1) * 2, none⟩ = some (.int .i64 was) from ⟨c0, d0⟩)
                      clear c0 c1 d0
                      refine wp_region_held_drew (S := (fun w' => w'.cell? ⟨g, off + j * 2, none⟩ = some (.int .i64 up) ∧ w'.cell? ⟨g, off + (j - 1) * 2, none⟩ = some (.int .i64 was))) (by kernel_rfl) ?_ (fun hHeld0 => ?_)
                      · (try dsimp only)
                        with_reducible exact C0.out
                      refine takeN (v := ?_) 0 rfl (by kernel_rfl) (by kernel_rfl) (by kernel_rfl) (fun _ _ _ h => h) (by rfl) ?_ hHeld0 ?_
                      rotate_left
                      · intro w hSw; (try dsimp only at hSw); go_simp; with_reducible rfl
                      try simp only [Act.put, List.setIfInBounds_toArray, List.set_cons_zero, List.set_cons_succ]
                      refine takeN (v := ?_) 1 rfl (by kernel_rfl) (by kernel_rfl) (by kernel_rfl) (fun _ _ _ h => h) (by rfl) ?_ hHeld0 ?_
                      rotate_left
                      · intro w hSw; (try dsimp only at hSw); go_simp; with_reducible rfl
                      try simp only [Act.put, List.setIfInBounds_toArray, List.set_cons_zero, List.set_cons_succ]
                      refine takeN (v := ?_) 2 rfl (by kernel_rfl) (by kernel_rfl) (by kernel_rfl) (fun _ _ _ h => h) (by rfl) ?_ hHeld0 ?_
                      rotate_left
                      · intro w hSw; (try dsimp only at hSw); go_simp; with_reducible rfl
                      try simp only [Act.put, List.setIfInBounds_toArray, List.set_cons_zero, List.set_cons_succ]
                      refine wpAnyH_ready (rs := [3]) (by kernel_rfl) (by simp) ?_
                      refine readyN rfl (fun K hK => ?_) ?_
                      · -- operation 3
                        go_simp
                        go_wp2_with (
                            fail)
                        refine hK.out _ _ ?_ (fun hHeld1 => ?_)
                        · (try dsimp only)
                          with_reducible exact C0.out
                        clear hK K hHeld0
                        try simp only [Act.put, List.setIfInBounds_toArray, List.set_cons_zero, List.set_cons_succ]
                        refine takeN (v := ?_) 4 rfl (by kernel_rfl) (by kernel_rfl) (by kernel_rfl) (fun _ _ _ h => h) (by rfl) ?_ hHeld1 ?_
                        rotate_left
                        · intro w hSw; (try dsimp only at hSw); go_simp; with_reducible rfl
                        try simp only [Act.put, List.setIfInBounds_toArray, List.set_cons_zero, List.set_cons_succ]
                        refine takeN (v := ?_) 5 rfl (by kernel_rfl) (by kernel_rfl) (by kernel_rfl) (fun _ _ _ h => h) (by rfl) ?_ hHeld1 ?_
                        rotate_left
                        · intro w hSw; (try dsimp only at hSw); go_simp; with_reducible rfl
                        try simp only [Act.put, List.setIfInBounds_toArray, List.set_cons_zero, List.set_cons_succ]
                        refine takeN (v := ?_) 6 rfl (by kernel_rfl) (by kernel_rfl) (by kernel_rfl) (fun _ _ _ h => h) (by rfl) ?_ hHeld1 ?_
                        rotate_left
                        · intro w hSw; (try dsimp only at hSw); go_simp; with_reducible rfl
                        try simp only [Act.put, List.setIfInBounds_toArray, List.set_cons_zero, List.set_cons_succ]
                        refine takeN (v := ?_) 7 rfl (by kernel_rfl) (by kernel_rfl) (by kernel_rfl) (fun _ _ _ h => h) (by rfl) ?_ hHeld1 ?_
                        rotate_left
                        · intro w hSw; (try dsimp only at hSw); go_simp; with_reducible rfl
                        try simp only [Act.put, List.setIfInBounds_toArray, List.set_cons_zero, List.set_cons_succ]
                        refine takeN (v := ?_) 8 rfl (by kernel_rfl) (by kernel_rfl) (by kernel_rfl) (fun _ _ _ h => h) (by rfl) ?_ hHeld1 ?_
                        rotate_left
                        · intro w hSw; (try dsimp only at hSw); go_simp; with_reducible rfl
                        try simp only [Act.put, List.setIfInBounds_toArray, List.set_cons_zero, List.set_cons_succ]
                        refine takeN (v := ?_) 9 rfl (by kernel_rfl) (by kernel_rfl) (by kernel_rfl) (fun _ _ _ h => h) (by rfl) ?_ hHeld1 ?_
                        rotate_left
                        · intro w hSw; (try dsimp only at hSw); go_simp; with_reducible rfl
                        try simp only [Act.put, List.setIfInBounds_toArray, List.set_cons_zero, List.set_cons_succ]
                        refine takeN (v := ?_) 10 rfl (by kernel_rfl) (by kernel_rfl) (by kernel_rfl) (fun _ _ _ h => h) (by rfl) ?_ hHeld1 ?_
                        rotate_left
                        · intro w hSw; (try dsimp only at hSw); go_simp; with_reducible rfl
                        try simp only [Act.put, List.setIfInBounds_toArray, List.set_cons_zero, List.set_cons_succ]
                        refine takeN (v := ?_) 11 rfl (by kernel_rfl) (by kernel_rfl) (by kernel_rfl) (fun _ _ _ h => h) (by rfl) ?_ hHeld1 ?_
                        rotate_left
                        · intro w hSw; (try dsimp only at hSw); go_simp; with_reducible rfl
                        try simp only [Act.put, List.setIfInBounds_toArray, List.set_cons_zero, List.set_cons_succ]
                        refine takeN (v := ?_) 12 rfl (by kernel_rfl) (by kernel_rfl) (by kernel_rfl) (fun _ _ _ h => h) (by rfl) ?_ hHeld1 ?_
                        rotate_left
                        · intro w hSw; (try dsimp only at hSw); go_simp; with_reducible rfl
                        try simp only [Act.put, List.setIfInBounds_toArray, List.set_cons_zero, List.set_cons_succ]
                        refine takeN (v := ?_) 13 rfl (by kernel_rfl) (by kernel_rfl) (by kernel_rfl) (fun _ _ _ h => h) (by rfl) ?_ hHeld1 ?_
                        rotate_left
                        · intro w hSw; (try dsimp only at hSw); go_simp; with_reducible rfl
                        try simp only [Act.put, List.setIfInBounds_toArray, List.set_cons_zero, List.set_cons_succ]
                        refine takeN (v := ?_) 14 rfl (by kernel_rfl) (by kernel_rfl) (by kernel_rfl) (fun _ _ _ h => h) (by rfl) ?_ hHeld1 ?_
                        rotate_left
                        · intro w hSw; (try dsimp only at hSw); go_simp; with_reducible rfl
                        try simp only [Act.put, List.setIfInBounds_toArray, List.set_cons_zero, List.set_cons_succ]
                        refine takeN (v := ?_) 15 rfl (by kernel_rfl) (by kernel_rfl) (by kernel_rfl) (fun _ _ _ h => h) (by rfl) ?_ hHeld1 ?_
                        rotate_left
                        · intro w hSw; (try dsimp only at hSw); go_simp; with_reducible rfl
                        try simp only [Act.put, List.setIfInBounds_toArray, List.set_cons_zero, List.set_cons_succ]
                        refine takeN (v := ?_) 16 rfl (by kernel_rfl) (by kernel_rfl) (by kernel_rfl) (fun _ _ _ h => h) (by rfl) ?_ hHeld1 ?_
                        rotate_left
                        · intro w hSw; (try dsimp only at hSw); go_simp; with_reducible rfl
                        try simp only [Act.put, List.setIfInBounds_toArray, List.set_cons_zero, List.set_cons_succ]
                        refine takeN (v := ?_) 17 rfl (by kernel_rfl) (by kernel_rfl) (by kernel_rfl) (fun _ _ _ h => h) (by rfl) ?_ hHeld1 ?_
                        rotate_left
                        · intro w hSw; (try dsimp only at hSw); go_simp; with_reducible rfl
                        try simp only [Act.put, List.setIfInBounds_toArray, List.set_cons_zero, List.set_cons_succ]
                        refine takeN (v := ?_) 18 rfl (by kernel_rfl) (by kernel_rfl) (by kernel_rfl) (fun _ _ _ h => h) (by rfl) ?_ hHeld1 ?_
                        rotate_left
                        · intro w hSw; (try dsimp only at hSw); go_simp; with_reducible rfl
                        try simp only [Act.put, List.setIfInBounds_toArray, List.set_cons_zero, List.set_cons_succ]
                        refine takeN (v := ?_) 19 rfl (by kernel_rfl) (by kernel_rfl) (by kernel_rfl) (fun _ _ _ h => h) (by rfl) ?_ hHeld1 ?_
                        rotate_left
                        · intro w hSw; (try dsimp only at hSw); go_simp; with_reducible rfl
                        try simp only [Act.put, List.setIfInBounds_toArray, List.set_cons_zero, List.set_cons_succ]
                        refine wpAnyH_done (by kernel_rfl) ?_ _
                        go_wp2_with fail
                        refine ⟨⟨j + 1, up, by omega, by go_num, Lib.hid (fun h => HNX.out (by omega)), Lib.hid (fun h _ => absurd h HLN.out), Lib.hid (fun _ => ⟨_, by rw [Nat.add_sub_cancel]; exact HT.out, rfl⟩), Lib.hid ⟨fun h => by omega, by omega⟩, Lib.hid (below_drewN HB.out _)⟩, by simp [intOf]; omega⟩
                      exact AllReadyH.nil
                  · clear hlast
                    go_upto_region 7 with fail
                    refine wp_region_held_drew (S := (fun w' => True)) (by kernel_rfl) ?_ (fun hHeld0 => ?_)
                    · dsimp only
                    refine takeN (v := ?_) 0 rfl (by kernel_rfl) (by kernel_rfl) (by kernel_rfl) (fun _ _ _ h => h) (by rfl) ?_ hHeld0 ?_
                    rotate_left
                    · intro w hSw; (try dsimp only at hSw); go_simp; with_reducible rfl
                    try simp only [Act.put, List.setIfInBounds_toArray, List.set_cons_zero, List.set_cons_succ]
                    refine takeN (v := ?_) 1 rfl (by kernel_rfl) (by kernel_rfl) (by kernel_rfl) (fun _ _ _ h => h) (by rfl) ?_ hHeld0 ?_
                    rotate_left
                    · intro w hSw; (try dsimp only at hSw); go_simp; with_reducible rfl
                    try simp only [Act.put, List.setIfInBounds_toArray, List.set_cons_zero, List.set_cons_succ]
                    refine takeN (v := ?_) 2 rfl (by kernel_rfl) (by kernel_rfl) (by kernel_rfl) (fun _ _ _ h => h) (by rfl) ?_ hHeld0 ?_
                    rotate_left
                    · intro w hSw; (try dsimp only at hSw); go_simp; with_reducible rfl
                    try simp only [Act.put, List.setIfInBounds_toArray, List.set_cons_zero, List.set_cons_succ]
                    refine wpAnyH_ready (rs := [3]) (by kernel_rfl) (by simp) ?_
                    refine readyN rfl (fun K hK => ?_) ?_
                    · -- operation 3
                      go_simp
                      go_wp2_with (
                          fail)
                      refine hK.out _ _ ?_ (fun hHeld1 => ?_)
                      · dsimp only
                      clear hK K hHeld0
                      try simp only [Act.put, List.setIfInBounds_toArray, List.set_cons_zero, List.set_cons_succ]
                      refine skipN 4 rfl (by kernel_rfl) (by kernel_rfl) (by kernel_rfl) (fun _ _ _ h => h) (by rfl) hHeld1 ?_
                      try simp only [Act.put, List.setIfInBounds_toArray, List.set_cons_zero, List.set_cons_succ]
                      refine takeN (v := ?_) 5 rfl (by kernel_rfl) (by kernel_rfl) (by kernel_rfl) (fun _ _ _ h => h) (by rfl) ?_ hHeld1 ?_
                      rotate_left
                      · intro w hSw; (try dsimp only at hSw); go_simp; with_reducible rfl
                      try simp only [Act.put, List.setIfInBounds_toArray, List.set_cons_zero, List.set_cons_succ]
                      refine takeN (v := ?_) 6 rfl (by kernel_rfl) (by kernel_rfl) (by kernel_rfl) (fun _ _ _ h => h) (by rfl) ?_ hHeld1 ?_
                      rotate_left
                      · intro w hSw; (try dsimp only at hSw); go_simp; with_reducible rfl
                      try simp only [Act.put, List.setIfInBounds_toArray, List.set_cons_zero, List.set_cons_succ]
                      refine skipN 7 rfl (by kernel_rfl) (by kernel_rfl) (by kernel_rfl) (fun _ _ _ h => h) (by rfl) hHeld1 ?_
                      try simp only [Act.put, List.setIfInBounds_toArray, List.set_cons_zero, List.set_cons_succ]
                      refine skipN 8 rfl (by kernel_rfl) (by kernel_rfl) (by kernel_rfl) (fun _ _ _ h => h) (by rfl) hHeld1 ?_
                      try simp only [Act.put, List.setIfInBounds_toArray, List.set_cons_zero, List.set_cons_succ]
                      refine skipN 9 rfl (by kernel_rfl) (by kernel_rfl) (by kernel_rfl) (fun _ _ _ h => h) (by rfl) hHeld1 ?_
                      try simp only [Act.put, List.setIfInBounds_toArray, List.set_cons_zero, List.set_cons_succ]
                      refine skipN 10 rfl (by kernel_rfl) (by kernel_rfl) (by kernel_rfl) (fun _ _ _ h => h) (by rfl) hHeld1 ?_
                      try simp only [Act.put, List.setIfInBounds_toArray, List.set_cons_zero, List.set_cons_succ]
                      refine skipN 11 rfl (by kernel_rfl) (by kernel_rfl) (by kernel_rfl) (fun _ _ _ h => h) (by rfl) hHeld1 ?_
                      try simp only [Act.put, List.setIfInBounds_toArray, List.set_cons_zero, List.set_cons_succ]
                      refine skipN 12 rfl (by kernel_rfl) (by kernel_rfl) (by kernel_rfl) (fun _ _ _ h => h) (by rfl) hHeld1 ?_
                      try simp only [Act.put, List.setIfInBounds_toArray, List.set_cons_zero, List.set_cons_succ]
                      refine skipN 13 rfl (by kernel_rfl) (by kernel_rfl) (by kernel_rfl) (fun _ _ _ h => h) (by rfl) hHeld1 ?_
                      try simp only [Act.put, List.setIfInBounds_toArray, List.set_cons_zero, List.set_cons_succ]
                      refine skipN 14 rfl (by kernel_rfl) (by kernel_rfl) (by kernel_rfl) (fun _ _ _ h => h) (by rfl) hHeld1 ?_
                      try simp only [Act.put, List.setIfInBounds_toArray, List.set_cons_zero, List.set_cons_succ]
                      refine skipN 15 rfl (by kernel_rfl) (by kernel_rfl) (by kernel_rfl) (fun _ _ _ h => h) (by rfl) hHeld1 ?_
                      try simp only [Act.put, List.setIfInBounds_toArray, List.set_cons_zero, List.set_cons_succ]
                      refine skipN 16 rfl (by kernel_rfl) (by kernel_rfl) (by kernel_rfl) (fun _ _ _ h => h) (by rfl) hHeld1 ?_
                      try simp only [Act.put, List.setIfInBounds_toArray, List.set_cons_zero, List.set_cons_succ]
                      refine skipN 17 rfl (by kernel_rfl) (by kernel_rfl) (by kernel_rfl) (fun _ _ _ h => h) (by rfl) hHeld1 ?_
                      try simp only [Act.put, List.setIfInBounds_toArray, List.set_cons_zero, List.set_cons_succ]
                      refine skipN 18 rfl (by kernel_rfl) (by kernel_rfl) (by kernel_rfl) (fun _ _ _ h => h) (by rfl) hHeld1 ?_
                      try simp only [Act.put, List.setIfInBounds_toArray, List.set_cons_zero, List.set_cons_succ]
                      refine takeN (v := ?_) 19 rfl (by kernel_rfl) (by kernel_rfl) (by kernel_rfl) (fun _ _ _ h => h) (by rfl) ?_ hHeld1 ?_
                      rotate_left
                      · intro w hSw; (try dsimp only at hSw); go_simp; with_reducible rfl
                      try simp only [Act.put, List.setIfInBounds_toArray, List.set_cons_zero, List.set_cons_succ]
                      refine wpAnyH_done (by kernel_rfl) ?_ _
                      go_wp2_with fail
                      refine ⟨⟨j + 1, up, by omega, by go_num, Lib.hid (fun h => HNX.out (by have := HW0.out.1 (by omega); omega)), Lib.hid (fun h _ => absurd h HLN.out), Lib.hid (fun _ => ⟨_, by rw [Nat.add_sub_cancel]; exact HT.out, rfl⟩), Lib.hid ⟨fun h => by omega, by omega⟩, Lib.hid (below_drewN HB.out _)⟩, by simp [intOf]; omega⟩
                    exact AllReadyH.nil
    · obtain rfl : j = L.length := by omega
      by_cases h1 : (L.length : Int) ≥ 1
      · have hG := HE.out rfl (by omega)
        by_cases h4 : (L.length : Int) ≤ 4
        · have hR2 : R = true := by rw [HGE.out, hG, decide_eq_true ⟨by omega, by omega⟩]; rfl
          obtain rfl := hR2
          clear hG
          go_wp2_with fail
          go_ret
          exact ⟨rfl, HB.out⟩
        · have hR2 : R = false := by rw [HGE.out, decide_eq_false (fun h => h4 (by omega))]; rfl
          obtain rfl := hR2
          clear hG
          go_wp2_with fail
          go_ret
          exact ⟨rfl, HB.out⟩
      · have hR2 : R = false := by rw [HGE.out, decide_eq_false (fun h => h1 (by omega))]; rfl
        obtain rfl := hR2
        go_wp2_with fail
        go_ret
        exact ⟨rfl, HB.out⟩
end Go.Proofs.YtidppalhjknlfaaGreatDoor
