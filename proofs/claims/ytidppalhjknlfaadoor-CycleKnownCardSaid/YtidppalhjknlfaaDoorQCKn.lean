/- What CycleKnown's acts answer, in plain words. (Printed by wip/gen/cknown.py.) -/
import Derived.Test.YtidppalhjknlfaaDoorQGo21
import Derived.Test.YtidppalhjknlfaaDoorQIn21
import Derived.Test.YtidppalhjknlfaaDoorQCyLaw2
namespace Go.Proofs.YtidppalhjknlfaaDoor
open Go.RowKit
set_option maxRecDepth 100000
set_option maxHeartbeats 2000000
set_option linter.unusedVariables false
set_option linter.unusedSimpArgs false
def k1 : List Tn := [⟨7, 0, 9, [⟨9, 2⟩]⟩]
theorem ko1 : opnE ps12 [] 0 0 1 9 = 1 ∧ opnT ps12 [] 0 0 1 9 = [] := by
  have e : opnE ps12 [] 0 0 1 9 = 1 := by decide +kernel
  exact ⟨e, by unfold opnT; rw [e, if_neg (by decide)]⟩
theorem ko2 : opnE ps12 [] 7 901 1 9 = 1 ∧ opnT ps12 [] 7 901 1 9 = [] := by
  have e : opnE ps12 [] 7 901 1 9 = 1 := by decide +kernel
  exact ⟨e, by unfold opnT; rw [e, if_neg (by decide)]⟩
theorem ko3 : opnE ps12 [] 7 0 1 1099511627776 = 1 ∧ opnT ps12 [] 7 0 1 1099511627776 = [] := by
  have e : opnE ps12 [] 7 0 1 1099511627776 = 1 := by decide +kernel
  exact ⟨e, by unfold opnT; rw [e, if_neg (by decide)]⟩
theorem ko4 : opnE ps12 [] 7 0 9 9 = 4 ∧ opnT ps12 [] 7 0 9 9 = [] := by
  have e : opnE ps12 [] 7 0 9 9 = 4 := by decide +kernel
  exact ⟨e, by unfold opnT; rw [e, if_neg (by decide)]⟩
theorem ko6 : opnE ps12 g1 7 0 1 9 = 5 ∧ opnT ps12 g1 7 0 1 9 = g1 := by
  have e : opnE ps12 g1 7 0 1 9 = 5 := by decide +kernel
  exact ⟨e, by unfold opnT; rw [e, if_neg (by decide)]⟩
theorem kc1 : chgE ps12 g1 8 1 9 = 4 ∧ chgT ps12 g1 8 1 9 = g1 := by
  have e : chgE ps12 g1 8 1 9 = 4 := by rfl
  exact ⟨e, by unfold chgT; rw [e, if_neg (by decide)]⟩
theorem kc2 : chgE ps12 g1 7 9 9 = 4 ∧ chgT ps12 g1 7 9 9 = g1 := by
  have e : chgE ps12 g1 7 9 9 = 4 := by
    unfold chgE; show (if (pfind ps12 9).isNone = true then (4 : Int) else _) = 4; rw [if_pos (by decide +kernel)]
  exact ⟨e, by unfold chgT; rw [e, if_neg (by decide)]⟩
theorem kc3 : chgE ps12 g1 7 1 8 = 1 ∧ chgT ps12 g1 7 1 8 = g1 := by
  have e : chgE ps12 g1 7 1 8 = 1 := by
    unfold chgE
    show (if (pfind ps12 1).isNone = true then (4 : Int) else if isDate 8 = false ∨ 8 < lastD [⟨9, 1⟩] then 1 else _) = 1
    rw [if_neg (by decide +kernel), if_pos (by decide +kernel)]
  exact ⟨e, by unfold chgT; rw [e, if_neg (by decide)]⟩
theorem kc4 : chgE ps12 g1 7 2 9 = 0 ∧ chgT ps12 g1 7 2 9 = k1 := by
  have e : chgE ps12 g1 7 2 9 = 0 := by
    unfold chgE
    show (if (pfind ps12 2).isNone = true then (4 : Int) else if isDate 9 = false ∨ 9 < lastD [⟨9, 1⟩] then 1 else if 24 ≤ (manyL [⟨9, 1⟩] 9).length then 3 else 0) = 0
    rw [show (manyL [⟨9, 1⟩] 9) = [] from List.filter_cons_of_neg (by simp), if_neg (by decide +kernel), if_neg (by decide +kernel), if_neg (by decide)]
  exact ⟨e, by unfold chgT; rw [if_pos e]; rfl⟩
theorem kc5 : chgE ps12 k1 7 1 1099511627776 = 1 ∧ chgT ps12 k1 7 1 1099511627776 = k1 := by
  have e : chgE ps12 k1 7 1 1099511627776 = 1 := by
    unfold chgE
    show (if (pfind ps12 1).isNone = true then (4 : Int) else if isDate 1099511627776 = false ∨ 1099511627776 < lastD [⟨9, 2⟩] then 1 else _) = 1
    rw [if_neg (by decide +kernel), if_pos (by decide +kernel)]
  exact ⟨e, by unfold chgT; rw [e, if_neg (by decide)]⟩
theorem kd2 : defE ps12 (planP 2) = 5 ∧ defP ps12 (planP 2) = ps12 := by
  have e : defE ps12 (planP 2) = 5 := by
    unfold defE
    rw [planP_def 2 (by decide), if_neg (by decide), if_pos (by decide +kernel)]
  exact ⟨e, by unfold defP; rw [e, if_neg (by decide)]⟩
theorem kd0 : defE ps12 (planP 0) = 1 ∧ defP ps12 (planP 0) = ps12 := by
  have e : defE ps12 (planP 0) = 1 := by
    unfold defE
    rw [if_pos (by decide +kernel)]
  exact ⟨e, by unfold defP; rw [e, if_neg (by decide)]⟩
/-- a tenant's segments: one more each day -/
def segsK (n : Nat) : List Sg := ⟨0, 1⟩ :: (List.range n).map fun i => ⟨((i + 1 : Nat) : Int), 2⟩
def kt (n : Nat) : List Tn := [⟨7, 0, 0, segsK n⟩]
theorem segsK_len (n : Nat) : (segsK n).length = n + 1 := by simp [segsK]
theorem segsK_mem {n : Nat} {x : Sg} (h : x ∈ segsK n) : 0 ≤ x.day ∧ x.day ≤ n := by
  unfold segsK at h
  rcases List.mem_cons.1 h with rfl | h
  · exact ⟨by decide, by show (0 : Int) ≤ n; omega⟩
  · obtain ⟨i, hi, rfl⟩ := List.mem_map.1 h
    have := List.mem_range.1 hi
    exact ⟨by show (0 : Int) ≤ ((i + 1 : Nat) : Int); omega, by show ((i + 1 : Nat) : Int) ≤ n; omega⟩
theorem segsK_succ (n : Nat) : segsK (n + 1) = segsK n ++ [⟨((n + 1 : Nat) : Int), 2⟩] := by
  unfold segsK
  rw [List.range_succ, List.map_append]; rfl
theorem segsK_last (n : Nat) : lastD (segsK n) = n := by
  cases n with
  | zero => rfl
  | succ n =>
    rw [segsK_succ]
    unfold lastD
    rw [List.getLast?_append]; rfl
theorem segsK_many {n : Nat} {d : Int} (hn : (n : Int) < d) (hd : d ≤ 30) : manyL (segsK n) d = segsK n := by
  unfold manyL
  refine List.filter_eq_self.2 fun x hx => ?_
  have h1 := segsK_mem hx
  rw [mon70 x.day h1.1 (by omega), mon70 d (by omega) hd]
  exact decide_eq_true ⟨by omega, rfl⟩
theorem segsK_chg (n : Nat) : chgL (segsK n) ⟨((n + 1 : Nat) : Int), 2⟩ = segsK (n + 1) := by
  unfold chgL
  rw [List.filter_eq_self.2 (fun x hx => ?_), segsK_succ]
  have := segsK_mem hx
  exact decide_eq_true (by show x.day ≠ ((n + 1 : Nat) : Int); omega)
theorem pf2 : (pfind ps12 2).isNone = false := by decide +kernel
theorem pf1 : (pfind ps12 1).isNone = false := by decide +kernel
theorem kt_find (n : Nat) : tfind (kt n) 7 = some ⟨7, 0, 0, segsK n⟩ := rfl
theorem date30 {d : Int} (h0 : 0 ≤ d) (h1 : d ≤ 40) : isDate d = true := isDate_iff.2 ⟨by omega, by omega⟩
theorem kt_lt (n : Nat) (hn : n < 23) : chgE ps12 (kt n) 7 2 ((n + 1 : Nat) : Int) = 0 ∧ chgT ps12 (kt n) 7 2 ((n + 1 : Nat) : Int) = kt (n + 1) := by
  have e : chgE ps12 (kt n) 7 2 ((n + 1 : Nat) : Int) = 0 := by
    unfold chgE
    rw [kt_find]
    show (if (pfind ps12 2).isNone = true then (4 : Int) else if isDate ((n + 1 : Nat) : Int) = false ∨ ((n + 1 : Nat) : Int) < lastD (segsK n) then 1 else if 24 ≤ (manyL (segsK n) ((n + 1 : Nat) : Int)).length then 3 else 0) = 0
    rw [pf2, if_neg (by decide), segsK_last, date30 (by omega) (by omega), segsK_many (by omega) (by omega), segsK_len, if_neg (by simp; omega), if_neg (by omega)]
  refine ⟨e, ?_⟩
  unfold chgT
  rw [if_pos e]
  show tset (kt n) 7 (chgL (segsK n) ⟨((n + 1 : Nat) : Int), 2⟩) = kt (n + 1)
  rw [segsK_chg]; rfl
theorem kt_lt2 (j : Nat) (h1 : 1 ≤ j) (h2 : j ≤ 23) : chgE ps12 (kt (min (j - 1) 23)) 7 2 (j : Int) = 0 ∧ chgT ps12 (kt (min (j - 1) 23)) 7 2 (j : Int) = kt (min j 23) := by
  have h := kt_lt (j - 1) (by omega)
  rw [show j - 1 + 1 = j by omega] at h
  rw [show min (j - 1) 23 = j - 1 by omega, show min j 23 = j by omega]
  exact h
theorem kt_ge (d : Int) (h0 : 23 < d) (h1 : d ≤ 30) : chgE ps12 (kt 23) 7 2 d = 3 ∧ chgT ps12 (kt 23) 7 2 d = kt 23 := by
  have e : chgE ps12 (kt 23) 7 2 d = 3 := by
    unfold chgE
    rw [kt_find]
    show (if (pfind ps12 2).isNone = true then (4 : Int) else if isDate d = false ∨ d < lastD (segsK 23) then 1 else if 24 ≤ (manyL (segsK 23) d).length then 3 else 0) = 3
    rw [pf2, if_neg (by decide), segsK_last, date30 (by omega) (by omega), segsK_many (by omega) (by omega), segsK_len, if_neg (by simp; omega), if_pos (by omega)]
  exact ⟨e, by unfold chgT; rw [e, if_neg (by decide)]⟩
def kz : List Tn := tset (kt 23) 7 (chgL (segsK 23) ⟨23, 1⟩)
theorem kt_eq : chgE ps12 (kt 23) 7 1 23 = 0 ∧ chgT ps12 (kt 23) 7 1 23 = kz := by
  have e : chgE ps12 (kt 23) 7 1 23 = 0 := by
    unfold chgE
    rw [kt_find]
    show (if (pfind ps12 1).isNone = true then (4 : Int) else if isDate 23 = false ∨ 23 < lastD (segsK 23) then 1 else if 24 ≤ (manyL (segsK 23) 23).length then 3 else 0) = 0
    have hm : (manyL (segsK 23) 23).length ≤ 23 := by
      rw [segsK_succ 22]
      unfold manyL
      rw [List.filter_append, List.filter_cons_of_neg (by simp), List.filter_nil, List.append_nil]
      refine Nat.le_trans (List.length_filter_le _ _) ?_
      rw [segsK_len]; omega
    rw [pf1, if_neg (by decide), segsK_last, date30 (by omega) (by omega), if_neg (by simp), if_neg (by omega)]
  exact ⟨e, by unfold chgT; rw [if_pos e]; rfl⟩
theorem kz_any (d : Int) (h0 : 31 ≤ d) (h1 : d ≤ 31) : chgE ps12 kz 7 1 d = 0 := by
  obtain rfl : d = 31 := by omega
  unfold chgE
  show (if (pfind ps12 1).isNone = true then (4 : Int) else if isDate 31 = false ∨ 31 < lastD (chgL (segsK 23) ⟨23, 1⟩) then 1 else if 24 ≤ (manyL (chgL (segsK 23) ⟨23, 1⟩) 31).length then 3 else 0) = 0
  have hl : lastD (chgL (segsK 23) ⟨23, 1⟩) = 23 := by unfold chgL lastD; rw [List.getLast?_append]; rfl
  have hm31 : mon 31 = 23641 := mon_eq ⟨by decide +kernel, by decide +kernel⟩ (by decide) (by decide)
  have hm : manyL (chgL (segsK 23) ⟨23, 1⟩) 31 = [] := by
    unfold manyL
    refine List.filter_eq_nil_iff.2 fun x hx => ?_
    have hx2 : 0 ≤ x.day ∧ x.day ≤ 23 := by
      unfold chgL at hx
      rcases List.mem_append.1 hx with hx | hx
      · exact segsK_mem (List.mem_filter.1 hx).1
      · obtain rfl := List.mem_singleton.1 hx; exact ⟨by decide, by decide⟩
    rw [mon70 x.day hx2.1 (by omega), hm31]
    simp
  rw [pf1, if_neg (by decide), hl, hm, date30 (by omega) (by omega), if_neg (by simp), if_neg (by decide)]
theorem kt_open : opnE ps12 [] 7 0 1 0 = 0 ∧ opnT ps12 [] 7 0 1 0 = kt 0 := by
  have e : opnE ps12 [] 7 0 1 0 = 0 := by decide +kernel
  exact ⟨e, by unfold opnT; rw [if_pos e]; rfl⟩
theorem k_at : atP k1 7 9 = some 2 := by decide +kernel
theorem k_m1 : monE k1 7 23641 = 0 ∧ monV k1 7 23641 = [⟨31, 2⟩] := ⟨by decide +kernel, by decide +kernel⟩
theorem k_m2 : monE k1 7 23639 = 4 := by decide +kernel
theorem k_m3 : monE k1 7 11 = 1 := by decide +kernel
theorem k_p9 : pfind ps12 9 = none := by decide +kernel
theorem AS21.nil (w : World) : AS21 w (.slice none 0 0) [] := ⟨GR.nil w, by simp⟩
theorem u32 (n : Int) (h0 : 0 ≤ n) (h1 : n ≤ 4294967295) : U32 n := ⟨h0, h1⟩

end Go.Proofs.YtidppalhjknlfaaDoor
