/- Changes and the plan in force, in plain words. -/
import Derived.Test.YtidppalhjknlfaaDoorQCy8
import Derived.Test.YtidppalhjknlfaaDoorQCy10
namespace Go.Proofs.YtidppalhjknlfaaDoor
open Go.RowKit
set_option linter.unusedVariables false
set_option linter.unusedSimpArgs false
abbrev Up (L : List Sg) : Prop := L.Pairwise fun a b => a.day < b.day
theorem upto_filter {L : List Sg} (hu : Up L) (d : Int) : upto L d = L.filter fun g => decide (g.day ≤ d) := by
  induction L with
  | nil => rfl
  | cons x L ih =>
    obtain ⟨h1, h2⟩ := List.pairwise_cons.1 hu
    unfold upto at ih ⊢
    by_cases hx : x.day ≤ d
    · rw [List.takeWhile_cons_of_pos (by simpa using hx), List.filter_cons_of_pos (by simpa using hx), ih h2]
    · rw [List.takeWhile_cons_of_neg (by simpa using hx), List.filter_cons_of_neg (by simpa using hx)]
      symm
      rw [List.filter_eq_nil_iff]
      intro y hy
      have := h1 y hy
      simp; omega
theorem chgL_up {L : List Sg} (hu : Up L) {g : Sg} (hl : ∀ x ∈ L, x.day ≤ g.day) : Up (chgL L g) := by
  unfold chgL
  refine List.pairwise_append.2 ⟨hu.sublist List.filter_sublist, List.pairwise_singleton _ _, fun a ha b hb => ?_⟩
  obtain rfl := List.mem_singleton.1 hb
  obtain ⟨h1, h2⟩ := List.mem_filter.1 ha
  have := hl a h1
  have := of_decide_eq_true h2
  omega
theorem upto_chg_lt {L : List Sg} (hu : Up L) {g : Sg} (hl : ∀ x ∈ L, x.day ≤ g.day) {d : Int} (hd : d < g.day) : upto (chgL L g) d = upto L d := by
  rw [upto_filter (chgL_up hu hl), upto_filter hu]
  unfold chgL
  rw [List.filter_append, List.filter_filter, List.filter_cons_of_neg (by simp; omega), List.filter_nil, List.append_nil]
  refine List.filter_congr fun x hx => ?_
  by_cases h : x.day ≤ d
  · have : x.day ≠ g.day := by omega
    simp [h, this]
  · simp [h]
theorem upto_chg_ge {L : List Sg} (hu : Up L) {g : Sg} (hl : ∀ x ∈ L, x.day ≤ g.day) {d : Int} (hd : g.day ≤ d) : (upto (chgL L g) d).getLast? = some g := by
  rw [upto_filter (chgL_up hu hl)]
  unfold chgL
  rw [List.filter_append, List.filter_cons_of_pos (by simpa using hd), List.filter_nil, List.getLast?_append]
  simp
theorem chgE_cases (ps : List Pl) (ts : List Tn) (t i d : Int) : chgE ps ts t i d = 0 ∨ chgE ps ts t i d = 1 ∨ chgE ps ts t i d = 3 ∨ chgE ps ts t i d = 4 := by
  unfold chgE
  split
  · exact .inr (.inr (.inr rfl))
  · split
    · exact .inr (.inr (.inr rfl))
    · split
      · exact .inr (.inl rfl)
      · split
        · exact .inr (.inr (.inl rfl))
        · exact .inl rfl
theorem chgE_ok {ps : List Pl} {ts : List Tn} {t i d : Int} (h : chgE ps ts t i d = 0) : ∃ T, tfind ts t = some T ∧ lastD T.L ≤ d ∧ isDate d = true := by
  unfold chgE at h
  split at h
  · cases h
  · rename_i T hT
    refine ⟨T, hT, ?_⟩
    split at h
    · cases h
    · split at h
      · cases h
      · rename_i h1
        refine ⟨by omega, ?_⟩
        cases hh : isDate d
        · exact absurd (.inl hh) h1
        · rfl
theorem tfind_chg {ps : List Pl} {ts : List Tn} {t i d : Int} {T : Tn} (h : chgE ps ts t i d = 0) (hT : tfind ts t = some T) : tfind (chgT ps ts t i d) t = some { T with L := chgL T.L ⟨d, i⟩ } := by
  unfold chgT
  rw [if_pos h, tfind_set, if_pos rfl, hT]
  unfold tsegs
  rw [hT]; rfl
theorem at_chg_lt {ps : List Pl} {ts : List Tn} {t i n d : Int} (hok : ∀ T, tfind ts t = some T → T.Ok) (h : chgE ps ts t i n = 0) (hd : d < n) : atP (chgT ps ts t i n) t d = atP ts t d := by
  obtain ⟨T, hT, hl, _⟩ := chgE_ok h
  have hu := (hok T hT).up
  unfold atP
  rw [tfind_chg h hT, hT]
  show ((upto (chgL T.L ⟨n, i⟩) d).getLast?).map Sg.plan = _
  rw [upto_chg_lt hu (fun x hx => by have := last_max hu hx; show x.day ≤ n; omega) hd]; rfl
theorem at_chg_ge {ps : List Pl} {ts : List Tn} {t i n d : Int} (hok : ∀ T, tfind ts t = some T → T.Ok) (h : chgE ps ts t i n = 0) (hd : n ≤ d) : atP (chgT ps ts t i n) t d = some i := by
  obtain ⟨T, hT, hl, _⟩ := chgE_ok h
  have hu := (hok T hT).up
  unfold atP
  rw [tfind_chg h hT]
  show ((upto (chgL T.L ⟨n, i⟩) d).getLast?).map Sg.plan = _
  rw [upto_chg_ge hu (fun x hx => by have := last_max hu hx; show x.day ≤ n; omega) hd]; rfl
end Go.Proofs.YtidppalhjknlfaaDoor
