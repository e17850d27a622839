/- A month's segments and days, in plain words. -/
import Derived.Test.YtidppalhjknlfaaDoorQCyLaw2
namespace Go.Proofs.YtidppalhjknlfaaDoor
open Go.RowKit
set_option linter.unusedVariables false
set_option linter.unusedSimpArgs false
theorem upto_idx (d : Int) : ∀ {L : List Sg}, Up L → ∀ {i : Nat} {y : Sg}, L[i]? = some y → (y.day ≤ d ↔ i < (upto L d).length)
  | [], _, i, y, h => by simp at h
  | x :: L, hu, i, y, h => by
    obtain ⟨h1, h2⟩ := List.pairwise_cons.1 hu
    by_cases hx : x.day ≤ d
    · have e : upto (x :: L) d = x :: upto L d := by unfold upto; rw [List.takeWhile_cons_of_pos (by simpa using hx)]
      rw [e, List.length_cons]
      cases i with
      | zero =>
        simp at h; subst h
        exact ⟨fun _ => by omega, fun _ => hx⟩
      | succ i =>
        have := upto_idx d h2 (i := i) (y := y) (by simpa using h)
        rw [this]; omega
    · have e : upto (x :: L) d = [] := by unfold upto; rw [List.takeWhile_cons_of_neg (by simpa using hx)]
      rw [e]
      cases i with
      | zero =>
        simp at h; subst h
        exact ⟨fun h => absurd h hx, fun h => by simp at h⟩
      | succ i =>
        have hm : y ∈ L := List.mem_of_getElem? (by simpa using h)
        have := h1 y hm
        exact ⟨fun h => by omega, fun h => by simp at h⟩
/-- when a month's segment begins; behind the last: the month's end -/
def dayX (E : Int) (X : List Sg) (i : Nat) : Int := match X[i]? with | some g => g.day | none => E
theorem dayAt_eq (E : Int) (X : List Sg) (i : Nat) : dayAt E X i = max 0 (dayX E X (i + 1) - dayX E X i) := rfl
structure Whole (ts : List Tn) (ten : Int) (F E D : Int) (X : List Sg) : Prop where
  pos : 0 < X.length
  head : dayX E X 0 = max F D
  inc : ∀ i, i < X.length → dayX E X i < dayX E X (i + 1)
  low : ∀ i, i < X.length → F ≤ dayX E X i
  top : ∀ i, dayX E X i ≤ E
  at_ : ∀ (i : Nat) g t, X[i]? = some g → dayX E X i ≤ t → t < dayX E X (i + 1) → atP ts ten t = some g.plan
def headMax (F : Int) : List Sg → List Sg
  | [] => []
  | g :: r => ⟨max g.day F, g.plan⟩ :: r
theorem monthL_eq (L : List Sg) (M : Int) : monthL L M = headMax (Cal.first M) ((upto L (Cal.first M + Cal.len M - 1)).drop ((upto L (Cal.first M)).length - 1)) := by
  unfold monthL
  cases (upto L (Cal.first M + Cal.len M - 1)).drop ((upto L (Cal.first M)).length - 1) <;> rfl
theorem whole_law {ts : List Tn} {ten M : Int} {T : Tn} (hT : tfind ts ten = some T) (hok : T.Ok) (h1 : 12 ≤ M) (h2 : M < 120000) (hd : T.day < Cal.first M + Cal.len M) :
    upto T.L (Cal.first M + Cal.len M - 1) ≠ [] ∧ Whole ts ten (Cal.first M) (Cal.first M + Cal.len M) T.day (monthL T.L M) := by
  have hlb := Cal.len_bd M
  have hu : Up T.L := hok.up
  obtain ⟨p0, r0, hhead⟩ := hok.head
  rw [monthL_eq]
  generalize Cal.first M = F at *
  generalize Cal.len M = N at *
  obtain ⟨L, hL⟩ : ∃ L, L = T.L := ⟨_, rfl⟩
  rw [← hL] at hu hhead ⊢
  have hatp : ∀ t, atP ts ten t = (upto L t).getLast?.map Sg.plan := fun t => by unfold atP; rw [hT, hL]; rfl
  obtain ⟨E, hE⟩ : ∃ E, E = F + N := ⟨_, rfl⟩
  rw [← hE] at hd ⊢
  have hL0 : L[0]? = some ⟨T.day, p0⟩ := by rw [hhead]; rfl
  have hday0 : ∀ (i : Nat) y, L[i]? = some y → T.day ≤ y.day := fun i y hy => by
    cases i with
    | zero => rw [hL0] at hy; cases hy; exact Int.le_refl _
    | succ i =>
      rw [hhead] at hy hu
      have := (List.pairwise_cons.1 hu).1 y (List.mem_of_getElem? (show r0[i]? = some y by simpa using hy))
      dsimp only at this; omega
  have hlt : ∀ {i j : Nat} {y z : Sg}, L[i]? = some y → L[j]? = some z → i < j → y.day < z.day := fun {i j y z} hy hz hij => by
    rw [Up, List.pairwise_iff_getElem] at hu
    have a := List.getElem?_eq_some_iff.1 hy
    have b := List.getElem?_eq_some_iff.1 hz
    have := hu i j a.1 b.1 hij
    rw [a.2, b.2] at this
    exact this
  obtain ⟨n, hn⟩ : ∃ n, n = (upto L (E - 1)).length := ⟨_, rfl⟩
  obtain ⟨k, hk⟩ : ∃ k, k = (upto L F).length := ⟨_, rfl⟩
  have hnL : n ≤ L.length := by rw [hn]; exact upto_len _ _
  have hkn : k ≤ n := by rw [hn, hk]; exact upto_mono (by omega)
  have hiU : ∀ {i : Nat} {y : Sg}, L[i]? = some y → (y.day ≤ E - 1 ↔ i < n) := fun h => by rw [hn]; exact upto_idx (E - 1) hu h
  have hiF : ∀ {i : Nat} {y : Sg}, L[i]? = some y → (y.day ≤ F ↔ i < k) := fun h => by rw [hk]; exact upto_idx F hu h
  have hn0 : 0 < n := (hiU hL0).1 (by show T.day ≤ E - 1; omega)
  have hUt : upto L (E - 1) = L.take n := by rw [hn]; exact upto_take _ _
  obtain ⟨q, hq⟩ : ∃ q, q = k - 1 := ⟨_, rfl⟩
  have hqn : q < n := by omega
  rw [← hk, ← hq, hUt]
  refine ⟨fun e => by have := congrArg List.length e; rw [List.length_take, List.length_nil] at this; omega, ?_⟩
  obtain ⟨X, hX⟩ : ∃ X : List Sg, X = headMax F ((L.take n).drop q) := ⟨_, rfl⟩
  rw [← hX]
  have hxget : ∀ i, X[i]? = ((L.take n)[q + i]?).map fun y => if i = 0 then ⟨max y.day F, y.plan⟩ else y := fun i => by
    rw [hX]
    have hg : ((L.take n).drop q)[i]? = (L.take n)[q + i]? := List.getElem?_drop
    cases hdr : (L.take n).drop q with
    | nil => rw [hdr] at hg; rw [← hg]; simp [headMax]
    | cons g r =>
      rw [hdr] at hg
      rw [← hg]
      cases i with
      | zero => simp [headMax]
      | succ i => simp [headMax]
  have hin : ∀ {i : Nat}, q + i < n → ∃ y, L[q + i]? = some y ∧ X[i]? = some (if i = 0 then ⟨max y.day F, y.plan⟩ else y) := fun {i} h => by
    obtain ⟨y, hy⟩ : ∃ y, L[q + i]? = some y := ⟨_, List.getElem?_eq_getElem (by omega)⟩
    exact ⟨y, hy, by rw [hxget, List.getElem?_take, if_pos h, hy]; rfl⟩
  have hout : ∀ {i : Nat}, ¬ q + i < n → X[i]? = none := fun {i} h => by rw [hxget, List.getElem?_take, if_neg h]; rfl
  have hlen : X.length = n - q := by
    rcases Nat.lt_trichotomy X.length (n - q) with h | h | h
    · obtain ⟨y, _, hy⟩ := hin (i := X.length) (by omega)
      rw [List.getElem?_eq_none (Nat.le_refl _)] at hy; cases hy
    · exact h
    · have := hout (i := n - q) (by omega)
      rw [List.getElem?_eq_getElem h] at this; cases this
  have hdin : ∀ {i : Nat} {y : Sg}, q + i < n → L[q + i]? = some y → dayX E X i = if i = 0 then max y.day F else y.day := fun {i y} h hy => by
    obtain ⟨y', hy', hx⟩ := hin h
    rw [hy] at hy'; cases hy'
    unfold dayX; rw [hx]
    by_cases h0 : i = 0 <;> simp [h0]
  have hdout : ∀ {i : Nat}, ¬ q + i < n → dayX E X i = E := fun {i} h => by unfold dayX; rw [hout h]
  have hbig : ∀ {i : Nat} {y : Sg}, 1 ≤ i → L[q + i]? = some y → F < y.day := fun {i y} hi hy => by
    have := hiF hy
    omega
  refine ⟨by omega, ?_, fun i hi => ?_, fun i hi => ?_, fun i => ?_, fun i g t hg ha hb => ?_⟩
  · obtain ⟨y, hy, _⟩ := hin (i := 0) (by omega)
    rw [hdin (by omega) hy, if_pos rfl]
    have h3 := hiF hy
    have h4 := hday0 _ _ hy
    by_cases hk0 : k = 0
    · have hq0 : q + 0 = 0 := by omega
      rw [hq0] at hy h3
      rw [hL0] at hy; cases hy
      dsimp only at *
      omega
    · omega
  · obtain ⟨y, hy, _⟩ := hin (i := i) (by omega)
    have hyE := (hiU hy).2 (by omega)
    rw [hdin (by omega) hy]
    by_cases hnx : q + (i + 1) < n
    · obtain ⟨z, hz, _⟩ := hin (i := i + 1) hnx
      rw [hdin hnx hz, if_neg (show ¬ (i + 1 = 0) by omega)]
      have h3 := hlt hy hz (by omega)
      have h4 := hbig (i := i + 1) (by omega) hz
      split <;> omega
    · rw [hdout hnx]
      split <;> omega
  · obtain ⟨y, hy, _⟩ := hin (i := i) (by omega)
    rw [hdin (by omega) hy]
    split
    · omega
    · have := hbig (i := i) (by omega) hy
      omega
  · by_cases h : q + i < n
    · obtain ⟨y, hy, _⟩ := hin h
      rw [hdin h hy]
      have := (hiU hy).2 h
      split <;> omega
    · rw [hdout h]; exact Int.le_refl _
  · have hi : q + i < n := by
      rcases Nat.lt_or_ge (q + i) n with h | h
      · exact h
      · rw [hout (by omega)] at hg; cases hg
    obtain ⟨y, hy, hx⟩ := hin hi
    rw [hx] at hg
    have hgp : g.plan = y.plan := by
      injection hg with hg
      rw [← hg]
      split <;> rfl
    rw [hdin hi hy] at ha
    have hyt : y.day ≤ t := by split at ha <;> omega
    have hlen2 : (upto L t).length = q + i + 1 := by
      have a1 := (upto_idx t hu hy).1 hyt
      rcases Nat.lt_or_ge (q + i + 1) (upto L t).length with h | h
      · exfalso
        have hlL := upto_len L t
        obtain ⟨z, hz⟩ : ∃ z, L[q + i + 1]? = some z := ⟨_, List.getElem?_eq_getElem (by omega)⟩
        have hzt := (upto_idx t hu hz).2 h
        by_cases hnx : q + (i + 1) < n
        · rw [hdin hnx (show L[q + (i + 1)]? = some z from hz), if_neg (show ¬ (i + 1 = 0) by omega)] at hb
          omega
        · rw [hdout hnx] at hb
          have := (hiU hz).1 (by omega)
          omega
      · omega
    rw [hatp, List.getLast?_eq_getElem?, hlen2, Nat.add_sub_cancel, ← upto_get L t (q + i) (by omega), hy, hgp]; rfl
theorem Whole.len {ts : List Tn} {ten F E D : Int} {X : List Sg} (h : Whole ts ten F E D X) : F + X.length ≤ E := by
  have key : ∀ i, i ≤ X.length → F + (i : Int) ≤ dayX E X i := by
    intro i
    induction i with
    | zero =>
      intro _
      have := h.low 0 h.pos
      omega
    | succ i ih =>
      intro hi
      have h1 := ih (by omega)
      have h2 := h.inc i (by omega)
      omega
  have h1 := key X.length (Nat.le_refl _)
  have h2 := h.top X.length
  omega
theorem dayX_get {E : Int} {X : List Sg} {i : Nat} {g : Sg} (h : X[i]? = some g) : dayX E X i = g.day := by unfold dayX; rw [h]
theorem dayX_end (E : Int) (X : List Sg) : dayX E X X.length = E := by unfold dayX; rw [List.getElem?_eq_none (Nat.le_refl _)]
theorem whole_late {M : Int} {T : Tn} (hok : T.Ok) (hd : ¬ T.day < Cal.first M + Cal.len M) : upto T.L (Cal.first M + Cal.len M - 1) = [] := by
  obtain ⟨p0, r0, hhead⟩ := hok.head
  rw [hhead]
  unfold upto
  rw [List.takeWhile_cons_of_neg (by simp; omega)]
end Go.Proofs.YtidppalhjknlfaaDoor
