/- The document's book: what Month makes day by day is the month's segments. -/
import Derived.Test.YtidppalhjknlfaaGreatDoorQBkAt
namespace Go.Proofs.YtidppalhjknlfaaGreatDoor
open Go.RowKit
set_option maxRecDepth 100000
set_option maxHeartbeats 4000000
set_option linter.unusedVariables false
set_option linter.unusedSimpArgs false
def beg (o : Bool) (L : List Sg) (D : Int) (j : Nat) : Bool := o || (L.take j).any fun g => decide (g.day = D)
theorem beg_step {o : Bool} {L : List Sg} {D : Int} {j : Nat} {x : Sg} (hx : L[j]? = some x) : beg o L D (j + 1) = (beg o L D j || decide (x.day = D)) := by
  unfold beg
  rw [List.take_add_one, hx, List.any_append, Bool.or_assoc]
  simp
def outL (L : List Sg) (f : Int) : Nat → List Sg
  | 0 => []
  | j + 1 => match (upto L (f + j)).getLast? with
    | none => outL L f j
    | some g => if beg (outL L f j).isEmpty L (f + j) L.length = true then outL L f j ++ [⟨f + j, g.plan⟩] else outL L f j
theorem outL_len (L : List Sg) (f : Int) : ∀ j, (outL L f j).length ≤ j
  | 0 => Nat.le_refl _
  | j + 1 => by
    have ih := outL_len L f j
    unfold outL
    split
    · omega
    · split
      · simp; omega
      · omega
def mD (L : List Sg) (f e : Int) : List Sg :=
  match (upto L e).drop ((upto L f).length - 1) with
  | [] => []
  | g :: r => ⟨max g.day f, g.plan⟩ :: r
theorem upto_has {L : List Sg} (hu : Up L) {g : Sg} (hg : g ∈ L) : upto L g.day = upto L (g.day - 1) ++ [g] := by
  obtain ⟨j, hj, hgj⟩ := List.mem_iff_getElem.1 hg
  have hgj' : L[j]? = some g := by rw [List.getElem?_eq_getElem hj, hgj]
  have hlt : ∀ (i : Nat) y, i < j → L[i]? = some y → y.day < g.day := fun i y hi hy => by
    obtain ⟨hi', rfl⟩ := List.getElem?_eq_some_iff.1 hy
    rw [← hgj]
    exact (List.pairwise_iff_getElem.1 hu) i j hi' hj hi
  have e1 : upto L (g.day - 1) = L.take j := upto_at _ L j g (fun i y hi hy => by have := hlt i y hi hy; omega) hgj' (by omega)
  have e2 : upto L g.day = L.take (j + 1) := by
    by_cases hn : j + 1 < L.length
    · refine upto_at _ L (j + 1) _ (fun i y hi hy => ?_) (List.getElem?_eq_getElem hn) ?_
      · by_cases hij : i = j
        · subst hij; rw [hgj'] at hy; cases hy; exact Int.le_refl _
        · have := hlt i y (by omega) hy; omega
      · rw [← hgj]; exact (List.pairwise_iff_getElem.1 hu) j (j + 1) hj hn (by omega)
    · rw [List.take_of_length_le (by omega)]
      refine upto_all _ L (fun i y hy => ?_)
      by_cases hij : i = j
      · subst hij; rw [hgj'] at hy; cases hy; exact Int.le_refl _
      · have := hlt i y (by have := (List.getElem?_eq_some_iff.1 hy).1; omega) hy; omega
  rw [e1, e2, List.take_add_one, hgj']; rfl
theorem upto_no {L : List Sg} (hu : Up L) {e : Int} (h : ∀ g ∈ L, g.day ≠ e) : upto L e = upto L (e - 1) := by
  rw [upto_filter hu, upto_filter hu]
  refine List.filter_congr (fun x hx => ?_)
  have := h x hx
  rw [decide_eq_decide]; omega
theorem upto_le : ∀ (L : List Sg) {e : Int} {g : Sg}, g ∈ upto L e → g.day ≤ e
  | [], _, _, h => by simp [upto] at h
  | a :: L, e, g, h => by
    unfold upto at h
    by_cases ha : a.day ≤ e
    · rw [List.takeWhile_cons_of_pos (by simpa using ha)] at h
      rcases List.mem_cons.1 h with rfl | h
      · exact ha
      · exact upto_le L h
    · rw [List.takeWhile_cons_of_neg (by simpa using ha)] at h; simp at h
theorem upto_last {L : List Sg} {e : Int} {g : Sg} (h : (upto L e).getLast? = some g) : g.day ≤ e := by
  have hm : g ∈ upto L e := List.mem_of_getLast? h
  exact upto_le L hm
theorem mD_nil {L : List Sg} {f e : Int} (h : f ≤ e) : mD L f e = [] ↔ upto L e = [] := by
  have hm := upto_mono (L := L) h
  unfold mD
  constructor
  · intro hx
    cases hd : (upto L e).drop ((upto L f).length - 1) with
    | nil =>
      rw [List.drop_eq_nil_iff] at hd
      exact List.eq_nil_of_length_eq_zero (by omega)
    | cons a r => rw [hd] at hx; cases hx
  · intro hx; rw [hx]; simp
theorem mD_one {L : List Sg} {f : Int} : mD L f f = match (upto L f).getLast? with | none => [] | some g => [⟨f, g.plan⟩] := by
  unfold mD
  cases hl : (upto L f).getLast? with
  | none => rw [List.getLast?_eq_none_iff.1 hl]; rfl
  | some g =>
    have hle := upto_last hl
    obtain ⟨r, hr⟩ := List.getLast?_eq_some_iff.1 hl
    rw [hr, List.length_append, List.length_singleton, Nat.add_sub_cancel, List.drop_left]
    show [(⟨max g.day f, g.plan⟩ : Sg)] = _
    rw [show max g.day f = f by omega]
theorem beg_all {o : Bool} {L : List Sg} {D : Int} : beg o L D L.length = true ↔ o = true ∨ ∃ g ∈ L, g.day = D := by
  unfold beg
  rw [List.take_length]; simp
theorem outL_eq {L : List Sg} (hu : Up L) (f : Int) : ∀ n : Nat, outL L f (n + 1) = mD L f (f + n)
  | 0 => by
    unfold outL
    rw [show f + ((0 : Nat) : Int) = f by omega, mD_one]
    cases (upto L f).getLast? with
    | none => rfl
    | some g => rfl
  | n + 1 => by
    have ih := outL_eq hu f n
    obtain ⟨O, hO⟩ : ∃ O, O = outL L f (n + 1) := ⟨_, rfl⟩
    unfold outL
    rw [← hO] at ih ⊢
    have hfe : f ≤ f + (n : Int) := by omega
    have hm := upto_mono (L := L) hfe
    have he : f + ((n + 1 : Nat) : Int) - 1 = f + n := by omega
    by_cases hg : ∃ g ∈ L, g.day = f + ((n + 1 : Nat) : Int)
    · obtain ⟨g, hg, hgd⟩ := hg
      have e1 := upto_has hu hg
      rw [hgd, he] at e1
      rw [e1, List.getLast?_concat]
      dsimp only
      rw [if_pos (beg_all.2 (.inr ⟨g, hg, hgd⟩)), ← hgd, ih]
      unfold mD
      rw [hgd, e1, List.drop_append_of_le_length (by omega)]
      have hgg : (⟨f + ((n + 1 : Nat) : Int), g.plan⟩ : Sg) = g := by rw [← hgd]
      cases hd : (upto L (f + n)).drop ((upto L f).length - 1) with
      | nil =>
        show [(⟨f + ((n + 1 : Nat) : Int), g.plan⟩ : Sg)] = [⟨max g.day f, g.plan⟩]
        rw [show max g.day f = f + ((n + 1 : Nat) : Int) by omega]
      | cons a r => show _ :: (r ++ [(⟨f + ((n + 1 : Nat) : Int), g.plan⟩ : Sg)]) = _ :: (r ++ [g]); rw [hgg]
    · have e1 : upto L (f + ((n + 1 : Nat) : Int)) = upto L (f + n) := by
        rw [upto_no hu (fun g h1 h2 => hg ⟨g, h1, h2⟩), he]
      have e2 : mD L f (f + ((n + 1 : Nat) : Int)) = mD L f (f + n) := by unfold mD; rw [e1]
      rw [e2, e1]
      cases hl : (upto L (f + n)).getLast? with
      | none => exact ih
      | some g =>
        dsimp only
        have hne : O ≠ [] := fun e => by
          rw [e] at ih
          rw [(mD_nil hfe).1 ih.symm] at hl; cases hl
        rw [if_neg (fun h => by
          rcases beg_all.1 h with h | h
          · exact hne (List.isEmpty_iff.1 h)
          · exact hg h)]
        exact ih
theorem outL_month {L : List Sg} (hu : Up L) (M : Int) (n : Nat) (hn : 0 < n) (he : (n : Int) = Cal.len M) : outL L (Cal.first M) n = monthL L M := by
  cases n with
  | zero => omega
  | succ k =>
    rw [outL_eq hu]
    unfold mD monthL
    rw [show Cal.first M + Cal.len M - 1 = Cal.first M + (k : Int) by omega]
    generalize List.drop _ _ = R
    cases R <;> rfl
theorem monthL_nil {L : List Sg} (M : Int) : monthL L M = [] ↔ upto L (Cal.first M + Cal.len M - 1) = [] :=
  mD_nil (L := L) (f := Cal.first M) (e := Cal.first M + Cal.len M - 1) (by have := Cal.len_bd M; omega)
end Go.Proofs.YtidppalhjknlfaaGreatDoor
