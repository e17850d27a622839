/- LeaseOnce, the plain law: what the map of ends says of the leases. -/
import Derived.Test.YtidppalhjknlfaaUMap
import Derived.Test.YtidppalhjknlfaaLeLaw
namespace Go.Proofs.Ytidppalhjknlfaa
set_option linter.unusedVariables false
set_option linter.unusedSimpArgs false
structure OC (E : UM) (L : List Ls) (now : Int) : Prop where
  a : ∀ l ∈ L, UM.get l.id E = some l.exp
  b : ∀ k v, UM.get k E = some v → now < v → ∃ l ∈ L, l.id = k
  nd : UM.ND E
theorem OC.nil (now : Int) : OC [] [] now := ⟨by simp, fun k v h => by simp [UM.get] at h, List.nodup_nil⟩
theorem OC.later {E : UM} {L : List Ls} {now now' : Int} (h : OC E L now) (hn : now ≤ now') : OC E L now' := ⟨h.a, fun k v h1 h2 => h.b k v h1 (by omega), h.nd⟩
theorem OC.drop {E : UM} {L : List Ls} {now : Int} (h : OC E L now) (i : Int) : OC (UM.del i E) (dropL L i) now := by
  refine ⟨fun l hl => ?_, fun k v h1 h2 => ?_, UM.del_nd h.nd⟩
  · obtain ⟨h1, h2⟩ := List.mem_filter.1 hl
    rw [UM.get_del h.nd, if_neg (of_decide_eq_true h2)]; exact h.a l h1
  · rw [UM.get_del h.nd] at h1
    by_cases hk : k = i
    · rw [if_pos hk] at h1; cases h1
    · rw [if_neg hk] at h1
      obtain ⟨l, hl, e⟩ := h.b k v h1 h2
      exact ⟨l, List.mem_filter.2 ⟨hl, decide_eq_true (by rw [e]; exact hk)⟩, e⟩
/-- what the law holds a Drop against -/
theorem OC.told {E : UM} {L : List Ls} {now : Int} (h : OC E L now) (i : Int) : (dropE L i = 0 → ∃ v, UM.get i E = some v) ∧ (dropE L i ≠ 0 → ∀ v, UM.get i E = some v → ¬ now < v) := by
  unfold dropE
  constructor
  · intro hd
    by_cases hx : L.any (fun l => decide (l.id = i)) = true
    · obtain ⟨l, hl, e⟩ := List.any_eq_true.1 hx
      exact ⟨l.exp, by rw [← of_decide_eq_true e]; exact h.a l hl⟩
    · rw [if_neg hx] at hd; cases hd
  · intro hd v hv hlt
    obtain ⟨l, hl, e⟩ := h.b i v hv hlt
    exact hd (by rw [if_pos (List.any_eq_true.2 ⟨l, hl, decide_eq_true e⟩)])
theorem OC.add {E : UM} {L : List Ls} {now last : Int} (h : OC E L now) (hl : ∀ l ∈ L, l.id ≤ last) (x : Ls) : OC (UM.put (last + 1) x.exp E) (live now L ++ [{ x with id := last + 1 }]) now := by
  refine ⟨fun l hm => ?_, fun k v h1 h2 => ?_, UM.put_nd h.nd⟩
  · rw [UM.get_put]
    rcases List.mem_append.1 hm with hm | hm
    · have hm := (List.mem_filter.1 hm).1
      have := hl l hm
      rw [if_neg (by omega)]; exact h.a l hm
    · obtain rfl := List.mem_singleton.1 hm
      rw [if_pos rfl]
  · rw [UM.get_put] at h1
    by_cases hk : k = last + 1
    · exact ⟨_, List.mem_append.2 (.inr (List.mem_singleton.2 rfl)), hk.symm⟩
    · rw [if_neg hk] at h1
      obtain ⟨l, hm, e⟩ := h.b k v h1 h2
      have ha := h.a l hm
      rw [e, h1] at ha
      injection ha with ha
      exact ⟨l, List.mem_append.2 (.inl (List.mem_filter.2 ⟨hm, decide_eq_true (by omega)⟩)), e⟩
theorem OC.count {E : UM} {L : List Ls} {now : Int} (h : OC E L now) (hu : L.Pairwise fun a b => a.id < b.id) : (E.filter fun p => decide (now < p.2)).length = (live now L).length := by
  have h1 : ((E.filter fun p => decide (now < p.2)).map (·.1)).Nodup := h.nd.sublist (List.filter_sublist.map _)
  have h2 : ((live now L).map (·.id)).Nodup := by
    have : (live now L).Pairwise fun a b => a.id < b.id := hu.sublist List.filter_sublist
    exact List.pairwise_map.2 (this.imp (fun h e => by omega))
  have hp : ((E.filter fun p => decide (now < p.2)).map (·.1)).Perm ((live now L).map (·.id)) := by
    refine (List.perm_ext_iff_of_nodup h1 h2).2 fun k => ?_
    rw [List.mem_map, List.mem_map]
    constructor
    · rintro ⟨p, hp, rfl⟩
      obtain ⟨m1, m2⟩ := List.mem_filter.1 hp
      have hg := (UM.get_mem h.nd).2 (show (p.1, p.2) ∈ E from m1)
      obtain ⟨l, hl, e⟩ := h.b p.1 p.2 hg (of_decide_eq_true m2)
      have ha := h.a l hl
      rw [e, hg] at ha
      injection ha with ha
      exact ⟨l, List.mem_filter.2 ⟨hl, decide_eq_true (by rw [← ha]; exact of_decide_eq_true m2)⟩, e⟩
    · rintro ⟨l, hl, rfl⟩
      obtain ⟨m1, m2⟩ := List.mem_filter.1 hl
      exact ⟨(l.id, l.exp), List.mem_filter.2 ⟨(UM.get_mem h.nd).1 (h.a l m1), m2⟩, rfl⟩
  have := hp.length_eq
  rwa [List.length_map, List.length_map] at this
theorem get_live {L : List Ls} {now : Int} (hu : L.Pairwise fun a b => a.id < b.id) {j : Nat} {x : Ls} (hx : (live now L)[j]? = some x) : getR L x.id now = some x := by
  unfold getR
  have hj := (List.getElem?_eq_some_iff.1 hx).1
  have hxe : (live now L)[j] = x := (List.getElem?_eq_some_iff.1 hx).2
  have hp : (live now L).Pairwise fun a b => a.id < b.id := hu.sublist List.filter_sublist
  rw [List.pairwise_iff_getElem] at hp
  rw [List.find?_eq_some_iff_getElem]
  refine ⟨decide_eq_true rfl, j, hj, hxe, fun i hi => ?_⟩
  have := hp i j (by omega) hj hi
  rw [hxe] at this
  simp only [Bool.not_eq_true', decide_eq_false_iff_not]
  omega
end Go.Proofs.Ytidppalhjknlfaa
