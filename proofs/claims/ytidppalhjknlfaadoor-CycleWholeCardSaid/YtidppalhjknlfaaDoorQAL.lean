/- Pairs of strings in a list: put, delete, get; in order of their keys. No program and no memory in sight. -/
import Derived.Test.YtidppalhjknlfaaDoorQMem
namespace Go.Proofs.YtidppalhjknlfaaDoor
set_option linter.unusedVariables false
set_option linter.unusedSimpArgs false
/-! ### strings in order -/
def slt (a b : ByteArray) : Bool := Op.bytesLess a.toList b.toList
theorem bl_irrefl : ∀ x : List UInt8, Op.bytesLess x x = false
  | [] => rfl
  | a :: x => by
    have : decide (a < a) = false := by simp
    simp [Op.bytesLess, this, bl_irrefl x]
theorem bl_trans : ∀ x y z : List UInt8, Op.bytesLess x y = true → Op.bytesLess y z = true → Op.bytesLess x z = true
  | _, [], _, h, _ => by cases ‹List UInt8› <;> simp [Op.bytesLess] at h
  | _, _ :: _, [], _, h => by simp [Op.bytesLess] at h
  | [], b :: y, c :: z, _, _ => rfl
  | a :: x, b :: y, c :: z, h, k => by
    simp only [Op.bytesLess, Bool.or_eq_true, decide_eq_true_eq, Bool.and_eq_true, beq_iff_eq] at *
    rcases h with h | ⟨rfl, h⟩
    · rcases k with k | ⟨rfl, k⟩
      · left; exact UInt8.lt_trans h k
      · left; exact h
    · rcases k with k | ⟨rfl, k⟩
      · left; exact k
      · right; exact ⟨rfl, bl_trans x y z h k⟩
theorem bl_total : ∀ x y : List UInt8, Op.bytesLess x y = false → Op.bytesLess y x = false → x = y
  | [], [], _, _ => rfl
  | [], b :: y, h, _ => by simp [Op.bytesLess] at h
  | a :: x, [], _, h => by simp [Op.bytesLess] at h
  | a :: x, b :: y, h, k => by
    simp only [Op.bytesLess, Bool.or_eq_false_iff, decide_eq_false_iff_not, Bool.and_eq_false_iff, beq_eq_false_iff_ne] at *
    have e : a = b := by
      have h1 := h.1; have k1 := k.1
      exact UInt8.le_antisymm (UInt8.not_lt.1 k1) (UInt8.not_lt.1 h1)
    subst e
    rcases h.2 with h2 | h2
    · exact absurd rfl h2
    · rcases k.2 with k2 | k2
      · exact absurd rfl k2
      · rw [bl_total x y h2 k2]
theorem toList_data (s : ByteArray) : s.toList = s.data.toList := ByteArray.toList_eq s
theorem toList_inj {a b : ByteArray} (h : a.toList = b.toList) : a = b := by
  rw [toList_data, toList_data] at h
  cases a; cases b
  simp only [ByteArray.mk.injEq]
  exact Array.toList_inj.1 h
theorem slt_irrefl (a : ByteArray) : slt a a = false := bl_irrefl _
theorem slt_trans {a b c : ByteArray} (h : slt a b = true) (k : slt b c = true) : slt a c = true := bl_trans _ _ _ h k
theorem slt_total {a b : ByteArray} (h : slt a b = false) (k : slt b a = false) : a = b := toList_inj (bl_total _ _ h k)
theorem slt_asymm {a b : ByteArray} (h : slt a b = true) : slt b a = false := by
  cases k : slt b a
  · rfl
  · have := slt_trans h k; rw [slt_irrefl] at this; cases this
theorem seq_iff (a b : ByteArray) : (a.toList == b.toList) = decide (a = b) := by
  rw [Bool.eq_iff_iff]; simp only [beq_iff_eq, decide_eq_true_eq]
  exact ⟨toList_inj, fun h => by rw [h]⟩
/-- bytes in order, as the library's sort takes it -/
theorem bl_le : ∀ x y : List UInt8, decide (x ≤ y) = !Op.bytesLess y x
  | [], y => by cases y <;> simp [Op.bytesLess]
  | a :: x, [] => by simp [Op.bytesLess]
  | a :: x, b :: y => by
    have ih := bl_le x y
    rw [Bool.eq_iff_iff] at ih ⊢
    simp only [decide_eq_true_eq, Bool.not_eq_true', Op.bytesLess, Bool.or_eq_false_iff, decide_eq_false_iff_not, Bool.and_eq_false_iff, beq_eq_false_iff_ne] at *
    rw [List.cons_le_cons_iff]
    constructor
    · rintro (h | ⟨rfl, h⟩)
      · exact ⟨fun k => absurd (UInt8.lt_trans h k) (UInt8.lt_irrefl a), .inl (fun e => by subst e; exact absurd h (UInt8.lt_irrefl _))⟩
      · exact ⟨UInt8.lt_irrefl _, .inr (ih.1 h)⟩
    · rintro ⟨h1, h2⟩
      rcases UInt8.lt_or_eq_of_le (UInt8.not_lt.1 h1) with h | h
      · exact .inl h
      · subst h
        rcases h2 with h2 | h2
        · exact absurd rfl h2
        · exact .inr ⟨rfl, ih.2 h2⟩
/-- two rows in strict order with the same members are one -/
theorem eq_of_perm_strict {α : Type} (lt : α → α → Prop) (asym : ∀ a b, lt a b → ¬ lt b a) : ∀ l1 l2 : List α, l1.Perm l2 → l1.Pairwise lt → l2.Pairwise lt → l1 = l2
  | [], l2, h, _, _ => by rw [List.nil_perm.1 h]
  | a :: l1, l2, h, h1, h2 => by
    cases l2 with
    | nil => exact absurd h.symm (by simp)
    | cons b l2 =>
      obtain ⟨p1, p2⟩ := List.pairwise_cons.1 h1
      obtain ⟨q1, q2⟩ := List.pairwise_cons.1 h2
      have hab : a = b := by
        have ha : a ∈ b :: l2 := h.subset (by simp)
        have hb : b ∈ a :: l1 := h.symm.subset (by simp)
        rcases List.mem_cons.1 ha with e | ha
        · exact e
        · rcases List.mem_cons.1 hb with e | hb
          · exact e.symm
          · exact absurd (p1 b hb) (asym _ _ (q1 a ha))
      subst hab
      rw [eq_of_perm_strict lt asym l1 l2 (List.Perm.cons_inv h) p2 q2]

/-! ### pairs -/
def AL.keys (l : AL) : List ByteArray := l.map (·.1)
def AL.ND (l : AL) : Prop := (AL.keys l).Nodup
theorem get_none {k : ByteArray} : ∀ {l : AL}, AL.get k l = none ↔ k ∉ AL.keys l
  | [] => by simp [AL.get, AL.keys]
  | p :: l => by
    have ih := get_none (k := k) (l := l)
    by_cases h : k = p.1
    · simp [AL.get, AL.keys, h]
    · simp only [AL.get, if_neg h, ih, AL.keys, List.map_cons, List.mem_cons, not_or]
      exact ⟨fun x => ⟨h, x⟩, fun x => x.2⟩
theorem get_some {k v : ByteArray} : ∀ {l : AL}, AL.ND l → (AL.get k l = some v ↔ (k, v) ∈ l)
  | [], _ => by simp [AL.get]
  | p :: l, hn => by
    obtain ⟨hp, hl⟩ := List.nodup_cons.1 (show (p.1 :: AL.keys l).Nodup from hn)
    have ih := get_some (k := k) (v := v) (l := l) hl
    by_cases h : k = p.1
    · subst h
      have e : AL.get p.1 (p :: l) = some p.2 := by simp [AL.get]
      rw [e, Option.some.injEq, List.mem_cons]
      constructor
      · rintro rfl; exact .inl rfl
      · rintro (h | h)
        · rw [← h]
        · exact absurd (List.mem_map.2 ⟨_, h, rfl⟩) hp
    · simp only [AL.get, if_neg h, ih, List.mem_cons]
      constructor
      · exact fun x => .inr x
      · rintro (x | x)
        · exact absurd (by rw [← x]) h
        · exact x
theorem mem_keys_put {k v x : ByteArray} : ∀ {l : AL}, x ∈ AL.keys (AL.put k v l) ↔ x = k ∨ x ∈ AL.keys l
  | [] => by simp [AL.put, AL.keys]
  | p :: l => by
    have ih := mem_keys_put (k := k) (v := v) (x := x) (l := l)
    by_cases h : k = p.1
    · subst h; simp [AL.put, AL.keys]
    · simp only [AL.keys, AL.put, if_neg h, List.map_cons, List.mem_cons] at *
      rw [ih]
      constructor
      · rintro (a | a | a)
        · exact .inr (.inl a)
        · exact .inl a
        · exact .inr (.inr a)
      · rintro (a | a | a)
        · exact .inr (.inl a)
        · exact .inl a
        · exact .inr (.inr a)
theorem nd_put {k v : ByteArray} : ∀ {l : AL}, AL.ND l → AL.ND (AL.put k v l)
  | [], _ => by simp [AL.ND, AL.put, AL.keys]
  | p :: l, hn => by
    obtain ⟨hp, hl⟩ := List.nodup_cons.1 (show (p.1 :: AL.keys l).Nodup from hn)
    by_cases h : k = p.1
    · subst h
      have e : AL.put p.1 v (p :: l) = (p.1, v) :: l := by simp [AL.put]
      rw [e]
      exact hn
    · have e : AL.put k v (p :: l) = p :: AL.put k v l := by simp [AL.put, h]
      rw [e]
      refine List.nodup_cons.2 ⟨?_, nd_put hl⟩
      intro hm
      rcases mem_keys_put.1 hm with e | e
      · exact h e.symm
      · exact hp e
theorem mem_put {k v : ByteArray} {q : ByteArray × ByteArray} : ∀ {l : AL}, AL.ND l → (q ∈ AL.put k v l ↔ q = (k, v) ∨ (q ∈ l ∧ q.1 ≠ k))
  | [], _ => by simp [AL.put]
  | p :: l, hn => by
    obtain ⟨hp, hl⟩ := List.nodup_cons.1 (show (p.1 :: AL.keys l).Nodup from hn)
    have ih := mem_put (k := k) (v := v) (q := q) (l := l) hl
    by_cases h : k = p.1
    · subst h
      have e : AL.put p.1 v (p :: l) = (p.1, v) :: l := by simp [AL.put]
      rw [e, List.mem_cons, List.mem_cons]
      constructor
      · rintro (a | a)
        · exact .inl a
        · exact .inr ⟨.inr a, fun x => hp (by rw [← x]; exact List.mem_map.2 ⟨q, a, rfl⟩)⟩
      · rintro (a | ⟨a | a, b⟩)
        · exact .inl a
        · exact absurd (by rw [a]) b
        · exact .inr a
    · have e : AL.put k v (p :: l) = p :: AL.put k v l := by simp [AL.put, h]
      rw [e, List.mem_cons, List.mem_cons, ih]
      constructor
      · rintro (a | a | ⟨a, b⟩)
        · exact .inr ⟨.inl a, by rw [a]; exact fun x => h x.symm⟩
        · exact .inl a
        · exact .inr ⟨.inr a, b⟩
      · rintro (a | ⟨a | a, b⟩)
        · exact .inr (.inl a)
        · exact .inl a
        · exact .inr (.inr ⟨a, b⟩)
theorem del_sublist (k : ByteArray) : ∀ l : AL, (AL.del k l).Sublist l
  | [] => List.Sublist.refl _
  | p :: l => by
    by_cases h : k = p.1
    · simp only [AL.del, if_pos h]; exact List.sublist_cons_self _ _
    · simp only [AL.del, if_neg h]; exact (del_sublist k l).cons_cons _
theorem nd_del {k : ByteArray} {l : AL} (h : AL.ND l) : AL.ND (AL.del k l) := h.sublist ((del_sublist k l).map _)
theorem mem_del {k : ByteArray} {q : ByteArray × ByteArray} : ∀ {l : AL}, AL.ND l → (q ∈ AL.del k l ↔ q ∈ l ∧ q.1 ≠ k)
  | [], _ => by simp [AL.del]
  | p :: l, hn => by
    obtain ⟨hp, hl⟩ := List.nodup_cons.1 (show (p.1 :: AL.keys l).Nodup from hn)
    have ih := mem_del (k := k) (q := q) (l := l) hl
    by_cases h : k = p.1
    · subst h
      have e : AL.del p.1 (p :: l) = l := by simp [AL.del]
      rw [e, List.mem_cons]
      constructor
      · exact fun a => ⟨.inr a, fun x => hp (by rw [← x]; exact List.mem_map.2 ⟨q, a, rfl⟩)⟩
      · rintro ⟨a | a, b⟩
        · exact absurd (by rw [a]) b
        · exact a
    · have e : AL.del k (p :: l) = p :: AL.del k l := by simp [AL.del, h]
      rw [e, List.mem_cons, List.mem_cons, ih]
      constructor
      · rintro (a | ⟨a, b⟩)
        · exact ⟨.inl a, by rw [a]; exact fun x => h x.symm⟩
        · exact ⟨.inr a, b⟩
      · rintro ⟨a | a, b⟩
        · exact .inl a
        · exact .inr ⟨a, b⟩
/-- in order of the keys -/
def plt (p q : ByteArray × ByteArray) : Prop := slt p.1 q.1 = true
theorem plt_asymm (p q : ByteArray × ByteArray) (h : plt p q) : ¬ plt q p := by
  unfold plt at *; rw [slt_asymm h]; simp
def AL.srt (l : AL) : AL := l.mergeSort fun p q => decide (p.1.toList ≤ q.1.toList)
theorem srt_perm (l : AL) : (AL.srt l).Perm l := List.mergeSort_perm _ _
theorem srt_strict {l : AL} (h : AL.ND l) : (AL.srt l).Pairwise plt := by
  have h1 : (AL.srt l).Pairwise fun p q => decide (p.1.toList ≤ q.1.toList) = true := by
    refine List.pairwise_mergeSort (fun a b c hab hbc => ?_) (fun a b => ?_) l
    · simp only [decide_eq_true_eq] at *; exact List.le_trans hab hbc
    · simp only [Bool.or_eq_true, decide_eq_true_eq]; exact List.le_total _ _
  have h2 : (AL.srt l).Pairwise fun p q => p.1 ≠ q.1 := by
    have : ((AL.srt l).map (·.1)).Nodup := (List.Perm.nodup_iff ((srt_perm l).map (fun p : ByteArray × ByteArray => p.1))).2 h
    exact List.pairwise_map.1 this
  refine (h1.and h2).imp (fun {p q} ⟨a, b⟩ => ?_)
  rw [bl_le] at a
  unfold plt
  cases hs : slt p.1 q.1
  · exact absurd (slt_total hs (by simpa [slt] using a)) b
  · rfl
/-- a row in strict order with the same members is the sorted one -/
theorem srt_eq {l r : AL} (h : AL.ND l) (hr : r.Pairwise plt) (hp : r.Perm l) : AL.srt l = r :=
  eq_of_perm_strict plt plt_asymm _ _ ((srt_perm l).trans hp.symm) (srt_strict h) hr
theorem strict_nodup {r : AL} (hr : r.Pairwise plt) : r.Nodup := hr.imp (fun {p q} h e => by subst e; exact plt_asymm _ _ h h)
theorem perm_of_mem {l r : AL} (hl : l.Nodup) (hr : r.Nodup) (h : ∀ q, q ∈ r ↔ q ∈ l) : r.Perm l := (List.perm_ext_iff_of_nodup hr hl).2 h
theorem nd_nodup {l : AL} (h : AL.ND l) : l.Nodup := (List.pairwise_map.1 h).imp (fun {p q} h e => h (by rw [e]))
theorem srt_mem {l r : AL} (h : AL.ND l) (hr : r.Pairwise plt) (hm : ∀ q, q ∈ r ↔ q ∈ l) : AL.srt l = r :=
  srt_eq h hr (perm_of_mem (nd_nodup h) (strict_nodup hr) hm)
end Go.Proofs.YtidppalhjknlfaaDoor
