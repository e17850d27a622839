/- The document's list against the map in memory (chapter 16), in plain words. No walk here. -/
import Derived.Test.YtiadoimdohnebaaMap16d
namespace Go.Proofs.Ytiadoimdohnebaa
open Go.RowKit
set_option linter.unusedVariables false
set_option linter.unusedSimpArgs false
theorem plc_split (k : ByteArray) : ∀ l : AL, l.Pairwise plt → ∃ A C, l = A ++ C ∧ A.length = plc k l ∧ (∀ q ∈ A, slt q.1 k = true) ∧ ∀ q ∈ C, slt q.1 k = false
  | [], _ => ⟨[], [], rfl, rfl, by simp, by simp⟩
  | q :: l, h => by
    rw [List.pairwise_cons] at h
    cases hq : slt q.1 k with
    | true =>
      obtain ⟨A, C, h1, h2, h3, h4⟩ := plc_split k l h.2
      refine ⟨q :: A, C, by rw [h1]; rfl, ?_, ?_, h4⟩
      · unfold plc; rw [if_pos hq, List.length_cons, h2]
      · intro x hx
        rcases List.mem_cons.1 hx with rfl | hx
        · exact hq
        · exact h3 x hx
    | false =>
      refine ⟨[], q :: l, rfl, ?_, by simp, ?_⟩
      · unfold plc; rw [if_neg (by rw [hq]; decide)]; rfl
      · intro x hx
        rcases List.mem_cons.1 hx with rfl | hx
        · exact hq
        · cases hx2 : slt x.1 k with
          | false => rfl
          | true => rw [← hq]; exact (slt_trans (h.1 x hx) hx2).symm ▸ rfl
theorem slt_gt {a k : ByteArray} (h : slt a k = false) (hne : a ≠ k) : slt k a = true := by
  cases h2 : slt k a with
  | true => rfl
  | false => exact absurd (slt_total h h2) hne
/-- the list at a key: it is there, or it is not -/
theorem list_at (k : ByteArray) (l : AL) (hl : l.Pairwise plt) :
    (isP k l = true ∧ ∃ A v D, l = A ++ (k, v) :: D ∧ A.length = plc k l ∧ (∀ q ∈ A, slt q.1 k = true) ∧ (∀ q ∈ D, slt k q.1 = true) ∧ getR k l = some v) ∨
    (isP k l = false ∧ ∃ A C, l = A ++ C ∧ A.length = plc k l ∧ (∀ q ∈ A, slt q.1 k = true) ∧ ∀ q ∈ C, slt k q.1 = true) := by
  obtain ⟨A, C, h1, h2, h3, h4⟩ := plc_split k l hl
  have hat : l[plc k l]? = C[0]? := by
    have e : (A ++ C)[A.length]? = C[0]? := by rw [List.getElem?_append_right (Nat.le_refl _), Nat.sub_self]
    rw [← h2, ← e, ← h1]
  cases hp : isP k l with
  | true =>
    left
    obtain ⟨q, e1, e2, e3⟩ := isP_at hp
    obtain ⟨qk, qv⟩ := q
    simp only at e2
    subst e2
    rw [hat] at e1
    cases C with
    | nil => simp at e1
    | cons c D =>
      simp at e1
      subst e1
      refine ⟨rfl, A, qv, D, h1, h2, h3, fun x hx => ?_, e3⟩
      rw [h1] at hl
      have := (List.pairwise_append.1 hl).2.1
      exact (List.pairwise_cons.1 this).1 x hx
  | false =>
    right
    refine ⟨rfl, A, C, h1, h2, h3, fun x hx => ?_⟩
    have hne : ∀ c, C[0]? = some c → c.1 ≠ k := fun c hc e => by
      have : isP k l = true := by
        unfold isP
        rw [hat, hc]
        show (c.1.toList == k.toList) = true
        rw [e]; exact beq_iff_eq.2 rfl
      rw [hp] at this; cases this
    rw [h1] at hl
    have hC := (List.pairwise_append.1 hl).2.1
    cases C with
    | nil => cases hx
    | cons c D =>
      have hck := slt_gt (h4 c List.mem_cons_self) (hne c rfl)
      rcases List.mem_cons.1 hx with rfl | hx
      · exact hck
      · exact slt_trans hck ((List.pairwise_cons.1 hC).1 x hx)
theorem slt_ne {a b : ByteArray} (h : slt a b = true) : a ≠ b := fun e => by rw [e, slt_irrefl] at h; cases h
variable {now : AL}
theorem srt_at (hn : AL.ND now) (k : ByteArray) : getR k (AL.srt now) = AL.get k now ∧ isP k (AL.srt now) = (AL.get k now).isSome := by
  have hm : ∀ q, q ∈ AL.srt now ↔ q ∈ now := fun q => (srt_perm now).mem_iff
  rcases list_at k _ (srt_strict hn) with ⟨hp, A, v, D, h1, _, _, _, hg⟩ | ⟨hp, A, C, h1, _, h3, h4⟩
  · have : AL.get k now = some v := (get_some hn).2 ((hm _).1 (by rw [h1]; simp))
    rw [hp, hg, this]; exact ⟨rfl, rfl⟩
  · have : AL.get k now = none := by
      rw [get_none]
      intro hk
      obtain ⟨q, hq, hqk⟩ := List.mem_map.1 hk
      have := (hm q).2 hq
      rw [h1] at this
      rcases List.mem_append.1 this with h | h
      · exact slt_ne (h3 q h) hqk
      · exact slt_ne (h4 q h) hqk.symm
    rw [hp, this]
    unfold getR
    rw [hp]
    exact ⟨rfl, rfl⟩
theorem srt_len (l : AL) : (AL.srt l).length = l.length := (srt_perm l).length_eq
theorem ins_srt (hn : AL.ND now) (k v : ByteArray) : insR k v (AL.srt now) = AL.srt (AL.put k v now) := by
  have hm : ∀ q, q ∈ AL.srt now ↔ q ∈ now := fun q => (srt_perm now).mem_iff
  have hst := srt_strict hn
  symm
  rcases list_at k _ hst with ⟨hp, A, v0, D, h1, h2, h3, h4, hg⟩ | ⟨hp, A, C, h1, h2, h3, h4⟩
  · have e : insR k v (AL.srt now) = A ++ [(k, v)] ++ D := by
      unfold insR
      rw [if_pos hp, ← h2, h1, List.take_left]
      congr 1
      rw [List.drop_append]
      simp
    rw [e]
    rw [h1] at hst
    obtain ⟨p1, p2, p3⟩ := List.pairwise_append.1 hst
    refine srt_mem (nd_put hn) ?_ (fun q => ?_)
    · rw [List.append_assoc]
      refine List.pairwise_append.2 ⟨p1, List.pairwise_cons.2 ⟨fun x hx => h4 x hx, (List.pairwise_cons.1 p2).2⟩, fun a ha b hb => ?_⟩
      rcases List.mem_cons.1 hb with rfl | hb
      · exact h3 a ha
      · exact p3 a ha b (List.mem_cons_of_mem _ hb)
    · rw [mem_put hn, ← hm q, h1]
      simp only [List.append_assoc, List.mem_append, List.mem_cons, List.not_mem_nil, or_false]
      constructor
      · rintro (h | h | h)
        · exact .inr ⟨.inl h, slt_ne (h3 q h)⟩
        · exact .inl h
        · exact .inr ⟨.inr (.inr h), fun e => slt_ne (h4 q h) e.symm⟩
      · rintro (h | ⟨h | h | h, hne⟩)
        · exact .inr (.inl h)
        · exact .inl h
        · exact absurd (by rw [h]) hne
        · exact .inr (.inr h)
  · have e : insR k v (AL.srt now) = A ++ [(k, v)] ++ C := by
      unfold insR
      rw [if_neg (by rw [hp]; decide), ← h2, h1, List.take_left, List.drop_left]
    rw [e]
    rw [h1] at hst
    obtain ⟨p1, p2, p3⟩ := List.pairwise_append.1 hst
    refine srt_mem (nd_put hn) ?_ (fun q => ?_)
    · rw [List.append_assoc]
      refine List.pairwise_append.2 ⟨p1, List.pairwise_cons.2 ⟨fun x hx => h4 x hx, p2⟩, fun a ha b hb => ?_⟩
      rcases List.mem_cons.1 hb with rfl | hb
      · exact h3 a ha
      · exact p3 a ha b hb
    · rw [mem_put hn, ← hm q, h1]
      simp only [List.append_assoc, List.mem_append, List.mem_cons, List.not_mem_nil, or_false]
      constructor
      · rintro (h | h | h)
        · exact .inr ⟨.inl h, slt_ne (h3 q h)⟩
        · exact .inl h
        · exact .inr ⟨.inr h, fun e => slt_ne (h4 q h) e.symm⟩
      · rintro (h | ⟨h | h, hne⟩)
        · exact .inr (.inl h)
        · exact .inl h
        · exact .inr (.inr h)
theorem del_srt (hn : AL.ND now) (k : ByteArray) : delR k (AL.srt now) = AL.srt (AL.del k now) := by
  have hm : ∀ q, q ∈ AL.srt now ↔ q ∈ now := fun q => (srt_perm now).mem_iff
  have hst := srt_strict hn
  symm
  rcases list_at k _ hst with ⟨hp, A, v0, D, h1, h2, h3, h4, hg⟩ | ⟨hp, A, C, h1, h2, h3, h4⟩
  · have e : delR k (AL.srt now) = A ++ D := by
      unfold delR
      rw [if_pos hp, ← h2, h1, List.take_left]
      congr 1
      rw [List.drop_append]
      simp
    rw [e]
    rw [h1] at hst
    obtain ⟨p1, p2, p3⟩ := List.pairwise_append.1 hst
    refine srt_mem (nd_del hn) ?_ (fun q => ?_)
    · exact List.pairwise_append.2 ⟨p1, (List.pairwise_cons.1 p2).2, fun a ha b hb => p3 a ha b (List.mem_cons_of_mem _ hb)⟩
    · rw [mem_del hn, ← hm q, h1]
      simp only [List.mem_append, List.mem_cons]
      constructor
      · rintro (h | h)
        · exact ⟨.inl h, slt_ne (h3 q h)⟩
        · exact ⟨.inr (.inr h), fun e => slt_ne (h4 q h) e.symm⟩
      · rintro ⟨h | h | h, hne⟩
        · exact .inl h
        · exact absurd (by rw [h]) hne
        · exact .inr h
  · have e : delR k (AL.srt now) = AL.srt now := by unfold delR; rw [hp]; rfl
    rw [e]
    refine srt_mem (nd_del hn) hst (fun q => ?_)
    rw [mem_del hn, ← hm q]
    constructor
    · intro h
      refine ⟨h, ?_⟩
      rw [h1] at h
      rcases List.mem_append.1 h with h | h
      · exact slt_ne (h3 q h)
      · exact fun e => slt_ne (h4 q h) e.symm
    · exact fun h => h.1
/-- the document's map is the map in memory, in order -/
structure RelM (room : Int) (now was : AL) (M : M16) : Prop where
  room : M.room = room
  L : M.L = AL.srt now
  Z : M.Z = AL.srt was
theorem RelM.putE {room : Int} {was : AL} {M : M16} (h : RelM room now was M) (hn : AL.ND now) (k v : ByteArray) : rputE M k v = Go.Proofs.Ytiadoimdohnebaa.putE room now k v ∧ RelM room (putA room now k v) was (rputS M k v) := by
  have he : rputE M k v = Go.Proofs.Ytiadoimdohnebaa.putE room now k v := by
    unfold rputE Go.Proofs.Ytiadoimdohnebaa.putE
    rw [h.L, (srt_at hn k).2, srt_len, h.room]
    cases hg : AL.get k now with
    | none => simp
    | some x => simp
  refine ⟨he, ?_⟩
  unfold rputS putA
  rw [he]
  split
  · exact ⟨h.room, by show insR k v M.L = _; rw [h.L, ins_srt hn], h.Z⟩
  · exact h
end Go.Proofs.Ytiadoimdohnebaa
