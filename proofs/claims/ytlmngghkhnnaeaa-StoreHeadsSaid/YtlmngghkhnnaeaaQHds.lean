/- The plain law of StoreHeads: commits go to the heads by turns. No walk here. -/
import Derived.Test.YtlmngghkhnnaeaaQMMade5
namespace Go.Proofs.Ytlmngghkhnnaeaa
open Go.RowKit
set_option maxRecDepth 100000
set_option maxHeartbeats 1000000
set_option linter.unusedVariables false
set_option linter.unusedSimpArgs false
theorem free_set (t h : List Bool) (p : Nat) (hp : p ∈ freeL t h) : (freeL (t.set p true) h).length + 1 = (freeL t h).length := by
  have hn : (freeL t h).Nodup := (List.nodup_range).filter _
  have e : freeL (t.set p true) h = (freeL t h).erase p := by
    rw [hn.erase_eq_filter]
    unfold freeL
    rw [List.length_set, List.filter_filter]
    refine List.filter_congr fun x hx => ?_
    have hxl : x < t.length := List.mem_range.1 hx
    have hpl := (freeL_mem t h p hp).1
    by_cases e : x = p
    · subst e
      have : (t.set x true).getD x false = true := by
        rw [List.getD_eq_getElem?_getD, List.getElem?_set, if_pos rfl, if_pos hpl]; rfl
      rw [this]; simp
    · have : (t.set p true).getD x false = t.getD x false := by
        rw [List.getD_eq_getElem?_getD, List.getD_eq_getElem?_getD, List.getElem?_set, if_neg (fun h => e h.symm)]
      rw [this]
      have e2 : (x != p) = true := by simpa using e
      rw [e2]; simp
  rw [e, List.length_erase_of_mem hp]
  have := List.length_pos_of_mem hp
  omega
structure HInv (S : SS) (i : Nat) (nw : Int) : Prop where
  inv : Inv S 30
  st : S.st = doneSt S.st
  fuse : S.D.fuse = -1
  nw : 0 ≤ nw ∧ nw ≤ S.stamp
  si : S.stamp ≤ i
  turn : otherH S = 1 - (i : Int) % 2
  free : (freeL S.st.taken S.st.held).length = 28 - i
section
variable {S : SS} {i : Nat} {nw : Int} {L : List Int}
theorem HInv.zero : HInv (S0 30) 0 0 := by
  obtain ⟨i0, i1, i2, i3, i4, i5⟩ := S0_law (n := 30) (by decide)
  refine ⟨i0, by rw [i1]; rfl, by rw [i4]; rfl, by rw [i3]; decide, by rw [i3]; decide, ?_, by rw [i1]; decide⟩
  have hh : (S0 30).head = -1 := by
    have := (open_heads (R := readP (newS 30)) (n := 30) (was := zeroSt 30) (head := -1) (stamp := 0) (Int.le_refl 0) (disc_new (n := 30) (by decide)).heads).2.1
    exact this
  unfold otherH
  rw [hh]; decide
theorem HInv.still (h : HInv S i nw) (hi : i ≤ 20) (hL : L.Perm (S.st.fresh.map (·.1))) : ∃ S1, commitF S L = (0, S1) ∧ HInv S1 i nw ∧ S1.D = S.D := by
  have ht : S.st.touched = false := by rw [h.st]; rfl
  have hsi := h.si
  rcases commit_law h.inv (by omega) hL with ⟨e, g⟩ | ⟨_, g⟩
  · obtain ⟨n1, n2, n3⟩ := g.no ht
    refine ⟨(commitF S L).2, by rw [← e], ⟨g.inv, by rw [g.st]; rfl, by rw [n1]; exact h.fuse, by rw [n3]; exact h.nw, by rw [n3]; exact h.si, ?_, ?_⟩, n1⟩
    · unfold otherH; rw [n2]; exact h.turn
    · rw [g.st, ← h.st]; exact h.free
  · exfalso
    have h1 := g.fuse
    have h2 := h.fuse
    omega
/-- a page is taken, then comes the commit -/
theorem HInv.step (h : HInv S i nw) (hi : i < 20) (u : ByteArray) (hu : u.size ≤ 20) : ∃ p S2, takeF S u = (p, 0, S2) ∧ S2.stamp = S.stamp ∧
    ∀ L, L.Perm (S2.st.fresh.map (·.1)) → ∃ S3, commitF S2 L = (0, S3) ∧ HInv S3 (i + 1) (S.stamp + 1) ∧ nw < S.stamp + 1 ∧ (∃ b, getF (readP S3.D (1 - (i : Int) % 2)) (1 - (i : Int) % 2) 1 = some (b, S.stamp + 1)) ∧ readP S3.D ((i : Int) % 2) = readP S.D ((i : Int) % 2) := by
  have hfr := h.free
  obtain ⟨p, r, hpr⟩ : ∃ p r, freeL S.st.taken S.st.held = p :: r := by
    cases hf : freeL S.st.taken S.st.held with
    | nil => rw [hf] at hfr; simp at hfr; omega
    | cons p r => exact ⟨p, r, rfl⟩
  have hpm : p ∈ freeL S.st.taken S.st.held := by rw [hpr]; exact List.mem_cons_self
  have htk := takeF_eq (u := u) h.inv.dd (by omega) hpr
  refine ⟨_, _, htk, rfl, fun L hL => ?_⟩
  have hI := h.inv.take u
  rw [htk] at hI
  obtain ⟨S2, hS2⟩ : ∃ S2, S2 = ({ S with st := takeSt S.st p u } : SS) := ⟨_, rfl⟩
  have e1 : S2.stamp = S.stamp := by rw [hS2]
  have e2 : S2.D = S.D := by rw [hS2]
  have e3 : otherH S2 = otherH S := by rw [hS2]; rfl
  have e4 : S2.st.touched = true := by rw [hS2]; rfl
  have e5 : freeL (doneSt S2.st).taken (doneSt S2.st).held = freeL (S.st.taken.set p true) S.st.held := by
    rw [hS2]
    have e0 : S.st.held = List.replicate S.st.taken.length false := by
      rw [congrArg St.held h.st]
      rfl
    show freeL (S.st.taken.set p true) (List.replicate (S.st.taken.set p true).length false) = _
    rw [e0, List.length_set]
  have hfs := free_set _ _ p hpm
  replace hI : Inv S2 30 := by rw [hS2]; exact hI
  replace hL : L.Perm (S2.st.fresh.map (·.1)) := by rw [hS2]; exact hL
  rw [← hS2]
  have hsi := h.si
  have hnw := h.nw
  rcases commit_law hI (by omega) hL with ⟨e, g⟩ | ⟨_, g⟩
  · obtain ⟨n1, n2, n3, n4⟩ := g.yes e4
    rw [e3] at n1 n3 n4
    rw [e1] at n2
    have ht := h.turn
    have hm : (i : Int) % 2 = 0 ∨ (i : Int) % 2 = 1 := by omega
    refine ⟨(commitF S2 L).2, by rw [← e], ⟨g.inv, by rw [g.st]; rfl, ?_, ⟨by omega, by rw [n2]; omega⟩, by rw [n2]; omega, ?_, ?_⟩, by omega, ?_, ?_⟩
    · have := g.fuse (by rw [e2, h.fuse]; decide)
      rw [this, e2]; exact h.fuse
    · unfold otherH
      rw [n1, ht]
      rcases hm with e | e
      · rw [e, if_pos (by decide)]; omega
      · rw [e, if_neg (by decide)]; omega
    · rw [g.st, e5]; omega
    · refine ⟨hdBytes S2.st, ?_⟩
      rw [← ht, n3]
      unfold frH
      rw [e3, e1]
      exact get_put _ _ _ _ (Inv.hdSize hI) (by omega) (by omega)
    · rw [n4 _ (by unfold isH; omega) (by rw [ht]; omega), e2]
  · exfalso
    have h1 := g.fuse
    rw [e2] at h1
    have h2 := h.fuse
    omega
end
/-- texts that came in -/
def TS (w : World) (v : Value) (l : List ByteArray) : Prop :=
  ∃ a cap, v = .slice a l.length cap ∧ l.length ≤ cap ∧ cap ≤ maxLen ∧ (∀ s ∈ l, s.size ≤ maxLen) ∧ (l = [] ∨ ∃ b off, a = some ⟨b, off, none⟩ ∧ b < w.heap.size ∧ ∀ (i : Nat) x, l[i]? = some x → w.cell? ⟨b, off + i, none⟩ = some (.string x))
theorem TS.below {w w' : World} {v : Value} {l : List ByteArray} (h : TS w v l) (hb : Below w.heap.size w w') : TS w' v l := by
  obtain ⟨a, cap, rfl, h1, h2, h3, h4⟩ := h
  refine ⟨a, cap, rfl, h1, h2, h3, ?_⟩
  rcases h4 with h4 | ⟨b, off, rfl, hlt, hc⟩
  · exact .inl h4
  · exact .inr ⟨b, off, rfl, Nat.lt_of_lt_of_le hlt hb.size, fun i x hx => (Keep.ofBelow hb (fun _ => False)).cell (hc i x hx) (fun h => h)⟩
theorem TS.at_ {w : World} {v : Value} {l : List ByteArray} (h : TS w v l) {i : Nat} {x : ByteArray} (hx : l[i]? = some x) : ∃ b off c, v = .slice (some ⟨b, off, none⟩) l.length c ∧ w.cell? ⟨b, off + i, none⟩ = some (.string x) := by
  obtain ⟨a, cap, rfl, _, _, _, h0 | ⟨b, off, rfl, _, hc⟩⟩ := h
  · subst h0; simp at hx
  · exact ⟨b, off, cap, rfl, hc i x hx⟩
end Go.Proofs.Ytlmngghkhnnaeaa
