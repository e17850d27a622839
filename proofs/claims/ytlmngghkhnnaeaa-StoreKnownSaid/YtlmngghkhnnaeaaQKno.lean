/- The numbers of StoreKnown. No walk here. -/
import Derived.Test.YtlmngghkhnnaeaaQMMade5
namespace Go.Proofs.Ytlmngghkhnnaeaa
open Go.RowKit
set_option maxRecDepth 100000
set_option maxHeartbeats 1000000
set_option linter.unusedVariables false
set_option linter.unusedSimpArgs false
def exD : ByteArray := ⟨#[100]⟩
def exQ : ByteArray := ⟨#[63]⟩
def kn6 : St := ⟨2, [false, false, true, true, false], List.replicate 5 false, [], false⟩
def kn7 : St := ⟨2, [false, false, true, true, true], List.replicate 5 false, [(4, exD)], true⟩
def kn8 : St := ⟨2, [false, false, true, false, true], [false, false, false, true, false], [(4, exD)], true⟩
theorem kn_done : doneSt exSt6 = kn6 := rfl
theorem kt7 {S : SS} (hd : S.dd = false) (h : S.st = kn6) : takeF S exD = (4, 0, { S with st := kn7 }) := by
  rw [takeF_eq (p := 4) (r := []) hd (by decide) (by rw [h]; rfl), h]; rfl
theorem kg8 {S : SS} (hd : S.dd = false) (h : S.st = kn7) : giveF S 3 = (0, { S with st := kn8 }) := by
  unfold giveF giveS
  rw [if_neg (by rw [hd]; decide), h, if_neg (by decide)]; rfl
theorem kt9 {S : SS} (hd : S.dd = false) (h : S.st = kn8) : takeF S ByteArray.empty = (0, 3, S) := by
  unfold takeF takeS
  rw [if_neg (by rw [hd]; decide), if_neg (by decide), h]; rfl
theorem kl10 {S : SS} (hd : S.dd = false) (h : S.st = kn6) : leftN S = 1 := by
  unfold leftN
  rw [if_neg (by rw [hd]; decide), h]; rfl
theorem klong {S : SS} (hd : S.dd = false) (u : ByteArray) (hu : 4011 < u.size) : takeF S u = (0, 2, S) := by
  unfold takeF takeS
  rw [if_neg (by rw [hd]; decide), if_pos hu]
theorem newF_frP (at_ kind st : Int) (b : ByteArray) (hb : b.size ≤ 4011) (h0 : 0 ≤ st) (h1 : st ≤ 18446744073709551615) : (newF (frP at_ kind st b) 8 : Int) = st := by
  have h := frP_stamp at_ kind st b hb h0 h1
  have a := newF_le (frP at_ kind st b) st.toNat 8 (fun j hj => by have := h j hj; omega)
  have c := le_newF (frP at_ kind st b) 8 0 (by decide)
  have := h 0 (by decide)
  omega
theorem kn_root : RootOk exSt6 ∧ 0 ≤ exSt6.root ∧ exSt6.root < exSt6.taken.length := by
  refine ⟨⟨rfl, rfl, .inr rfl⟩, by decide, by decide⟩
theorem kn_head : headF (hdBytes exSt6) 5 = some kn6 := head_round exSt6 (by decide) kn_root.2 kn_root.1
theorem kn_size : (hdBytes exSt6).size ≤ 4011 := hdBytes_size _ (by decide)
theorem kn_bad {R : Int → ByteArray} (h0 : R 0 = frP 0 1 9 exQ) (h1 : R 1 = frP 1 1 1 (hdBytes exSt6)) : (openO R 5).st = kn6 ∧ (openO R 5).stamp = 9 := by
  have hs := openO_stamp R 5
  rw [h0, h1, newF_frP _ _ _ _ (by decide) (by decide) (by decide), newF_frP _ _ _ _ kn_size (by decide) (by decide)] at hs
  have hb : badH R 5 0 := by
    intro b s hg
    rw [h0, get_put 0 1 9 exQ (by decide) (by decide) (by decide)] at hg
    cases hg
    decide
  obtain ⟨e1, e2, e3⟩ := opStep_bad (op0 5) hb
  have hg : getF (R 1) 1 1 = some (hdBytes exSt6, 1) := by rw [h1]; exact get_put 1 1 1 _ kn_size (by decide) (by decide)
  obtain ⟨g1, _⟩ := opStep_take (R := R) (n := 5) (p := 1) (opStep R 5 0 (op0 5)) hg kn_head (by rw [e3]; decide)
  exact ⟨g1, by rw [hs]; decide⟩
theorem kn_last {R : Int → ByteArray} (h0 : R 0 = frP 0 1 18446744073709551615 ByteArray.empty) (h1 : R 1 = frP 1 1 1 (hdBytes exSt6)) : (openO R 5).stamp = 18446744073709551615 := by
  have hs := openO_stamp R 5
  rw [h0, h1, newF_frP _ _ _ _ (by decide) (by decide) (by decide), newF_frP _ _ _ _ kn_size (by decide) (by decide)] at hs
  rw [hs]; decide
/-- a head is written over -/
theorem kn_write {D : DS} (hd : D.dead = false) (hl : D.L.length = 5) (hf : D.fuse < 0) (u : ByteArray) (hu : u.size = 4096) : (writeR D 0 u).dead = false ∧ (writeR D 0 u).fuse < 0 ∧ (writeR D 0 u).L.length = 5 ∧ readP (writeR D 0 u) 0 = u ∧ readP (writeR D 0 u) 1 = readP D 1 := by
  have e : writeR D 0 u = writeS D 0 u := by
    unfold writeR
    rw [if_pos (by unfold sureE; rw [hd, hu, hl, if_neg (by decide), if_neg (by decide)])]
  obtain ⟨a, b⟩ := write_neg 0 u hf
  rw [e]
  refine ⟨a.trans hd, by rw [b]; exact hf, hl, ?_, ?_⟩
  · rw [write_read, if_pos rfl]
  · rw [write_read, if_neg (by decide)]
/-- the store once the example is committed -/
theorem kn_commit {S : SS} (hI : Inv S 5) (hst : S.st = exSt6) (hs : S.stamp = 0) (hf : S.D.fuse = -1) (hh : S.head = -1) {L : List Int} (hL : L.Perm (S.st.fresh.map (·.1))) :
    ∃ S1, commitF S L = (0, S1) ∧ Inv S1 5 ∧ S1.st = kn6 ∧ S1.was = kn6 ∧ S1.marks = [] ∧ S1.D.fuse = -1 ∧ readP S1.D 1 = frP 1 1 1 (hdBytes exSt6) := by
  rcases commit_law hI (by omega) hL with ⟨e, g⟩ | ⟨_, g⟩
  · obtain ⟨y1, y2, y3, y4⟩ := g.yes (by rw [hst]; rfl)
    have ho : otherH S = 1 := by unfold otherH; rw [hh]; rfl
    refine ⟨(commitF S L).2, by rw [← e], g.inv, by rw [g.st, hst]; rfl, by rw [g.was, hst]; rfl, g.marks, by rw [g.fuse (by omega)]; exact hf, ?_⟩
    rw [ho] at y3
    rw [y3]
    unfold frH
    rw [ho, hs, hst]
    rfl
  · exfalso
    have := g.fuse
    omega
theorem S0_head : (S0 5).head = -1 :=
  (open_heads (R := readP (newS 5)) (n := 5) (was := zeroSt 5) (head := -1) (stamp := 0) (Int.le_refl 0) (disc_new (n := 5) (by decide)).heads).2.1
end Go.Proofs.Ytlmngghkhnnaeaa
