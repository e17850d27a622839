/- What an act of quitrentlaw16 does to a store's pairs, and those of the last Commit. No program in sight. -/
import Derived.Test.YtidppalhjknlfaaOrd2
import Derived.Test.YtidppalhjknlfaaActs
namespace Go.Proofs.Ytidppalhjknlfaa
open Go.RowKit
set_option linter.unusedVariables false
set_option linter.unusedSimpArgs false
/-- an act: what is done, key, value, number -/
structure A16 where
  doo : Int
  key : ByteArray
  val : ByteArray
  n : Int
structure A16.Ok (a : A16) : Prop where
  d : 0 ≤ a.doo ∧ a.doo ≤ 255
  k : a.key.size ≤ maxLen
  v : a.val.size ≤ maxLen
  n : 0 ≤ a.n ∧ a.n ≤ 18446744073709551615
/-- a store's pairs: in order of no one, each key once, small, at most m of them -/
structure St (m : Nat) (l : AL) : Prop where
  nd : AL.ND l
  len : l.length ≤ m
  small : ∀ p ∈ l, p.1.size ≤ 256 ∧ p.2.size ≤ 1024
theorem St.nil : St 0 [] := ⟨by unfold AL.ND AL.keys; simp, Nat.le_refl _, fun p h => by simp at h⟩
theorem St.mono {m m' : Nat} {l : AL} (h : St m l) (hm : m ≤ m') : St m' l := ⟨h.nd, Nat.le_trans h.len hm, h.small⟩
theorem St.putA {m : Nat} {l : AL} (h : St m l) (room : Int) (k v : ByteArray) : St (m + 1) (putA room l k v) := by
  unfold Go.Proofs.Ytidppalhjknlfaa.putA
  by_cases he : putE room l k v = 0
  · rw [if_pos he]
    have hs : k.size ≤ 256 ∧ v.size ≤ 1024 := by
      unfold putE at he
      by_cases h0 : k.size = 0
      · rw [if_pos h0] at he; cases he
      · rw [if_neg h0] at he
        by_cases h1 : 256 < k.size ∨ 1024 < v.size
        · rw [if_pos h1] at he; cases he
        · omega
    refine ⟨nd_put h.nd, Nat.le_trans (put_length _ _ _) (by have := h.len; omega), fun p hp => ?_⟩
    rcases (mem_put h.nd).1 hp with rfl | ⟨hp, _⟩
    · exact hs
    · exact h.small p hp
  · rw [if_neg he]; exact h.mono (by omega)
theorem St.del {m : Nat} {l : AL} (h : St m l) (k : ByteArray) : St m (AL.del k l) :=
  ⟨nd_del h.nd, Nat.le_trans (del_sublist k l).length_le h.len, fun p hp => h.small p ((del_sublist k l).subset hp)⟩
theorem St.setA {m : Nat} {l : AL} (h : St m l) (room : Int) (k : ByteArray) (n : Int) : St (m + 1) (setA room l k n) := by
  unfold Go.Proofs.Ytidppalhjknlfaa.setA
  split
  · exact (h.del k).mono (by omega)
  · exact h.putA _ _ _
theorem St.get {m : Nat} {l : AL} (h : St m l) {k v : ByteArray} (hg : AL.get k l = some v) : v.size ≤ 1024 := (h.small _ ((get_some h.nd).1 hg)).2
theorem St.sml {m : Nat} {l : AL} (h : St m l) (hm : m ≤ 1000000) : Small l := ⟨Nat.le_trans h.len hm, h.small⟩
end Go.Proofs.Ytidppalhjknlfaa
