/- What KvOrder's store holds. No program in sight. What an act of quitrentlaw16 does to a store's pairs, and those of the last Commit. No program in sight. The moves of a walk through a region that draws its order, by the operation's number. No program in sight. -/
import Derived.Test.YtidppalhjknlfaaDoorQMMake
import Derived.Deep.RegionHeld3
namespace Go.Proofs.YtidppalhjknlfaaDoor
open Go.RowKit
set_option linter.unusedVariables false
set_option linter.unusedSimpArgs false
/-- the key of two numbers -/
def kk (l m : List Int) (i : Nat) : ByteArray := keyS 5 [l.getD i 0, m.getD i 0]
/-- what is in the store behind the first n puts -/
def nowN (l m : List Int) : Nat → AL
  | 0 => []
  | n + 1 => AL.put (kk l m n) ByteArray.empty (nowN l m n)
theorem nowN_nd (l m : List Int) : ∀ n, AL.ND (nowN l m n)
  | 0 => by unfold AL.ND AL.keys nowN; simp
  | n + 1 => nd_put (nowN_nd l m n)
theorem put_length (k v : ByteArray) : ∀ l : AL, (AL.put k v l).length ≤ l.length + 1
  | [] => by simp [AL.put]
  | p :: l => by
    unfold AL.put
    split
    · simp
    · simp; exact put_length k v l
theorem nowN_len (l m : List Int) : ∀ n, (nowN l m n).length ≤ n
  | 0 => Nat.le_refl _
  | n + 1 => Nat.le_trans (put_length _ _ _) (by have := nowN_len l m n; omega)
theorem nowN_mem (l m : List Int) : ∀ n q, q ∈ nowN l m n ↔ ∃ i, i < n ∧ q = (kk l m i, ByteArray.empty)
  | 0, q => by simp [nowN]
  | n + 1, q => by
    rw [nowN, mem_put (nowN_nd l m n), nowN_mem l m n q]
    constructor
    · rintro (h | ⟨⟨i, hi, h⟩, _⟩)
      · exact ⟨n, by omega, h⟩
      · exact ⟨i, by omega, h⟩
    · rintro ⟨i, hi, h⟩
      by_cases he : q.1 = kk l m n
      · left
        rw [h] at he ⊢
        exact Prod.ext he rfl
      · right
        refine ⟨⟨i, ?_, h⟩, he⟩
        rcases Nat.lt_or_ge i n with h' | h'
        · exact h'
        · have : i = n := by omega
          subst this
          rw [h] at he
          exact absurd rfl he
theorem kk_size (l m : List Int) (i : Nat) : (kk l m i).size = 17 := by unfold kk; rw [keyS_size]; rfl
theorem nowN_small (l m : List Int) (n : Nat) (hn : n ≤ 1000000) : Small (nowN l m n) := by
  refine ⟨Nat.le_trans (nowN_len l m n) hn, fun p hp => ?_⟩
  obtain ⟨i, _, rfl⟩ := (nowN_mem l m n p).1 hp
  exact ⟨by rw [kk_size]; omega, show ByteArray.empty.size ≤ 1024 by decide⟩
theorem putE_kk (l m : List Int) (i : Nat) (now : AL) : putE (-1) now (kk l m i) ByteArray.empty = 0 := by
  have h := kk_size l m i
  have he : ByteArray.empty.size = 0 := rfl
  unfold putE
  rw [if_neg (by omega), if_neg (by omega), if_neg (by omega)]
theorem putA_kk (l m : List Int) (i : Nat) : putA (-1) (nowN l m i) (kk l m i) ByteArray.empty = nowN l m (i + 1) := by
  unfold putA; rw [if_pos (putE_kk l m i _)]; rfl
/-! ### numbers and their bytes -/
theorem valN_be (n : Int) (h0 : 0 ≤ n) (h1 : n ≤ 18446744073709551615) : ∀ j, j ≤ 8 → (valN (be n j).data.toList : Int) = n / 2 ^ (64 - 8 * j)
  | 0, _ => by
    show (valN [] : Int) = _
    rw [show valN [] = 0 from rfl]
    symm
    exact Int.ediv_eq_zero_of_lt h0 (by omega)
  | j + 1, hj => by
    have ih := valN_be n h0 h1 j (by omega)
    have e : (be n (j + 1)).data.toList = (be n j).data.toList ++ [UInt8.ofNat (n / 2 ^ (56 - 8 * j) % 256).toNat] := by
      show (be n j ++ bOne _).data.toList = _
      simp [ByteArray.data_append, bOne]
    rw [e, valN_snoc]
    have hr0 : 0 ≤ n / 2 ^ (56 - 8 * j) % 256 := Int.emod_nonneg _ (by decide)
    have hr1 : n / 2 ^ (56 - 8 * j) % 256 < 256 := Int.emod_lt_of_pos _ (by decide)
    have hu : ((UInt8.ofNat (n / 2 ^ (56 - 8 * j) % 256).toNat).toNat : Int) = n / 2 ^ (56 - 8 * j) % 256 := by
      rw [UInt8.toNat_ofNat_of_lt' (by show (n / 2 ^ (56 - 8 * j) % 256).toNat < 256; omega)]; omega
    have hp : (2 : Int) ^ (64 - 8 * j) = 2 ^ (56 - 8 * j) * 256 := by
      rw [show 64 - 8 * j = (56 - 8 * j) + 8 by omega, Int.pow_add]; rfl
    have hk : n / 2 ^ (64 - 8 * j) = n / 2 ^ (56 - 8 * j) / 256 := by
      rw [hp, Int.ediv_ediv_of_nonneg (Int.pow_nonneg (by decide))]
    rw [Int.natCast_add, Int.natCast_mul, hu, ih, hk, show 64 - 8 * (j + 1) = 56 - 8 * j by omega]
    omega
theorem valN_be8 (n : Int) (h0 : 0 ≤ n) (h1 : n ≤ 18446744073709551615) : (valN (be8 n).data.toList : Int) = n := by
  have := valN_be n h0 h1 8 (by omega)
  unfold be8
  simpa using this
theorem pre_append (s u : ByteArray) : pre s (s ++ u) = true := by
  unfold pre
  rw [show (s ++ u).data.toList = s.data.toList ++ u.data.toList by simp [ByteArray.data_append], List.isPrefixOf_iff_prefix]
  exact List.prefix_append _ _
theorem pre_key (x y : Int) : pre (keyS 5 [x]) (keyS 5 [x, y]) = true := by
  rw [show keyS 5 [x, y] = keyS 5 [x] ++ be8 y from keyS_snoc 5 [x] y]
  exact pre_append _ _
theorem any_snoc {α : Type} (f : α → Bool) (l : List α) (t : Nat) (q : α) (h : l[t]? = some q) : (l.take (t + 1)).any f = ((l.take t).any f || f q) := by
  rw [List.take_add_one, h]; simp
theorem scan_len (s : ByteArray) (l : AL) : (AL.scan s l).length ≤ l.length := by
  unfold AL.scan
  refine Nat.le_trans (List.length_filter_le _ _) ?_
  rw [(srt_perm l).length_eq]; exact Nat.le_refl _
end Go.Proofs.YtidppalhjknlfaaDoor
namespace Go.Proofs.YtidppalhjknlfaaDoor
open Go.RowKit
set_option linter.unusedVariables false
set_option linter.unusedSimpArgs false
/-- an act: what is done, key, value, number -/
structure A16 where
  doo : Int
  key : ByteArray
  val : ByteArray
  n : Int
structure A16.Ok (a : A16) : Prop where
  d : 0 ≤ a.doo ∧ a.doo ≤ 255
  k : a.key.size ≤ maxLen
  v : a.val.size ≤ maxLen
  n : 0 ≤ a.n ∧ a.n ≤ 18446744073709551615
/-- a store's pairs: in order of no one, each key once, small, at most m of them -/
structure St (m : Nat) (l : AL) : Prop where
  nd : AL.ND l
  len : l.length ≤ m
  small : ∀ p ∈ l, p.1.size ≤ 256 ∧ p.2.size ≤ 1024
theorem St.nil : St 0 [] := ⟨by unfold AL.ND AL.keys; simp, Nat.le_refl _, fun p h => by simp at h⟩
theorem St.mono {m m' : Nat} {l : AL} (h : St m l) (hm : m ≤ m') : St m' l := ⟨h.nd, Nat.le_trans h.len hm, h.small⟩
theorem St.putA {m : Nat} {l : AL} (h : St m l) (room : Int) (k v : ByteArray) : St (m + 1) (putA room l k v) := by
  unfold Go.Proofs.YtidppalhjknlfaaDoor.putA
  by_cases he : putE room l k v = 0
  · rw [if_pos he]
    have hs : k.size ≤ 256 ∧ v.size ≤ 1024 := by
      unfold putE at he
      by_cases h0 : k.size = 0
      · rw [if_pos h0] at he; cases he
      · rw [if_neg h0] at he
        by_cases h1 : 256 < k.size ∨ 1024 < v.size
        · rw [if_pos h1] at he; cases he
        · omega
    refine ⟨nd_put h.nd, Nat.le_trans (put_length _ _ _) (by have := h.len; omega), fun p hp => ?_⟩
    rcases (mem_put h.nd).1 hp with rfl | ⟨hp, _⟩
    · exact hs
    · exact h.small p hp
  · rw [if_neg he]; exact h.mono (by omega)
theorem St.del {m : Nat} {l : AL} (h : St m l) (k : ByteArray) : St m (AL.del k l) :=
  ⟨nd_del h.nd, Nat.le_trans (del_sublist k l).length_le h.len, fun p hp => h.small p ((del_sublist k l).subset hp)⟩
theorem St.setA {m : Nat} {l : AL} (h : St m l) (room : Int) (k : ByteArray) (n : Int) : St (m + 1) (setA room l k n) := by
  unfold Go.Proofs.YtidppalhjknlfaaDoor.setA
  split
  · exact (h.del k).mono (by omega)
  · exact h.putA _ _ _
theorem St.get {m : Nat} {l : AL} (h : St m l) {k v : ByteArray} (hg : AL.get k l = some v) : v.size ≤ 1024 := (h.small _ ((get_some h.nd).1 hg)).2
theorem St.sml {m : Nat} {l : AL} (h : St m l) (hm : m ≤ 1000000) : Small l := ⟨Nat.le_trans h.len hm, h.small⟩
end Go.Proofs.YtidppalhjknlfaaDoor
namespace Go.Proofs.YtidppalhjknlfaaDoor
set_option linter.unusedVariables false
set_option linter.unusedSimpArgs false
section
variable {P : Program} {l r : List Oper} {Q : Exit → Act → World → Prop} {md : Region.Mode} {S : World → Prop} {oi : Oper} {v : Value} {fuel : Nat} {listed : Array Bool} {a : Act} {w : World}
theorem at_drop {i : Nat} (hi : l.drop i = oi :: r) : l.toArray[i]? = some oi := by
  have : (l.drop i)[0]? = some oi := by rw [hi]; rfl
  rw [List.getElem?_drop] at this
  simpa using this
/-- number i is taken first: it yields v in every world that meets S -/
theorem takeN (i : Nat) (hi : l.drop i = oi :: r) (hs : Region.noSelect l.toArray = true) (hf : Region.free md l.toArray listed i = true) (hr : (Region.ready md l.toArray listed).contains i = true)
    (hQ : ∀ c a w, Q (.panic c) (a.put oi.dst v) w → Q (.panic c) a w) (hw : Region.wanted oi (yielded l.toArray a.tmps) = true) (hy : ∀ w, S w → (execOp a.eval oi).run P w = .ok (.value v) w) (hS : S w)
    (h : wpAnyH P md l.toArray Q S fuel (listed.setIfInBounds i true) (a.put oi.dst v) w) : wpAnyH P md l.toArray Q S (fuel + 1) listed a w :=
  wpAnyH_take (at_drop hi) hs hf hr hQ (.inl ⟨hw, hy⟩) hS h
/-- number i is taken first: its guard says no -/
theorem skipN (i : Nat) (hi : l.drop i = oi :: r) (hs : Region.noSelect l.toArray = true) (hf : Region.free md l.toArray listed i = true) (hr : (Region.ready md l.toArray listed).contains i = true)
    (hQ : ∀ c a w, Q (.panic c) (a.put oi.dst undef) w → Q (.panic c) a w) (hw : Region.wanted oi (yielded l.toArray a.tmps) = false) (hS : S w)
    (h : wpAnyH P md l.toArray Q S fuel (listed.setIfInBounds i true) (a.put oi.dst undef) w) : wpAnyH P md l.toArray Q S (fuel + 1) listed a w :=
  wpAnyH_take (at_drop hi) hs hf hr hQ (.inr ⟨hw, rfl⟩) hS h
/-- number i comes up next -/
theorem readyN {i : Nat} {rs : List Nat} (hi : l.drop i = oi :: r)
    (h : ∀ K' : Act → World → Prop, Shut (∀ a w, S w → (S w → wpAnyH P md l.toArray Q S fuel (listed.setIfInBounds i true) a w) → K' a w) → if Region.wanted oi (yielded l.toArray a.tmps) = true then Oper.wp P oi a w K' Q else K' (a.put oi.dst undef) w)
    (hs : AllReadyH P md l.toArray Q S fuel listed a w rs) : AllReadyH P md l.toArray Q S fuel listed a w (i :: rs) :=
  AllReadyH.cons (at_drop hi) h hs
end
end Go.Proofs.YtidppalhjknlfaaDoor
