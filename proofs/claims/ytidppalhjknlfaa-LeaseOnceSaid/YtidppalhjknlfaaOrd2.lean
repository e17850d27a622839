/- What KvOrder's store holds. No program in sight. -/
import Derived.Test.YtidppalhjknlfaaOrd
namespace Go.Proofs.Ytidppalhjknlfaa
open Go.RowKit
set_option linter.unusedVariables false
set_option linter.unusedSimpArgs false
/-- the key of two numbers -/
def kk (l m : List Int) (i : Nat) : ByteArray := keyS 5 [l.getD i 0, m.getD i 0]
/-- what is in the store behind the first n puts -/
def nowN (l m : List Int) : Nat → AL
  | 0 => []
  | n + 1 => AL.put (kk l m n) ByteArray.empty (nowN l m n)
theorem nowN_nd (l m : List Int) : ∀ n, AL.ND (nowN l m n)
  | 0 => by unfold AL.ND AL.keys nowN; simp
  | n + 1 => nd_put (nowN_nd l m n)
theorem put_length (k v : ByteArray) : ∀ l : AL, (AL.put k v l).length ≤ l.length + 1
  | [] => by simp [AL.put]
  | p :: l => by
    unfold AL.put
    split
    · simp
    · simp; exact put_length k v l
theorem nowN_len (l m : List Int) : ∀ n, (nowN l m n).length ≤ n
  | 0 => Nat.le_refl _
  | n + 1 => Nat.le_trans (put_length _ _ _) (by have := nowN_len l m n; omega)
theorem nowN_mem (l m : List Int) : ∀ n q, q ∈ nowN l m n ↔ ∃ i, i < n ∧ q = (kk l m i, ByteArray.empty)
  | 0, q => by simp [nowN]
  | n + 1, q => by
    rw [nowN, mem_put (nowN_nd l m n), nowN_mem l m n q]
    constructor
    · rintro (h | ⟨⟨i, hi, h⟩, _⟩)
      · exact ⟨n, by omega, h⟩
      · exact ⟨i, by omega, h⟩
    · rintro ⟨i, hi, h⟩
      by_cases he : q.1 = kk l m n
      · left
        rw [h] at he ⊢
        exact Prod.ext he rfl
      · right
        refine ⟨⟨i, ?_, h⟩, he⟩
        rcases Nat.lt_or_ge i n with h' | h'
        · exact h'
        · have : i = n := by omega
          subst this
          rw [h] at he
          exact absurd rfl he
theorem kk_size (l m : List Int) (i : Nat) : (kk l m i).size = 17 := by unfold kk; rw [keyS_size]; rfl
theorem nowN_small (l m : List Int) (n : Nat) (hn : n ≤ 1000000) : Small (nowN l m n) := by
  refine ⟨Nat.le_trans (nowN_len l m n) hn, fun p hp => ?_⟩
  obtain ⟨i, _, rfl⟩ := (nowN_mem l m n p).1 hp
  exact ⟨by rw [kk_size]; omega, show ByteArray.empty.size ≤ 1024 by decide⟩
theorem putE_kk (l m : List Int) (i : Nat) (now : AL) : putE (-1) now (kk l m i) ByteArray.empty = 0 := by
  have h := kk_size l m i
  have he : ByteArray.empty.size = 0 := rfl
  unfold putE
  rw [if_neg (by omega), if_neg (by omega), if_neg (by omega)]
theorem putA_kk (l m : List Int) (i : Nat) : putA (-1) (nowN l m i) (kk l m i) ByteArray.empty = nowN l m (i + 1) := by
  unfold putA; rw [if_pos (putE_kk l m i _)]; rfl
/-! ### numbers and their bytes -/
theorem valN_be (n : Int) (h0 : 0 ≤ n) (h1 : n ≤ 18446744073709551615) : ∀ j, j ≤ 8 → (valN (be n j).data.toList : Int) = n / 2 ^ (64 - 8 * j)
  | 0, _ => by
    show (valN [] : Int) = _
    rw [show valN [] = 0 from rfl]
    symm
    exact Int.ediv_eq_zero_of_lt h0 (by omega)
  | j + 1, hj => by
    have ih := valN_be n h0 h1 j (by omega)
    have e : (be n (j + 1)).data.toList = (be n j).data.toList ++ [UInt8.ofNat (n / 2 ^ (56 - 8 * j) % 256).toNat] := by
      show (be n j ++ bOne _).data.toList = _
      simp [ByteArray.data_append, bOne]
    rw [e, valN_snoc]
    have hr0 : 0 ≤ n / 2 ^ (56 - 8 * j) % 256 := Int.emod_nonneg _ (by decide)
    have hr1 : n / 2 ^ (56 - 8 * j) % 256 < 256 := Int.emod_lt_of_pos _ (by decide)
    have hu : ((UInt8.ofNat (n / 2 ^ (56 - 8 * j) % 256).toNat).toNat : Int) = n / 2 ^ (56 - 8 * j) % 256 := by
      rw [UInt8.toNat_ofNat_of_lt' (by show (n / 2 ^ (56 - 8 * j) % 256).toNat < 256; omega)]; omega
    have hp : (2 : Int) ^ (64 - 8 * j) = 2 ^ (56 - 8 * j) * 256 := by
      rw [show 64 - 8 * j = (56 - 8 * j) + 8 by omega, Int.pow_add]; rfl
    have hk : n / 2 ^ (64 - 8 * j) = n / 2 ^ (56 - 8 * j) / 256 := by
      rw [hp, Int.ediv_ediv_of_nonneg (Int.pow_nonneg (by decide))]
    rw [Int.natCast_add, Int.natCast_mul, hu, ih, hk, show 64 - 8 * (j + 1) = 56 - 8 * j by omega]
    omega
theorem valN_be8 (n : Int) (h0 : 0 ≤ n) (h1 : n ≤ 18446744073709551615) : (valN (be8 n).data.toList : Int) = n := by
  have := valN_be n h0 h1 8 (by omega)
  unfold be8
  simpa using this
theorem pre_append (s u : ByteArray) : pre s (s ++ u) = true := by
  unfold pre
  rw [show (s ++ u).data.toList = s.data.toList ++ u.data.toList by simp [ByteArray.data_append], List.isPrefixOf_iff_prefix]
  exact List.prefix_append _ _
theorem pre_key (x y : Int) : pre (keyS 5 [x]) (keyS 5 [x, y]) = true := by
  rw [show keyS 5 [x, y] = keyS 5 [x] ++ be8 y from keyS_snoc 5 [x] y]
  exact pre_append _ _
theorem any_snoc {α : Type} (f : α → Bool) (l : List α) (t : Nat) (q : α) (h : l[t]? = some q) : (l.take (t + 1)).any f = ((l.take t).any f || f q) := by
  rw [List.take_add_one, h]; simp
theorem scan_len (s : ByteArray) (l : AL) : (AL.scan s l).length ≤ l.length := by
  unfold AL.scan
  refine Nat.le_trans (List.length_filter_le _ _) ?_
  rw [(srt_perm l).length_eq]; exact Nat.le_refl _
end Go.Proofs.Ytidppalhjknlfaa
