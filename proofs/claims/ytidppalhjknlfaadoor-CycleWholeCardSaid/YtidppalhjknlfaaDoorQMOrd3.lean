/- Keys of two numbers in order; a part of a byte slice. Plain calendar arithmetic: months by number, days by number. No program in sight. -/
import Derived.Test.YtidppalhjknlfaaDoorQMOrd2
import Derived.KernelRfl
namespace Go.Proofs.YtidppalhjknlfaaDoor
open Go.RowKit
set_option linter.unusedVariables false
set_option linter.unusedSimpArgs false
theorem keyS2 (x y : Int) : keyS 5 [x, y] = bOne 5 ++ be8 x ++ be8 y := by
  rw [show keyS 5 [x, y] = keyS 5 [x] ++ be8 y from keyS_snoc 5 [x] y, show keyS 5 [x] = keyS 5 [] ++ be8 x from keyS_snoc 5 [] x]; rfl
theorem append_list (s u : ByteArray) : (s ++ u).data.toList = s.data.toList ++ u.data.toList := by simp [ByteArray.data_append]
theorem be8_len (n : Int) : (be8 n).data.toList.length = 8 := by rw [data_len]; exact be_size n 8
theorem key_lt {x y x' y' : Int} (hx : 0 ≤ x ∧ x ≤ 18446744073709551615) (hy : 0 ≤ y ∧ y ≤ 18446744073709551615) (hx' : 0 ≤ x' ∧ x' ≤ 18446744073709551615) (hy' : 0 ≤ y' ∧ y' ≤ 18446744073709551615)
    (h : slt (keyS 5 [x, y]) (keyS 5 [x', y']) = true) : x < x' ∨ (x = x' ∧ y < y') := by
  unfold slt at h
  rw [toList_data, toList_data, keyS2, keyS2] at h
  simp only [append_list, List.append_assoc] at h
  rw [bl_append _ _ _ _ rfl, bl_irrefl, Bool.false_or, Bool.and_eq_true] at h
  have h2 := h.2
  rw [bl_append _ _ _ _ (by rw [be8_len, be8_len]), Bool.or_eq_true, Bool.and_eq_true, bl_val _ _ (by rw [be8_len, be8_len]), bl_val _ _ (by rw [be8_len, be8_len])] at h2
  have vx := valN_be8 x hx.1 hx.2
  have vy := valN_be8 y hy.1 hy.2
  have vx' := valN_be8 x' hx'.1 hx'.2
  have vy' := valN_be8 y' hy'.1 hy'.2
  rcases h2 with h2 | ⟨h2, h3⟩
  · have := of_decide_eq_true h2
    left; omega
  · have h3' := of_decide_eq_true h3
    have h2' : valN (be8 x).data.toList = valN (be8 x').data.toList := by rw [beq_iff_eq.1 h2]
    right; omega
theorem BS.sub {w : World} {b o n c : Nat} {s : ByteArray} (h : BS w (.slice (some ⟨b, o, none⟩) n c) s) (lo hi : Nat) (h1 : lo ≤ hi) (h2 : hi ≤ n) : BS w (.slice (some ⟨b, o + lo, none⟩) (hi - lo) (c - lo)) (s.extract lo hi) := by
  obtain ⟨a', c', he, g1, g2, _, g3⟩ := h
  simp only [Value.slice.injEq] at he
  obtain ⟨rfl, rfl, rfl⟩ := he
  have hsz : (s.extract lo hi).size = hi - lo := by rw [ByteArray.size_extract]; omega
  refine ⟨_, _, by rw [hsz], by rw [hsz]; omega, by omega, (fun h => by cases h), ?_⟩
  rcases g3 with g3 | ⟨b', o', he, hc⟩
  · left
    subst g3
    have : ByteArray.empty.size = 0 := rfl
    exact size0 (by rw [hsz]; omega)
  · injection he with he
    injection he with he1 he2
    subst he1; subst he2
    refine .inr ⟨_, _, rfl, fun i hi' => ?_⟩
    rw [hsz] at hi'
    rw [Nat.add_assoc, hc (lo + i) (by omega)]
    have e : (s.extract lo hi).data.toList.getD i 0 = s.data.toList.getD (lo + i) 0 := by
      rw [List.getD_eq_getElem?_getD, List.getD_eq_getElem?_getD]
      have : (s.extract lo hi).data = s.data.extract lo hi := by simp [ByteArray.data_extract]
      rw [this, Array.getElem?_toList, Array.getElem?_toList, Array.getElem?_extract, if_pos (by have : s.data.size = s.size := rfl; omega)]
    rw [e]
theorem ba_ext {a b : ByteArray} (h : a.data.toList = b.data.toList) : a = b := toList_inj (by rw [toList_data, toList_data]; exact h)
theorem extract_list (s : ByteArray) (lo hi : Nat) : (s.extract lo hi).data.toList = (s.data.toList.drop lo).take (hi - lo) := by
  rw [ByteArray.data_extract, Array.toList_extract, List.extract_eq_take_drop]
theorem key_list (x y : Int) : (keyS 5 [x, y]).data.toList = [5] ++ ((be8 x).data.toList ++ (be8 y).data.toList) := by
  rw [keyS2, append_list, append_list, List.append_assoc]; rfl
theorem sub_x (x y : Int) : (keyS 5 [x, y]).extract 1 9 = be8 x := by
  apply ba_ext
  rw [extract_list, key_list]
  show ((be8 x).data.toList ++ (be8 y).data.toList).take 8 = _
  rw [List.take_append_of_le_length (by rw [be8_len]; omega), List.take_of_length_le (by rw [be8_len]; omega)]
theorem sub_y (x y : Int) : (keyS 5 [x, y]).extract 9 17 = be8 y := by
  apply ba_ext
  rw [extract_list, key_list]
  show (((be8 x).data.toList ++ (be8 y).data.toList).drop 8).take 8 = _
  rw [List.drop_append_of_le_length (by rw [be8_len]; omega), List.drop_of_length_le (by rw [be8_len]; omega), List.nil_append, List.take_of_length_le (by rw [be8_len]; omega)]
end Go.Proofs.YtidppalhjknlfaaDoor
namespace Go.Proofs.YtidppalhjknlfaaDoor.Cal
set_option linter.unusedVariables false
set_option linter.unusedSimpArgs false
/-- a year with a day more -/
def leap (y : Int) : Bool := decide (y % 4 = 0 ∧ (y % 100 ≠ 0 ∨ y % 400 = 0))
def l01 (y : Int) : Int := if leap y = true then 1 else 0
/-- days of a month (0 to 11), of a year without a day more -/
def base (m : Int) : Int := if m = 1 then 28 else if m = 3 ∨ m = 5 ∨ m = 8 ∨ m = 10 then 30 else 31
/-- days of a month's number -/
def len (M : Int) : Int := base (M % 12) + (if M % 12 = 1 then l01 (M / 12) else 0)
def years (y : Int) : Int := 365 * (y - 1) + (y - 1) / 4 - (y - 1) / 100 + (y - 1) / 400
/-- days ahead of a month in a year -/
def cum (m lp : Int) : Int := (367 * m + 5) / 12 - (if m ≤ 1 then 0 else 2 - lp)
/-- number of a month's first day -/
def first (M : Int) : Int := years (M / 12) - 719162 + cum (M % 12) (l01 (M / 12))

theorem l01_bd (y : Int) : 0 ≤ l01 y ∧ l01 y ≤ 1 := by unfold l01; split <;> omega
theorem base_bd (m : Int) : 28 ≤ base m ∧ base m ≤ 31 := by unfold base; (repeat' split) <;> omega
theorem len_bd (M : Int) : 28 ≤ len M ∧ len M ≤ 32 := by
  unfold len; have := base_bd (M % 12); have := l01_bd (M / 12); split <;> omega
theorem years_succ (y : Int) : years (y + 1) = years y + 365 + l01 y := by
  unfold years l01 leap
  split
  · rename_i h; simp at h; omega
  · rename_i h; simp at h; omega
theorem cum_succ (m lp : Int) (h0 : 0 ≤ m) (h1 : m ≤ 11) : cum (m + 1) lp = cum m lp + (base m + (if m = 1 then lp else 0)) := by
  have : m = 0 ∨ m = 1 ∨ m = 2 ∨ m = 3 ∨ m = 4 ∨ m = 5 ∨ m = 6 ∨ m = 7 ∨ m = 8 ∨ m = 9 ∨ m = 10 ∨ m = 11 := by omega
  rcases this with rfl | rfl | rfl | rfl | rfl | rfl | rfl | rfl | rfl | rfl | rfl | rfl <;> simp [cum, base] <;> omega
theorem cum_12 (lp : Int) : cum 12 lp = 365 + lp := by simp [cum]; omega
theorem cum_bd (m lp : Int) (h0 : 0 ≤ m) (h1 : m ≤ 12) (h2 : 0 ≤ lp) (h3 : lp ≤ 1) : 0 ≤ cum m lp ∧ cum m lp ≤ 366 := by
  unfold cum; split <;> omega
/-- THE STEP: the next month begins when this one ends. -/
theorem first_succ (M : Int) : first (M + 1) = first M + len M := by
  unfold first len
  have hc := cum_succ (M % 12) (l01 (M / 12)) (by omega) (by omega)
  by_cases h : M % 12 = 11
  · have e1 : (M + 1) / 12 = M / 12 + 1 := by omega
    have e2 : (M + 1) % 12 = 0 := by omega
    have h12 := cum_12 (l01 (M / 12))
    rw [h] at hc
    have e3 : (11 : Int) + 1 = 12 := rfl
    rw [e3] at hc
    rw [e1, e2, h, years_succ]
    have : cum 0 (l01 (M / 12 + 1)) = 0 := by simp [cum]
    omega
  · have e1 : (M + 1) / 12 = M / 12 := by omega
    have e2 : (M + 1) % 12 = M % 12 + 1 := by omega
    rw [e1, e2]
    omega
theorem first_mono_nat (M : Int) (k : Nat) : first M + 28 * k ≤ first (M + k) := by
  induction k with
  | zero => simp
  | succ k ih =>
    have := first_succ (M + k)
    have hb := len_bd (M + k)
    have e : M + ((k + 1 : Nat) : Int) = M + k + 1 := by omega
    rw [e]
    omega
theorem first_mono {M N : Int} (h : M ≤ N) : first M + 28 * (N - M) ≤ first N := by
  have := first_mono_nat M (N - M).toNat
  have e : M + ((N - M).toNat : Int) = N := by omega
  rw [e] at this
  omega
theorem first_year (y : Int) : first (12 * y) = years y - 719162 := by
  unfold first
  have e1 : 12 * y / 12 = y := by omega
  have e2 : 12 * y % 12 = 0 := by omega
  rw [e1, e2]; simp [cum]
theorem first_12 : first 12 = -719162 := by decide
theorem first_end : first 120000 = 2932897 := by decide
/-- a day's month: there is one, and one alone. -/
def In (M d : Int) : Prop := first M ≤ d ∧ d < first (M + 1)
theorem In_uniq {M N d : Int} (h : In M d) (h' : In N d) : M = N := by
  unfold In at h h'
  by_cases h1 : M < N
  · have := first_mono (M := M + 1) (N := N) (by omega); omega
  · by_cases h2 : N < M
    · have := first_mono (M := N + 1) (N := M) (by omega); omega
    · omega
theorem In_ge {M d : Int} (h : In M d) {N : Int} (hd : first N ≤ d) : N ≤ M := by
  unfold In at h
  by_cases h2 : M < N
  · have := first_mono (M := M + 1) (N := N) (by omega); omega
  · omega
theorem In_lt {M d : Int} (h : In M d) {N : Int} (hd : d < first N) : M < N := by
  unfold In at h
  by_cases h2 : N ≤ M
  · have := first_mono (M := N) (N := M) (by omega); omega
  · omega
theorem years_mono {a b : Int} (h : a ≤ b) : years a + 365 * (b - a) ≤ years b := by unfold years; omega
theorem years_bd {y : Int} (h0 : 0 ≤ y) (h1 : y ≤ 10000) : -366 ≤ years y ∧ years y ≤ 3652060 := by unfold years; omega
end Go.Proofs.YtidppalhjknlfaaDoor.Cal
