/- Plain calendar arithmetic: months by number, days by number. No program in sight. -/
import Derived.KernelRfl
namespace Go.Proofs.YtjcjjobnkcgmcaaDoor.Cal
/-- a year with a day more -/
def leap (y : Int) : Bool := decide (y % 4 = 0 ∧ (y % 100 ≠ 0 ∨ y % 400 = 0))
def l01 (y : Int) : Int := if leap y = true then 1 else 0
/-- days of a month (0 to 11), of a year without a day more -/
def base (m : Int) : Int := if m = 1 then 28 else if m = 3 ∨ m = 5 ∨ m = 8 ∨ m = 10 then 30 else 31
/-- days of a month's number -/
def len (M : Int) : Int := base (M % 12) + (if M % 12 = 1 then l01 (M / 12) else 0)
def years (y : Int) : Int := 365 * (y - 1) + (y - 1) / 4 - (y - 1) / 100 + (y - 1) / 400
/-- days ahead of a month in a year -/
def cum (m lp : Int) : Int := (367 * m + 5) / 12 - (if m ≤ 1 then 0 else 2 - lp)
/-- number of a month's first day -/
def first (M : Int) : Int := years (M / 12) - 719162 + cum (M % 12) (l01 (M / 12))

theorem l01_bd (y : Int) : 0 ≤ l01 y ∧ l01 y ≤ 1 := by unfold l01; split <;> omega
theorem base_bd (m : Int) : 28 ≤ base m ∧ base m ≤ 31 := by unfold base; (repeat' split) <;> omega
theorem len_bd (M : Int) : 28 ≤ len M ∧ len M ≤ 32 := by
  unfold len; have := base_bd (M % 12); have := l01_bd (M / 12); split <;> omega
theorem years_succ (y : Int) : years (y + 1) = years y + 365 + l01 y := by
  unfold years l01 leap
  split
  · rename_i h; simp at h; omega
  · rename_i h; simp at h; omega
theorem cum_succ (m lp : Int) (h0 : 0 ≤ m) (h1 : m ≤ 11) : cum (m + 1) lp = cum m lp + (base m + (if m = 1 then lp else 0)) := by
  have : m = 0 ∨ m = 1 ∨ m = 2 ∨ m = 3 ∨ m = 4 ∨ m = 5 ∨ m = 6 ∨ m = 7 ∨ m = 8 ∨ m = 9 ∨ m = 10 ∨ m = 11 := by omega
  rcases this with rfl | rfl | rfl | rfl | rfl | rfl | rfl | rfl | rfl | rfl | rfl | rfl <;> simp [cum, base] <;> omega
theorem cum_12 (lp : Int) : cum 12 lp = 365 + lp := by simp [cum]; omega
theorem cum_bd (m lp : Int) (h0 : 0 ≤ m) (h1 : m ≤ 12) (h2 : 0 ≤ lp) (h3 : lp ≤ 1) : 0 ≤ cum m lp ∧ cum m lp ≤ 366 := by
  unfold cum; split <;> omega
/-- THE STEP: the next month begins when this one ends. -/
theorem first_succ (M : Int) : first (M + 1) = first M + len M := by
  unfold first len
  have hc := cum_succ (M % 12) (l01 (M / 12)) (by omega) (by omega)
  by_cases h : M % 12 = 11
  · have e1 : (M + 1) / 12 = M / 12 + 1 := by omega
    have e2 : (M + 1) % 12 = 0 := by omega
    have h12 := cum_12 (l01 (M / 12))
    rw [h] at hc
    have e3 : (11 : Int) + 1 = 12 := rfl
    rw [e3] at hc
    rw [e1, e2, h, years_succ]
    have : cum 0 (l01 (M / 12 + 1)) = 0 := by simp [cum]
    omega
  · have e1 : (M + 1) / 12 = M / 12 := by omega
    have e2 : (M + 1) % 12 = M % 12 + 1 := by omega
    rw [e1, e2]
    omega
theorem first_mono_nat (M : Int) (k : Nat) : first M + 28 * k ≤ first (M + k) := by
  induction k with
  | zero => simp
  | succ k ih =>
    have := first_succ (M + k)
    have hb := len_bd (M + k)
    have e : M + ((k + 1 : Nat) : Int) = M + k + 1 := by omega
    rw [e]
    omega
theorem first_mono {M N : Int} (h : M ≤ N) : first M + 28 * (N - M) ≤ first N := by
  have := first_mono_nat M (N - M).toNat
  have e : M + ((N - M).toNat : Int) = N := by omega
  rw [e] at this
  omega
theorem first_year (y : Int) : first (12 * y) = years y - 719162 := by
  unfold first
  have e1 : 12 * y / 12 = y := by omega
  have e2 : 12 * y % 12 = 0 := by omega
  rw [e1, e2]; simp [cum]
theorem first_12 : first 12 = -719162 := by decide
theorem first_end : first 120000 = 2932897 := by decide
/-- a day's month: there is one, and one alone. -/
def In (M d : Int) : Prop := first M ≤ d ∧ d < first (M + 1)
theorem In_uniq {M N d : Int} (h : In M d) (h' : In N d) : M = N := by
  unfold In at h h'
  by_cases h1 : M < N
  · have := first_mono (M := M + 1) (N := N) (by omega); omega
  · by_cases h2 : N < M
    · have := first_mono (M := N + 1) (N := M) (by omega); omega
    · omega
theorem In_ge {M d : Int} (h : In M d) {N : Int} (hd : first N ≤ d) : N ≤ M := by
  unfold In at h
  by_cases h2 : M < N
  · have := first_mono (M := M + 1) (N := N) (by omega); omega
  · omega
theorem In_lt {M d : Int} (h : In M d) {N : Int} (hd : d < first N) : M < N := by
  unfold In at h
  by_cases h2 : N ≤ M
  · have := first_mono (M := N) (N := M) (by omega); omega
  · omega
theorem years_mono {a b : Int} (h : a ≤ b) : years a + 365 * (b - a) ≤ years b := by unfold years; omega
theorem years_bd {y : Int} (h0 : 0 ≤ y) (h1 : y ≤ 10000) : -366 ≤ years y ∧ years y ≤ 3652060 := by unfold years; omega
end Go.Proofs.YtjcjjobnkcgmcaaDoor.Cal
