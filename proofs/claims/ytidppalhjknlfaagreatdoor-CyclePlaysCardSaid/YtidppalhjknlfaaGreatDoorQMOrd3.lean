/- Keys of two numbers in order; a part of a byte slice. Reading what was written with package wire, in plain words; a lease's bytes. No walk here. Plain calendar arithmetic: months by number, days by number. No program in sight. kv.Scan, the pairs' blocks with their types. -/
import Derived.Test.YtidppalhjknlfaaGreatDoorQMMake
import Derived.Test.YtidppalhjknlfaaGreatDoorQRead
import Derived.KernelRfl
import Derived.Test.YtidppalhjknlfaaGreatDoorQScan2
namespace Go.Proofs.YtidppalhjknlfaaGreatDoor
open Go.RowKit
set_option linter.unusedVariables false
set_option linter.unusedSimpArgs false
theorem keyS2 (x y : Int) : keyS 5 [x, y] = bOne 5 ++ be8 x ++ be8 y := by
  rw [show keyS 5 [x, y] = keyS 5 [x] ++ be8 y from keyS_snoc 5 [x] y, show keyS 5 [x] = keyS 5 [] ++ be8 x from keyS_snoc 5 [] x]; rfl
theorem append_list (s u : ByteArray) : (s ++ u).data.toList = s.data.toList ++ u.data.toList := by simp [ByteArray.data_append]
theorem be8_len (n : Int) : (be8 n).data.toList.length = 8 := by rw [data_len]; exact be_size n 8
theorem key_lt {x y x' y' : Int} (hx : 0 ≤ x ∧ x ≤ 18446744073709551615) (hy : 0 ≤ y ∧ y ≤ 18446744073709551615) (hx' : 0 ≤ x' ∧ x' ≤ 18446744073709551615) (hy' : 0 ≤ y' ∧ y' ≤ 18446744073709551615)
    (h : slt (keyS 5 [x, y]) (keyS 5 [x', y']) = true) : x < x' ∨ (x = x' ∧ y < y') := by
  unfold slt at h
  rw [toList_data, toList_data, keyS2, keyS2] at h
  simp only [append_list, List.append_assoc] at h
  rw [bl_append _ _ _ _ rfl, bl_irrefl, Bool.false_or, Bool.and_eq_true] at h
  have h2 := h.2
  rw [bl_append _ _ _ _ (by rw [be8_len, be8_len]), Bool.or_eq_true, Bool.and_eq_true, bl_val _ _ (by rw [be8_len, be8_len]), bl_val _ _ (by rw [be8_len, be8_len])] at h2
  have vx := valN_be8 x hx.1 hx.2
  have vy := valN_be8 y hy.1 hy.2
  have vx' := valN_be8 x' hx'.1 hx'.2
  have vy' := valN_be8 y' hy'.1 hy'.2
  rcases h2 with h2 | ⟨h2, h3⟩
  · have := of_decide_eq_true h2
    left; omega
  · have h3' := of_decide_eq_true h3
    have h2' : valN (be8 x).data.toList = valN (be8 x').data.toList := by rw [beq_iff_eq.1 h2]
    right; omega
theorem BS.sub {w : World} {b o n c : Nat} {s : ByteArray} (h : BS w (.slice (some ⟨b, o, none⟩) n c) s) (lo hi : Nat) (h1 : lo ≤ hi) (h2 : hi ≤ n) : BS w (.slice (some ⟨b, o + lo, none⟩) (hi - lo) (c - lo)) (s.extract lo hi) := by
  obtain ⟨a', c', he, g1, g2, _, g3⟩ := h
  simp only [Value.slice.injEq] at he
  obtain ⟨rfl, rfl, rfl⟩ := he
  have hsz : (s.extract lo hi).size = hi - lo := by rw [ByteArray.size_extract]; omega
  refine ⟨_, _, by rw [hsz], by rw [hsz]; omega, by omega, (fun h => by cases h), ?_⟩
  rcases g3 with g3 | ⟨b', o', he, hc⟩
  · left
    subst g3
    have : ByteArray.empty.size = 0 := rfl
    exact size0 (by rw [hsz]; omega)
  · injection he with he
    injection he with he1 he2
    subst he1; subst he2
    refine .inr ⟨_, _, rfl, fun i hi' => ?_⟩
    rw [hsz] at hi'
    rw [Nat.add_assoc, hc (lo + i) (by omega)]
    have e : (s.extract lo hi).data.toList.getD i 0 = s.data.toList.getD (lo + i) 0 := by
      rw [List.getD_eq_getElem?_getD, List.getD_eq_getElem?_getD]
      have : (s.extract lo hi).data = s.data.extract lo hi := by simp [ByteArray.data_extract]
      rw [this, Array.getElem?_toList, Array.getElem?_toList, Array.getElem?_extract, if_pos (by have : s.data.size = s.size := rfl; omega)]
    rw [e]
theorem ba_ext {a b : ByteArray} (h : a.data.toList = b.data.toList) : a = b := toList_inj (by rw [toList_data, toList_data]; exact h)
theorem extract_list (s : ByteArray) (lo hi : Nat) : (s.extract lo hi).data.toList = (s.data.toList.drop lo).take (hi - lo) := by
  rw [ByteArray.data_extract, Array.toList_extract, List.extract_eq_take_drop]
theorem key_list (x y : Int) : (keyS 5 [x, y]).data.toList = [5] ++ ((be8 x).data.toList ++ (be8 y).data.toList) := by
  rw [keyS2, append_list, append_list, List.append_assoc]; rfl
theorem sub_x (x y : Int) : (keyS 5 [x, y]).extract 1 9 = be8 x := by
  apply ba_ext
  rw [extract_list, key_list]
  show ((be8 x).data.toList ++ (be8 y).data.toList).take 8 = _
  rw [List.take_append_of_le_length (by rw [be8_len]; omega), List.take_of_length_le (by rw [be8_len]; omega)]
theorem sub_y (x y : Int) : (keyS 5 [x, y]).extract 9 17 = be8 y := by
  apply ba_ext
  rw [extract_list, key_list]
  show (((be8 x).data.toList ++ (be8 y).data.toList).drop 8).take 8 = _
  rw [List.drop_append_of_le_length (by rw [be8_len]; omega), List.drop_of_length_le (by rw [be8_len]; omega), List.nil_append, List.take_of_length_le (by rw [be8_len]; omega)]
end Go.Proofs.YtidppalhjknlfaaGreatDoor
namespace Go.Proofs.YtidppalhjknlfaaGreatDoor
open Go.RowKit
set_option maxRecDepth 100000
set_option linter.unusedVariables false
set_option linter.unusedSimpArgs false
/-! ### reading what was written -/
theorem valN_cons (b : UInt8) (l : List UInt8) : valN (b :: l) = b.toNat * 256 ^ l.length + valN l := by
  have : ∀ (r : List UInt8), valN (b :: r.reverse) = b.toNat * 256 ^ r.length + valN r.reverse := by
    intro r
    induction r with
    | nil => simp [valN]
    | cons c r ih =>
      rw [List.reverse_cons, ← List.cons_append, valN_snoc, valN_snoc, ih, List.length_cons, Nat.pow_succ]
      simp only [Nat.add_mul, Nat.mul_assoc]
      omega
  simpa using this l.reverse
theorem mod_step (n m : Int) (hm : 0 < m) : n % (m * 256) = n / m % 256 * m + n % m := by
  have e1 := Int.mul_ediv_add_emod n m
  have e2 := Int.mul_ediv_add_emod (n / m) 256
  have r0 := Int.emod_nonneg n (show m ≠ 0 by omega)
  have r1 := Int.emod_lt_of_pos n hm
  have b0 := Int.emod_nonneg (n / m) (show (256 : Int) ≠ 0 by decide)
  have b1 := Int.emod_lt_of_pos (n / m) (show (0 : Int) < 256 by decide)
  generalize n % m = r at *
  generalize n / m % 256 = b at *
  generalize n / m / 256 = a at *
  generalize n / m = q at *
  subst e2
  have e : n = m * 256 * a + (b * m + r) := by
    rw [← e1, Int.mul_add, Int.mul_assoc, Int.mul_comm m b, Int.add_assoc]
  have hb : b * m ≤ 255 * m := Int.mul_le_mul_of_nonneg_right (by omega) (by omega)
  have hb0 : 0 ≤ b * m := Int.mul_nonneg b0 (by omega)
  rw [e, Int.mul_add_emod_self_left, Int.emod_eq_of_lt (by omega) (by omega)]
theorem valB_lo (n : Int) (h0 : 0 ≤ n) : ∀ j, (valB (lo n j) : Int) = n % 256 ^ j
  | 0 => by show ((0 : Nat) : Int) = _; simp
  | j + 1 => by
    have ih := valB_lo n h0 j
    unfold valB at ih ⊢
    rw [show (lo n (j + 1)).data.toList = UInt8.ofNat (n / 256 ^ j % 256).toNat :: (lo n j).data.toList by
      show (bOne _ ++ lo n j).data.toList = _
      rw [append_list]; rfl]
    rw [valN_cons, data_len, lo_size]
    have hb0 : 0 ≤ n / 256 ^ j % 256 := Int.emod_nonneg _ (by decide)
    have hb1 : n / 256 ^ j % 256 < 256 := Int.emod_lt_of_pos _ (by decide)
    have ht : ((UInt8.ofNat (n / 256 ^ j % 256).toNat).toNat : Int) = n / 256 ^ j % 256 := by
      rw [UInt8.toNat_ofNat_of_lt' (by show (n / 256 ^ j % 256).toNat < 256; omega)]; omega
    rw [Int.natCast_add, Int.natCast_mul, ht, ih, Int.natCast_pow]
    rw [Int.pow_succ]
    show n / 256 ^ j % 256 * 256 ^ j + n % 256 ^ j = _
    exact (mod_step n (256 ^ j) (Int.pow_pos (by decide))).symm
theorem ext_front (a b : ByteArray) (n : Nat) (h : n = a.size) : (a ++ b).extract 0 n = a := by
  subst h
  apply ba_ext
  rw [ext_list, append_list, List.drop_zero, Nat.sub_zero, List.take_append_of_le_length (by rw [data_len]; omega), List.take_of_length_le (by rw [data_len]; omega)]
theorem ext_back (a b : ByteArray) (n : Nat) (h : n = a.size) : (a ++ b).extract n (a ++ b).size = b := by
  subst h
  apply ba_ext
  rw [ext_list, append_list, List.drop_append_of_le_length (by rw [data_len]; omega), List.drop_of_length_le (by rw [data_len]; omega), List.nil_append, List.take_of_length_le (by rw [data_len, size_append]; omega)]
theorem rd_take (a b : ByteArray) (n : Nat) (h : n = a.size) : Rd.ok ⟨a ++ b, false⟩ n = true := by
  unfold Rd.ok
  rw [decide_eq_true (by show n ≤ (a ++ b).size; rw [size_append]; omega)]; rfl
theorem rd_skip (a b : ByteArray) (n : Nat) (h : n = a.size) : Rd.skip ⟨a ++ b, false⟩ n = ⟨b, false⟩ := by
  unfold Rd.skip
  rw [rd_take a b n h, if_pos rfl]
  show Rd.mk ((a ++ b).extract n (a ++ b).size) false = _
  rw [ext_back a b n h]
theorem rd_val (a b : ByteArray) (n : Nat) (h : n = a.size) : Rd.val ⟨a ++ b, false⟩ n = valB a := by
  unfold Rd.val
  rw [rd_take a b n h, if_pos rfl]
  show ((valB ((a ++ b).extract 0 n) : Nat) : Int) = _
  rw [ext_front a b n h]
theorem rd_bytes (a b : ByteArray) (n : Nat) (h : n = a.size) : Rd.bytes ⟨a ++ b, false⟩ n = a := by
  unfold Rd.bytes
  rw [rd_take a b n h, if_pos rfl]
  exact ext_front a b n h
theorem rd_text (a b : ByteArray) (h : a.size < 4294967296) : Rd.text ⟨lo4 a.size ++ a ++ b, false⟩ = a ∧ Rd.tskip ⟨lo4 a.size ++ a ++ b, false⟩ = ⟨b, false⟩ := by
  have hv : (valB (lo4 a.size) : Int) = a.size := by
    unfold lo4
    rw [valB_lo _ (by omega)]
    omega
  rw [ByteArray.append_assoc]
  unfold Rd.text Rd.tskip
  rw [rd_skip _ _ 4 (lo4_size _).symm, rd_val _ _ 4 (lo4_size _).symm, hv, Int.toNat_natCast]
  exact ⟨rd_bytes a b _ rfl, rd_skip a b _ rfl⟩
theorem valB_be8 (n : Int) (h0 : 0 ≤ n) (h1 : n ≤ 18446744073709551615) : (valB (be8 n) : Int) = n := valN_be8 n h0 h1
/-! ### a lease -/
structure Ls where
  id : Int
  units : Int
  exp : Int
  day : Int
  month : Int
deriving DecidableEq
/-- of 64 bits, with a sign -/
def W64 (n : Int) : Prop := -9223372036854775808 ≤ n ∧ n ≤ 9223372036854775807
structure Ls.Ok (l : Ls) : Prop where
  id : 0 ≤ l.id ∧ l.id ≤ 4294967295
  units : W64 l.units
  exp : W64 l.exp
  day : W64 l.day
  month : W64 l.month
def Ls.val (l : Ls) : Value := .agg #[.int .u32 l.id, .int .i64 l.units, .int .i64 l.exp, .int .i64 l.day, .int .i64 l.month]
/-- eight bytes of a number with a sign -/
def i8 (n : Int) : ByteArray := be8 (n % 18446744073709551616)
theorem i8_size (n : Int) : (i8 n).size = 8 := be_size _ 8
def Ls.enc (l : Ls) : ByteArray := be8 l.id ++ (i8 l.units ++ (i8 l.exp ++ (i8 l.day ++ (i8 l.month ++ ByteArray.empty))))
theorem Ls.enc_size (l : Ls) : l.enc.size = 40 := by
  unfold Ls.enc
  simp only [size_append, i8_size, show (be8 l.id).size = 8 from be_size _ 8, show ByteArray.empty.size = 0 from rfl]
theorem valB_i8 (n : Int) (h : W64 n) : wrap64 (valB (i8 n) : Int) = n := by
  unfold i8
  have h0 : 0 ≤ n % 18446744073709551616 := Int.emod_nonneg _ (by decide)
  have h1 : n % 18446744073709551616 < 18446744073709551616 := Int.emod_lt_of_pos _ (by decide)
  rw [valB_be8 _ h0 (by omega)]
  unfold W64 at h
  unfold wrap64
  omega
theorem ls_read (l : Ls) (h : l.Ok) : Rd.val ⟨l.enc, false⟩ 8 = l.id ∧ ∃ r1, Rd.skip ⟨l.enc, false⟩ 8 = r1 ∧ wrap64 (r1.val 8) = l.units ∧ ∃ r2, r1.skip 8 = r2 ∧ wrap64 (r2.val 8) = l.exp ∧ ∃ r3, r2.skip 8 = r3 ∧ wrap64 (r3.val 8) = l.day ∧ ∃ r4, r3.skip 8 = r4 ∧ wrap64 (r4.val 8) = l.month ∧ r4.skip 8 = ⟨ByteArray.empty, false⟩ := by
  have e8 : ∀ n, 8 = (i8 n).size := fun n => (i8_size n).symm
  have b8 : 8 = (be8 l.id).size := (be_size _ 8).symm
  unfold Ls.enc
  refine ⟨?_, _, rd_skip _ _ 8 b8, ?_, _, rd_skip _ _ 8 (e8 _), ?_, _, rd_skip _ _ 8 (e8 _), ?_, _, rd_skip _ _ 8 (e8 _), ?_, rd_skip _ _ 8 (e8 _)⟩
  · rw [rd_val _ _ 8 b8, valB_be8 _ h.id.1 (by have := h.id.2; omega)]
  · rw [rd_val _ _ 8 (e8 _)]; exact valB_i8 _ h.units
  · rw [rd_val _ _ 8 (e8 _)]; exact valB_i8 _ h.exp
  · rw [rd_val _ _ 8 (e8 _)]; exact valB_i8 _ h.day
  · rw [rd_val _ _ 8 (e8 _)]; exact valB_i8 _ h.month
end Go.Proofs.YtidppalhjknlfaaGreatDoor
namespace Go.Proofs.YtidppalhjknlfaaGreatDoor.Cal
set_option linter.unusedVariables false
set_option linter.unusedSimpArgs false
/-- a year with a day more -/
def leap (y : Int) : Bool := decide (y % 4 = 0 ∧ (y % 100 ≠ 0 ∨ y % 400 = 0))
def l01 (y : Int) : Int := if leap y = true then 1 else 0
/-- days of a month (0 to 11), of a year without a day more -/
def base (m : Int) : Int := if m = 1 then 28 else if m = 3 ∨ m = 5 ∨ m = 8 ∨ m = 10 then 30 else 31
/-- days of a month's number -/
def len (M : Int) : Int := base (M % 12) + (if M % 12 = 1 then l01 (M / 12) else 0)
def years (y : Int) : Int := 365 * (y - 1) + (y - 1) / 4 - (y - 1) / 100 + (y - 1) / 400
/-- days ahead of a month in a year -/
def cum (m lp : Int) : Int := (367 * m + 5) / 12 - (if m ≤ 1 then 0 else 2 - lp)
/-- number of a month's first day -/
def first (M : Int) : Int := years (M / 12) - 719162 + cum (M % 12) (l01 (M / 12))

theorem l01_bd (y : Int) : 0 ≤ l01 y ∧ l01 y ≤ 1 := by unfold l01; split <;> omega
theorem base_bd (m : Int) : 28 ≤ base m ∧ base m ≤ 31 := by unfold base; (repeat' split) <;> omega
theorem len_bd (M : Int) : 28 ≤ len M ∧ len M ≤ 32 := by
  unfold len; have := base_bd (M % 12); have := l01_bd (M / 12); split <;> omega
theorem years_succ (y : Int) : years (y + 1) = years y + 365 + l01 y := by
  unfold years l01 leap
  split
  · rename_i h; simp at h; omega
  · rename_i h; simp at h; omega
theorem cum_succ (m lp : Int) (h0 : 0 ≤ m) (h1 : m ≤ 11) : cum (m + 1) lp = cum m lp + (base m + (if m = 1 then lp else 0)) := by
  have : m = 0 ∨ m = 1 ∨ m = 2 ∨ m = 3 ∨ m = 4 ∨ m = 5 ∨ m = 6 ∨ m = 7 ∨ m = 8 ∨ m = 9 ∨ m = 10 ∨ m = 11 := by omega
  rcases this with rfl | rfl | rfl | rfl | rfl | rfl | rfl | rfl | rfl | rfl | rfl | rfl <;> simp [cum, base] <;> omega
theorem cum_12 (lp : Int) : cum 12 lp = 365 + lp := by simp [cum]; omega
theorem cum_bd (m lp : Int) (h0 : 0 ≤ m) (h1 : m ≤ 12) (h2 : 0 ≤ lp) (h3 : lp ≤ 1) : 0 ≤ cum m lp ∧ cum m lp ≤ 366 := by
  unfold cum; split <;> omega
/-- THE STEP: the next month begins when this one ends. -/
theorem first_succ (M : Int) : first (M + 1) = first M + len M := by
  unfold first len
  have hc := cum_succ (M % 12) (l01 (M / 12)) (by omega) (by omega)
  by_cases h : M % 12 = 11
  · have e1 : (M + 1) / 12 = M / 12 + 1 := by omega
    have e2 : (M + 1) % 12 = 0 := by omega
    have h12 := cum_12 (l01 (M / 12))
    rw [h] at hc
    have e3 : (11 : Int) + 1 = 12 := rfl
    rw [e3] at hc
    rw [e1, e2, h, years_succ]
    have : cum 0 (l01 (M / 12 + 1)) = 0 := by simp [cum]
    omega
  · have e1 : (M + 1) / 12 = M / 12 := by omega
    have e2 : (M + 1) % 12 = M % 12 + 1 := by omega
    rw [e1, e2]
    omega
theorem first_mono_nat (M : Int) (k : Nat) : first M + 28 * k ≤ first (M + k) := by
  induction k with
  | zero => simp
  | succ k ih =>
    have := first_succ (M + k)
    have hb := len_bd (M + k)
    have e : M + ((k + 1 : Nat) : Int) = M + k + 1 := by omega
    rw [e]
    omega
theorem first_mono {M N : Int} (h : M ≤ N) : first M + 28 * (N - M) ≤ first N := by
  have := first_mono_nat M (N - M).toNat
  have e : M + ((N - M).toNat : Int) = N := by omega
  rw [e] at this
  omega
theorem first_year (y : Int) : first (12 * y) = years y - 719162 := by
  unfold first
  have e1 : 12 * y / 12 = y := by omega
  have e2 : 12 * y % 12 = 0 := by omega
  rw [e1, e2]; simp [cum]
theorem first_12 : first 12 = -719162 := by decide
theorem first_end : first 120000 = 2932897 := by decide
/-- a day's month: there is one, and one alone. -/
def In (M d : Int) : Prop := first M ≤ d ∧ d < first (M + 1)
theorem In_uniq {M N d : Int} (h : In M d) (h' : In N d) : M = N := by
  unfold In at h h'
  by_cases h1 : M < N
  · have := first_mono (M := M + 1) (N := N) (by omega); omega
  · by_cases h2 : N < M
    · have := first_mono (M := N + 1) (N := M) (by omega); omega
    · omega
theorem In_ge {M d : Int} (h : In M d) {N : Int} (hd : first N ≤ d) : N ≤ M := by
  unfold In at h
  by_cases h2 : M < N
  · have := first_mono (M := M + 1) (N := N) (by omega); omega
  · omega
theorem In_lt {M d : Int} (h : In M d) {N : Int} (hd : d < first N) : M < N := by
  unfold In at h
  by_cases h2 : N ≤ M
  · have := first_mono (M := N) (N := M) (by omega); omega
  · omega
theorem years_mono {a b : Int} (h : a ≤ b) : years a + 365 * (b - a) ≤ years b := by unfold years; omega
theorem years_bd {y : Int} (h0 : 0 ≤ y) (h1 : y ≤ 10000) : -366 ≤ years y ∧ years y ≤ 3652060 := by unfold years; omega
end Go.Proofs.YtidppalhjknlfaaGreatDoor.Cal
namespace Go.Proofs.YtidppalhjknlfaaGreatDoor
open Go.RowKit
set_option maxRecDepth 100000
set_option linter.unusedVariables false
set_option linter.unusedSimpArgs false
set_option maxHeartbeats 400000
/-- pairs that are read, in blocks of their types -/
def PT (w : World) (v : Value) (l : AL) : Prop :=
  ∃ a cap, v = .slice a l.length cap ∧ l.length ≤ cap ∧ cap ≤ maxLen ∧ (l = [] ∨ ∃ g, a = some ⟨g, 0, none⟩ ∧ (∃ cur z, w.heap[g]? = some (.cells cur 117 z)) ∧ ∀ i p, l[i]? = some p → ∃ kv vv, w.cell? ⟨g, 2 * i, none⟩ = some kv ∧ w.cell? ⟨g, 2 * i + 1, none⟩ = some vv ∧ BL 5 w kv p.1 ∧ BL 5 w vv p.2)
theorem PT.pr {w : World} {v : Value} {l : AL} (h : PT w v l) : PR w v l := by
  obtain ⟨a, cap, rfl, h1, h2, h3⟩ := h
  refine ⟨a, cap, rfl, h1, h2, ?_⟩
  rcases h3 with h3 | ⟨g, rfl, _, h3⟩
  · exact .inl h3
  · refine .inr ⟨g, rfl, fun i p hp => ?_⟩
    obtain ⟨kv, vv, c1, c2, b1, b2⟩ := h3 i p hp
    exact ⟨kv, vv, c1, c2, b1.bs, b2.bs⟩
theorem PT.keep {w w' : World} {v : Value} {l : AL} {F : Nat → Prop} (h : PT w v l) (hk : Keep F w w') (hF : ∀ b cs e z, w.heap[b]? = some (.cells cs e z) → e = 117 ∨ e = 5 → ¬ F b) : PT w' v l := by
  obtain ⟨a, cap, rfl, h1, h2, h3⟩ := h
  refine ⟨a, cap, rfl, h1, h2, ?_⟩
  rcases h3 with h3 | ⟨g, rfl, ⟨cur, z, hg⟩, h3⟩
  · exact .inl h3
  · have hn := hF g _ _ _ hg (.inl rfl)
    refine .inr ⟨g, rfl, ⟨cur, z, hk.blk hg hn⟩, fun i p hp => ?_⟩
    obtain ⟨kv, vv, c1, c2, b1, b2⟩ := h3 i p hp
    exact ⟨kv, vv, hk.cell c1 hn, hk.cell c2 hn, b1.keep hk (fun b cs z hb => hF b cs _ z hb (.inr rfl)), b2.keep hk (fun b cs z hb => hF b cs _ z hb (.inr rfl))⟩
theorem PT.below {w w' : World} {v : Value} {l : AL} (h : PT w v l) (hb : Below w.heap.size w w') : PT w' v l := h.keep (Keep.ofBelow hb (fun _ => False)) (fun _ _ _ _ _ _ h => h)
theorem PS.pt {w : World} {base : Nat} {v : Value} {l : AL} (h : PS w base v l) : PT w v l := by
  obtain ⟨xs, h1, h2⟩ := h
  rcases h1.2 with ⟨rfl, h0⟩ | ⟨g, cap, cur, rfl, hb, hg, hn, hm, hr⟩
  · refine ⟨none, 0, by rw [h0], by omega, by decide, .inl (List.eq_nil_of_length_eq_zero h0)⟩
  · refine ⟨_, cap, rfl, hn, hm, .inr ⟨g, rfl, ⟨_, _, hg⟩, fun i p hp => ?_⟩⟩
    have h1' : w.ownsRow base 117 2 (.slice (some ⟨g, 0, none⟩) l.length cap) l.length xs := h1
    obtain ⟨kv, vv, a, b, c, d⟩ := h2 i p hp
    have hz : ∀ j, (⟨g, 0, none⟩ : Addr).add j = ⟨g, j, none⟩ := fun j => by by_cases h : j = 0 <;> simp [Addr.add, h]
    have e1 := h1'.cells rfl _ _ a
    have e2 := h1'.cells rfl _ _ b
    rw [hz] at e1 e2
    exact ⟨kv, vv, e1, e2, c, d⟩
theorem PT.take {w : World} {a : Option Addr} {len cap : Nat} {l : AL} (h : PT w (.slice a len cap) l) (n : Nat) (hn : n ≤ l.length) : PT w (.slice a n n) (l.take n) := by
  obtain ⟨a', cap', he, h1, h2, h3⟩ := h
  injection he with ha _ hc
  subst ha; subst hc
  have hl : (l.take n).length = n := by rw [List.length_take]; omega
  refine ⟨a, n, by rw [hl], by omega, by omega, ?_⟩
  rcases h3 with h3 | ⟨g, rfl, hg, h3⟩
  · left; rw [h3]; simp
  · refine .inr ⟨g, rfl, hg, fun i p hp => h3 i p ?_⟩
    rw [List.getElem?_take] at hp
    split at hp
    · exact hp
    · cases hp
theorem scan_pt (p : Nat) (room : Int) (b1 b2 : Nat) (now was : AL) (sv : Value) (s : ByteArray) (w : World) (hM : MemIs w p room b1 b2 now was) (hS : BS w sv s) (hSm : Small now) (hN : AL.ND now) :
    Calls Tryz.prog 57 #[sV p, sv] w fun e w' => ∃ v, e = .returned (.tuple #[v, .int .i64 0]) ∧ PT w' v (AL.scan s now) ∧ Below w.heap.size w w' := by
  obtain ⟨a0, c0, rfl⟩ := hS.len
  have hcon := Lib.hid fun o => range_any p room b1 b2 now was (.slice a0 s.size c0) (.slice none 0 0) s ByteArray.empty _ (hM.alloc o) (hS.alloc o) (BS.nil _) hSm hN
  have HS := Lib.hid hS
  have hL := hSm.1
  have HQ := Lib.hid (scan_eq hN s)
  have HRL := Lib.hid (range_len s ByteArray.empty now)
  unfold sV
  unfold pV at *
  clear hM hS hSm hN
  go_enter Tryz.func57, Tryz.ntmps57
  go_wp2_with fail
  refine (hcon.out _).mono ?_
  rintro e w1 ⟨v, rfl, hps, hb⟩
  have HB1 := Lib.hid (((Below.refl w.heap.size w).alloc (Nat.le_refl _) (.cells #[.slice a0 s.size c0] 76)).trans (hb.mono (by simp)))
  have hq : w1.cell? ⟨w.heap.size, 0, none⟩ = some (.slice a0 s.size c0) := by
    rw [hb.cell (p := ⟨w.heap.size, 0, none⟩) (by simp), blk_cell (blk_new _ _)]; rfl
  obtain ⟨l, hl⟩ : ∃ l, l = AL.range s ByteArray.empty now := ⟨_, rfl⟩
  rw [← hl] at hps HQ HRL
  have HP := Lib.hid hps.pt
  have hll : l.length ≤ 1000000 := Nat.le_trans HRL.out hL
  have hcon2 := Lib.hid (indexFunc_any w.heap.size (.slice a0 s.size c0) v s l w1 hq (HS.out.below (HB1.out.mono (Nat.le_refl _))) HP.out.pr hll)
  clear hps hb hcon hq hl
  go_wp2_with fail
  refine (hcon2.out).mono ?_
  rintro e w2 ⟨rfl, hb⟩
  have HB2 := Lib.hid (HB1.out.trans (hb.mono HB1.out.size))
  have HP2 := Lib.hid (HP.out.below hb)
  clear hb hcon2 HP
  obtain ⟨a, cap, rfl, hc1, hc2, _⟩ := HP2.out
  have htl : (l.takeWhile fun p => pre s p.1).length ≤ l.length := by rw [takeWhile_len]; simp; omega
  unfold idxOf
  unfold maxLen at hc2
  have htk : l.take (l.takeWhile fun p => pre s p.1).length = AL.scan s now := by rw [← takeWhile_len, HQ.out]
  generalize (l.takeWhile fun p => pre s p.1).length = n at htl htk ⊢
  have HT := Lib.hid (HP2.out.take n htl)
  rw [htk] at HT
  clear htk
  clear HQ HP2 HRL
  by_cases hlt : n < l.length
  · rw [if_pos hlt]
    have i1 : decide ((n : Int) < 0) = false := decide_eq_false (by omega)
    go_wp2
    go_ret2
    exact ⟨_, rfl, HT.out, HB2.out⟩
  · rw [if_neg hlt]
    obtain rfl : n = l.length := by omega
    go_wp2
    go_ret2
    exact ⟨_, rfl, HT.out, HB2.out⟩
end Go.Proofs.YtidppalhjknlfaaGreatDoor
