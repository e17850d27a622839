/- Reading what was written with package wire, in plain words; a lease's bytes. No walk here. -/
import Derived.Test.YtidppalhjknlfaaDoorQRead
import Derived.Test.YtidppalhjknlfaaDoorQMOrd3
namespace Go.Proofs.YtidppalhjknlfaaDoor
open Go.RowKit
set_option maxRecDepth 100000
set_option linter.unusedVariables false
set_option linter.unusedSimpArgs false
/-! ### reading what was written -/
theorem valN_cons (b : UInt8) (l : List UInt8) : valN (b :: l) = b.toNat * 256 ^ l.length + valN l := by
  have : ∀ (r : List UInt8), valN (b :: r.reverse) = b.toNat * 256 ^ r.length + valN r.reverse := by
    intro r
    induction r with
    | nil => simp [valN]
    | cons c r ih =>
      rw [List.reverse_cons, ← List.cons_append, valN_snoc, valN_snoc, ih, List.length_cons, Nat.pow_succ]
      simp only [Nat.add_mul, Nat.mul_assoc]
      omega
  simpa using this l.reverse
theorem mod_step (n m : Int) (hm : 0 < m) : n % (m * 256) = n / m % 256 * m + n % m := by
  have e1 := Int.mul_ediv_add_emod n m
  have e2 := Int.mul_ediv_add_emod (n / m) 256
  have r0 := Int.emod_nonneg n (show m ≠ 0 by omega)
  have r1 := Int.emod_lt_of_pos n hm
  have b0 := Int.emod_nonneg (n / m) (show (256 : Int) ≠ 0 by decide)
  have b1 := Int.emod_lt_of_pos (n / m) (show (0 : Int) < 256 by decide)
  generalize n % m = r at *
  generalize n / m % 256 = b at *
  generalize n / m / 256 = a at *
  generalize n / m = q at *
  subst e2
  have e : n = m * 256 * a + (b * m + r) := by
    rw [← e1, Int.mul_add, Int.mul_assoc, Int.mul_comm m b, Int.add_assoc]
  have hb : b * m ≤ 255 * m := Int.mul_le_mul_of_nonneg_right (by omega) (by omega)
  have hb0 : 0 ≤ b * m := Int.mul_nonneg b0 (by omega)
  rw [e, Int.mul_add_emod_self_left, Int.emod_eq_of_lt (by omega) (by omega)]
theorem valB_lo (n : Int) (h0 : 0 ≤ n) : ∀ j, (valB (lo n j) : Int) = n % 256 ^ j
  | 0 => by show ((0 : Nat) : Int) = _; simp
  | j + 1 => by
    have ih := valB_lo n h0 j
    unfold valB at ih ⊢
    rw [show (lo n (j + 1)).data.toList = UInt8.ofNat (n / 256 ^ j % 256).toNat :: (lo n j).data.toList by
      show (bOne _ ++ lo n j).data.toList = _
      rw [append_list]; rfl]
    rw [valN_cons, data_len, lo_size]
    have hb0 : 0 ≤ n / 256 ^ j % 256 := Int.emod_nonneg _ (by decide)
    have hb1 : n / 256 ^ j % 256 < 256 := Int.emod_lt_of_pos _ (by decide)
    have ht : ((UInt8.ofNat (n / 256 ^ j % 256).toNat).toNat : Int) = n / 256 ^ j % 256 := by
      rw [UInt8.toNat_ofNat_of_lt' (by show (n / 256 ^ j % 256).toNat < 256; omega)]; omega
    rw [Int.natCast_add, Int.natCast_mul, ht, ih, Int.natCast_pow]
    rw [Int.pow_succ]
    show n / 256 ^ j % 256 * 256 ^ j + n % 256 ^ j = _
    exact (mod_step n (256 ^ j) (Int.pow_pos (by decide))).symm
theorem ext_front (a b : ByteArray) (n : Nat) (h : n = a.size) : (a ++ b).extract 0 n = a := by
  subst h
  apply ba_ext
  rw [ext_list, append_list, List.drop_zero, Nat.sub_zero, List.take_append_of_le_length (by rw [data_len]; omega), List.take_of_length_le (by rw [data_len]; omega)]
theorem ext_back (a b : ByteArray) (n : Nat) (h : n = a.size) : (a ++ b).extract n (a ++ b).size = b := by
  subst h
  apply ba_ext
  rw [ext_list, append_list, List.drop_append_of_le_length (by rw [data_len]; omega), List.drop_of_length_le (by rw [data_len]; omega), List.nil_append, List.take_of_length_le (by rw [data_len, size_append]; omega)]
theorem rd_take (a b : ByteArray) (n : Nat) (h : n = a.size) : Rd.ok ⟨a ++ b, false⟩ n = true := by
  unfold Rd.ok
  rw [decide_eq_true (by show n ≤ (a ++ b).size; rw [size_append]; omega)]; rfl
theorem rd_skip (a b : ByteArray) (n : Nat) (h : n = a.size) : Rd.skip ⟨a ++ b, false⟩ n = ⟨b, false⟩ := by
  unfold Rd.skip
  rw [rd_take a b n h, if_pos rfl]
  show Rd.mk ((a ++ b).extract n (a ++ b).size) false = _
  rw [ext_back a b n h]
theorem rd_val (a b : ByteArray) (n : Nat) (h : n = a.size) : Rd.val ⟨a ++ b, false⟩ n = valB a := by
  unfold Rd.val
  rw [rd_take a b n h, if_pos rfl]
  show ((valB ((a ++ b).extract 0 n) : Nat) : Int) = _
  rw [ext_front a b n h]
theorem rd_bytes (a b : ByteArray) (n : Nat) (h : n = a.size) : Rd.bytes ⟨a ++ b, false⟩ n = a := by
  unfold Rd.bytes
  rw [rd_take a b n h, if_pos rfl]
  exact ext_front a b n h
theorem rd_text (a b : ByteArray) (h : a.size < 4294967296) : Rd.text ⟨lo4 a.size ++ a ++ b, false⟩ = a ∧ Rd.tskip ⟨lo4 a.size ++ a ++ b, false⟩ = ⟨b, false⟩ := by
  have hv : (valB (lo4 a.size) : Int) = a.size := by
    unfold lo4
    rw [valB_lo _ (by omega)]
    omega
  rw [ByteArray.append_assoc]
  unfold Rd.text Rd.tskip
  rw [rd_skip _ _ 4 (lo4_size _).symm, rd_val _ _ 4 (lo4_size _).symm, hv, Int.toNat_natCast]
  exact ⟨rd_bytes a b _ rfl, rd_skip a b _ rfl⟩
theorem valB_be8 (n : Int) (h0 : 0 ≤ n) (h1 : n ≤ 18446744073709551615) : (valB (be8 n) : Int) = n := valN_be8 n h0 h1
/-! ### a lease -/
structure Ls where
  id : Int
  units : Int
  exp : Int
  day : Int
  month : Int
deriving DecidableEq
/-- of 64 bits, with a sign -/
def W64 (n : Int) : Prop := -9223372036854775808 ≤ n ∧ n ≤ 9223372036854775807
structure Ls.Ok (l : Ls) : Prop where
  id : 0 ≤ l.id ∧ l.id ≤ 4294967295
  units : W64 l.units
  exp : W64 l.exp
  day : W64 l.day
  month : W64 l.month
def Ls.val (l : Ls) : Value := .agg #[.int .u32 l.id, .int .i64 l.units, .int .i64 l.exp, .int .i64 l.day, .int .i64 l.month]
/-- eight bytes of a number with a sign -/
def i8 (n : Int) : ByteArray := be8 (n % 18446744073709551616)
theorem i8_size (n : Int) : (i8 n).size = 8 := be_size _ 8
def Ls.enc (l : Ls) : ByteArray := be8 l.id ++ (i8 l.units ++ (i8 l.exp ++ (i8 l.day ++ (i8 l.month ++ ByteArray.empty))))
theorem Ls.enc_size (l : Ls) : l.enc.size = 40 := by
  unfold Ls.enc
  simp only [size_append, i8_size, show (be8 l.id).size = 8 from be_size _ 8, show ByteArray.empty.size = 0 from rfl]
theorem valB_i8 (n : Int) (h : W64 n) : wrap64 (valB (i8 n) : Int) = n := by
  unfold i8
  have h0 : 0 ≤ n % 18446744073709551616 := Int.emod_nonneg _ (by decide)
  have h1 : n % 18446744073709551616 < 18446744073709551616 := Int.emod_lt_of_pos _ (by decide)
  rw [valB_be8 _ h0 (by omega)]
  unfold W64 at h
  unfold wrap64
  omega
theorem ls_read (l : Ls) (h : l.Ok) : Rd.val ⟨l.enc, false⟩ 8 = l.id ∧ ∃ r1, Rd.skip ⟨l.enc, false⟩ 8 = r1 ∧ wrap64 (r1.val 8) = l.units ∧ ∃ r2, r1.skip 8 = r2 ∧ wrap64 (r2.val 8) = l.exp ∧ ∃ r3, r2.skip 8 = r3 ∧ wrap64 (r3.val 8) = l.day ∧ ∃ r4, r3.skip 8 = r4 ∧ wrap64 (r4.val 8) = l.month ∧ r4.skip 8 = ⟨ByteArray.empty, false⟩ := by
  have e8 : ∀ n, 8 = (i8 n).size := fun n => (i8_size n).symm
  have b8 : 8 = (be8 l.id).size := (be_size _ 8).symm
  unfold Ls.enc
  refine ⟨?_, _, rd_skip _ _ 8 b8, ?_, _, rd_skip _ _ 8 (e8 _), ?_, _, rd_skip _ _ 8 (e8 _), ?_, _, rd_skip _ _ 8 (e8 _), ?_, rd_skip _ _ 8 (e8 _)⟩
  · rw [rd_val _ _ 8 b8, valB_be8 _ h.id.1 (by have := h.id.2; omega)]
  · rw [rd_val _ _ 8 (e8 _)]; exact valB_i8 _ h.units
  · rw [rd_val _ _ 8 (e8 _)]; exact valB_i8 _ h.exp
  · rw [rd_val _ _ 8 (e8 _)]; exact valB_i8 _ h.day
  · rw [rd_val _ _ 8 (e8 _)]; exact valB_i8 _ h.month
end Go.Proofs.YtidppalhjknlfaaDoor
