/- The walks of package idem: Check, key; what is kept. -/
import Derived.Test.YtiadoimdohnebaaRead
import Derived.Test.YtiadoimdohnebaaOrd3
import Derived.Test.YtiadoimdohnebaaGoes16
namespace Go.Proofs.Ytiadoimdohnebaa
open Go.RowKit
set_option maxRecDepth 100000
set_option linter.unusedVariables false
set_option linter.unusedSimpArgs false
/-- a key's bytes -/
def kb (t : Int) (x : ByteArray) : ByteArray := keyS 107 [t] ++ x
theorem kb_size (t : Int) (x : ByteArray) : (kb t x).size = 9 + x.size := by unfold kb; rw [size_append, keyS_size]; rfl
def chk (x : ByteArray) : Bool := decide (0 < x.size) && decide (x.size ≤ 16)
theorem check_i (x : ByteArray) (w : World) (hx : x.size ≤ maxLen) :
    Calls Try.prog 30 #[.string x] w fun e w' => e = .returned (.bool (chk x)) ∧ w = w' := by
  unfold maxLen at hx
  by_cases h0 : 0 < x.size
  · by_cases h1 : x.size ≤ 16
    · have HC := Lib.hid (show chk x = true by unfold chk; rw [decide_eq_true h0, decide_eq_true h1]; rfl)
      have i0 : decide ((0 : Int) < x.size) = true := decide_eq_true (by omega)
      have i1 : decide ((x.size : Int) ≤ 16) = true := decide_eq_true (by omega)
      go_enter Try.func30, Try.ntmps30
      go_wp2
      go_ret
      exact ⟨by rw [HC.out]; rfl, rfl⟩
    · have HC := Lib.hid (show chk x = false by unfold chk; rw [decide_eq_true h0, decide_eq_false h1]; rfl)
      have i0 : decide ((0 : Int) < x.size) = true := decide_eq_true (by omega)
      have i1 : decide ((x.size : Int) ≤ 16) = false := decide_eq_false (by omega)
      go_enter Try.func30, Try.ntmps30
      go_wp2
      go_ret
      exact ⟨by rw [HC.out]; rfl, rfl⟩
  · have HC := Lib.hid (show chk x = false by unfold chk; rw [decide_eq_false h0]; rfl)
    have i0 : decide ((0 : Int) < x.size) = false := decide_eq_false (by omega)
    go_enter Try.func30, Try.ntmps30
    go_wp2
    go_ret
    exact ⟨by rw [HC.out]; rfl, rfl⟩
theorem key_i (t : Int) (h0 : 0 ≤ t) (h1 : t ≤ 4294967295) (x : ByteArray) (hx : x.size ≤ 35184372088832) (w : World) :
    Calls Try.prog 56 #[.int .u32 t, .string x] w fun e w' => ∃ v', e = .returned v' ∧ Own 5 w' w.heap.size v' (kb t x) ∧ Below w.heap.size w w' := by
  go_enter Try.func56, Try.ntmps56
  go_wp2_with fail
  refine (key_any 107 (by decide) (by decide) _ [t] _ (US.lit1 _ t h0 (by omega) _) (by simp)).mono ?_
  rintro e w1 ⟨v1, rfl, ho, hb⟩
  have HB := Lib.hid (below_and ((Below.refl w.heap.size w).alloc (Nat.le_refl _) _) hb)
  have HO := Lib.hid ho.bs
  clear ho hb
  go_wp2_with fail
  refine (with_any v1 _ x w1 HO.out (by rw [keyS_size]; simp) hx).mono ?_
  rintro e w2 ⟨v2, rfl, ho, hb⟩
  have HB2 := Lib.hid (HB.out.trans (hb.mono HB.out.size))
  have HO2 := Lib.hid (ho.lower HB.out.size)
  clear ho hb
  go_wp2
  go_ret
  exact ⟨_, rfl, HO2.out, HB2.out⟩
/-- a record -/
structure Rec where
  body : ByteArray
  reply : ByteArray
  seq : Int
structure Rec.Ok (r : Rec) : Prop where
  long : r.body.size + r.reply.size ≤ 900
  seq : 0 ≤ r.seq ∧ r.seq ≤ 18446744073709551615
def Rec.enc (r : Rec) : ByteArray := ByteArray.empty ++ lo4 r.body.size ++ r.body ++ lo4 r.reply.size ++ r.reply ++ be8 r.seq
theorem Rec.enc_size (r : Rec) : r.enc.size = 16 + r.body.size + r.reply.size := by
  unfold Rec.enc
  simp only [size_append, lo4_size, show (be8 r.seq).size = 8 from be_size _ 8, show ByteArray.empty.size = 0 from rfl]
  omega
/-! ### reading what was written -/
theorem valN_cons (b : UInt8) (l : List UInt8) : valN (b :: l) = b.toNat * 256 ^ l.length + valN l := by
  have : ∀ (r : List UInt8), valN (b :: r.reverse) = b.toNat * 256 ^ r.length + valN r.reverse := by
    intro r
    induction r with
    | nil => simp [valN]
    | cons c r ih =>
      rw [List.reverse_cons, ← List.cons_append, valN_snoc, valN_snoc, ih, List.length_cons, Nat.pow_succ]
      simp only [Nat.add_mul, Nat.mul_assoc]
      omega
  simpa using this l.reverse
theorem mod_step (n m : Int) (hm : 0 < m) : n % (m * 256) = n / m % 256 * m + n % m := by
  have e1 := Int.mul_ediv_add_emod n m
  have e2 := Int.mul_ediv_add_emod (n / m) 256
  have r0 := Int.emod_nonneg n (show m ≠ 0 by omega)
  have r1 := Int.emod_lt_of_pos n hm
  have b0 := Int.emod_nonneg (n / m) (show (256 : Int) ≠ 0 by decide)
  have b1 := Int.emod_lt_of_pos (n / m) (show (0 : Int) < 256 by decide)
  generalize n % m = r at *
  generalize n / m % 256 = b at *
  generalize n / m / 256 = a at *
  generalize n / m = q at *
  subst e2
  have e : n = m * 256 * a + (b * m + r) := by
    rw [← e1, Int.mul_add, Int.mul_assoc, Int.mul_comm m b, Int.add_assoc]
  have hb : b * m ≤ 255 * m := Int.mul_le_mul_of_nonneg_right (by omega) (by omega)
  have hb0 : 0 ≤ b * m := Int.mul_nonneg b0 (by omega)
  rw [e, Int.mul_add_emod_self_left, Int.emod_eq_of_lt (by omega) (by omega)]
theorem valB_lo (n : Int) (h0 : 0 ≤ n) : ∀ j, (valB (lo n j) : Int) = n % 256 ^ j
  | 0 => by show ((0 : Nat) : Int) = _; simp
  | j + 1 => by
    have ih := valB_lo n h0 j
    unfold valB at ih ⊢
    rw [show (lo n (j + 1)).data.toList = UInt8.ofNat (n / 256 ^ j % 256).toNat :: (lo n j).data.toList by
      show (bOne _ ++ lo n j).data.toList = _
      rw [append_list]; rfl]
    rw [valN_cons, data_len, lo_size]
    have hb0 : 0 ≤ n / 256 ^ j % 256 := Int.emod_nonneg _ (by decide)
    have hb1 : n / 256 ^ j % 256 < 256 := Int.emod_lt_of_pos _ (by decide)
    have ht : ((UInt8.ofNat (n / 256 ^ j % 256).toNat).toNat : Int) = n / 256 ^ j % 256 := by
      rw [UInt8.toNat_ofNat_of_lt' (by show (n / 256 ^ j % 256).toNat < 256; omega)]; omega
    rw [Int.natCast_add, Int.natCast_mul, ht, ih, Int.natCast_pow]
    rw [Int.pow_succ]
    show n / 256 ^ j % 256 * 256 ^ j + n % 256 ^ j = _
    exact (mod_step n (256 ^ j) (Int.pow_pos (by decide))).symm
theorem ext_front (a b : ByteArray) (n : Nat) (h : n = a.size) : (a ++ b).extract 0 n = a := by
  subst h
  apply ba_ext
  rw [ext_list, append_list, List.drop_zero, Nat.sub_zero, List.take_append_of_le_length (by rw [data_len]; omega), List.take_of_length_le (by rw [data_len]; omega)]
theorem ext_back (a b : ByteArray) (n : Nat) (h : n = a.size) : (a ++ b).extract n (a ++ b).size = b := by
  subst h
  apply ba_ext
  rw [ext_list, append_list, List.drop_append_of_le_length (by rw [data_len]; omega), List.drop_of_length_le (by rw [data_len]; omega), List.nil_append, List.take_of_length_le (by rw [data_len, size_append]; omega)]
theorem rd_take (a b : ByteArray) (n : Nat) (h : n = a.size) : Rd.ok ⟨a ++ b, false⟩ n = true := by
  unfold Rd.ok
  rw [decide_eq_true (by show n ≤ (a ++ b).size; rw [size_append]; omega)]; rfl
theorem rd_skip (a b : ByteArray) (n : Nat) (h : n = a.size) : Rd.skip ⟨a ++ b, false⟩ n = ⟨b, false⟩ := by
  unfold Rd.skip
  rw [rd_take a b n h, if_pos rfl]
  show Rd.mk ((a ++ b).extract n (a ++ b).size) false = _
  rw [ext_back a b n h]
theorem rd_val (a b : ByteArray) (n : Nat) (h : n = a.size) : Rd.val ⟨a ++ b, false⟩ n = valB a := by
  unfold Rd.val
  rw [rd_take a b n h, if_pos rfl]
  show ((valB ((a ++ b).extract 0 n) : Nat) : Int) = _
  rw [ext_front a b n h]
theorem rd_bytes (a b : ByteArray) (n : Nat) (h : n = a.size) : Rd.bytes ⟨a ++ b, false⟩ n = a := by
  unfold Rd.bytes
  rw [rd_take a b n h, if_pos rfl]
  exact ext_front a b n h
theorem rd_text (a b : ByteArray) (h : a.size < 4294967296) : Rd.text ⟨lo4 a.size ++ a ++ b, false⟩ = a ∧ Rd.tskip ⟨lo4 a.size ++ a ++ b, false⟩ = ⟨b, false⟩ := by
  have hv : (valB (lo4 a.size) : Int) = a.size := by
    unfold lo4
    rw [valB_lo _ (by omega)]
    omega
  rw [ByteArray.append_assoc]
  unfold Rd.text Rd.tskip
  rw [rd_skip _ _ 4 (lo4_size _).symm, rd_val _ _ 4 (lo4_size _).symm, hv, Int.toNat_natCast]
  exact ⟨rd_bytes a b _ rfl, rd_skip a b _ rfl⟩
theorem valB_be8 (n : Int) (h0 : 0 ≤ n) (h1 : n ≤ 18446744073709551615) : (valB (be8 n) : Int) = n := valN_be8 n h0 h1
theorem rec_read (r : Rec) (h : r.Ok) : Rd.text ⟨r.enc, false⟩ = r.body ∧ Rd.text (Rd.tskip ⟨r.enc, false⟩) = r.reply ∧ Rd.val (Rd.tskip (Rd.tskip ⟨r.enc, false⟩)) 8 = r.seq ∧ Rd.skip (Rd.tskip (Rd.tskip ⟨r.enc, false⟩)) 8 = ⟨ByteArray.empty, false⟩ := by
  have e : r.enc = lo4 r.body.size ++ r.body ++ (lo4 r.reply.size ++ r.reply ++ (be8 r.seq ++ ByteArray.empty)) := by
    unfold Rec.enc
    simp only [ByteArray.append_assoc, ByteArray.empty_append, ByteArray.append_empty]
  have h9 := h.long
  have t1 := rd_text r.body (lo4 r.reply.size ++ r.reply ++ (be8 r.seq ++ ByteArray.empty)) (by omega)
  have t2 := rd_text r.reply (be8 r.seq ++ ByteArray.empty) (by omega)
  rw [← e] at t1
  refine ⟨t1.1, ?_, ?_, ?_⟩
  · rw [t1.2, t2.1]
  · rw [t1.2, t2.2, rd_val (be8 r.seq) _ 8 (show 8 = (be8 r.seq).size from (be_size _ 8).symm), valB_be8 _ h.seq.1 h.seq.2]
  · rw [t1.2, t2.2, rd_skip (be8 r.seq) _ 8 (show 8 = (be8 r.seq).size from (be_size _ 8).symm)]
theorem nil_read : Rd.text ⟨ByteArray.empty, false⟩ = ByteArray.empty ∧ Rd.text (Rd.tskip ⟨ByteArray.empty, false⟩) = ByteArray.empty ∧ Rd.val (Rd.tskip (Rd.tskip ⟨ByteArray.empty, false⟩)) 8 = 0 := by
  have h1 : Rd.tskip ⟨ByteArray.empty, false⟩ = ⟨ByteArray.empty, true⟩ := rfl
  have h2 : Rd.tskip ⟨ByteArray.empty, true⟩ = ⟨ByteArray.empty, true⟩ := rfl
  exact ⟨rfl, by rw [h1]; rfl, by rw [h1, h2]; rfl⟩
end Go.Proofs.Ytiadoimdohnebaa
