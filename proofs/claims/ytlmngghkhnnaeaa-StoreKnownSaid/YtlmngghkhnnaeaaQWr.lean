/- The walks of package wire: put, Byte, Uint, sum; numbers and their bytes. -/
import Derived.Test.YtlmngghkhnnaeaaQCpy
import Derived.Laws.CopyOwn
import Derived.LoopTactic
import Derived.Handy
import Derived.WalkSpells
import Derived.Deep.OwnRows
import Derived.Laws.Bits64b
namespace Go.Proofs.Ytlmngghkhnnaeaa
open Go.RowKit
set_option maxRecDepth 100000
set_option linter.unusedVariables false
set_option linter.unusedSimpArgs false
def be (n : Int) : Nat → ByteArray
  | 0 => ByteArray.empty
  | j + 1 => be n j ++ bOne (n / 2 ^ (56 - 8 * j) % 256)
def be8 (n : Int) : ByteArray := be n 8
theorem be_size (n : Int) : ∀ j, (be n j).size = j
  | 0 => rfl
  | j + 1 => by show (be n j ++ bOne _).size = j + 1; rw [size_append, be_size n j, size_one]
theorem be8_size (n : Int) : (be8 n).size = 8 := be_size n 8
def valN (l : List UInt8) : Nat := l.foldl (fun n b => n * 256 + b.toNat) 0
theorem valN_snoc (l : List UInt8) (b : UInt8) : valN (l ++ [b]) = valN l * 256 + b.toNat := by simp [valN, List.foldl_append]
theorem valN_lt (l : List UInt8) : valN l < 256 ^ l.length := by
  have : ∀ (r : List UInt8), valN r.reverse < 256 ^ r.length := by
    intro r
    induction r with
    | nil => decide
    | cons b r ih =>
      rw [List.reverse_cons, valN_snoc, List.length_cons, Nat.pow_succ]
      have := b.toNat_lt
      omega
  simpa using this l.reverse
theorem valN_be (n : Int) (h0 : 0 ≤ n) (h1 : n ≤ 18446744073709551615) : ∀ j, j ≤ 8 → (valN (be n j).data.toList : Int) = n / 2 ^ (64 - 8 * j)
  | 0, _ => by
    show (valN [] : Int) = _
    rw [show valN [] = 0 from rfl]
    symm
    exact Int.ediv_eq_zero_of_lt h0 (by omega)
  | j + 1, hj => by
    have ih := valN_be n h0 h1 j (by omega)
    have e : (be n (j + 1)).data.toList = (be n j).data.toList ++ [UInt8.ofNat (n / 2 ^ (56 - 8 * j) % 256).toNat] := by
      show (be n j ++ bOne _).data.toList = _
      simp [ByteArray.data_append, bOne]
    rw [e, valN_snoc]
    have hr0 : 0 ≤ n / 2 ^ (56 - 8 * j) % 256 := Int.emod_nonneg _ (by decide)
    have hr1 : n / 2 ^ (56 - 8 * j) % 256 < 256 := Int.emod_lt_of_pos _ (by decide)
    have hu : ((UInt8.ofNat (n / 2 ^ (56 - 8 * j) % 256).toNat).toNat : Int) = n / 2 ^ (56 - 8 * j) % 256 := by
      rw [UInt8.toNat_ofNat_of_lt' (by show (n / 2 ^ (56 - 8 * j) % 256).toNat < 256; omega)]; omega
    have hp : (2 : Int) ^ (64 - 8 * j) = 2 ^ (56 - 8 * j) * 256 := by
      rw [show 64 - 8 * j = (56 - 8 * j) + 8 by omega, Int.pow_add]; rfl
    have hk : n / 2 ^ (64 - 8 * j) = n / 2 ^ (56 - 8 * j) / 256 := by
      rw [hp, Int.ediv_ediv_of_nonneg (Int.pow_nonneg (by decide))]
    rw [Int.natCast_add, Int.natCast_mul, hu, ih, hk, show 64 - 8 * (j + 1) = 56 - 8 * j by omega]
    omega
theorem valN_be8 (n : Int) (h0 : 0 ≤ n) (h1 : n ≤ 18446744073709551615) : (valN (be8 n).data.toList : Int) = n := by
  have := valN_be n h0 h1 8 (by omega)
  unfold be8
  simpa using this
theorem made_cells (n : Nat) : (madeCells #[Value.int .u8 0] n).toList = Lib.strCells (zp n) := by
  refine List.ext_getElem? fun i => ?_
  rcases Nat.lt_or_ge i n with h | h
  · rw [strCells_get _ _ (by rw [zp_size]; exact h)]
    have e1 : (zp n).data.toList.getD i 0 = 0 := by
      rw [List.getD_eq_getElem?_getD]; unfold zp; simp [h]
    rw [e1, Array.getElem?_toList]
    unfold madeCells
    simp [h, Nat.mod_one]
  · rw [List.getElem?_eq_none (by simp [size_madeCells]; exact h), List.getElem?_eq_none (by rw [Lib.strCells, List.length_map, data_len, zp_size]; exact h)]
theorem made_ex (n : Nat) (z : Int) (hz : z = n) (hn : n ≤ 281474976710656) : ∃ (f : World → Value) (g : World → World),
    (∀ W, (Instr.makeSlice 28 (.int .i64 z) (.int .i64 z)).run Try.prog W = .ok (f W) (g W)) ∧ (∀ W, Own 5 (g W) W.heap.size (f W) (zp n)) ∧ ∀ W, Below W.heap.size W (g W) := by
  subst hz
  exact ⟨_, _, fun W => run_make_row' (P := Try.prog) 28 5 (.int .u8 0) 1 uBytes iByte rfl .i64 .i64 n (by omega) (by omega) W, fun W => Own.zeros 5 W n (by unfold maxLen; omega), fun W => (Below.refl W.heap.size W).alloc (Nat.le_refl _) _⟩
/-- the lowest j bytes of a number, the highest first -/
def lo (n : Int) : Nat → ByteArray
  | 0 => ByteArray.empty
  | j + 1 => bOne (n / 256 ^ j % 256) ++ lo n j
theorem lo_size (n : Int) : ∀ j, (lo n j).size = j
  | 0 => rfl
  | j + 1 => by show (bOne _ ++ lo n j).size = j + 1; rw [size_append, lo_size n j, size_one]; omega
theorem lo8 (n : Int) : lo n 8 = be8 n := by
  simp only [lo, be8, be, ByteArray.append_assoc, ByteArray.append_empty, ByteArray.empty_append]
  simp
def Sj (s : ByteArray) (n : Int) (k j : Nat) : ByteArray := s ++ (zp (k - j) ++ lo n j)
theorem Sj_size (s : ByteArray) (n : Int) (k j : Nat) (hj : j ≤ k) : (Sj s n k j).size = s.size + k := by
  unfold Sj; rw [size_append, size_append, zp_size, lo_size]; omega
theorem Sj_set (s : ByteArray) (n : Int) (k j : Nat) (hj : j < k) : (Lib.strCells (Sj s n k j)).set (s.size + (k - 1 - j)) (.int .u8 (n / 256 ^ j % 256)) = Lib.strCells (Sj s n k (j + 1)) := by
  have h0 : 0 ≤ n / 256 ^ j % 256 := Int.emod_nonneg _ (by decide)
  have h1 : n / 256 ^ j % 256 < 256 := Int.emod_lt_of_pos _ (by decide)
  unfold Sj
  rw [show lo n (j + 1) = bOne (n / 256 ^ j % 256) ++ lo n j from rfl]
  simp only [strCells_append, strCells_one _ h0 h1, zp_cells]
  rw [List.set_append_right _ _ (by rw [Lib.strCells_length]; omega), Lib.strCells_length, show s.size + (k - 1 - j) - s.size = k - 1 - j by omega]
  congr 1
  rw [List.set_append_left _ _ (by rw [List.length_replicate]; omega), ← List.append_assoc]
  congr 1
  rw [show k - j = (k - 1 - j) + 1 by omega, List.replicate_succ', List.set_append_right _ _ (by simp)]
  simp [show k - (j + 1) = k - 1 - j by omega]
theorem Own.of_blk {e : TypeId} {w : World} {base g : Nat} {s : ByteArray} (h : w.heap[g]? = some (.cells (Lib.strCells s).toArray e (0, 0))) (hb : base ≤ g) (hm : s.size ≤ maxLen) : Own e w base (.slice (some ⟨g, 0, none⟩) s.size s.size) s := by
  have hl : (Lib.strCells s).length = s.size := Lib.strCells_length s
  refine ⟨by rw [hl, Nat.mul_one], .inr ⟨g, s.size, _, rfl, hb, h, Nat.le_refl _, hm, by simp [hl], ?_⟩⟩
  rw [Nat.mul_one, List.take_of_length_le (by simp [hl])]
/-- copy(d, v), d lying in a row of bytes that is known whole -/
theorem copy_ex (W : World) (g o dLen dCap : Nat) (S s : ByteArray) (a : Option Addr) (c : Nat) (n : Nat) (hn : n = Nat.min s.size dLen) (hg : W.heap[g]? = some (.cells (Lib.strCells S).toArray 5 (0, 0))) (hv : BS W (.slice a s.size c) s) (hfit : o + n ≤ S.size) (ty : TypeId) :
    ∃ w2, (Builtin.copy_ #[28, 28] ty #[.slice (some ⟨g, o, none⟩) dLen dCap, .slice a s.size c]).run Try.prog W = .ok (.int .i64 n) w2 ∧
      w2.heap[g]? = some (.cells (Lib.strCells (over S o (s.extract 0 n))).toArray 5 (0, 0)) ∧ Keep (fun i => i = g) W w2 := by
  have hsz : (Try.prog.info? 5).map (·.size) = some 1 := by kernel_rfl
  have hns : n ≤ s.size := by rw [hn]; exact Nat.min_le_left _ _
  have hxs : (s.extract 0 n).size = n := by rw [ByteArray.size_extract]; omega
  by_cases h0 : n = 0
  · subst h0
    refine ⟨W, ?_, ?_, Keep.refl _ _⟩
    · exact run_copy_none (P := Try.prog) W _ _ ty 5 _ _ dLen dCap s.size c uBytes hsz hn.symm
    · rw [hg]
      have e : Lib.strCells (over S o (s.extract 0 0)) = Lib.strCells S := by
        rw [over_cells _ _ _ (by rw [hxs]; exact hfit), strCells_ext]
        simp
      rw [e]
  · obtain ⟨ad, rfl, hcell⟩ := hv.cells_at (by omega)
    have hl : (Lib.strCells (s.extract 0 n)).length = n := by rw [Lib.strCells_length, hxs]
    have hrun := run_copy_row (P := Try.prog) W 28 28 ty 5 g o dLen dCap ad s.size c (Lib.strCells S).toArray 5 (Lib.strCells (s.extract 0 n)) uBytes hsz hg (by rw [hl]; exact hn) (fun j v hj => hcell j v (by
      rw [strCells_ext, List.drop_zero, List.getElem?_take] at hj
      split at hj
      · exact hj
      · cases hj)) (by rw [hl]; simpa [Lib.strCells_length] using hfit) (oneCell_cells _)
    rw [hl] at hrun
    refine ⟨_, hrun, ?_, ?_⟩
    · rw [over_cells _ _ _ (by rw [hxs]; exact hfit), hl]
      simpa using setRow_heap W g _ _ _ _ hg
    · exact ⟨rfl, rfl, rfl, by simp [World.setRow], fun i hi hne => setRow_other W g i _ hne⟩
theorem over_zp (s : ByteArray) (n : Int) (k : Nat) : over (zp (s.size + k)) 0 (s.extract 0 s.size) = Sj s n k 0 := by
  apply ba_of_cells
  have hx : (s.extract 0 s.size).size = s.size := by rw [ByteArray.size_extract]; omega
  rw [over_cells _ _ _ (by rw [hx, zp_size]; omega), strCells_ext]
  unfold Sj
  rw [strCells_append, strCells_append, zp_cells, zp_cells, show lo n 0 = ByteArray.empty from rfl, show Lib.strCells ByteArray.empty = [] from rfl]
  simp [Lib.strCells_length, List.take_of_length_le]
theorem div_pow (n : Int) (j : Nat) : n / 256 ^ j / 256 = n / 256 ^ (j + 1) := by
  rw [Int.pow_succ, Int.ediv_ediv_of_nonneg (Int.le_of_lt (Int.pow_pos (by decide)))]
theorem put_w (v : Value) (s : ByteArray) (n : Int) (h0 : 0 ≤ n) (h1 : n ≤ 18446744073709551615) (k : Nat) (kz : Int) (hkz : kz = k) (hk0 : 0 < k) (hk : k ≤ 8) (w : World) (hS : BS w v s) (hs : s.size ≤ 70368744177664) :
    Calls Try.prog 71 #[v, .int .u64 n, .int .i64 kz] w fun e w' => ∃ v', e = .returned v' ∧ Own 5 w' w.heap.size v' (s ++ lo n k) ∧ Below w.heap.size w w' := by
  subst hkz
  obtain ⟨a, c, rfl⟩ := hS.len
  have hmk := run_make_row' (P := Try.prog) 28 5 (.int .u8 0) 1 uBytes iByte rfl .i64 .i64 (s.size + k) (by omega) (by omega)
  rw [Int.natCast_add] at hmk
  obtain ⟨mc, hmc⟩ : ∃ mc, mc = madeCells #[Value.int .u8 0] (s.size + k) := ⟨_, rfl⟩
  have hml : mc = (Lib.strCells (zp (s.size + k))).toArray := by rw [hmc, ← made_cells]
  rw [← hmc] at hmk
  have hblk : (w.alloc (.cells mc 5)).heap[w.heap.size]? = some (.cells (Lib.strCells (zp (s.size + k))).toArray 5 (0, 0)) := by rw [blk_new, hml]
  obtain ⟨w2, hcp, hb2, hk2⟩ := copy_ex (w.alloc (.cells mc 5)) w.heap.size 0 (s.size + k) (s.size + k) (zp (s.size + k)) s a c s.size (by simp) hblk (hS.alloc _) (by rw [zp_size]; omega) 3
  rw [over_zp s n k] at hb2
  have HB2 := Lib.hid hb2
  have HL2 := Lib.hid (((Below.refl w.heap.size w).alloc (Nat.le_refl _) (.cells mc 5)).trans (hk2.below (B := w.heap.size) (by simp) (fun i hi => by subst hi; exact Nat.le_refl _)))
  obtain ⟨g, hg⟩ : ∃ g, g = w.heap.size := ⟨_, rfl⟩
  have HG := Lib.hid hg
  clear hS hmc hml hblk hb2 hk2 hg
  go_enter Try.func71, Try.ntmps71
  go_wp2_with fail
  rw [← HG.out] at HB2 ⊢
  go_loopw [1, 8] (fun u i wr => ∃ j : Nat, j ≤ k ∧ u = .int .u64 (n / 256 ^ j) ∧ i = .int .i64 (((s.size + (k - j) : Nat) : Int) - 1) ∧ Hid (wr.heap[g]? = some (.cells (Lib.strCells (Sj s n k j)).toArray 5 (0, 0))) ∧ Hid (Below w.heap.size w wr)) (fun u i _ => (intOf i + 1).toNat)
  case atStart => exact ⟨0, by omega, by simp, by go_num, HB2, HL2⟩
  case round =>
    obtain ⟨j, hj, rfl, hi, HB, HL⟩ := hrel
    by_cases hlt : j < k
    · obtain ⟨m, hm⟩ : ∃ m, s.size + (k - j) = m + 1 := ⟨s.size + (k - j) - 1, by omega⟩
      have hmk : m = s.size + (k - 1 - j) := by omega
      rw [hm, show (((m + 1 : Nat) : Int) - 1) = (m : Int) by omega] at hi
      subst hi
      have hcl : m < (Lib.strCells (Sj s n k j)).length := by rw [Lib.strCells_length, Sj_size s n k j hj]; omega
      have hc : wr.cell? ⟨g, m, none⟩ = some ((Lib.strCells (Sj s n k j))[m]) := by rw [blk_cell HB.out]; simp [hcl]
      have hf : wr.frozen? ⟨g, m, none⟩ = false := blk_frozen HB.out m
      have HSET := Lib.hid (Sj_set s n k j hlt)
      have hge : (s.size : Int) ≤ (m : Int) := by omega
      have hmk1 : (m : Int) < ((s.size : Int) + k) := by omega
      have HM := Lib.hid hmk
      generalize (Lib.strCells (Sj s n k j))[m] = x at hc
      clear hm hmk hcl
      go_wp2
      refine ⟨⟨j + 1, by omega, ?_, ?_, ?_, ?_⟩, by simp [intOf]⟩
      · rw [show n / 256 ^ j / 256 = n / 256 ^ (j + 1) from div_pow n j]
      · rw [show (m : Int) - 1 = ((s.size + (k - (j + 1)) : Nat) : Int) - 1 by have := HM.out; omega]
      · have := blk_setCell HB.out m (.int .u8 (n / 256 ^ j % 256))
        rw [List.setIfInBounds_toArray, HM.out, HSET.out] at this
        rw [HM.out]
        exact this
      · exact HL.out.setCell (by rw [HG.out]; exact Nat.le_refl _) _
    · obtain rfl : j = k := by omega
      rw [show s.size + (j - j) = s.size by omega] at hi
      subst hi
      go_wp2
      go_ret
      have hz := HB.out
      rw [show Sj s n j j = s ++ lo n j by unfold Sj; rw [Nat.sub_self, show zp 0 = ByteArray.empty from rfl, ByteArray.empty_append]] at hz
      have ho := Own.of_blk (base := w.heap.size) hz (by rw [HG.out]; exact Nat.le_refl _) (by rw [size_append, lo_size]; unfold maxLen; omega)
      rw [size_append, lo_size] at ho
      exact ⟨_, rfl, ho, HL.out⟩
theorem uint_w (v : Value) (s : ByteArray) (n : Int) (h0 : 0 ≤ n) (h1 : n ≤ 18446744073709551615) (w : World) (hS : BS w v s) (hs : s.size ≤ 70368744177664) :
    Calls Try.prog 50 #[v, .int .u64 n] w fun e w' => ∃ v', e = .returned v' ∧ Own 5 w' w.heap.size v' (s ++ be8 n) ∧ Below w.heap.size w w' := by
  have HC := Lib.hid (put_w v s n h0 h1 8 8 rfl (by decide) (by decide) w hS hs)
  rw [lo8] at HC
  clear hS
  go_enter Try.func50, Try.ntmps50
  go_wp2_with fail
  refine HC.out.mono ?_
  rintro e w1 ⟨v1, rfl, ho, hb⟩
  have HO := Lib.hid ho
  have HB := Lib.hid hb
  clear ho hb
  go_wp2
  go_ret
  exact ⟨_, rfl, HO.out, HB.out⟩
def lo4 (n : Int) : ByteArray := lo n 4
theorem lo4_size (n : Int) : (lo4 n).size = 4 := lo_size n 4
/-- the number that bytes are -/
def valB (s : ByteArray) : Nat := valN s.data.toList
theorem sum_w (v : Value) (s : ByteArray) (w : World) (hS : BS w v s) (h8 : s.size ≤ 8) :
    Calls Try.prog 66 #[v] w fun e w' => e = .returned (.int .u64 (valB s)) ∧ w = w' := by
  obtain ⟨a, c, rfl⟩ := hS.len
  have HS := Lib.hid hS
  have hl : s.data.toList.length = s.size := data_len s
  clear hS
  go_enter Try.func66, Try.ntmps66
  go_wp2_with fail
  go_loop [3, 8] (fun n i => ∃ j : Nat, j ≤ s.size ∧ i = .int .i64 j ∧ n = .int .u64 (valN (s.data.toList.take j))) (fun _ i => s.size - (intOf i).toNat)
  case atStart => exact ⟨0, by omega, rfl, rfl⟩
  case round =>
    obtain ⟨j, hj, rfl, rfl⟩ := hrel
    by_cases hlt : j < s.size
    · have hval : valN (s.data.toList.take (j + 1)) = valN (s.data.toList.take j) * 256 + (s.data.toList.getD j 0).toNat := by
        rw [List.take_succ_eq_append_getElem (by omega), valN_snoc, List.getD_eq_getElem?_getD, List.getElem?_eq_getElem (by omega)]; rfl
      have hb : (s.data.toList.getD j 0).toNat < 256 := UInt8.toNat_lt _
      have hn : valN (s.data.toList.take j) < 256 ^ 7 := by
        have := valN_lt (s.data.toList.take j)
        rw [List.length_take] at this
        exact Nat.lt_of_lt_of_le this (Nat.pow_le_pow_right (by decide) (by omega))
      obtain ⟨b, off, rfl, hc⟩ := HS.out.at_ hlt
      have hcj := hc j hlt
      have HV := Lib.hid hval
      have hjl : (j : Int) < (s.size : Int) := by omega
      generalize (s.data.toList.getD j 0).toNat = x at hcj HV hb
      generalize valN (s.data.toList.take j) = y at HV hn ⊢
      clear hval hc
      go_wp2
      go_round
      case rel =>
        refine ⟨j + 1, by omega, by go_num, ?_⟩
        rw [HV.out]
        simp
      case measure => simp [intOf]; omega
    · have hje : j = s.size := by omega
      subst hje
      go_wp2
      go_ret
      rw [show s.data.toList.take s.size = s.data.toList from List.take_of_length_le (by omega)]
      exact ⟨rfl, rfl⟩
theorem Own.size8 {e : TypeId} {w : World} {base : Nat} {v : Value} {n : Int} (h : Own e w base v (be8 n)) : ∃ a c, v = .slice a 8 c := by
  obtain ⟨a, c, h⟩ := h.size
  rw [be8_size] at h
  exact ⟨a, c, h⟩
theorem byte_w (v : Value) (s : ByteArray) (n : Int) (h0 : 0 ≤ n) (h1 : n < 256) (w : World) (hS : BS w v s) (hs : s.size ≤ 70368744177664) :
    Calls Try.prog 51 #[v, .int .u8 n] w fun e w' => ∃ v', e = .returned v' ∧ Own 5 w' w.heap.size v' (s ++ bOne n) ∧ Below w.heap.size w w' := by
  have HC := Lib.hid (put_w v s n h0 (by omega) 1 1 rfl (by decide) (by decide) w hS hs)
  rw [show lo n 1 = bOne n by simp [lo, Int.emod_eq_of_lt h0 h1]] at HC
  have tw : IntKind.u64.wrap n = n := by rw [IntKind.wrap_u64]; omega
  clear hS
  go_enter Try.func51, Try.ntmps51
  go_wp2_with fail
  refine HC.out.mono ?_
  rintro e w1 ⟨v1, rfl, ho, hb⟩
  have HO := Lib.hid ho
  have HB := Lib.hid hb
  clear ho hb
  go_wp2
  go_ret
  exact ⟨_, rfl, HO.out, HB.out⟩
end Go.Proofs.Ytlmngghkhnnaeaa
