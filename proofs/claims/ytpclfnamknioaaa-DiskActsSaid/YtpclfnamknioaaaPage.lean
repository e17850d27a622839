/- The walks of the law's Page, and of the disk's methods of nil. -/
import Derived.Test.YtpclfnamknioaaaDisk8
import Derived.Deep.OwnRows
namespace Go.Proofs.Ytpclfnamknioaaa
open Go.RowKit
set_option maxRecDepth 100000
set_option linter.unusedVariables false
set_option linter.unusedSimpArgs false
theorem Own.of_blk {e : TypeId} {w : World} {base g : Nat} {s : ByteArray} (h : w.heap[g]? = some (.cells (Lib.strCells s).toArray e (0, 0))) (hb : base ≤ g) (hm : s.size ≤ maxLen) : Own e w base (.slice (some ⟨g, 0, none⟩) s.size s.size) s := by
  have hl : (Lib.strCells s).length = s.size := Lib.strCells_length s
  refine ⟨by rw [hl, Nat.mul_one], .inr ⟨g, s.size, _, rfl, hb, h, Nat.le_refl _, hm, by simp [hl], ?_⟩⟩
  rw [Nat.mul_one, List.take_of_length_le (by simp [hl])]
/-- of b all over, but for one sector of c -/
def pgN (b c s : Int) (i : Nat) : Int := if i / 512 = s.toNat % 8 then c else b
def pgB (b c s : Int) : ByteArray := ⟨((List.range 4096).map fun i => UInt8.ofNat (pgN b c s i).toNat).toArray⟩
theorem pgB_size (b c s : Int) : (pgB b c s).size = 4096 := by unfold pgB; show Array.size _ = _; simp
theorem pgN_lt {b c s : Int} (hb0 : 0 ≤ b) (hb : b < 256) (hc0 : 0 ≤ c) (hc : c < 256) (i : Nat) : 0 ≤ pgN b c s i ∧ pgN b c s i < 256 := by unfold pgN; split <;> omega
theorem pgB_cells {b c s : Int} (hb0 : 0 ≤ b) (hb : b < 256) (hc0 : 0 ≤ c) (hc : c < 256) : Lib.strCells (pgB b c s) = (List.range 4096).map fun i => .int .u8 (pgN b c s i) := by
  unfold Lib.strCells pgB
  rw [List.map_map]
  refine List.map_congr_left fun i _ => ?_
  have := pgN_lt (s := s) hb0 hb hc0 hc i
  simp only [Function.comp_apply, Value.int.injEq, true_and]
  rw [UInt8.toNat_ofNat_of_lt' (by show _ < 256; omega)]
  omega
/-- the row after i rounds -/
def pgL (f : Nat → Int) (i : Nat) : List Value := ((List.range 4096).map fun k => Value.int .u8 (if k < i then f k else 0))
theorem pgL_len (f : Nat → Int) (i : Nat) : (pgL f i).length = 4096 := by simp [pgL]
theorem pgL_zero (f : Nat → Int) : (madeCells #[Value.int .u8 0] 4096) = (pgL f 0).toArray := by
  refine Array.ext' ?_
  show _ = pgL f 0
  refine List.ext_getElem? fun i => ?_
  rcases Nat.lt_or_ge i 4096 with h | h
  · rw [Array.getElem?_toList]
    unfold madeCells pgL
    simp [h, Nat.mod_one]
  · rw [List.getElem?_eq_none (by simp [size_madeCells]; exact h), List.getElem?_eq_none (by rw [pgL_len]; exact h)]
theorem pgL_set (f : Nat → Int) (i : Nat) (hi : i < 4096) : (pgL f i).set i (.int .u8 (f i)) = pgL f (i + 1) := by
  refine List.ext_getElem? fun k => ?_
  rw [List.getElem?_set, pgL_len]
  unfold pgL
  by_cases hk : i = k
  · subst hk
    rw [if_pos rfl, if_pos hi, List.getElem?_map, List.getElem?_range hi]
    simp
  · rw [if_neg hk, List.getElem?_map, List.getElem?_map]
    rcases Nat.lt_or_ge k 4096 with h | h
    · rw [List.getElem?_range h]
      simp only [Option.map_some, Option.some.injEq, Value.int.injEq, true_and]
      by_cases h1 : k < i
      · rw [if_pos h1, if_pos (by omega)]
      · rw [if_neg h1, if_neg (by omega)]
    · rw [List.getElem?_eq_none (by simpa using h)]
      rfl
theorem pgL_set' (f : Nat → Int) (i : Nat) (x : Int) (hi : i < 4096) (hx : f i = x) : (pgL f i).set i (.int .u8 x) = pgL f (i + 1) := by rw [← hx]; exact pgL_set f i hi
theorem pgL_get (f : Nat → Int) (i : Nat) (hi : i < 4096) : ∃ x, (pgL f i)[i]? = some (.int .u8 x) := by
  unfold pgL
  rw [List.getElem?_map, List.getElem?_range hi]
  exact ⟨_, rfl⟩
theorem page_law (b c s : Int) (hb0 : 0 ≤ b) (hb : b < 256) (hc0 : 0 ≤ c) (hc : c < 256) (hs0 : 0 ≤ s) (hs : s < 256) (w : World) :
    Calls Try.prog 11 #[.int .u8 b, .int .u8 c, .int .u8 s] w fun e w' => ∃ v, e = .returned v ∧ Own 5 w' w.heap.size v (pgB b c s) ∧ Below w.heap.size w w' := by
  have hmk := run_make_row' (P := Try.prog) 27 5 (.int .u8 0) 1 uBytes iByte rfl .i64 .i64 4096 (by decide) (by decide)
  rw [show ((4096 : Nat) : Int) = 4096 from rfl] at hmk
  have hml : madeCells #[Value.int .u8 0] 4096 = (pgL (pgN b c s) 0).toArray := pgL_zero _
  have hblk := blk_new w (.cells (madeCells #[Value.int .u8 0] 4096) 5)
  rw [hml] at hblk
  obtain ⟨mc, hmc⟩ : ∃ mc, mc = madeCells #[Value.int .u8 0] 4096 := ⟨_, rfl⟩
  rw [← hmc] at hmk hml
  rw [← hml] at hblk
  have HML := Lib.hid hml
  have HBLK := Lib.hid hblk
  have HL := Lib.hid ((Below.refl w.heap.size w).alloc (Nat.le_refl _) (.cells mc 5))
  have HS := Lib.hid ((show s % 8 = ((s.toNat % 8 : Nat) : Int) by omega))
  obtain ⟨g, hg⟩ : ∃ g, g = w.heap.size := ⟨_, rfl⟩
  have HG := Lib.hid hg
  clear hmc hml hblk hg
  go_enter Try.func11, Try.ntmps11
  go_wp2_with fail
  rw [← HG.out] at HBLK ⊢
  go_loopw [8] (fun i wr => ∃ j : Nat, j ≤ 4096 ∧ i = .int .i64 j ∧ Hid (wr.heap[g]? = some (.cells (pgL (pgN b c s) j).toArray 5 (0, 0))) ∧ Hid (Below w.heap.size w wr)) (fun i _ => 4096 - (intOf i).toNat)
  case atStart => exact ⟨0, by omega, rfl, by rw [← HML.out]; exact HBLK, HL⟩
  case round =>
    obtain ⟨j, hj, rfl, HB, HLR⟩ := hrel
    by_cases hlt : j < 4096
    · obtain ⟨x, hx⟩ := pgL_get (pgN b c s) j hlt
      have hc : wr.cell? ⟨g, j, none⟩ = some (.int .u8 x) := by rw [blk_cell HB.out, List.getElem?_toArray]; exact hx
      have hf : wr.frozen? ⟨g, j, none⟩ = false := blk_frozen HB.out j
      have hb1 := blk_setCell HB.out j (.int .u8 b)
      have hc1 : (wr.setCell ⟨g, j, none⟩ (.int .u8 b)).cell? ⟨g, j, none⟩ = some (.int .u8 b) := by
        rw [blk_cell hb1, List.setIfInBounds_toArray, List.getElem?_toArray, List.getElem?_set, if_pos rfl, if_pos (by rw [pgL_len]; exact hlt)]
      have hf1 := blk_frozen hb1 j
      have HB1 := Lib.hid hb1
      clear hb1 hx
      by_cases hq : j / 512 = s.toNat % 8
      · have HV : Hid (pgN b c s j = c) := Lib.hid (by unfold pgN; rw [if_pos hq])
        have hqi : ((j : Int) / 512 == s % 8) = true := by rw [HS.out, beq_iff_eq]; omega
        clear hq
        go_wp2_with fail
        refine ⟨⟨j + 1, by omega, rfl, Lib.hid ?_, Lib.hid ?_⟩, by simp [intOf]; omega⟩
        · have h2 := blk_setCell HB1.out j (.int .u8 c)
          rw [List.setIfInBounds_toArray, List.setIfInBounds_toArray, List.set_set, pgL_set' _ _ _ hlt HV.out] at h2
          exact h2
        · have hgb : w.heap.size ≤ g := by rw [HG.out]; exact Nat.le_refl _
          exact (HLR.out.setCell hgb _).setCell hgb _
      · have HV : Hid (pgN b c s j = b) := Lib.hid (by unfold pgN; rw [if_neg hq])
        have hqi : ((j : Int) / 512 == s % 8) = false := by rw [HS.out, beq_eq_false_iff_ne]; omega
        clear hq
        go_wp2_with fail
        refine ⟨⟨j + 1, by omega, rfl, Lib.hid ?_, Lib.hid ?_⟩, by simp [intOf]; omega⟩
        · have h2 := HB1.out
          rw [List.setIfInBounds_toArray, pgL_set' _ _ _ hlt HV.out] at h2
          exact h2
        · have hgb : w.heap.size ≤ g := by rw [HG.out]; exact Nat.le_refl _
          exact HLR.out.setCell hgb _
    · obtain rfl : j = 4096 := by omega
      go_wp2_with fail
      go_ret
      have hcells : pgL (pgN b c s) 4096 = Lib.strCells (pgB b c s) := by
        rw [pgB_cells hb0 hb hc0 (by assumption)]
        unfold pgL
        refine List.map_congr_left fun k hk => ?_
        rw [if_pos (by simpa using hk)]
      have h2 := HB.out
      rw [hcells] at h2
      have ho := Own.of_blk h2 (base := w.heap.size) (by rw [HG.out]; exact Nat.le_refl _) (by rw [pgB_size]; unfold maxLen; omega)
      rw [pgB_size] at ho
      exact ⟨_, rfl, ho, HLR.out⟩
end Go.Proofs.Ytpclfnamknioaaa
