/- quitrentref16.Value; keys in order are numbers in order. -/
import Derived.Test.YtiadoimdohnebaaScan2
namespace Go.Proofs.Ytiadoimdohnebaa
open Go.RowKit
set_option maxRecDepth 100000
set_option linter.unusedVariables false
set_option linter.unusedSimpArgs false
theorem value_any (s : ByteArray) (h8 : s.size ≤ 8) (w : World) :
    Calls Try.prog 26 #[.string s] w fun e w' => e = .returned (.int .u64 (valN s.data.toList)) ∧ w' = w := by
  have hl : s.data.toList.length = s.size := data_len s
  go_enter Try.func26, Try.ntmps26
  go_wp2_with fail
  go_loop [3, 4] (fun n i => ∃ j : Nat, j ≤ s.size ∧ i = .int .i64 j ∧ n = .int .u64 (valN (s.data.toList.take j))) (fun _ i => s.size - (intOf i).toNat)
  case atStart => exact ⟨0, by omega, rfl, rfl⟩
  case round =>
    obtain ⟨j, hj, rfl, rfl⟩ := hrel
    by_cases hlt : j < s.size
    · have hval : valN (s.data.toList.take (j + 1)) = valN (s.data.toList.take j) * 256 + (s.data.toList.getD j 0).toNat := by
        rw [List.take_succ_eq_append_getElem (by omega), valN_snoc, List.getD_eq_getElem?_getD, List.getElem?_eq_getElem (by omega)]; rfl
      have hb : (s.data.toList.getD j 0).toNat < 256 := UInt8.toNat_lt _
      have hn : valN (s.data.toList.take j) < 256 ^ 7 := by
        have := valN_lt (s.data.toList.take j)
        rw [List.length_take] at this
        exact Nat.lt_of_lt_of_le this (Nat.pow_le_pow_right (by decide) (by omega))
      have hidx : ∀ w, (Instr.index 9 (.string s) (.int .i64 j)).run Try.prog w = .ok (.int .u8 (s.data.toList.getD j 0).toNat) w := by
        intro w
        rw [run_index_string (P := Try.prog) w 9 s .i64 j uStr, dif_pos (by omega)]
        have e1 : s[(j : Int).toNat]'(by omega) = s.data.toList.getD j 0 := by
          rw [List.getD_eq_getElem?_getD, List.getElem?_eq_getElem (by omega)]
          simp only [Int.toNat_natCast, Option.getD_some]
          rfl
        rw [e1]
      have HV := Lib.hid hval
      generalize (s.data.toList.getD j 0).toNat = x at hidx HV hb
      generalize valN (s.data.toList.take j) = y at HV hn ⊢
      clear hval
      go_wp2
      go_round
      case rel =>
        refine ⟨j + 1, by omega, by go_num, ?_⟩
        rw [HV.out]
        simp
      case measure => simp [intOf]; omega
    · have hje : j = s.size := by omega
      subst hje
      go_wp2
      go_ret
      rw [show s.data.toList.take s.size = s.data.toList from List.take_of_length_le (by omega)]
      exact ⟨rfl, rfl⟩
/-! ### keys in order -/
theorem bl_append : ∀ (x y x' y' : List UInt8), x.length = y.length → Op.bytesLess (x ++ x') (y ++ y') = (Op.bytesLess x y || (x == y && Op.bytesLess x' y'))
  | [], [], x', y', _ => by simp [Op.bytesLess]
  | a :: x, b :: y, x', y', h => by
    have ih := bl_append x y x' y' (by simpa using h)
    simp only [List.cons_append, Op.bytesLess, ih]
    cases h1 : decide (a < b) <;> cases h2 : (a == b) <;> cases h3 : Op.bytesLess x y <;> cases h4 : (x == y) <;> simp_all
theorem bl_val : ∀ (x y : List UInt8), x.length = y.length → Op.bytesLess x y = decide (valN x < valN y) := by
  have aux : ∀ (n : Nat) (x y : List UInt8), x.length = n → y.length = n → Op.bytesLess x y = decide (valN x < valN y) := by
    intro n
    induction n with
    | zero =>
      intro x y hx hy
      rw [List.eq_nil_of_length_eq_zero hx, List.eq_nil_of_length_eq_zero hy]
      rfl
    | succ n ih =>
      intro x y hx hy
      obtain ⟨x0, a, rfl⟩ : ∃ x0 a, x = x0 ++ [a] := ⟨x.dropLast, x.getLast (by intro h; simp [h] at hx), (List.dropLast_concat_getLast _).symm⟩
      obtain ⟨y0, b, rfl⟩ : ∃ y0 b, y = y0 ++ [b] := ⟨y.dropLast, y.getLast (by intro h; simp [h] at hy), (List.dropLast_concat_getLast _).symm⟩
      simp at hx hy
      rw [bl_append _ _ _ _ (by omega), ih x0 y0 hx hy, valN_snoc, valN_snoc]
      have ha := a.toNat_lt
      have hb := b.toNat_lt
      have hab : Op.bytesLess [a] [b] = decide (a.toNat < b.toNat) := by
        simp only [Op.bytesLess, Bool.and_false, Bool.or_false]
        rfl
      rw [hab]
      by_cases he : x0 = y0
      · subst he
        simp
      · have hne : (x0 == y0) = false := beq_eq_false_iff_ne.2 he
        have hvv : valN x0 ≠ valN y0 := by
          intro hv
          refine he ?_
          have h1 := ih x0 y0 hx hy
          have h2 := ih y0 x0 hy hx
          rw [hv, decide_eq_false (Nat.lt_irrefl _)] at h1
          rw [hv, decide_eq_false (Nat.lt_irrefl _)] at h2
          exact bl_total _ _ h1 h2
        rw [hne]
        simp only [Bool.false_and, Bool.or_false]
        rw [decide_eq_decide]
        omega
  intro x y h
  exact aux _ x y rfl h.symm
end Go.Proofs.Ytiadoimdohnebaa
