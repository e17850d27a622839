/- Keys of two numbers in order; a part of a byte slice. -/
import Derived.Test.YtidppalhjknlfaaOrd2
namespace Go.Proofs.Ytidppalhjknlfaa
open Go.RowKit
set_option linter.unusedVariables false
set_option linter.unusedSimpArgs false
theorem keyS2 (x y : Int) : keyS 5 [x, y] = bOne 5 ++ be8 x ++ be8 y := by
  rw [show keyS 5 [x, y] = keyS 5 [x] ++ be8 y from keyS_snoc 5 [x] y, show keyS 5 [x] = keyS 5 [] ++ be8 x from keyS_snoc 5 [] x]; rfl
theorem append_list (s u : ByteArray) : (s ++ u).data.toList = s.data.toList ++ u.data.toList := by simp [ByteArray.data_append]
theorem be8_len (n : Int) : (be8 n).data.toList.length = 8 := by rw [data_len]; exact be_size n 8
theorem key_lt {x y x' y' : Int} (hx : 0 ≤ x ∧ x ≤ 18446744073709551615) (hy : 0 ≤ y ∧ y ≤ 18446744073709551615) (hx' : 0 ≤ x' ∧ x' ≤ 18446744073709551615) (hy' : 0 ≤ y' ∧ y' ≤ 18446744073709551615)
    (h : slt (keyS 5 [x, y]) (keyS 5 [x', y']) = true) : x < x' ∨ (x = x' ∧ y < y') := by
  unfold slt at h
  rw [toList_data, toList_data, keyS2, keyS2] at h
  simp only [append_list, List.append_assoc] at h
  rw [bl_append _ _ _ _ rfl, bl_irrefl, Bool.false_or, Bool.and_eq_true] at h
  have h2 := h.2
  rw [bl_append _ _ _ _ (by rw [be8_len, be8_len]), Bool.or_eq_true, Bool.and_eq_true, bl_val _ _ (by rw [be8_len, be8_len]), bl_val _ _ (by rw [be8_len, be8_len])] at h2
  have vx := valN_be8 x hx.1 hx.2
  have vy := valN_be8 y hy.1 hy.2
  have vx' := valN_be8 x' hx'.1 hx'.2
  have vy' := valN_be8 y' hy'.1 hy'.2
  rcases h2 with h2 | ⟨h2, h3⟩
  · have := of_decide_eq_true h2
    left; omega
  · have h3' := of_decide_eq_true h3
    have h2' : valN (be8 x).data.toList = valN (be8 x').data.toList := by rw [beq_iff_eq.1 h2]
    right; omega
theorem BS.sub {w : World} {b o n c : Nat} {s : ByteArray} (h : BS w (.slice (some ⟨b, o, none⟩) n c) s) (lo hi : Nat) (h1 : lo ≤ hi) (h2 : hi ≤ n) : BS w (.slice (some ⟨b, o + lo, none⟩) (hi - lo) (c - lo)) (s.extract lo hi) := by
  obtain ⟨a', c', he, g1, g2, _, g3⟩ := h
  simp only [Value.slice.injEq] at he
  obtain ⟨rfl, rfl, rfl⟩ := he
  have hsz : (s.extract lo hi).size = hi - lo := by rw [ByteArray.size_extract]; omega
  refine ⟨_, _, by rw [hsz], by rw [hsz]; omega, by omega, (fun h => by cases h), ?_⟩
  rcases g3 with g3 | ⟨b', o', he, hc⟩
  · left
    subst g3
    have : ByteArray.empty.size = 0 := rfl
    exact size0 (by rw [hsz]; omega)
  · injection he with he
    injection he with he1 he2
    subst he1; subst he2
    refine .inr ⟨_, _, rfl, fun i hi' => ?_⟩
    rw [hsz] at hi'
    rw [Nat.add_assoc, hc (lo + i) (by omega)]
    have e : (s.extract lo hi).data.toList.getD i 0 = s.data.toList.getD (lo + i) 0 := by
      rw [List.getD_eq_getElem?_getD, List.getD_eq_getElem?_getD]
      have : (s.extract lo hi).data = s.data.extract lo hi := by simp [ByteArray.data_extract]
      rw [this, Array.getElem?_toList, Array.getElem?_toList, Array.getElem?_extract, if_pos (by have : s.data.size = s.size := rfl; omega)]
    rw [e]
theorem ba_ext {a b : ByteArray} (h : a.data.toList = b.data.toList) : a = b := toList_inj (by rw [toList_data, toList_data]; exact h)
theorem extract_list (s : ByteArray) (lo hi : Nat) : (s.extract lo hi).data.toList = (s.data.toList.drop lo).take (hi - lo) := by
  rw [ByteArray.data_extract, Array.toList_extract, List.extract_eq_take_drop]
theorem key_list (x y : Int) : (keyS 5 [x, y]).data.toList = [5] ++ ((be8 x).data.toList ++ (be8 y).data.toList) := by
  rw [keyS2, append_list, append_list, List.append_assoc]; rfl
theorem sub_x (x y : Int) : (keyS 5 [x, y]).extract 1 9 = be8 x := by
  apply ba_ext
  rw [extract_list, key_list]
  show ((be8 x).data.toList ++ (be8 y).data.toList).take 8 = _
  rw [List.take_append_of_le_length (by rw [be8_len]; omega), List.take_of_length_le (by rw [be8_len]; omega)]
theorem sub_y (x y : Int) : (keyS 5 [x, y]).extract 9 17 = be8 y := by
  apply ba_ext
  rw [extract_list, key_list]
  show (((be8 x).data.toList ++ (be8 y).data.toList).drop 8).take 8 = _
  rw [List.drop_append_of_le_length (by rw [be8_len]; omega), List.drop_of_length_le (by rw [be8_len]; omega), List.nil_append, List.take_of_length_le (by rw [be8_len]; omega)]
end Go.Proofs.Ytidppalhjknlfaa
