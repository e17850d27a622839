/- The walk of slices.Equal of bytes. -/
import Derived.Test.YtlmngghkhnnaeaaQMSt2
import Derived.Deep.QuietTactic
import Derived.BigQuiet
namespace Go.Proofs.Ytlmngghkhnnaeaa
open Go.RowKit
set_option maxRecDepth 100000
set_option maxHeartbeats 1000000
set_option linter.unusedVariables false
set_option linter.unusedSimpArgs false
theorem sleq_any (v y : Value) (s t : ByteArray) (w : World) (hS : BS w v s) (hT : BS w y t) (hl : s.size ≤ 70368744177664) :
    Calls Try.prog 70 #[v, y] w fun e w' => e = .returned (.bool (decide (s = t))) ∧ Below w.heap.size w w' := by
  obtain ⟨a, c, rfl⟩ := hS.len
  obtain ⟨a', c', rfl⟩ := hT.len
  by_cases hz : s.size = t.size
  · have HS := Lib.hid hS
    have HT := Lib.hid hT
    obtain ⟨n, hn⟩ : ∃ n, n = s.size := ⟨_, rfl⟩
    rw [← hz]
    rw [← hn] at hl ⊢
    have HN := Lib.hid hn
    have HZ := Lib.hid hz
    clear hS hT hn hz
    go_enter Try.func70, Try.ntmps70
    go_wp2_with fail
    go_loopw [13] (fun i wr => ∃ j : Nat, j ≤ n ∧ i = .int .i64 j ∧ Hid (∀ k, k < j → s.data.toList.getD k 0 = t.data.toList.getD k 0) ∧ Hid (Below w.heap.size w wr)) (fun i _ => n - (intOf i).toNat)
    case atStart => exact ⟨0, by omega, rfl, Lib.hid (fun k hk => by omega), Lib.hid (Below.refl _ _)⟩
    case round =>
      obtain ⟨j, hj, rfl, HE, HB⟩ := hrel
      by_cases hlt : j < n
      · have i1 : (j : Int) < n := by omega
        have h1 := HS.out.below HB.out
        have h2 := HT.out.below HB.out
        obtain ⟨b1, o1, rfl, d1⟩ := h1.at_ (i := j) (by rw [← HN.out]; exact hlt)
        obtain ⟨b2, o2, rfl, d2⟩ := h2.at_ (i := j) (by rw [← HZ.out, ← HN.out]; exact hlt)
        have c1 := d1 j (by rw [← HN.out]; exact hlt)
        have c2 := d2 j (by rw [← HZ.out, ← HN.out]; exact hlt)
        by_cases he : s.data.toList.getD j 0 = t.data.toList.getD j 0
        · have HNE := Lib.hid he
          rw [he] at c1
          generalize (t.data.toList.getD j 0).toNat = x at c1 c2
          clear h1 h2 d1 d2 he
          go_wp2
          go_quiet (fail)
          go_wp2
          go_roundw
          case rel => exact ⟨j + 1, by omega, by simp, Lib.hid (fun k hk => by
            by_cases hkj : k = j
            · subst hkj; exact HNE.out
            · exact HE.out k (by omega)), Lib.hid (below_drewN HB.out _)⟩
          case measure => simp [intOf]; omega
        · have hne : ¬ ((s.data.toList.getD j 0).toNat : Int) = ((t.data.toList.getD j 0).toNat : Int) := fun e => he (UInt8.toNat_inj.1 (by omega))
          have HNE := Lib.hid he
          generalize (s.data.toList.getD j 0).toNat = x at c1 hne
          generalize (t.data.toList.getD j 0).toNat = z at c2 hne
          have hd : ((x : Int) == (z : Int)) = false := by simpa using hne
          have hd2 : ((x : Int) != (z : Int)) = true := by simpa using hne
          have hxz : x ≠ z := fun e => hne (by rw [e])
          clear h1 h2 d1 d2 he
          go_wp2
          go_quiet (fail)
          go_wp2
          go_ret
          refine ⟨?_, below_drewN HB.out _⟩
          rw [decide_eq_false (fun e => HNE.out (by rw [e]))]
          rfl
      · obtain rfl : j = n := by omega
        go_wp2
        go_ret
        refine ⟨?_, HB.out⟩
        have : s = t := by
          have hh : s.data.toList = t.data.toList := by
            apply List.ext_getElem?
            intro k
            by_cases hk : k < j
            · have h0 := HE.out k hk
              have l1 : k < s.data.toList.length := by rw [data_len, ← HN.out]; exact hk
              have l2 : k < t.data.toList.length := by rw [data_len, ← HZ.out, ← HN.out]; exact hk
              rw [List.getD_eq_getElem?_getD, List.getD_eq_getElem?_getD, List.getElem?_eq_getElem l1, List.getElem?_eq_getElem l2] at h0
              rw [List.getElem?_eq_getElem l1, List.getElem?_eq_getElem l2]
              exact congrArg some h0
            · rw [List.getElem?_eq_none (by rw [data_len, ← HN.out]; omega), List.getElem?_eq_none (by rw [data_len, ← HZ.out, ← HN.out]; omega)]
          cases s; cases t; simpa using hh
        rw [decide_eq_true this]
        rfl
  · have i1 : ¬ (s.size : Int) = t.size := by omega
    have HZ := Lib.hid hz
    clear hS hT
    go_enter Try.func70, Try.ntmps70
    go_wp2
    go_ret
    refine ⟨?_, Below.refl _ _⟩
    rw [decide_eq_false (fun e => HZ.out (by rw [e]))]
    rfl
end Go.Proofs.Ytlmngghkhnnaeaa
