/- lease: key, all, the closures. -/
import Derived.Test.YtidppalhjknlfaaLall
namespace Go.Proofs.Ytidppalhjknlfaa
open Go.RowKit
set_option maxRecDepth 100000
set_option linter.unusedVariables false
set_option linter.unusedSimpArgs false
theorem live_c (q : Nat) (n : Int) (l : Ls) (w : World) (hq : w.cell? ⟨q, 0, none⟩ = some (.int .i64 n)) :
    Calls Try.prog 31 #[l.val, .pointer (some ⟨q, 0, none⟩)] w fun e w' => e = .returned (.bool (decide (n < l.exp))) ∧ Below w.heap.size w w' := by
  have hq2 := fun o => ((Keep.refl (fun _ => False) w).alloc o).cell hq (fun h => h)
  obtain ⟨id, un, ex, dy, mo⟩ := l
  unfold Ls.val
  clear hq
  go_enter Try.func31, Try.ntmps31
  go_wp2
  go_ret
  exact ⟨rfl, (Below.refl _ _).alloc (Nat.le_refl _) _⟩
theorem gone_c (q : Nat) (n : Int) (l : Ls) (w : World) (hq : w.cell? ⟨q, 0, none⟩ = some (.int .i64 n)) :
    Calls Try.prog 23 #[l.val, .pointer (some ⟨q, 0, none⟩)] w fun e w' => e = .returned (.bool (decide (l.exp ≤ n))) ∧ Below w.heap.size w w' := by
  have hq2 := fun o => ((Keep.refl (fun _ => False) w).alloc o).cell hq (fun h => h)
  obtain ⟨id, un, ex, dy, mo⟩ := l
  unfold Ls.val
  clear hq
  go_enter Try.func23, Try.ntmps23
  go_wp2
  go_ret
  exact ⟨rfl, (Below.refl _ _).alloc (Nat.le_refl _) _⟩
theorem id_c (q : Nat) (i : Int) (l : Ls) (w : World) (hq : w.cell? ⟨q, 0, none⟩ = some (.int .u32 i)) :
    Calls Try.prog 30 #[l.val, .pointer (some ⟨q, 0, none⟩)] w fun e w' => e = .returned (.bool (decide (l.id = i))) ∧ Below w.heap.size w w' := by
  have hq2 := fun o => ((Keep.refl (fun _ => False) w).alloc o).cell hq (fun h => h)
  obtain ⟨id, un, ex, dy, mo⟩ := l
  unfold Ls.val
  clear hq
  go_enter Try.func30, Try.ntmps30
  go_wp2
  go_ret
  exact ⟨by first | rfl | (congr 2; by_cases h : id = i <;> simp [h]), (Below.refl _ _).alloc (Nat.le_refl _) _⟩
theorem US.lit2 (w : World) (x y : Int) (h0 : 0 ≤ x) (h1 : x ≤ 18446744073709551615) (k0 : 0 ≤ y) (k1 : y ≤ 18446744073709551615) (e : TypeId) : US (w.alloc (.cells #[.int .u64 x, .int .u64 y] e)) (.slice (some ⟨w.heap.size, 0, none⟩) 2 2) [x, y] := by
  refine ⟨_, _, rfl, fun i hi => ?_, .inr ⟨_, 0, rfl, fun i hi => ?_⟩⟩
  · match i, hi with
    | 0, _ => exact ⟨h0, h1⟩
    | 1, _ => exact ⟨k0, k1⟩
    | n + 2, h => exact absurd h (by simp)
  · rw [blk_cell (blk_new w _)]
    match i, hi with
    | 0, _ => rfl
    | 1, _ => rfl
    | n + 2, h => exact absurd h (by simp)
theorem lkey_any (t i : Int) (ht : U32 t) (hi : U32 i) (w : World) :
    Calls Try.prog 26 #[.int .u32 t, .int .u32 i] w fun e w' => ∃ v', e = .returned v' ∧ Own 5 w' w.heap.size v' (lk t i) ∧ Below w.heap.size w w' := by
  have h0 := ht.1
  have h1 := ht.2
  have k0 := hi.1
  have k1 := hi.2
  have tw : IntKind.u64.wrap t = t := by rw [IntKind.wrap_u64]; omega
  have iw : IntKind.u64.wrap i = i := by rw [IntKind.wrap_u64]; omega
  go_enter Try.func26, Try.ntmps26
  go_wp2_with fail
  refine (key_any 108 (by decide) (by decide) _ [t, i] _ (US.lit2 _ t i h0 (by omega) k0 (by omega) _) (by simp)).mono ?_
  rintro e w1 ⟨v1, rfl, ho, hb⟩
  have HB := Lib.hid (below_and ((Below.refl w.heap.size w).alloc (Nat.le_refl _) _) hb)
  have HO := Lib.hid (show Own 5 w1 w.heap.size v1 (lk t i) from ho.lower (by simp))
  clear ho hb
  go_wp2
  go_ret
  exact ⟨_, rfl, HO.out, HB.out⟩
theorem all_any (p : Nat) (t : Int) (w : World) :
    Calls Try.prog 33 #[sV p, .int .u32 t] w fun e w' => e = .returned (.func (.func 39) #[] #[.pointer (some ⟨w.heap.size, 0, none⟩), .pointer (some ⟨w.heap.size + 1, 0, none⟩)]) ∧ w' = (w.alloc (.cells #[sV p] 62)).alloc (.cells #[.int .u32 t] 22) := by
  unfold sV pV
  go_enter Try.func33, Try.ntmps33
  go_wp2
  go_ret
  exact ⟨rfl, rfl⟩
end Go.Proofs.Ytidppalhjknlfaa
