/- The walks of quitrentref16.Key, Number, Value. -/
import Derived.Test.YtiadoimdohnebaaKey
namespace Go.Proofs.Ytiadoimdohnebaa
set_option linter.unusedVariables false
set_option linter.unusedSimpArgs false
open Go.RowKit
set_option maxRecDepth 100000
theorem lit_string (x : Int) (h0 : 0 ≤ x) (h1 : x < 256) (W : World) :
    (convert 23 9 (.slice (some ⟨W.heap.size, 0, none⟩) 1 1)).run Try.prog (W.alloc (.cells #[.int .u8 x] 5)) = .ok (.string (bOne x)) (W.alloc (.cells #[.int .u8 x] 5)) :=
  (Own.lit 5 W x h0 h1).bs.string 23 5 9 uBytes uByte uStr
/-- a number, k bytes on, as 64 bits hold it -/
def shl8 (n : Int) (k : Nat) : Int := n * 256 ^ k % 18446744073709551616
theorem shl8_bd (n : Int) (k : Nat) : 0 ≤ shl8 n k ∧ shl8 n k ≤ 18446744073709551615 := by unfold shl8; omega
theorem shl8_zero (n : Int) (h0 : 0 ≤ n) (h1 : n ≤ 18446744073709551615) : shl8 n 0 = n := by unfold shl8; omega
theorem shl8_succ (n : Int) (k : Nat) : IntKind.u64.wrap (shl8 n k * 256) = shl8 n (k + 1) := by
  unfold shl8
  rw [IntKind.wrap_u64, Int.pow_succ, ← Int.mul_assoc]
  generalize n * 256 ^ k = m
  omega
theorem shl8_byte (n : Int) (h0 : 0 ≤ n) (k : Nat) (hk : k < 8) : shl8 n k / 72057594037927936 = n / 2 ^ (56 - 8 * k) % 256 := by
  have : k = 0 ∨ k = 1 ∨ k = 2 ∨ k = 3 ∨ k = 4 ∨ k = 5 ∨ k = 6 ∨ k = 7 := by omega
  unfold shl8
  rcases this with rfl | rfl | rfl | rfl | rfl | rfl | rfl | rfl <;> simp <;> omega
theorem rkey_any (kind : Int) (k0 : 0 ≤ kind) (k1 : kind < 256) (v : Value) (ns : List Int) (w : World) (hU : US w v ns) (hl : ns.length ≤ 1000000) :
    Calls Try.prog 16 #[.int .u8 kind, v] w fun e w' => e = .returned (.string (keyS kind ns)) ∧ Below w.heap.size w w' := by
  obtain ⟨a, cap, rfl, hr, hx⟩ := hU
  have HR := Lib.hid hr
  have HX := Lib.hid hx
  have conv := fun W => lit_string kind k0 k1 W
  clear hr hx
  go_enter Try.func16, Try.ntmps16
  go_wp2
  clear conv
  go_loopw [5, 6] (fun b i wr => ∃ j : Nat, j ≤ ns.length ∧ i = .int .i64 j ∧ b = .string (keyS kind (ns.take j)) ∧ Hid (Below w.heap.size w wr)) (fun _ i _ => ns.length - (intOf i).toNat)
  case atStart => exact ⟨0, by omega, rfl, rfl, Lib.hid ((Below.refl _ _).alloc (Nat.le_refl _) _)⟩
  case round =>
    obtain ⟨j, hj, rfl, rfl, HB1⟩ := hrel
    by_cases hlt : j < ns.length
    · rcases HX.out with h0 | ⟨bb, off, rfl, hcell⟩
      · rw [h0] at hlt; simp at hlt
      · have hc := HB1.out.cell (p := ⟨bb, off + j, none⟩) (World.block_lt_of_cell? w ⟨bb, off + j, none⟩ (hcell j hlt))
        rw [hcell j hlt] at hc
        obtain ⟨r0, r1⟩ := HR.out j hlt
        have hts := Lib.hid (take_snoc_getD ns j hlt)
        obtain ⟨x, hxx⟩ : ∃ x, x = ns.getD j 0 := ⟨_, rfl⟩
        rw [← hxx] at hc r0 r1 hts
        clear hcell hxx HX
        obtain ⟨wo, rfl⟩ : ∃ wo : World, wo = wr := ⟨_, rfl⟩
        go_wp2
        go_loopw [5, 7, 8] (fun b n i wr => ∃ k : Nat, k ≤ 8 ∧ i = .int .i64 k ∧ n = .int .u64 (shl8 x k) ∧ b = .string (keyS kind (ns.take j) ++ be x k) ∧ Hid (Below w.heap.size w wr)) (fun _ _ i _ => 8 - (intOf i).toNat)
        case atStart => exact ⟨0, by omega, rfl, by rw [shl8_zero x r0 r1], by rw [show keyS kind (ns.take j) ++ be x 0 = keyS kind (ns.take j) from append_empty _], HB1⟩
        case round =>
          obtain ⟨k, hk, rfl, rfl, rfl, HB2⟩ := hrel
          have hb := shl8_bd x k
          by_cases hk8 : k < 8
          · have HS := Lib.hid (shl8_succ x k)
            have HY := Lib.hid (shl8_byte x r0 k hk8)
            have hy0 : 0 ≤ shl8 x k / 72057594037927936 := by omega
            have hy1 : shl8 x k / 72057594037927936 < 256 := by omega
            have conv := fun W => lit_string _ hy0 hy1 W
            have hcat : ¬ 9223372036854775807 < (keyS kind (List.take j ns)).size + (be x k).size + (bOne (shl8 x k / 72057594037927936)).size := by
              rw [keyS_size, be_size, size_one, List.length_take]; omega
            go_wp2
            go_roundw
            case rel => exact ⟨k + 1, by omega, by go_num, by rw [HS.out], by rw [HY.out, show keyS kind (ns.take j) ++ be x (k + 1) = keyS kind (ns.take j) ++ be x k ++ bOne (x / 2 ^ (56 - 8 * k) % 256) from (ByteArray.append_assoc).symm], Lib.hid (HB2.out.alloc HB2.out.size _)⟩
            case measure => simp [intOf]; omega
          · have hke : k = 8 := by omega
            subst hke
            go_wp2
            go_roundw
            case rel => exact ⟨j + 1, by omega, by go_num, by rw [hts.out, keyS_snoc]; rfl, HB2⟩
            case measure => simp [intOf]; omega
    · have hje : j = ns.length := by omega
      subst hje
      go_wp2
      go_ret
      exact ⟨by rw [List.take_length]; rfl, HB1.out⟩
end Go.Proofs.Ytiadoimdohnebaa
