/- The walks of package crc: nibbles, Check. The walk of crc.Check. -/
import Derived.Test.YtlmngghkhnnaeaaQWr
import Derived.Laws.Rows
import Derived.Laws.Closers25b
import Derived.Laws.BitsAllLaws
import Derived.Deep.DeepCutAuto
namespace Go.Proofs.Ytlmngghkhnnaeaa
open Go.RowKit
set_option maxRecDepth 100000
set_option linter.unusedVariables false
set_option linter.unusedSimpArgs false
/-- what one bit that falls out comes to -/
def nst (v : Int) : Int := bits BinOp.xor IntKind.u32 (v / 2) (2197175160 * bits BinOp.and IntKind.u32 v 1 % 4294967296)
def nstN (v : Int) : Nat → Int
  | 0 => v
  | k + 1 => nst (nstN v k)
def nibF (i : Nat) : Int := nstN i 4
def nibL (i : Nat) : List Value := (List.range 16).map fun k => Value.int .u32 (if k < i then nibF k else 0)
theorem nibL_len (i : Nat) : (nibL i).length = 16 := by simp [nibL]
theorem nibL_get (i k : Nat) (hk : k < 16) : (nibL i)[k]? = some (.int .u32 (if k < i then nibF k else 0)) := by
  unfold nibL
  rw [List.getElem?_map, List.getElem?_range hk]; rfl
theorem nibL_set (i : Nat) (hi : i < 16) (x : Int) (hx : x = nstN i 4) : (nibL i).set i (.int .u32 x) = nibL (i + 1) := by
  apply List.ext_getElem?
  intro k
  by_cases hk : k < 16
  · rw [List.getElem?_set, nibL_get (i + 1) k hk]
    by_cases h : i = k
    · subst h
      rw [if_pos rfl, if_pos (by rw [nibL_len]; exact hi), if_pos (by omega), hx]; rfl
    · rw [if_neg h, nibL_get i k hk]
      congr 3
      simp only [eq_iff_iff]; omega
  · rw [List.getElem?_eq_none (by rw [List.length_set, nibL_len]; omega), List.getElem?_eq_none (by rw [nibL_len]; omega)]
theorem nib_bits (n : Int) (k : Nat) (h0 : 0 ≤ n) (h1 : n ≤ 4294967295) : ∃ m : Nat, m < 16 ∧ bits BinOp.and IntKind.u32 n 15 = m := by
  refine ⟨n.toNat &&& 15, Nat.lt_of_le_of_lt Nat.and_le_right (by decide), ?_⟩
  rw [u32_and n 15 h0 (by omega) (by decide) (by decide)]; rfl
theorem set_same {W : World} {B : Nat} {c : Array Value} {e : TypeId} {z : Nat × Nat} (h : W.heap[B]? = some (.cells c e z)) (i : Nat) (v : Value) (hc : c[i]? = some v) : (W.setCell ⟨B, i, none⟩ v).heap[B]? = some (.cells c e z) := by
  rw [blk_setCell h i v]
  congr 2
  apply Array.ext_getElem?
  intro k
  rw [Array.getElem?_setIfInBounds]
  by_cases hk : i = k
  · subst hk
    rw [if_pos rfl, if_pos (Array.getElem?_eq_some_iff.1 hc).1, hc]
  · rw [if_neg hk]
set_option maxHeartbeats 1000000
theorem nib_any (w : World) :
    Calls Try.prog 81 #[] w fun e w' => e = .returned (.agg (nibL 16).toArray) ∧ Below w.heap.size w w' := by
  obtain ⟨B, hB⟩ : ∃ B, B = w.heap.size := ⟨_, rfl⟩
  have H0 := Lib.hid (show (w.alloc (.cells #[.int .u32 0, .int .u32 0, .int .u32 0, .int .u32 0, .int .u32 0, .int .u32 0, .int .u32 0, .int .u32 0, .int .u32 0, .int .u32 0, .int .u32 0, .int .u32 0, .int .u32 0, .int .u32 0, .int .u32 0, .int .u32 0] 104)).heap[B]? = some (.cells (nibL 0).toArray 104 (0, 0)) by rw [hB, blk_new]; rfl)
  have HG := Lib.hid hB
  clear hB
  go_enter Try.func81, Try.ntmps81
  go_wp2
  rw [← HG.out]
  go_loopw [1, 2, 3, 4, 9] (fun a b c i d wr => ∃ j : Nat, j ≤ 16 ∧ i = .int .i64 j ∧ Hid (wr.heap[B]? = some (.cells (nibL j).toArray 104 (0, 0))) ∧ Hid (Below w.heap.size w wr)) (fun _ _ _ i _ _ => 16 - (intOf i).toNat)
  case atStart => exact ⟨0, by omega, rfl, H0, Lib.hid ((Below.refl _ _).alloc (Nat.le_refl _) _)⟩
  case round =>
    obtain ⟨j, hj, rfl, HB, HL⟩ := hrel
    by_cases hlt : j < 16
    · have h1 : (j : Int) < 16 := by omega
      have tw : IntKind.u32.wrap (j : Int) = j := by rw [IntKind.wrap_u32]; omega
      obtain ⟨wo, rfl⟩ : ∃ wo : World, wo = wr := ⟨_, rfl⟩
      go_wp2
      go_loop [2, 3, 9] (fun v c i => ∃ k : Nat, ∃ x : Int, k ≤ 4 ∧ i = .int .i64 k ∧ v = .int .u32 x ∧ 0 ≤ x ∧ x ≤ 4294967295 ∧ Hid (x = nstN j k)) (fun _ _ i => 4 - (intOf i).toNat)
      case atStart => exact ⟨0, j, by omega, rfl, rfl, by omega, by omega, Lib.hid rfl⟩
      case round =>
        obtain ⟨k, x, hk, rfl, rfl, x0, x1, HX⟩ := hrel
        by_cases hl4 : k < 4
        · have h2 : (k : Int) < 4 := by omega
          go_wp2
          refine ⟨⟨k + 1, nst x, by omega, by simp, rfl, bits_lo_u32 _ _ _, bits_hi_u32 _ _ _, Lib.hid (by rw [HX.out]; rfl)⟩, by simp [intOf]; omega⟩
        · obtain rfl : k = 4 := by omega
          have hcl : j < (nibL j).length := by rw [nibL_len]; exact hlt
          have hc : wo.cell? ⟨B, j, none⟩ = some ((nibL j)[j]) := by rw [blk_cell HB.out]; simp
          have hf : wo.frozen? ⟨B, j, none⟩ = false := blk_frozen HB.out j
          have HS := Lib.hid (nibL_set j hlt x HX.out)
          generalize (nibL j)[j] = y at hc
          clear hcl
          go_wp2
          refine ⟨⟨j + 1, by omega, by simp, ?_, ?_⟩, by simp [intOf]; omega⟩
          · have := blk_setCell HB.out j (.int .u32 x)
            rw [List.setIfInBounds_toArray, HS.out] at this
            exact Lib.hid this
          · exact Lib.hid (HL.out.setCell (by rw [HG.out]; exact Nat.le_refl _) _)
    · obtain rfl : j = 16 := by omega
      have hb := HB.out
      rw [show nibL 16 = [.int .u32 (nibF 0), .int .u32 (nibF 1), .int .u32 (nibF 2), .int .u32 (nibF 3), .int .u32 (nibF 4), .int .u32 (nibF 5), .int .u32 (nibF 6), .int .u32 (nibF 7), .int .u32 (nibF 8), .int .u32 (nibF 9), .int .u32 (nibF 10), .int .u32 (nibF 11), .int .u32 (nibF 12), .int .u32 (nibF 13), .int .u32 (nibF 14), .int .u32 (nibF 15)] from rfl] at hb
      have c0 := blk_cell hb 0
      have c1 := blk_cell hb 1
      have c2 := blk_cell hb 2
      have c3 := blk_cell hb 3
      have c4 := blk_cell hb 4
      have c5 := blk_cell hb 5
      have c6 := blk_cell hb 6
      have c7 := blk_cell hb 7
      have c8 := blk_cell hb 8
      have c9 := blk_cell hb 9
      have c10 := blk_cell hb 10
      have c11 := blk_cell hb 11
      have c12 := blk_cell hb 12
      have c13 := blk_cell hb 13
      have c14 := blk_cell hb 14
      have c15 := blk_cell hb 15
      have f0 := blk_frozen hb 0
      have f1 := blk_frozen hb 1
      have f2 := blk_frozen hb 2
      have f3 := blk_frozen hb 3
      have f4 := blk_frozen hb 4
      have f5 := blk_frozen hb 5
      have f6 := blk_frozen hb 6
      have f7 := blk_frozen hb 7
      have f8 := blk_frozen hb 8
      have f9 := blk_frozen hb 9
      have f10 := blk_frozen hb 10
      have f11 := blk_frozen hb 11
      have f12 := blk_frozen hb 12
      have f13 := blk_frozen hb 13
      have f14 := blk_frozen hb 14
      have f15 := blk_frozen hb 15
      simp only [List.getElem?_toArray, List.getElem?_cons_zero, List.getElem?_cons_succ] at c0 c1 c2 c3 c4 c5 c6 c7 c8 c9 c10 c11 c12 c13 c14 c15
      have HB2 := Lib.hid hb
      clear hb
      go_wp2
      have hb := HB2.out
      refine bodyPost_ret (results_cell_row (P := Try.prog) (fn := Try.f81) rfl _ _ B 104 (nibL 16).toArray (0, 0) (.array 16 97) rfl ?_ (by kernel_rfl) rfl (by kernel_rfl)) rfl ⟨rfl, ?_⟩
      · rw [show (nibL 16).toArray = #[.int .u32 (nibF 0), .int .u32 (nibF 1), .int .u32 (nibF 2), .int .u32 (nibF 3), .int .u32 (nibF 4), .int .u32 (nibF 5), .int .u32 (nibF 6), .int .u32 (nibF 7), .int .u32 (nibF 8), .int .u32 (nibF 9), .int .u32 (nibF 10), .int .u32 (nibF 11), .int .u32 (nibF 12), .int .u32 (nibF 13), .int .u32 (nibF 14), .int .u32 (nibF 15)] from rfl]
        exact set_same (set_same (set_same (set_same (set_same (set_same (set_same (set_same (set_same (set_same (set_same (set_same (set_same (set_same (set_same (set_same hb 0 _ rfl) 1 _ rfl) 2 _ rfl) 3 _ rfl) 4 _ rfl) 5 _ rfl) 6 _ rfl) 7 _ rfl) 8 _ rfl) 9 _ rfl) 10 _ rfl) 11 _ rfl) 12 _ rfl) 13 _ rfl) 14 _ rfl) 15 _ rfl
      · have hB0 : w.heap.size ≤ B := by rw [HG.out]; exact Nat.le_refl _
        exact (((((((((((((((HL.out.setCell hB0 _).setCell hB0 _).setCell hB0 _).setCell hB0 _).setCell hB0 _).setCell hB0 _).setCell hB0 _).setCell hB0 _).setCell hB0 _).setCell hB0 _).setCell hB0 _).setCell hB0 _).setCell hB0 _).setCell hB0 _).setCell hB0 _).setCell hB0 _
end Go.Proofs.Ytlmngghkhnnaeaa
namespace Go.Proofs.Ytlmngghkhnnaeaa
open Go.RowKit
set_option maxRecDepth 100000
set_option linter.unusedVariables false
set_option linter.unusedSimpArgs false
def crcS (n : Int) : Int := bits BinOp.xor IntKind.u32 (n / 16) (nibF (bits BinOp.and IntKind.u32 n 15).toNat)
def crcOne (n c : Int) : Int := crcS (crcS (bits BinOp.xor IntKind.u32 n c))
def crcL (n : Int) (l : List UInt8) : Int := l.foldl (fun n b => crcOne n (b.toNat : Nat)) n
def crcP (n : Int) (l : List ByteArray) : Int := l.foldl (fun n s => crcL n s.data.toList) n
theorem crcOne_lo (n c : Int) : 0 ≤ crcOne n c := by unfold crcOne crcS; exact bits_lo_u32 _ _ _
theorem crcOne_hi (n c : Int) : crcOne n c ≤ 4294967295 := by unfold crcOne crcS; exact bits_hi_u32 _ _ _
theorem crcL_in (l : List UInt8) : ∀ n, 0 ≤ n → n ≤ 4294967295 → 0 ≤ crcL n l ∧ crcL n l ≤ 4294967295 := by
  induction l with
  | nil => intro n h0 h1; exact ⟨h0, h1⟩
  | cons b l ih => intro n h0 h1; exact ih _ (crcOne_lo _ _) (crcOne_hi _ _)
theorem crcP_in (l : List ByteArray) : ∀ n, 0 ≤ n → n ≤ 4294967295 → 0 ≤ crcP n l ∧ crcP n l ≤ 4294967295 := by
  induction l with
  | nil => intro n h0 h1; exact ⟨h0, h1⟩
  | cons s l ih => intro n h0 h1; obtain ⟨a, b⟩ := crcL_in s.data.toList n h0 h1; exact ih _ a b
theorem crcL_snoc (n : Int) (l : List UInt8) (b : UInt8) : crcL n (l ++ [b]) = crcOne (crcL n l) b.toNat := by simp [crcL, List.foldl_append]
theorem crcP_snoc (n : Int) (l : List ByteArray) (s : ByteArray) : crcP n (l ++ [s]) = crcL (crcP n l) s.data.toList := by simp [crcP, List.foldl_append]
def crcR (l : List ByteArray) : Int := bits BinOp.xor IntKind.u32 IntKind.u32.max (crcP 4294967295 l)
theorem nib16 : (nibL 16).toArray = #[.int .u32 (nibF 0), .int .u32 (nibF 1), .int .u32 (nibF 2), .int .u32 (nibF 3), .int .u32 (nibF 4), .int .u32 (nibF 5), .int .u32 (nibF 6), .int .u32 (nibF 7), .int .u32 (nibF 8), .int .u32 (nibF 9), .int .u32 (nibF 10), .int .u32 (nibF 11), .int .u32 (nibF 12), .int .u32 (nibF 13), .int .u32 (nibF 14), .int .u32 (nibF 15)] := rfl
theorem wp_gen {P : Program} {c : Code} {Q : Exit → Act → World → Prop} {a : Act} {w : World} (R : World → Prop) (h0 : R w) (h : ∀ W, R W → Code.wp P c Q a W) : Code.wp P c Q a w := h w h0
/-- v is a slice of byte slices -/
def BB (w : World) (v : Value) (l : List ByteArray) : Prop :=
  ∃ a cap, v = .slice a l.length cap ∧ (l = [] ∨ ∃ g off, a = some ⟨g, off, none⟩ ∧ ∀ i s, l[i]? = some s → ∃ x, w.cell? ⟨g, off + i, none⟩ = some x ∧ BS w x s)
theorem BB.below {w w' : World} {v : Value} {l : List ByteArray} (h : BB w v l) (hb : Below w.heap.size w w') : BB w' v l := by
  obtain ⟨a, cap, rfl, h⟩ := h
  refine ⟨a, cap, rfl, ?_⟩
  rcases h with h | ⟨g, off, rfl, h⟩
  · exact .inl h
  · exact .inr ⟨g, off, rfl, fun i s hi => by obtain ⟨x, h1, h2⟩ := h i s hi; exact ⟨x, (Keep.ofBelow hb (fun _ => False)).cell h1 (fun h => h), h2.below hb⟩⟩
theorem check_any (v : Value) (l : List ByteArray) (w : World) (h : BB w v l) (hl : l.length ≤ 1000) (hs : ∀ s ∈ l, s.size ≤ 70368744177664) :
    Calls Try.prog 72 #[v] w fun e w' => e = .returned (.int .u32 (crcR l)) ∧ Below w.heap.size w w' := by
  have HH := Lib.hid h
  have HS := Lib.hid hs
  obtain ⟨a, cap, rfl, h⟩ := h
  clear h hs
  go_enter Try.func72, Try.ntmps72
  go_upto_region 2 with (go_at_call 81; refine (nib_any _).mono ?_; rw [nib16]; rintro e w1 ⟨rfl, hb⟩)
  refine wp_gen (fun W => Below w.heap.size w W ∧ (∀ m : Nat, m < 16 → W.cell? ⟨w1.heap.size, m, none⟩ = some (.int .u32 (nibF m)))) ?_ ?_
  · refine ⟨hb.alloc hb.size _, fun m hm => ?_⟩
    rw [blk_cell (blk_new w1 _), ← nib16, List.getElem?_toArray, nibL_get 16 m hm, if_pos hm]
  rintro W ⟨hbW, hcW⟩
  have HW := Lib.hid hbW
  have HC := Lib.hid hcW
  have HL := Lib.hid (HH.out.below hbW)
  clear hbW hcW hb
  have hl0 : (l.length : Int) ≤ 1000 := by omega
  go_wp2_with fail
  go_loop [4, 12] (fun n i => ∃ j : Nat, ∃ x : Int, j ≤ l.length ∧ i = .int .i64 j ∧ n = .int .u32 x ∧ 0 ≤ x ∧ x ≤ 4294967295 ∧ Hid (x = crcP 4294967295 (l.take j))) (fun _ i => l.length - (intOf i).toNat)
  case atStart => exact ⟨0, 4294967295, by omega, rfl, rfl, by omega, by omega, Lib.hid rfl⟩
  case round =>
    obtain ⟨j, x, hj, rfl, rfl, x0, x1, HX⟩ := hrel
    by_cases hlt : j < l.length
    · obtain ⟨s, hs⟩ : ∃ s, l[j]? = some s := ⟨_, List.getElem?_eq_getElem hlt⟩
      obtain ⟨a', cap', he, h3⟩ := HL.out
      injection he with he hle hcap
      subst he; subst hcap
      clear hle
      rcases h3 with h3 | ⟨g, off, rfl, h3⟩
      · rw [h3] at hs; simp at hs
      · obtain ⟨y, hy, hS⟩ := h3 j s hs
        obtain ⟨ay, cy, rfl⟩ := hS.len
        have HSy := Lib.hid hS
        have hsz : (s.size : Int) ≤ 70368744177664 := by have := HS.out s (List.mem_of_getElem? hs); omega
        have hsd : s.data.toList.length = s.size := data_len s
        have HT := Lib.hid (show l.take (j + 1) = l.take j ++ [s] by rw [List.take_add_one, hs]; rfl)
        have h1 : (j : Int) < (l.length : Int) := by omega
        have HD := Lib.hid hsd
        clear h3 hS hs hsd
        go_wp2_with fail
        go_loop [4, 18] (fun n i => ∃ k : Nat, ∃ z : Int, k ≤ s.size ∧ i = .int .i64 k ∧ n = .int .u32 z ∧ 0 ≤ z ∧ z ≤ 4294967295 ∧ Hid (z = crcL x (s.data.toList.take k))) (fun _ i => s.size - (intOf i).toNat)
        case atStart => exact ⟨0, x, by omega, rfl, rfl, x0, x1, Lib.hid rfl⟩
        case round =>
          obtain ⟨k, z, hk, rfl, rfl, z0, z1, HZ⟩ := hrel
          by_cases hkl : k < s.size
          · have h2 : (k : Int) < (s.size : Int) := by omega
            obtain ⟨b, o, rfl, hc⟩ := HSy.out.at_ hkl
            have hck := hc k hkl
            have HTK := Lib.hid (show s.data.toList.take (k + 1) = s.data.toList.take k ++ [s.data.toList.getD k 0] by
              rw [List.take_succ_eq_append_getElem (by rw [HD.out]; exact hkl), List.getD_eq_getElem?_getD, List.getElem?_eq_getElem (by rw [HD.out]; exact hkl)]; rfl)
            have hb : (s.data.toList.getD k 0).toNat < 256 := UInt8.toNat_lt _
            generalize hcc : s.data.toList.getD k 0 = c at hck HTK hb
            have tw : IntKind.u32.wrap ((c.toNat : Nat) : Int) = (c.toNat : Int) := by rw [IntKind.wrap_u32]; omega
            obtain ⟨m, hm⟩ : ∃ m, bits BinOp.xor IntKind.u32 z (c.toNat : Int) = m := ⟨_, rfl⟩
            have m0 : 0 ≤ m := by rw [← hm]; exact bits_lo_u32 _ _ _
            have m1 : m ≤ 4294967295 := by rw [← hm]; exact bits_hi_u32 _ _ _
            obtain ⟨i1, hi1, e1⟩ := nib_bits m 0 m0 m1
            have g1 := HC.out i1 hi1
            obtain ⟨m2, hm2⟩ : ∃ m2, bits BinOp.xor IntKind.u32 (m / 16) (nibF i1) = m2 := ⟨_, rfl⟩
            have p0 : 0 ≤ m2 := by rw [← hm2]; exact bits_lo_u32 _ _ _
            have p1 : m2 ≤ 4294967295 := by rw [← hm2]; exact bits_hi_u32 _ _ _
            obtain ⟨i2, hi2, e2⟩ := nib_bits m2 0 p0 p1
            have g2 := HC.out i2 hi2
            have ha1 : (i1 : Int) < 16 := by omega
            have ha2 : (i2 : Int) < 16 := by omega
            have HZ2 := Lib.hid (show bits BinOp.xor IntKind.u32 (m2 / 16) (nibF i2) = crcL x (s.data.toList.take (k + 1)) by
              rw [HTK.out, crcL_snoc, ← HZ.out]
              unfold crcOne
              rw [hm]
              unfold crcS
              rw [e1, Int.toNat_natCast, hm2, e2, Int.toNat_natCast])
            clear hcc hc
            go_wp2
            refine ⟨⟨k + 1, _, by omega, by simp, rfl, bits_lo_u32 _ _ _, bits_hi_u32 _ _ _, HZ2⟩, by simp [intOf]; omega⟩
          · obtain rfl : k = s.size := by omega
            have HX2 := Lib.hid (show z = crcP 4294967295 (l.take (j + 1)) by
              rw [HT.out, crcP_snoc, ← HX.out, HZ.out, List.take_of_length_le (by rw [HD.out]; exact Nat.le_refl _)])
            go_wp2
            refine ⟨⟨j + 1, z, by omega, by simp, rfl, z0, z1, HX2⟩, by simp [intOf]; omega⟩
    · obtain rfl : j = l.length := by omega
      go_wp2
      go_ret
      refine ⟨?_, HW.out⟩
      have := HX.out
      rw [List.take_length] at this
      unfold crcR
      rw [← this]
      rfl
end Go.Proofs.Ytlmngghkhnnaeaa
