/- The walks of math/bits.ReverseBytes32 and frame.check. -/
import Derived.Test.YtlmngghkhnnaeaaQMCrc
import Derived.Test.YtlmngghkhnnaeaaQRdr
import Derived.Test.YtlmngghkhnnaeaaQMReg
namespace Go.Proofs.Ytlmngghkhnnaeaa
open Go.RowKit
set_option maxRecDepth 100000
set_option linter.unusedVariables false
set_option linter.unusedSimpArgs false
def rv1 (n : Int) : Int := bits BinOp.or IntKind.u32 (bits BinOp.and IntKind.u32 (n / 256) 16711935) (bits BinOp.and IntKind.u32 n 16711935 * 256 % 4294967296)
/-- the bytes of a number of 32 bits, turned -/
def rvF (n : Int) : Int := bits BinOp.or IntKind.u32 (rv1 n / 65536) (rv1 n * 65536 % 4294967296)
theorem rvF_in (n : Int) : 0 ≤ rvF n ∧ rvF n ≤ 4294967295 := by unfold rvF; exact ⟨bits_lo_u32 _ _ _, bits_hi_u32 _ _ _⟩
theorem rev_any (n : Int) (h0 : 0 ≤ n) (h1 : n ≤ 4294967295) (w : World) :
    Calls Try.prog 73 #[.int .u32 n] w fun e w' => e = .returned (.int .u32 (rvF n)) ∧ w = w' := by
  go_enter Try.func73, Try.ntmps73
  go_wp2
  go_ret
  exact ⟨rfl, rfl⟩
/-- the check of a stamp and an inside -/
def ckB (st : Int) (inn : ByteArray) : ByteArray := (be8 (rvF (crcR [be8 st, inn.extract 0 4028]))).extract 4 8
theorem ckB_size (st : Int) (inn : ByteArray) : (ckB st inn).size = 4 := by unfold ckB; rw [ByteArray.size_extract, show (be8 _).size = 8 from be_size _ 8]; rfl
theorem BB.two {w : World} {g : Nat} {x y : Value} {s t : ByteArray} (hg : w.cell? ⟨g, 0, none⟩ = some x) (hg' : w.cell? ⟨g, 1, none⟩ = some y) (hx : BS w x s) (hy : BS w y t) (c : Nat) : BB w (.slice (some ⟨g, 0, none⟩) 2 c) [s, t] := by
  refine ⟨_, c, rfl, .inr ⟨g, 0, rfl, fun i u hi => ?_⟩⟩
  match i, hi with
  | 0, hi => simp at hi; subst hi; exact ⟨x, hg, hx⟩
  | 1, hi => simp at hi; subst hi; exact ⟨y, hg', hy⟩
  | n + 2, hi => simp at hi
theorem cut4 (W : World) (a : Option Addr) (c : Nat) (n : Int) (B : Nat) (h : Own 5 W B (.slice a 8 c) (be8 n)) : ∃ a' c', (∀ W', (Instr.slice 28 (.slice a 8 c) (some (.int .i64 4)) none none).run Try.prog W' = .ok (.slice a' 4 c') W') ∧ BS W (.slice a' 4 c') ((be8 n).extract 4 8) := by
  have hb := h.bs
  obtain ⟨_, hsc, hcm, hnone⟩ := hb.capm
  have hz : (be8 n).size = 8 := be8_size n
  obtain ⟨a', m, c', hm, e1, e2⟩ := sl_lo a c (be8 n) 4 .i64 4 rfl (by omega) hsc hcm hnone
  rw [hz] at hm e1 e2
  subst hm
  exact ⟨a', c', e1, e2 W hb⟩
theorem fcheck_any (st : Int) (h0 : 0 ≤ st) (h1 : st ≤ 18446744073709551615) (v : Value) (inn : ByteArray) (w : World) (hS : BS w v inn) (hi : inn.size = 4032) :
    Calls Try.prog 52 #[.int .u64 st, v] w fun e w' => ∃ v', e = .returned v' ∧ BS w' v' (ckB st inn) ∧ Below w.heap.size w w' := by
  obtain ⟨a, c, rfl⟩ := hS.len
  obtain ⟨_, hsc, hcm, hnone⟩ := hS.capm
  obtain ⟨a1, c1, e1, b1⟩ := sl_hi a c inn 4028 .i64 4028 rfl (by omega) hsc hcm hnone
  have hx : (inn.extract 0 4028).size = 4028 := by rw [ByteArray.size_extract]; omega
  have HC := Lib.hid fun (g : Nat) (x : Value) (W : World) (q1 : W.cell? ⟨g, 0, none⟩ = some x) (q2 : W.cell? ⟨g, 1, none⟩ = some (.slice a1 4028 c1)) (q3 : BS W x (be8 st)) (q4 : BS W (.slice a1 4028 c1) (inn.extract 0 4028)) =>
    check_any _ [be8 st, inn.extract 0 4028] W (BB.two q1 q2 q3 q4 2) (by simp) (fun s hs => by
      simp only [List.mem_cons, List.not_mem_nil, or_false] at hs
      rcases hs with rfl | rfl
      · rw [be8_size]; decide
      · rw [hx]; decide)
  rw [hi] at e1 b1 hS hsc ⊢
  unfold ckB
  obtain ⟨N, hN⟩ : ∃ N, crcR [be8 st, inn.extract 0 4028] = N := ⟨_, rfl⟩
  have N0 : 0 ≤ N := by rw [← hN]; unfold crcR; exact bits_lo_u32 _ _ _
  have N1 : N ≤ 4294967295 := by rw [← hN]; unfold crcR; exact bits_hi_u32 _ _ _
  rw [hN] at HC ⊢
  obtain ⟨r, hr⟩ : ∃ r, rvF N = r := ⟨_, rfl⟩
  have r0 : 0 ≤ r := by rw [← hr]; exact (rvF_in N).1
  have r1 : r ≤ 4294967295 := by rw [← hr]; exact (rvF_in N).2
  have rw_ : IntKind.u64.wrap r = r := by rw [IntKind.wrap_u64]; omega
  have HV := Lib.hid fun W => rev_any N N0 N1 W
  rw [hr] at HV ⊢
  have HS := Lib.hid (b1 w.drew hS.drew)
  clear hN hS b1 hi hx hr
  go_enter Try.func52, Try.ntmps52
  go_upto_region 1 with fail
  refine wp_region_held_drew (S := (fun w' => True)) (by kernel_rfl) ?_ (fun hHeld0 => ?_)
  · dsimp only
  refine takeN (v := ?_) 0 rfl (by kernel_rfl) (by kernel_rfl) (by kernel_rfl) (fun _ _ _ h => h) (by rfl) ?_ hHeld0 ?_
  rotate_left
  · intro w hSw; (try dsimp only at hSw); go_simp; with_reducible rfl
  try simp only [Act.put, List.setIfInBounds_toArray, List.set_cons_zero, List.set_cons_succ]
  refine takeN (v := ?_) 2 rfl (by kernel_rfl) (by kernel_rfl) (by kernel_rfl) (fun _ _ _ h => h) (by rfl) ?_ hHeld0 ?_
  rotate_left
  · intro w hSw; (try dsimp only at hSw); go_simp; with_reducible rfl
  try simp only [Act.put, List.setIfInBounds_toArray, List.set_cons_zero, List.set_cons_succ]
  refine takeN (v := ?_) 3 rfl (by kernel_rfl) (by kernel_rfl) (by kernel_rfl) (fun _ _ _ h => h) (by rfl) ?_ hHeld0 ?_
  rotate_left
  · intro w hSw; (try dsimp only at hSw); go_simp; with_reducible rfl
  try simp only [Act.put, List.setIfInBounds_toArray, List.set_cons_zero, List.set_cons_succ]
  refine wpAnyH_ready (rs := [1]) (by kernel_rfl) (by simp) ?_
  refine readyN rfl (fun K hK => ?_) ?_
  · -- operation 1
    go_simp
    first
      | (go_at_call 50; refine (uint_w (.slice none 0 0) ByteArray.empty st h0 h1 _ (BS.nil _) (by decide)).mono ?_; rintro e w1 ⟨v1, rfl, ho, hb⟩; rw [ByteArray.empty_append] at ho; obtain ⟨a2, c2, rfl⟩ := ho.size8
         have HB1 := Lib.hid hb
         have HO1 := Lib.hid ho
         clear ho hb)
      | (go_at_call 72; refine (HC.out _ _ _ (by rw [blk_cell (blk_new _ _)]; rfl) (by rw [blk_cell (blk_new _ _)]; rfl) ((HO1.out.bs).alloc _) ((HS.out.below HB1.out).alloc _)).mono ?_; rintro e w2 ⟨rfl, hb⟩
         have HB2 := Lib.hid ((HB1.out.alloc HB1.out.size _).trans (hb.mono (by have := HB1.out.size; simp at this ⊢; omega)))
         clear hb)
    go_wp2_with fail
    refine hK.out _ _ ?_ (fun hHeld1 => ?_)
    · dsimp only
    clear hK K hHeld0
    try simp only [Act.put, List.setIfInBounds_toArray, List.set_cons_zero, List.set_cons_succ]
    refine wpAnyH_ready (rs := [4]) (by kernel_rfl) (by simp) ?_
    refine readyN rfl (fun K hK => ?_) ?_
    · -- operation 4
      go_simp
      refine hK.out _ _ ?_ (fun hHeld2 => ?_)
      · dsimp only
      clear hK K hHeld1
      try simp only [Act.put, List.setIfInBounds_toArray, List.set_cons_zero, List.set_cons_succ]
      refine wpAnyH_ready (rs := [5]) (by kernel_rfl) (by simp) ?_
      refine readyN rfl (fun K hK => ?_) ?_
      · -- operation 5
        go_simp
        first
          | (go_at_call 50; refine (uint_w (.slice none 0 0) ByteArray.empty st h0 h1 _ (BS.nil _) (by decide)).mono ?_; rintro e w1 ⟨v1, rfl, ho, hb⟩; rw [ByteArray.empty_append] at ho; obtain ⟨a2, c2, rfl⟩ := ho.size8
             have HB1 := Lib.hid hb
             have HO1 := Lib.hid ho
             clear ho hb)
          | (go_at_call 72; refine (HC.out _ _ _ (by rw [blk_cell (blk_new _ _)]; rfl) (by rw [blk_cell (blk_new _ _)]; rfl) ((HO1.out.bs).alloc _) ((HS.out.below HB1.out).alloc _)).mono ?_; rintro e w2 ⟨rfl, hb⟩
             have HB2 := Lib.hid ((HB1.out.alloc HB1.out.size _).trans (hb.mono (by have := HB1.out.size; simp at this ⊢; omega)))
             clear hb)
        go_wp2_with fail
        refine hK.out _ _ ?_ (fun hHeld3 => ?_)
        · dsimp only
        clear hK K hHeld2
        try simp only [Act.put, List.setIfInBounds_toArray, List.set_cons_zero, List.set_cons_succ]
        refine takeN (v := ?_) 6 rfl (by kernel_rfl) (by kernel_rfl) (by kernel_rfl) (fun _ _ _ h => h) (by rfl) ?_ hHeld3 ?_
        rotate_left
        · intro w hSw; (try dsimp only at hSw); go_simp; with_reducible rfl
        try simp only [Act.put, List.setIfInBounds_toArray, List.set_cons_zero, List.set_cons_succ]
        refine wpAnyH_done (by kernel_rfl) ?_ _
        go_wp2_with (first
          | (go_at_call 73; refine (HV.out _).mono ?_; rintro e w3 ⟨rfl, rfl⟩)
          | (go_at_call 50; refine (uint_w (.slice none 0 0) ByteArray.empty r r0 (by omega) _ (BS.nil _) (by decide)).mono ?_; rintro e w3 ⟨v3, rfl, ho, hb⟩; rw [ByteArray.empty_append] at ho; obtain ⟨a3, c3, rfl⟩ := ho.size8
             obtain ⟨a4, c4, e4, b4⟩ := cut4 _ _ _ _ _ ho
             have HB3 := Lib.hid hb
             have HO3 := Lib.hid b4
             clear ho hb b4))
        go_ret
        exact ⟨_, rfl, HO3.out, ((Below.refl _ _).drew.trans HB2.out).trans (HB3.out.mono (by have := HB2.out.size; simpa using this))⟩
      exact AllReadyH.nil
    exact AllReadyH.nil
  exact AllReadyH.nil
end Go.Proofs.Ytlmngghkhnnaeaa
