/- The walks of wire.Int and Reader.Int. -/
import Derived.Test.YtidppalhjknlfaaGreatDoorQMOrd3
namespace Go.Proofs.YtidppalhjknlfaaGreatDoor
open Go.RowKit
set_option maxRecDepth 100000
set_option linter.unusedVariables false
set_option linter.unusedSimpArgs false
theorem int_w (v : Value) (s : ByteArray) (n : Int) (w : World) (hS : BS w v s) (hs : s.size ≤ 70368744177664) :
    Calls Tryz.prog 32 #[v, .int .i64 n] w fun e w' => ∃ v', e = .returned v' ∧ Own 5 w' w.heap.size v' (s ++ i8 n) ∧ Below w.heap.size w w' := by
  have h0 : 0 ≤ n % 18446744073709551616 := Int.emod_nonneg _ (by decide)
  have h1 : n % 18446744073709551616 < 18446744073709551616 := Int.emod_lt_of_pos _ (by decide)
  have HC := Lib.hid (uint_w v s (n % 18446744073709551616) h0 (by omega) w hS hs)
  have hwr : IntKind.u64.wrap n = n % 18446744073709551616 := IntKind.wrap_u64 n
  clear hS h0 h1
  go_enter Tryz.func32, Tryz.ntmps32
  go_wp2_with fail
  refine HC.out.mono ?_
  rintro e w1 ⟨v1, rfl, ho, hb⟩
  have HO := Lib.hid ho
  have HB := Lib.hid hb
  clear ho hb
  go_wp2
  go_ret
  exact ⟨_, rfl, HO.out, HB.out⟩
theorem intc_w (v : Value) (s : ByteArray) (w : World) (hS : BS w v s) (h8 : s.size ≤ 8) :
    Calls Tryz.prog 69 #[v] w fun e w' => e = .returned (.int .i64 (wrap64 (valB s))) ∧ w = w' := by
  obtain ⟨a, c, rfl⟩ := hS.len
  have HS := Lib.hid (sum_w _ s w hS h8)
  have hwr : IntKind.i64.wrap (valB s : Int) = wrap64 (valB s) := by unfold wrap64; exact IntKind.wrap_i64 _
  clear hS h8
  go_enter Tryz.func69, Tryz.ntmps69
  go_wp2_with fail
  refine HS.out.mono ?_
  rintro e w1 ⟨rfl, rfl⟩
  go_wp2
  go_ret
  exact ⟨rfl, rfl⟩
theorem from_i64 (q : Nat) (r : Rd) (n : Nat) (z : Int) (hz : z = n) (hn : n ≤ 8) (w : World) (h : RdIs w q r) :
    Calls Tryz.prog 68 #[.pointer (some ⟨q, 0, none⟩), .int .u64 z, .func (Fn.func 69) #[] #[]] w fun e w' => e = .returned (.int .i64 (wrap64 (r.val n))) ∧ RdIs w' q (r.skip n) ∧ Keep (fun i => i = q) w w' := by
  subst hz
  have HR := Lib.hid h
  obtain ⟨v, h1, h2, h3⟩ := h
  obtain ⟨a, c, rfl⟩ := h2.len
  obtain ⟨_, hsc, hcm, hnone⟩ := h2.capm
  have hc0 := blk_cell h1 0
  have hc1 := blk_cell h1 1
  have hf0 := blk_frozen h1 0
  simp at hc0 hc1
  obtain ⟨s, bad⟩ := r
  simp only at h2 h3 hsc hc0 hc1 h1
  have H1 := Lib.hid h1
  have H2 := Lib.hid h2
  have H3 := Lib.hid h3
  have hwr : IntKind.u64.wrap (s.size : Int) = s.size := by rw [IntKind.wrap_u64]; omega
  by_cases hlt : s.size < n
  · have i1 : (s.size : Int) < (n : Int) := by omega
    have hok : Rd.ok ⟨s, bad⟩ n = false := by unfold Rd.ok; rw [decide_eq_false (by show ¬ n ≤ s.size; omega)]; simp
    have HV := Lib.hid (show wrap64 (Rd.val ⟨s, bad⟩ n) = 0 by unfold Rd.val; rw [hok]; simp [wrap64])
    have HK := Lib.hid (show Rd.skip ⟨s, bad⟩ n = ⟨s, true⟩ by unfold Rd.skip; rw [hok]; rfl)
    have HB := Lib.hid (bad_w q ⟨s, bad⟩ w HR.out)
    rw [HV.out, HK.out]
    clear h1 h2 h3 hok
    go_enter Tryz.func68, Tryz.ntmps68
    go_wp2_with fail
    refine HB.out.mono ?_
    rintro e w1 ⟨rfl, hr, hk⟩
    have hr' := hr
    obtain ⟨v1, g1, _, _⟩ := hr'
    have hc1' := blk_cell g1 1
    simp at hc1'
    have HR1 := Lib.hid hr
    have HK1 := Lib.hid hk
    clear hk hr g1
    go_wp2
    go_ret
    exact ⟨rfl, HR1.out, HK1.out⟩
  · have i1 : ¬ (s.size : Int) < (n : Int) := by omega
    cases bad with
    | true =>
      have HV := Lib.hid (show wrap64 (Rd.val ⟨s, true⟩ n) = 0 by unfold Rd.val Rd.ok; simp [wrap64])
      have HK := Lib.hid (show Rd.skip ⟨s, true⟩ n = ⟨s, true⟩ by unfold Rd.skip Rd.ok; simp)
      rw [HV.out, HK.out]
      clear h1 h2 h3
      go_enter Tryz.func68, Tryz.ntmps68
      go_wp2
      go_ret
      exact ⟨rfl, HR.out, Keep.refl _ _⟩
    | false =>
      have hok : Rd.ok ⟨s, false⟩ n = true := by unfold Rd.ok; rw [decide_eq_true (by show n ≤ s.size; omega)]; rfl
      have HV := Lib.hid (show wrap64 (Rd.val ⟨s, false⟩ n) = wrap64 (valB (s.extract 0 n)) by unfold Rd.val; rw [hok]; rfl)
      have HK := Lib.hid (show Rd.skip ⟨s, false⟩ n = ⟨s.extract n s.size, false⟩ by unfold Rd.skip; rw [hok]; rfl)
      rw [HV.out, HK.out]
      obtain ⟨a1, c1, e1, b1⟩ := sl_hi a c s n .u64 n rfl (by omega) hsc hcm hnone
      obtain ⟨a2, m, c2, hm, e2, b2⟩ := sl_lo a c s n .u64 n rfl (by omega) hsc hcm hnone
      have HS := Lib.hid (intc_w _ _ w (b1 w h2) (by rw [ByteArray.size_extract]; omega))
      have B2 := Lib.hid b2
      have HM := Lib.hid hm
      clear h1 h2 h3 hok b1 b2 hm
      go_enter Tryz.func68, Tryz.ntmps68
      go_wp2_with fail
      refine HS.out.mono ?_
      rintro e w1 ⟨rfl, rfl⟩
      go_wp2
      go_ret
      have hk : Keep (fun i => i = q) w (w.setCell ⟨q, 0, none⟩ (.slice a2 m c2)) := Keep.setCell (F := fun i => i = q) (Keep.refl _ _) (p := ⟨q, 0, none⟩) (.inl rfl) _
      refine ⟨rfl, ⟨_, blk_setCell H1.out 0 _, ?_, by show (s.extract n s.size).size ≤ _; rw [ByteArray.size_extract]; have := H3.out; omega⟩, hk⟩
      exact (B2.out w H2.out).keep hk (rd_nocell H1.out ⟨_, _, _, rfl⟩)
theorem int_r (q : Nat) (r : Rd) (w : World) (h : RdIs w q r) :
    Calls Tryz.prog 46 #[.pointer (some ⟨q, 0, none⟩)] w fun e w' => e = .returned (.int .i64 (wrap64 (r.val 8))) ∧ RdIs w' q (r.skip 8) ∧ Keep (fun i => i = q) w w' := by
  have HC := Lib.hid (from_i64 q r 8 8 rfl (by decide) w h)
  clear h
  go_enter Tryz.func46, Tryz.ntmps46
  go_wp2_with fail
  refine HC.out.mono ?_
  rintro e w1 ⟨rfl, hr, hk⟩
  have HR := Lib.hid hr
  have HK := Lib.hid hk
  clear hr hk
  go_wp2
  go_ret
  exact ⟨rfl, HR.out, HK.out⟩
end Go.Proofs.YtidppalhjknlfaaGreatDoor
