/- The walks of the Reader's Byte and Count; bytes.Clone, bytes.Equal. -/
import Derived.Test.YtlmngghkhnnaeaaQRdr
import Derived.Test.YtlmngghkhnnaeaaQApb
import Derived.WalkLawsBesides
namespace Go.Proofs.Ytlmngghkhnnaeaa
open Go.RowKit
set_option maxRecDepth 100000
set_option linter.unusedVariables false
set_option linter.unusedSimpArgs false
theorem byte0_w (v : Value) (s : ByteArray) (w : World) (hS : BS w v s) (h1 : s.size = 1) :
    Calls Try.prog 68 #[v] w fun e w' => (∃ x, e = .returned (.int .u8 x)) ∧ w = w' := by
  obtain ⟨a, c, rfl⟩ := hS.len
  obtain ⟨b, off, rfl, hc⟩ := hS.at_ (i := 0) (by omega)
  have h0 := hc 0 (by omega)
  rw [Nat.add_zero] at h0
  rw [h1]
  clear hS hc
  go_enter Try.func68, Try.ntmps68
  go_wp2
  go_ret
  exact ⟨⟨_, rfl⟩, rfl⟩
theorem from_u8 (q : Nat) (r : Rd) (w : World) (h : RdIs w q r) (hok : r.bad = false) (h1 : 1 ≤ r.s.size) :
    Calls Try.prog 67 #[.pointer (some ⟨q, 0, none⟩), .int .u64 1, .func (Fn.func 68) #[] #[]] w fun e w' => (∃ x, e = .returned (.int .u8 x)) ∧ RdIs w' q (r.skip 1) ∧ Keep (fun i => i = q) w w' := by
  have HR := Lib.hid h
  obtain ⟨v, g1, g2, g3⟩ := h
  obtain ⟨a, c, rfl⟩ := g2.len
  obtain ⟨_, hsc, hcm, hnone⟩ := g2.capm
  have hc0 := blk_cell g1 0
  have hc1 := blk_cell g1 1
  have hf0 := blk_frozen g1 0
  simp at hc0 hc1
  obtain ⟨s, bad⟩ := r
  simp only at g2 g3 hsc hc0 hc1 g1 h1 hok
  subst hok
  have H1 := Lib.hid g1
  have H2 := Lib.hid g2
  have H3 := Lib.hid g3
  have hwr : IntKind.u64.wrap (s.size : Int) = s.size := by rw [IntKind.wrap_u64]; omega
  have i1 : ¬ (s.size : Int) < 1 := by omega
  have hok : Rd.ok ⟨s, false⟩ 1 = true := by unfold Rd.ok; rw [decide_eq_true (by show 1 ≤ s.size; omega)]; rfl
  have HK := Lib.hid (show Rd.skip ⟨s, false⟩ 1 = ⟨s.extract 1 s.size, false⟩ by unfold Rd.skip; rw [hok]; rfl)
  rw [HK.out]
  obtain ⟨a1, c1, e1, b1⟩ := sl_hi a c s 1 .u64 1 rfl (by omega) hsc hcm hnone
  obtain ⟨a2, m, c2, hm, e2, b2⟩ := sl_lo a c s 1 .u64 1 rfl (by omega) hsc hcm hnone
  have HS := Lib.hid (byte0_w _ _ w (b1 w g2) (by rw [ByteArray.size_extract]; omega))
  have B2 := Lib.hid b2
  have HM := Lib.hid hm
  clear g1 g2 g3 hok b1 b2 hm h1
  go_enter Try.func67, Try.ntmps67
  go_wp2_with fail
  refine HS.out.mono ?_
  rintro e w1 ⟨⟨x0, rfl⟩, rfl⟩
  go_wp2
  go_ret
  have hk : Keep (fun i => i = q) w (w.setCell ⟨q, 0, none⟩ (.slice a2 m c2)) := Keep.setCell (F := fun i => i = q) (Keep.refl _ _) (p := ⟨q, 0, none⟩) (.inl rfl) _
  refine ⟨⟨_, rfl⟩, ⟨_, blk_setCell H1.out 0 _, ?_, by show (s.extract 1 s.size).size ≤ _; rw [ByteArray.size_extract]; have := H3.out; omega⟩, hk⟩
  exact (B2.out w H2.out).keep hk (rd_nocell H1.out ⟨_, _, _, rfl⟩)
theorem byte_r (q : Nat) (r : Rd) (w : World) (h : RdIs w q r) (hok : r.bad = false) (h1 : 1 ≤ r.s.size) :
    Calls Try.prog 39 #[.pointer (some ⟨q, 0, none⟩)] w fun e w' => (∃ x, e = .returned (.int .u8 x)) ∧ RdIs w' q (r.skip 1) ∧ Keep (fun i => i = q) w w' := by
  have HC := Lib.hid (from_u8 q r w h hok h1)
  clear h
  go_enter Try.func39, Try.ntmps39
  go_wp2_with fail
  refine HC.out.mono ?_
  rintro e w1 ⟨⟨x, rfl⟩, hr, hk⟩
  have HR := Lib.hid hr
  have HK := Lib.hid hk
  clear hr hk
  go_wp2
  go_ret
  exact ⟨⟨_, rfl⟩, HR.out, HK.out⟩
/-- what Count answers -/
def Rd.count (r : Rd) (most : Int) : Int := if r.val 8 ≤ most then r.val 8 else 0
theorem count_r (q : Nat) (r : Rd) (most : Int) (m0 : 0 ≤ most) (m1 : most ≤ 4611686018427387904) (w : World) (h : RdIs w q r) :
    Calls Try.prog 40 #[.pointer (some ⟨q, 0, none⟩), .int .i64 most] w fun e w' => e = .returned (.int .i64 (r.count most)) ∧ Keep (fun i => i = q) w w' := by
  have HC := Lib.hid (uint_r q r w h)
  have hv0 := Rd.val_nonneg r 8
  unfold Rd.count
  obtain ⟨x, hx⟩ : ∃ x, x = r.val 8 := ⟨_, rfl⟩
  rw [← hx] at HC hv0 ⊢
  have i1 : ¬ most < 0 := by omega
  have tw : IntKind.u64.wrap most = most := by rw [IntKind.wrap_u64]; omega
  clear h hx
  by_cases hc : x ≤ most
  · rw [if_pos hc]
    have i2 : ¬ x > most := by omega
    have tx : IntKind.i64.wrap x = x := by rw [IntKind.wrap_i64]; omega
    go_enter Try.func40, Try.ntmps40
    go_wp2_with fail
    refine HC.out.mono ?_
    rintro e w1 ⟨rfl, hr, hk⟩
    have HK := Lib.hid hk
    clear hr hk
    go_wp2
    go_ret
    exact ⟨rfl, HK.out⟩
  · rw [if_neg hc]
    have i2 : x > most := by omega
    clear hc
    go_enter Try.func40, Try.ntmps40
    go_wp2_with fail
    refine HC.out.mono ?_
    rintro e w1 ⟨rfl, hr, hk⟩
    have HK := Lib.hid hk
    have HB := Lib.hid (bad_w q _ w1 hr)
    clear hr hk
    go_wp2_with (go_at_call 69; refine HB.out.mono ?_; rintro e w2 ⟨rfl, hr, hk2⟩
                 have HK2 := Lib.hid hk2
                 clear hr hk2)
    go_ret
    exact ⟨rfl, HK.out.trans HK2.out (fun i hi => .inl hi)⟩
theorem clone_w (ad : Addr) (c : Nat) (s : ByteArray) (w : World) (hS : BS w (.slice (some ad) s.size c) s) (hs : s.size ≤ 70368744177664) :
    Calls Try.prog 41 #[.slice (some ad) s.size c] w fun e w' => ∃ v', e = .returned v' ∧ Own 5 w' w.heap.size v' s ∧ Below w.heap.size w w' := by
  have HS := Lib.hid (hS.alloc (.cells #[] 5))
  have HO := Lib.hid (Own.litNone 5 w)
  have hsz : ByteArray.empty.size + s.size ≤ 140737488355328 := by rw [show ByteArray.empty.size = 0 from rfl]; omega
  have hnil := fun w => Lib.run_eql_slice_nil (P := Try.prog) w 28 5 (some ad) s.size c 0 0 uBytes
  clear hS
  go_enter Try.func41, Try.ntmps41
  go_wp2_with (at_builtin; go_must (refine wp_app_bs w.heap.size rfl _ _ 28 5 rfl uBytes iByte (.slice (some ⟨w.heap.size, 0, none⟩) 0 0) (.slice (some ad) s.size c) ByteArray.empty s rfl rfl HO.out HS.out (by simp) hsz ?_); intro v2 w2 ho2 hg2; rw [ByteArray.empty_append] at ho2; have HO2 := Lib.hid ho2; have HG2 := Lib.hid hg2; clear ho2 hg2)
  go_ret
  have hb : Below w.heap.size w w2 := ((Below.refl _ _).alloc (Nat.le_refl _) _).trans (HG2.out.below (by simp) (fun k hk => (HO.out.base_le k hk).1))
  exact ⟨_, rfl, HO2.out, hb⟩
theorem clone_n (ad : Addr) (c m : Nat) (s : ByteArray) (w : World) (hm : s.size = m) (hS : BS w (.slice (some ad) m c) s) (hs : m ≤ 70368744177664) :
    Calls Try.prog 41 #[.slice (some ad) m c] w fun e w' => ∃ v', e = .returned v' ∧ Own 5 w' w.heap.size v' s ∧ Below w.heap.size w w' := by
  subst hm
  exact clone_w ad c s w hS hs
theorem uStr : Try.prog.underlying 9 = some .string := by kernel_rfl
theorem equal_w (v y : Value) (s t : ByteArray) (w : World) (hS : BS w v s) (hT : BS w y t) :
    Calls Try.prog 42 #[v, y] w fun e w' => e = .returned (.bool (decide (s = t))) ∧ w = w' := by
  have e1 := hS.string (P := Try.prog) 28 5 9 uBytes uByte uStr
  have e2 := hT.string (P := Try.prog) 28 5 9 uBytes uByte uStr
  obtain ⟨a, c, rfl⟩ := hS.len
  obtain ⟨a', c', rfl⟩ := hT.len
  clear hS hT
  go_enter Try.func42, Try.ntmps42
  go_wp2
  go_ret
  refine ⟨?_, rfl⟩
  by_cases h : s = t
  · subst h; simp
  · have h2 : ¬ s.toList = t.toList := fun e => h (by
      rw [ByteArray.toList_eq, ByteArray.toList_eq] at e
      cases s; cases t; simpa using e)
    simp [h, h2]
end Go.Proofs.Ytlmngghkhnnaeaa
