/- The walks of package wire's Reader. -/
import Derived.Test.YtlmngghkhnnaeaaQWr
namespace Go.Proofs.Ytlmngghkhnnaeaa
open Go.RowKit
set_option maxRecDepth 100000
set_option linter.unusedVariables false
set_option linter.unusedSimpArgs false
/-- what a reader has still to give, and whether it is spoilt -/
structure Rd where
  s : ByteArray
  bad : Bool
def Rd.ok (r : Rd) (n : Nat) : Bool := !r.bad && decide (n ≤ r.s.size)
def Rd.val (r : Rd) (n : Nat) : Int := if r.ok n = true then valB (r.s.extract 0 n) else 0
def Rd.bytes (r : Rd) (n : Nat) : ByteArray := if r.ok n = true then r.s.extract 0 n else ByteArray.empty
def Rd.skip (r : Rd) (n : Nat) : Rd := if r.ok n = true then ⟨r.s.extract n r.s.size, false⟩ else ⟨r.s, true⟩
/-- block q is a reader -/
def RdIs (w : World) (q : Nat) (r : Rd) : Prop :=
  ∃ v, w.heap[q]? = some (.cells #[v, .bool r.bad] 92 (0, 0)) ∧ BS w v r.s ∧ r.s.size ≤ 35184372088832
theorem RdIs.keep {F : Nat → Prop} {w w' : World} {q : Nat} {r : Rd} (h : RdIs w q r) (hk : Keep F w w') (h0 : ¬ F q) (hF : ∀ b o x, w.cell? ⟨b, o, none⟩ = some (.int .u8 x) → ¬ F b) : RdIs w' q r := by
  obtain ⟨v, h1, h2, h3⟩ := h
  exact ⟨v, hk.blk h1 h0, h2.keep hk hF, h3⟩
theorem RdIs.below {w w' : World} {q : Nat} {r : Rd} (h : RdIs w q r) (hb : Below w.heap.size w w') : RdIs w' q r := h.keep (Keep.ofBelow hb (fun _ => False)) (fun h => h) (fun _ _ _ _ h => h)
theorem RdIs.lt {w : World} {q : Nat} {r : Rd} (h : RdIs w q r) : q < w.heap.size := by obtain ⟨v, h1, _⟩ := h; exact blk_lt h1
theorem rd_nocell {w : World} {q : Nat} {v : Value} {b : Bool} (h : w.heap[q]? = some (.cells #[v, .bool b] 92 (0, 0))) (hv : ∃ a n c, v = .slice a n c) : ∀ b o x, w.cell? ⟨b, o, none⟩ = some (.int .u8 x) → ¬ b = q := by
  intro b' o x hc e
  subst e
  rw [blk_cell h] at hc
  obtain ⟨a, n, c, rfl⟩ := hv
  match o, hc with
  | 0, hc => simp at hc
  | 1, hc => simp at hc
  | o + 2, hc => simp at hc
theorem BS.capm {w : World} {a : Option Addr} {n c : Nat} {s : ByteArray} (h : BS w (.slice a n c) s) : n = s.size ∧ s.size ≤ c ∧ c ≤ maxLen ∧ (a = none → c = 0) := by
  obtain ⟨a', c', he, h1, h2, h3, _⟩ := h
  injection he with he1 he2 he3
  subst he1; subst he2; subst he3
  exact ⟨rfl, h1, h2, h3⟩
/-- r.rest[:n] -/
theorem sl_hi (a : Option Addr) (c : Nat) (s : ByteArray) (n : Nat) (k : IntKind) (z : Int) (hz : z = n) (hn : n ≤ s.size) (hc : s.size ≤ c) (hcm : c ≤ maxLen) (hnone : a = none → c = 0) : ∃ a' c',
    (∀ W, (Instr.slice 28 (.slice a s.size c) none (some (.int k z)) none).run Try.prog W = .ok (.slice a' n c') W) ∧ ∀ W, BS W (.slice a s.size c) s → BS W (.slice a' n c') (s.extract 0 n) := by
  subst hz
  refine ⟨a, c, fun W => ?_, fun W hW => ?_⟩
  · rw [run_slice_h (P := Try.prog) W 28 a s.size c elemB k (n : Int) (by omega) (by omega), so1]
    simp only [Result.andThen, sliced, Int.toNat_natCast]
    by_cases h0 : c = 0
    · subst h0; simp
    · rw [if_neg h0]
      cases a with
      | none => simp
      | some x => simp [Addr.add]
  · have := hW.cut (a' := a) (c' := c) 0 n (by omega) hn (fun _ => by cases a <;> simp [Addr.add]) (by omega) hcm hnone
    simpa using this
theorem bad_w (q : Nat) (r : Rd) (w : World) (h : RdIs w q r) :
    Calls Try.prog 69 #[.pointer (some ⟨q, 0, none⟩)] w fun e w' => e = .returned (.tuple #[]) ∧ RdIs w' q ⟨r.s, true⟩ ∧ Keep (fun i => i = q) w w' := by
  obtain ⟨v, h1, h2, h3⟩ := h
  obtain ⟨a, c, rfl⟩ := h2.len
  have hc := blk_cell h1 1
  have hf := blk_frozen h1 1
  have HB := Lib.hid h1
  have H2 := Lib.hid h2
  have H3 := Lib.hid h3
  simp at hc
  clear h1 h2 h3
  go_enter Try.func69, Try.ntmps69
  go_wp2
  go_end0
  have hk : Keep (fun i => i = q) w (w.setCell ⟨q, 1, none⟩ (.bool true)) := Keep.setCell (F := fun i => i = q) (Keep.refl _ _) (p := ⟨q, 1, none⟩) (.inl rfl) _
  refine ⟨rfl, ⟨_, blk_setCell HB.out 1 (.bool true), H2.out.keep hk (rd_nocell HB.out ⟨_, _, _, rfl⟩), H3.out⟩, hk⟩
theorem from_u64 (q : Nat) (r : Rd) (n : Nat) (z : Int) (hz : z = n) (hn : n ≤ 8) (w : World) (h : RdIs w q r) :
    Calls Try.prog 65 #[.pointer (some ⟨q, 0, none⟩), .int .u64 z, .func (Fn.func 66) #[] #[]] w fun e w' => e = .returned (.int .u64 (r.val n)) ∧ RdIs w' q (r.skip n) ∧ Keep (fun i => i = q) w w' := by
  subst hz
  have HR := Lib.hid h
  obtain ⟨v, h1, h2, h3⟩ := h
  obtain ⟨a, c, rfl⟩ := h2.len
  obtain ⟨_, hsc, hcm, hnone⟩ := h2.capm
  have hc0 := blk_cell h1 0
  have hc1 := blk_cell h1 1
  have hf0 := blk_frozen h1 0
  simp at hc0 hc1
  obtain ⟨s, bad⟩ := r
  simp only at h2 h3 hsc hc0 hc1 h1
  have H1 := Lib.hid h1
  have H2 := Lib.hid h2
  have H3 := Lib.hid h3
  have hwr : IntKind.u64.wrap (s.size : Int) = s.size := by rw [IntKind.wrap_u64]; omega
  by_cases hlt : s.size < n
  · have i1 : (s.size : Int) < (n : Int) := by omega
    have hok : Rd.ok ⟨s, bad⟩ n = false := by unfold Rd.ok; rw [decide_eq_false (by show ¬ n ≤ s.size; omega)]; simp
    have HV := Lib.hid (show Rd.val ⟨s, bad⟩ n = 0 by unfold Rd.val; rw [hok]; rfl)
    have HK := Lib.hid (show Rd.skip ⟨s, bad⟩ n = ⟨s, true⟩ by unfold Rd.skip; rw [hok]; rfl)
    have HB := Lib.hid (bad_w q ⟨s, bad⟩ w HR.out)
    rw [HV.out, HK.out]
    clear h1 h2 h3 hok
    go_enter Try.func65, Try.ntmps65
    go_wp2_with fail
    refine HB.out.mono ?_
    rintro e w1 ⟨rfl, hr, hk⟩
    have hr' := hr
    obtain ⟨v1, g1, _, _⟩ := hr'
    have hc1' := blk_cell g1 1
    simp at hc1'
    have HR1 := Lib.hid hr
    have HK1 := Lib.hid hk
    clear hk hr g1
    go_wp2
    go_ret
    exact ⟨rfl, HR1.out, HK1.out⟩
  · have i1 : ¬ (s.size : Int) < (n : Int) := by omega
    cases bad with
    | true =>
      have HV := Lib.hid (show Rd.val ⟨s, true⟩ n = 0 by unfold Rd.val Rd.ok; simp)
      have HK := Lib.hid (show Rd.skip ⟨s, true⟩ n = ⟨s, true⟩ by unfold Rd.skip Rd.ok; simp)
      rw [HV.out, HK.out]
      clear h1 h2 h3
      go_enter Try.func65, Try.ntmps65
      go_wp2
      go_ret
      exact ⟨rfl, HR.out, Keep.refl _ _⟩
    | false =>
      have hok : Rd.ok ⟨s, false⟩ n = true := by unfold Rd.ok; rw [decide_eq_true (by show n ≤ s.size; omega)]; rfl
      have HV := Lib.hid (show Rd.val ⟨s, false⟩ n = valB (s.extract 0 n) by unfold Rd.val; rw [hok]; rfl)
      have HK := Lib.hid (show Rd.skip ⟨s, false⟩ n = ⟨s.extract n s.size, false⟩ by unfold Rd.skip; rw [hok]; rfl)
      rw [HV.out, HK.out]
      obtain ⟨a1, c1, e1, b1⟩ := sl_hi a c s n .u64 n rfl (by omega) hsc hcm hnone
      obtain ⟨a2, m, c2, hm, e2, b2⟩ := sl_lo a c s n .u64 n rfl (by omega) hsc hcm hnone
      have HS := Lib.hid (sum_w _ _ w (b1 w h2) (by rw [ByteArray.size_extract]; omega))
      have B2 := Lib.hid b2
      have HM := Lib.hid hm
      clear h1 h2 h3 hok b1 b2 hm
      go_enter Try.func65, Try.ntmps65
      go_wp2_with fail
      refine HS.out.mono ?_
      rintro e w1 ⟨rfl, rfl⟩
      go_wp2
      go_ret
      have hk : Keep (fun i => i = q) w (w.setCell ⟨q, 0, none⟩ (.slice a2 m c2)) := Keep.setCell (F := fun i => i = q) (Keep.refl _ _) (p := ⟨q, 0, none⟩) (.inl rfl) _
      refine ⟨rfl, ⟨_, blk_setCell H1.out 0 _, ?_, by show (s.extract n s.size).size ≤ _; rw [ByteArray.size_extract]; have := H3.out; omega⟩, hk⟩
      exact (B2.out w H2.out).keep hk (rd_nocell H1.out ⟨_, _, _, rfl⟩)
theorem uint_r (q : Nat) (r : Rd) (w : World) (h : RdIs w q r) :
    Calls Try.prog 38 #[.pointer (some ⟨q, 0, none⟩)] w fun e w' => e = .returned (.int .u64 (r.val 8)) ∧ RdIs w' q (r.skip 8) ∧ Keep (fun i => i = q) w w' := by
  have HC := Lib.hid (from_u64 q r 8 8 rfl (by decide) w h)
  clear h
  go_enter Try.func38, Try.ntmps38
  go_wp2_with fail
  refine HC.out.mono ?_
  rintro e w1 ⟨rfl, hr, hk⟩
  have HR := Lib.hid hr
  have HK := Lib.hid hk
  clear hr hk
  go_wp2
  go_ret
  exact ⟨rfl, HR.out, HK.out⟩
def Rd.text (r : Rd) : ByteArray := (r.skip 4).bytes (r.val 4).toNat
def Rd.tskip (r : Rd) : Rd := (r.skip 4).skip (r.val 4).toNat
theorem Rd.val_nonneg (r : Rd) (n : Nat) : 0 ≤ r.val n := by
  unfold Rd.val
  split <;> omega
theorem new_r (v : Value) (s : ByteArray) (w : World) (hS : BS w v s) (hs : s.size ≤ 35184372088832) :
    Calls Try.prog 37 #[v] w fun e w' => ∃ q, e = .returned (.pointer (some ⟨q, 0, none⟩)) ∧ w.heap.size ≤ q ∧ RdIs w' q ⟨s, false⟩ ∧ Below w.heap.size w w' := by
  obtain ⟨a, c, rfl⟩ := hS.len
  have HS := Lib.hid (hS.alloc (.cells #[] 5))
  have HO := Lib.hid (Own.litNone 5 w)
  have hsz : ByteArray.empty.size + s.size ≤ 140737488355328 := by rw [show ByteArray.empty.size = 0 from rfl]; omega
  clear hS
  go_enter Try.func37, Try.ntmps37
  go_wp2_with (at_builtin; go_must (refine wp_app_bs w.heap.size rfl _ _ 28 5 rfl uBytes iByte (.slice (some ⟨w.heap.size, 0, none⟩) 0 0) (.slice a s.size c) ByteArray.empty s rfl rfl HO.out HS.out (by simp) hsz ?_); intro v2 w2 ho2 hg2; rw [ByteArray.empty_append] at ho2; obtain ⟨a2, c2, rfl⟩ := ho2.size; have HO2 := Lib.hid ho2; have HG2 := Lib.hid hg2; clear ho2 hg2)
  go_ret
  have hb : Below w.heap.size w w2 := ((Below.refl _ _).alloc (Nat.le_refl _) _).trans (HG2.out.below (by simp) (fun k hk => (HO.out.base_le k hk).1))
  refine ⟨w2.heap.size, rfl, hb.size, ⟨_, blk_new _ _, (HO2.out.bs).alloc _, by simpa using hs⟩, hb.alloc hb.size _⟩
end Go.Proofs.Ytlmngghkhnnaeaa
