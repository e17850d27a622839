/- A reader whose bytes lie in a block that does not change. -/
import Derived.Test.YtidppalhjknlfaaDoorQMRow
namespace Go.Proofs.YtidppalhjknlfaaDoor
open Go.RowKit Go.Shelf
set_option maxRecDepth 100000
set_option linter.unusedVariables false
set_option linter.unusedSimpArgs false
/-- a reader that is not spoilt, with the bytes in a block below B -/
def RdB (B : Nat) (w : World) (q : Nat) (s : ByteArray) : Prop :=
  ∃ v, w.heap[q]? = some (.cells #[v, .bool false] 105 (0, 0)) ∧ BS w v s ∧ s.size ≤ 35184372088832 ∧ ∀ k, v.ownBlock = some k → k < B
theorem RdB.is {B : Nat} {w : World} {q : Nat} {s : ByteArray} (h : RdB B w q s) : RdIs w q ⟨s, false⟩ := by
  obtain ⟨v, h1, h2, h3, _⟩ := h
  exact ⟨v, h1, h2, h3⟩
theorem RdB.of {w : World} {q : Nat} {s : ByteArray} (h : RdIs w q ⟨s, false⟩) (h0 : 0 < s.size) : RdB w.heap.size w q s := by
  obtain ⟨v, h1, h2, h3⟩ := h
  refine ⟨v, h1, h2, h3, fun k hk => ?_⟩
  obtain ⟨a, c, rfl⟩ := h2.len
  obtain ⟨b, off, rfl, hc⟩ := h2.at_ (i := 0) h0
  cases hk
  have h0 := hc 0 (by omega)
  rcases Nat.lt_or_ge b w.heap.size with hg | hg
  · exact hg
  · simp [World.cell?, Array.getElem?_eq_none hg] at h0
theorem RdB.keep {B : Nat} {F : Nat → Prop} {w w' : World} {q : Nat} {s : ByteArray} (h : RdB B w q s) (hk : Keep F w w') (h0 : ¬ F q) (hF : ∀ k, F k → B ≤ k ∨ ∀ (o : Nat) x, w.cell? ⟨k, o, none⟩ ≠ some (.int .u8 x)) : RdB B w' q s := by
  obtain ⟨v, h1, h2, h3, h4⟩ := h
  refine ⟨v, hk.blk h1 h0, ?_, h3, h4⟩
  obtain ⟨a, cap, rfl, g1, g2, g3, g4⟩ := h2
  refine ⟨a, cap, rfl, g1, g2, g3, ?_⟩
  rcases g4 with g4 | ⟨b, off, rfl, g4⟩
  · exact .inl g4
  · exact .inr ⟨b, off, rfl, fun i hi => hk.cell (g4 i hi) (fun hb => by
      rcases hF _ hb with h5 | h5
      · have h6 : B ≤ b := h5
        have := h4 b rfl; omega
      · exact h5 _ _ (g4 i hi))⟩
theorem RdB.below {B : Nat} {w w' : World} {q : Nat} {s : ByteArray} (h : RdB B w q s) (hb : Below w.heap.size w w') : RdB B w' q s := h.keep (Keep.ofBelow hb (fun _ => False)) (fun h => h) (fun _ h => h.elim)
theorem RdB.lt {B : Nat} {w : World} {q : Nat} {s : ByteArray} (h : RdB B w q s) : q < w.heap.size := h.is.lt
theorem sl_loB (a : Option Addr) (c : Nat) (s : ByteArray) (n : Nat) (k : IntKind) (z : Int) (hz : z = n) (hn : n ≤ s.size) (hc : s.size ≤ c) (hcm : c ≤ maxLen) (hnone : a = none → c = 0) : ∃ a' m c', m = s.size - n ∧
    (∀ W, (Instr.slice 68 (.slice a s.size c) (some (.int k z)) none none).run Tryd.prog W = .ok (.slice a' m c') W) ∧ (∀ W, BS W (.slice a s.size c) s → BS W (.slice a' m c') (s.extract n s.size)) ∧ ∀ B, (∀ k, (Value.slice a s.size c).ownBlock = some k → k < B) → ∀ k, (Value.slice a' m c').ownBlock = some k → k < B := by
  subst hz
  refine ⟨if c = n then a else a.map (·.add (n * 1)), s.size - n, c - n, rfl, fun W => ?_, fun W hW => ?_, fun B hB k hk => ?_⟩
  · rw [run_slice_l (P := Tryd.prog) W 68 a s.size c elemB k (n : Int) (by omega) (by omega), so1]
    simp only [Result.andThen, sliced, Int.toNat_natCast]
  · refine hW.cut n s.size hn (Nat.le_refl _) (fun h => ?_) (by omega) (by omega) (fun h => ?_)
    · rw [if_neg (by omega), Nat.mul_one]
    · split at h
      · rw [hnone h]; omega
      · cases a with
        | none => rw [hnone rfl]; omega
        | some x => cases h
  · refine hB k ?_
    cases a with
    | none => simp [Value.ownBlock] at hk
    | some x =>
      split at hk
      · exact hk
      · simp only [Option.map_some, Value.ownBlock] at hk ⊢
        rw [← hk]; simp only [Addr.add]; split <;> rfl
theorem from_iB (B q : Nat) (s : ByteArray) (n : Nat) (z : Int) (hz : z = n) (hn : n ≤ 8) (hns : n ≤ s.size) (w : World) (h : RdB B w q s) :
    Calls Tryd.prog 51 #[.pointer (some ⟨q, 0, none⟩), .int .u64 z, .func (Fn.func 52) #[] #[]] w fun e w' => e = .returned (.int .i64 (wrap64 (valB (s.extract 0 n)))) ∧ RdB B w' q (s.extract n s.size) ∧ Keep (fun i => i = q) w w' := by
  subst hz
  obtain ⟨v, h1, h2, h3, h4⟩ := h
  obtain ⟨a, c, rfl⟩ := h2.len
  obtain ⟨_, hsc, hcm, hnone⟩ := h2.capm
  have hc0 := blk_cell h1 0
  have hc1 := blk_cell h1 1
  have hf0 := blk_frozen h1 0
  simp at hc0 hc1
  have H1 := Lib.hid h1
  have H2 := Lib.hid h2
  have H3 := Lib.hid h3
  have hwr : IntKind.u64.wrap (s.size : Int) = s.size := by rw [IntKind.wrap_u64]; omega
  have i1 : ¬ (s.size : Int) < (n : Int) := by omega
  obtain ⟨a1, c1, e1, b1⟩ := sl_hi a c s n .u64 n rfl (by omega) hsc hcm hnone
  obtain ⟨a2, m, c2, hm, e2, b2, b3⟩ := sl_loB a c s n .u64 n rfl (by omega) hsc hcm hnone
  have HS := Lib.hid (intc_w _ _ w (b1 w h2) (by rw [ByteArray.size_extract]; omega))
  have B2 := Lib.hid b2
  have B3 := Lib.hid (b3 B h4)
  have HM := Lib.hid hm
  clear h1 h2 h3 h4 b1 b2 b3 hm
  go_enter Tryd.func51, Tryd.ntmps51
  go_wp2_with fail
  refine HS.out.mono ?_
  rintro e w1 ⟨rfl, rfl⟩
  go_wp2
  go_ret
  have hk : Keep (fun i => i = q) w (w.setCell ⟨q, 0, none⟩ (.slice a2 m c2)) := Keep.setCell (F := fun i => i = q) (Keep.refl _ _) (p := ⟨q, 0, none⟩) (.inl rfl) _
  refine ⟨rfl, ⟨_, blk_setCell H1.out 0 _, ?_, by show (s.extract n s.size).size ≤ _; rw [ByteArray.size_extract]; have := H3.out; omega, B3.out⟩, hk⟩
  exact (B2.out w H2.out).keep hk (rd_nocell H1.out ⟨_, _, _, rfl⟩)
theorem int_rB (B q : Nat) (s : ByteArray) (h8 : 8 ≤ s.size) (w : World) (h : RdB B w q s) :
    Calls Tryd.prog 34 #[.pointer (some ⟨q, 0, none⟩)] w fun e w' => e = .returned (.int .i64 (wrap64 (valB (s.extract 0 8)))) ∧ RdB B w' q (s.extract 8 s.size) ∧ Keep (fun i => i = q) w w' := by
  have HC := Lib.hid (from_iB B q s 8 8 rfl (by decide) h8 w h)
  clear h
  go_enter Tryd.func34, Tryd.ntmps34
  go_wp2_with fail
  refine HC.out.mono ?_
  rintro e w1 ⟨rfl, hr, hk⟩
  have HR := Lib.hid hr
  have HK := Lib.hid hk
  clear hr hk
  go_wp2
  go_ret
  exact ⟨rfl, HR.out, HK.out⟩
theorem int_rB8 (B q : Nat) (n : Int) (hn : W64 n) (t : ByteArray) (w : World) (h : RdB B w q (i8 n ++ t)) :
    Calls Tryd.prog 34 #[.pointer (some ⟨q, 0, none⟩)] w fun e w' => e = .returned (.int .i64 n) ∧ RdB B w' q t ∧ Keep (fun i => i = q) w w' := by
  have h8 : 8 ≤ (i8 n ++ t).size := by rw [size_append, i8_size]; omega
  have := int_rB B q _ h8 w h
  obtain ⟨r1, r2⟩ := rd8 n t hn
  have hok : Rd.ok ⟨i8 n ++ t, false⟩ 8 = true := by unfold Rd.ok; rw [decide_eq_true h8]; rfl
  unfold Rd.val at r1
  unfold Rd.skip at r2
  rw [if_pos hok] at r1 r2
  injection r2 with r2 _
  rw [r1, r2] at this
  exact this
end Go.Proofs.YtidppalhjknlfaaDoor
