/- The document's book: Open. -/
import Derived.Test.YtidppalhjknlfaaGreatDoorQBkGr
namespace Go.Proofs.YtidppalhjknlfaaGreatDoor
open Go.RowKit
set_option maxRecDepth 100000
set_option maxHeartbeats 4000000
set_option linter.unusedVariables false
set_option linter.unusedSimpArgs false
theorem uTVs : Tryz.prog.underlying 28 = some (.slice 61) := by kernel_rfl
theorem iTVs : (Tryz.prog.info? 61).map (fun i => (i.zero, i.size, i.bytes)) = some (some (.pointer none), shV.sz, 8) := by kernel_rfl
theorem ropn_any (base q : Nat) (pv tv : Value) (ps : List PV) (ts : List TV) (t s i d : Int) (hs64 : -9223372036854775808 ≤ s ∧ s ≤ 9223372036854775807) (w : World) (h : RB base w q pv tv ps ts) (hbw : base ≤ w.heap.size) (hl : ts.length ≤ 100000) (hlp : ps.length ≤ 1000000) :
    Calls Tryz.prog 11 #[.pointer (some ⟨q, 0, none⟩), .int .u32 t, .int .i64 s, .int .u32 i, .int .i64 d] w fun e w' => e = .returned (.int .i64 (opnE (psOf ps) (tsOf ts) t s i d)) ∧ (∃ tv' ts', tsOf ts' = opnT (psOf ps) (tsOf ts) t s i d ∧ ts'.length ≤ ts.length + 1 ∧ RB base w' q pv tv' ps ts') ∧ Keep (RF base w) w w' := by
  have HS := Lib.hid (rcheck_any s hs64.1 hs64.2 w)
  have HD := Lib.hid (rdate_any d w)
  by_cases hE : t = 0 ∨ shiftB s = false ∨ isDate d = false
  · have e1 : opnE (psOf ps) (tsOf ts) t s i d = 1 := by unfold opnE; rw [if_pos hE]
    have e2 : opnT (psOf ps) (tsOf ts) t s i d = tsOf ts := by unfold opnT; rw [e1, if_neg (by decide)]
    rw [e1, e2]
    have FIN := Lib.hid (show (∃ tv' ts', tsOf ts' = tsOf ts ∧ ts'.length ≤ ts.length + 1 ∧ RB base w q pv tv' ps ts') ∧ Keep (RF base w) w w from ⟨⟨tv, ts, rfl, by omega, h⟩, Keep.refl _ _⟩)
    clear e1 e2 h
    by_cases h0 : t = 0
    · subst h0
      clear hE
      go_enter Tryz.func11, Tryz.ntmps11
      go_wp2_with fail
      go_ret
      exact ⟨rfl, FIN.out⟩
    · have i0 : (t == 0) = false := beq_eq_false_iff_ne.2 h0
      cases hs : shiftB s with
      | false =>
        rw [hs] at HS
        clear hE hs
        go_enter Tryz.func11, Tryz.ntmps11
        go_wp2_with (go_at_call 34; refine HS.out.mono ?_; rintro e w1 ⟨rfl, hw⟩; obtain rfl := hw.symm)
        go_ret
        exact ⟨rfl, FIN.out⟩
      | true =>
        have hd : isDate d = false := by
          rcases hE with h | h | h
          · exact absurd h h0
          · rw [hs] at h; cases h
          · exact h
        rw [hs] at HS
        rw [hd] at HD
        clear hE hs hd
        go_enter Tryz.func11, Tryz.ntmps11
        go_wp2_with (first
          | (go_at_call 34; refine HS.out.mono ?_; rintro e w1 ⟨rfl, hw⟩; obtain rfl := hw.symm)
          | (go_at_call 35; refine HD.out.mono ?_; rintro e w2 ⟨rfl, hw2⟩; obtain rfl := hw2.symm))
        go_ret
        exact ⟨rfl, FIN.out⟩
  · have h0 : t ≠ 0 := fun e => hE (.inl e)
    have hs : shiftB s = true := by cases hh : shiftB s with
      | true => rfl
      | false => exact absurd (.inr (.inl hh)) hE
    have hd : isDate d = true := by cases hh : isDate d with
      | true => rfl
      | false => exact absurd (.inr (.inr hh)) hE
    have e0 : opnE (psOf ps) (tsOf ts) t s i d = if (tfind (tsOf ts) t).isSome = true then 5 else if (pfind (psOf ps) i).isNone = true then 4 else 0 := by unfold opnE; rw [if_neg hE]
    rw [tfV_eq, pfV_eq, Option.isSome_map, Option.isNone_map] at e0
    have i0 : (t == 0) = false := beq_eq_false_iff_ne.2 h0
    rw [hs] at HS
    rw [hd] at HD
    have HH := Lib.hid h
    have HTN := Lib.hid (rten_any base q pv tv ps ts t w h (by omega))
    have HPL := Lib.hid (rplan_any base q pv tv ps ts i w h hlp)
    obtain ⟨E, hEe⟩ : ∃ E, E = opnE (psOf ps) (tsOf ts) t s i d := ⟨_, rfl⟩
    obtain ⟨S, hS⟩ : ∃ S, S = opnT (psOf ps) (tsOf ts) t s i d := ⟨_, rfl⟩
    rw [← hEe, ← hS]
    have HEE := Lib.hid hEe
    have HE0 := Lib.hid (show E = _ from hEe.trans e0)
    have HSS := Lib.hid hS
    cases hf : tfV ts t with
    | some T =>
      have hE1 : E = 5 := by rw [HE0.out, hf]; rfl
      have hS2 : S = tsOf ts := by rw [HSS.out]; unfold opnT; rw [show opnE (psOf ps) (tsOf ts) t s i d = 5 by rw [← HEE.out]; exact hE1, if_neg (by decide)]
      subst hE1
      rw [hS2]
      rw [hf, show Option.map (fun x => (⟨x.b, 0, none⟩ : Addr)) (some T) = some ⟨T.b, 0, none⟩ from rfl] at HTN
      have FIN := Lib.hid (show (∃ tv' ts', tsOf ts' = tsOf ts ∧ ts'.length ≤ ts.length + 1 ∧ RB base w q pv tv' ps ts') ∧ Keep (RF base w) w w from ⟨⟨tv, ts, rfl, by omega, h⟩, Keep.refl _ _⟩)
      clear h hE hs hd e0 hEe hS hf hS2
      go_enter Tryz.func11, Tryz.ntmps11
      go_upto_region 3 with (first
        | (go_at_call 34; refine HS.out.mono ?_; rintro e w1 ⟨rfl, hw⟩; obtain rfl := hw.symm)
        | (go_at_call 35; refine HD.out.mono ?_; rintro e w2 ⟨rfl, hw2⟩; obtain rfl := hw2.symm))
      go_wp2_with fail
      refine HTN.out.mono ?_
      rintro e w3 ⟨rfl, hw3⟩
      obtain rfl := hw3.symm
      clear hw3
      go_wp2
      go_ret
      exact ⟨rfl, FIN.out⟩
    | none =>
      rw [hf, show Option.map (fun x : TV => (⟨x.b, 0, none⟩ : Addr)) none = none from rfl] at HTN
      cases hg : pfV ps i with
      | none =>
        have hE1 : E = 4 := by rw [HE0.out, hf, hg]; rfl
        have hS2 : S = tsOf ts := by rw [HSS.out]; unfold opnT; rw [show opnE (psOf ps) (tsOf ts) t s i d = 4 by rw [← HEE.out]; exact hE1, if_neg (by decide)]
        subst hE1
        rw [hS2]
        rw [hg, show (((none : Option PV).getD PV.zero).val) = .agg #[.int .u32 0, .int .i64 0, .int .i64 0, .int .i64 0, .int .i64 0, .int .i64 0, .slice none 0 0] from rfl, show (none : Option PV).isSome = false from rfl] at HPL
        clear h hE hs hd e0 hEe hS hf hg hS2
        go_enter Tryz.func11, Tryz.ntmps11
        go_upto_region 3 with (first
          | (go_at_call 34; refine HS.out.mono ?_; rintro e w1 ⟨rfl, hw⟩; obtain rfl := hw.symm)
          | (go_at_call 35; refine HD.out.mono ?_; rintro e w2 ⟨rfl, hw2⟩; obtain rfl := hw2.symm))
        go_wp2_with fail
        refine HTN.out.mono ?_
        rintro e w3 ⟨rfl, hw3⟩
        obtain rfl := hw3.symm
        clear hw3
        go_wp2_with fail
        refine HPL.out.mono ?_
        rintro e w4 ⟨rfl, hb⟩
        have HB4 := Lib.hid (hb.alloc hb.size (.cells #[.int .u32 0, .int .i64 0, .int .i64 0, .int .i64 0, .int .i64 0, .int .i64 0, .slice none 0 0] 35))
        clear hb
        go_wp2
        go_ret
        exact ⟨rfl, ⟨tv, ts, rfl, by omega, HH.out.below HB4.out⟩, Keep.ofBelow HB4.out _⟩
      | some P =>
        have hE1 : E = 0 := by rw [HE0.out, hf, hg]; rfl
        have hS2 : S = tsOf ts ++ [⟨t, s, d, [⟨d, i⟩]⟩] := by rw [HSS.out]; unfold opnT; rw [show opnE (psOf ps) (tsOf ts) t s i d = 0 by rw [← HEE.out]; exact hE1, if_pos rfl]
        subst hE1
        rw [hS2]
        have HNO := Lib.hid (show ∀ y ∈ ts, y.T.id ≠ t from fun y hy he => by
          have := List.find?_eq_none.1 (show List.find? _ _ = _ from hf) y hy
          exact this (decide_eq_true he))
        obtain ⟨ta, tc, rfl, _⟩ := (GR.of_row (S := shV) h.tr).shape
        rw [hg, show ((some P : Option PV).getD PV.zero) = P from rfl, show (some P : Option PV).isSome = true from rfl] at HPL
        unfold PV.val at HPL
        clear h hE hs hd e0 hEe hS hf hg hS2
        go_enter Tryz.func11, Tryz.ntmps11
        go_upto_region 3 with (first
          | (go_at_call 34; refine HS.out.mono ?_; rintro e w1 ⟨rfl, hw⟩; obtain rfl := hw.symm)
          | (go_at_call 35; refine HD.out.mono ?_; rintro e w2 ⟨rfl, hw2⟩; obtain rfl := hw2.symm))
        go_wp2_with fail
        refine HTN.out.mono ?_
        rintro e w3 ⟨rfl, hw3⟩
        obtain rfl := hw3.symm
        clear hw3
        go_wp2_with fail
        refine HPL.out.mono ?_
        rintro e w4 ⟨rfl, hb⟩
        go_upto_region 8 with fail
        obtain ⟨W, hW⟩ : ∃ W, W = w4.alloc (.cells #[.int .u32 P.P.id, .int .i64 P.P.daily, .int .i64 P.P.monthly, .int .i64 P.P.over, .int .i64 P.P.roll, .int .i64 P.P.base, .slice P.ta P.P.tiers.length P.tc] 35) := ⟨_, rfl⟩
        rw [← hW]
        have hb5 : Below w.heap.size w W := by rw [hW]; exact hb.alloc hb.size _
        have h5 := HH.out.below hb5
        have k1 : W.cell? ⟨q, 1, none⟩ = some (.slice ta ts.length tc) := by rw [blk_cell h5.blk]; rfl
        have HB5 := Lib.hid hb5
        have H5 := Lib.hid h5
        clear hW hb hb5 h5
        obtain ⟨W1, hW1⟩ : ∃ W1, W1 = W.alloc (.cells #[.int .i64 d, .int .u32 i] 66) := ⟨_, rfl⟩
        obtain ⟨W2, hW2⟩ : ∃ W2, W2 = W1.alloc (.cells #[.int .u32 t, .int .i64 s, .slice (some ⟨W.heap.size, 0, none⟩) 1 1] 64) := ⟨_, rfl⟩
        obtain ⟨W3, hW3⟩ : ∃ W3, W3 = W2.alloc (.cells #[.pointer (some ⟨W.heap.size + 1, 0, none⟩)] 61) := ⟨_, rfl⟩
        have s1 : W1.heap.size = W.heap.size + 1 := by rw [hW1]; exact Array.size_push _
        have s2 : W2.heap.size = W.heap.size + 1 + 1 := by rw [hW2, ← s1]; exact Array.size_push _
        have b1 : Below W.heap.size W W1 := by rw [hW1]; exact (Below.refl _ _).alloc (Nat.le_refl _) _
        have b2 : Below W1.heap.size W1 W2 := by rw [hW2]; exact (Below.refl _ _).alloc (Nat.le_refl _) _
        have b3 : Below W2.heap.size W2 W3 := by rw [hW3]; exact (Below.refl _ _).alloc (Nat.le_refl _) _
        have b13 : Below W1.heap.size W1 W3 := b2.trans (b3.mono b2.size)
        have b03 : Below W.heap.size W W3 := b1.trans (b13.mono b1.size)
        have hg1 : GR shS W1 (.slice (some ⟨W.heap.size, 0, none⟩) 1 1) [⟨d, i⟩] := by rw [hW1]; exact GR.lit (S := shS) W _ [⟨d, i⟩] (by simp)
        have hbt1 : BT W1 (.slice (some ⟨W.heap.size, 0, none⟩) 1 1) 66 := fun g hg => by
          have e' : some W.heap.size = some g := hg
          injection e' with e'; subst e'
          rw [hW1]; exact ⟨_, _, blk_new _ _⟩
        obtain ⟨x, hx⟩ : ∃ x : TV, x = ⟨⟨t, s, d, [⟨d, i⟩]⟩, W.heap.size + 1, some ⟨W.heap.size, 0, none⟩, 1⟩ := ⟨_, rfl⟩
        have hxi : x.Is base W3 := by
          have hsz := HB5.out.size
          have hsz1 := b1.size
          rw [hx]
          refine ⟨(Keep.ofBelow b3 (fun _ => False)).blk ?_ (fun h => h), by show base ≤ W.heap.size + 1; omega, hg1.below b13, hbt1.below b13⟩
          show W2.heap[W.heap.size + 1]? = _
          rw [← s1, hW2]; exact blk_new _ _
        have HX3 := Lib.hid hxi
        have H3 := Lib.hid (H5.out.below b03)
        have HB03 := Lib.hid (HB5.out.trans (b03.mono HB5.out.size))
        have hgx : GR shV W3 (.slice (some ⟨W.heap.size + 1 + 1, 0, none⟩) 1 1) [x] := by
          rw [hW3, hx, ← s2]; exact GR.lit (S := shV) W2 _ [⟨⟨t, s, d, [⟨d, i⟩]⟩, W.heap.size + 1, some ⟨W.heap.size, 0, none⟩, 1⟩] (by simp)
        have HGX := Lib.hid hgx
        have HXD := Lib.hid hx
        have hsz3 := HB03.out.size
        have FIN := Lib.hid fun (w8 : World) (a8 : Option Addr) (c8 : Nat) (ho : w8.ownsRow base 61 shV.sz (.slice a8 (ts.length + 1) c8) (ts.length + 1) (shV.cells (ts ++ [x]))) (hk : Keep (fun k => (Value.slice ta ts.length tc).ownBlock = some k) W3 w8) => show (∃ tv' ts', tsOf ts' = tsOf ts ++ [⟨t, s, d, [⟨d, i⟩]⟩] ∧ ts'.length ≤ ts.length + 1 ∧ RB base (w8.setCell ⟨q, 1, none⟩ (.slice a8 (ts.length + 1) c8)) q pv tv' ps ts') ∧ Keep (RF base w) w (w8.setCell ⟨q, 1, none⟩ (.slice a8 (ts.length + 1) c8)) from by
          obtain ⟨f1, f2⟩ := H3.out.grownT hk ho HX3.out (fun y hy => by rw [HXD.out]; exact HNO.out y hy)
          exact ⟨⟨_, ts ++ [x], by unfold tsOf; rw [List.map_append, HXD.out]; rfl, by simp, f1⟩, Keep.rf_from HB03.out f2⟩
        have HH3 := Lib.hid (H3.out.tr)
        have QB3 := Lib.hid H3.out.blk
        clear s1 s2 b1 b2 b3 b13 b03 hg1 hbt1 hxi hgx hx
        go_wp2_with (at_builtin; go_must (
          rw [← hW1, ← hW2, ← hW3]
          refine wp_app_g 28 61 8 _ uTVs iTVs rfl (by decide) base rfl _ _ rfl (.slice ta ts.length tc) (.slice (some ⟨W.heap.size + 1 + 1, 0, none⟩) 1 1) ts [x] rfl rfl HH3.out HGX.out (by omega) (by omega) (by simp) ?_
          intro v8 w8 ho hk hat
          rw [show (ts ++ [x]).length = ts.length + 1 from by simp] at ho
          obtain ⟨a8, c8, rfl⟩ := rowS_shape ho
          have hbt := BT.of_row HH3.out
          have Q8 := hk.blk QB3.out (fun hg => by
            obtain ⟨c', z', h'⟩ := hbt q hg
            rw [QB3.out] at h'; simp at h')
          have f8 := blk_frozen Q8 1
          have k8 := blk_cell Q8 1
          have HO8 := Lib.hid ho
          have HK8 := Lib.hid hk
          clear ho hk hat hbt Q8))
        go_ret
        exact ⟨rfl, FIN.out _ _ _ HO8.out HK8.out⟩
end Go.Proofs.YtidppalhjknlfaaGreatDoor
