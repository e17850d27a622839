/- The walk of IdemApart. -/
import Derived.Test.YtiadoimdohnebaaIdBox
import Derived.Deep.DeepCutAuto
namespace Go.Proofs.Ytiadoimdohnebaa
open Go.RowKit
set_option maxRecDepth 100000
set_option linter.unusedVariables false
set_option linter.unusedSimpArgs false
set_option maxHeartbeats 4000000
theorem AS8.two (w : World) (x y : A18) (hx : x.Ok) (hy : y.Ok) : AS8 (w.alloc (.cells #[.int .u8 x.doo, .int .u32 x.ten, .string x.text, .string x.body, .string x.reply, .int .u64 x.seq, .int .u8 y.doo, .int .u32 y.ten, .string y.text, .string y.body, .string y.reply, .int .u64 y.seq] 59)) (.slice (some ⟨w.heap.size, 0, none⟩) 2 2) [x, y] := by
  refine ⟨_, _, rfl, by simp [maxLen], fun i z hz => ?_, .inr ⟨_, 0, rfl, fun i z hz => ?_⟩⟩
  · match i, hz with
    | 0, hz => cases hz; exact hx
    | 1, hz => cases hz; exact hy
    | i + 2, hz => simp at hz
  · match i, hz with
    | 0, hz => cases hz; refine ⟨?_, ?_, ?_, ?_, ?_, ?_⟩ <;> (rw [blk_cell (blk_new w _)]; rfl)
    | 1, hz => cases hz; refine ⟨?_, ?_, ?_, ?_, ?_, ?_⟩ <;> (rw [blk_cell (blk_new w _)]; rfl)
    | i + 2, hz => simp at hz
def set6 (w : World) (n : Nat) (y : A18) : World :=
  (((((w.setCell ⟨n, 0, none⟩ (.int .u8 y.doo)).setCell ⟨n, 1, none⟩ (.int .u32 y.ten)).setCell ⟨n, 2, none⟩ (.string y.text)).setCell ⟨n, 3, none⟩ (.string y.body)).setCell ⟨n, 4, none⟩ (.string y.reply)).setCell ⟨n, 5, none⟩ (.int .u64 y.seq)
theorem set6_keep (w : World) (n : Nat) (y : A18) : Keep (fun i => i = n) w (set6 w n y) := by
  unfold set6
  have h := fun (W : World) (i : Nat) (v : Value) (hk : Keep (fun i => i = n) w W) => Keep.setCell (F := fun i => i = n) hk (p := ⟨n, i, none⟩) (.inl rfl) v
  exact h _ 5 _ (h _ 4 _ (h _ 3 _ (h _ 2 _ (h _ 1 _ (h _ 0 _ (Keep.refl _ _))))))
theorem set6_box {w : World} {n : Nat} {x : A18} (y : A18) (h : Box8 w n x) : Box8 (set6 w n y) n y := by
  unfold Box8 set6 at *
  exact blk_setCell (blk_setCell (blk_setCell (blk_setCell (blk_setCell (blk_setCell h 0 _) 1 _) 2 _) 3 _) 4 _) 5 _
theorem iapart_any (x y : A18) (sw : Bool) (w : World) (hx : x.Ok) (hy : y.Ok) :
    Calls Try.prog 9 #[.agg x.cells.toArray, .agg y.cells.toArray, .bool sw] w fun e w' => e = .returned (.bool true) ∧ Below w.heap.size w w' := by
  have HG := Lib.hid goes18
  obtain ⟨w0, hw0⟩ : ∃ w0, w0 = (w.alloc (.cells x.cells.toArray 59)).alloc (.cells y.cells.toArray 59) := ⟨_, rfl⟩
  have GR := Lib.hid (great18_any _ [x, y] _ (AS8.two w0 x y hx hy))
  have hb0 : Below w.heap.size w w0 := by rw [hw0]; exact ((Below.refl _ _).alloc (Nat.le_refl _) _).alloc (by simp) _
  have hbx : Box8 w0 w.heap.size x := by unfold Box8; rw [hw0]; exact blk_alloc (blk_new w _) _
  have hby : Box8 w0 (w.heap.size + 1) y := by unfold Box8; rw [hw0]; exact blk_newAt (by simp) _
  have hwz : w0.heap.size = w.heap.size + 2 := by rw [hw0]; simp
  rw [hwz] at GR
  have HB0 := Lib.hid hb0
  have HBX := Lib.hid hbx
  have HBY := Lib.hid hby
  have W0 := Lib.hid hw0
  have HX := Lib.hid hx
  have HY := Lib.hid hy
  have WZ := Lib.hid hwz
  rw [hw0] at GR
  simp only [A18.cells] at GR ⊢
  clear hb0 hbx hby hwz hw0 hx hy
  cases hg : gr18 [x, y] with
  | true =>
    have G := Lib.hid hg
    clear hg
    go_enter Try.func9, Try.ntmps9
    go_wp2_with fail
    refine GR.out.mono ?_
    rintro e w1 ⟨rfl, rfl⟩
    rw [G.out]
    go_wp2
    go_ret
    have := HB0.out
    rw [W0.out] at this
    exact ⟨rfl, this.alloc this.size _⟩
  | false =>
    have G := Lib.hid hg
    clear hg
    go_enter Try.func9, Try.ntmps9
    go_wp2_with fail
    refine GR.out.mono ?_
    rintro e w1 ⟨rfl, rfl⟩
    rw [G.out]
    have hsm := gr18_false G.out
    have SX := Lib.hid (big18_false (hsm.2 0 x rfl))
    have SY := Lib.hid (big18_false (hsm.2 1 y rfl))
    have CX := Lib.hid (check_i x.text)
    have CY := Lib.hid (check_i y.text)
    have hw1 : Below w.heap.size w (w0.alloc (.cells #[.int .u8 x.doo, .int .u32 x.ten, .string x.text, .string x.body, .string x.reply, .int .u64 x.seq, .int .u8 y.doo, .int .u32 y.ten, .string y.text, .string y.body, .string y.reply, .int .u64 y.seq] 59)) := HB0.out.alloc HB0.out.size _
    have hx1 : Box8 (w0.alloc (.cells #[.int .u8 x.doo, .int .u32 x.ten, .string x.text, .string x.body, .string x.reply, .int .u64 x.seq, .int .u8 y.doo, .int .u32 y.ten, .string y.text, .string y.body, .string y.reply, .int .u64 y.seq] 59)) w.heap.size x := HBX.out.below ((Below.refl _ _).alloc (Nat.le_refl _) _)
    have hy1 : Box8 (w0.alloc (.cells #[.int .u8 x.doo, .int .u32 x.ten, .string x.text, .string x.body, .string x.reply, .int .u64 x.seq, .int .u8 y.doo, .int .u32 y.ten, .string y.text, .string y.body, .string y.reply, .int .u64 y.seq] 59)) (w.heap.size + 1) y := HBY.out.below ((Below.refl _ _).alloc (Nat.le_refl _) _)
    rw [W0.out] at hw1 hx1 hy1
    simp only [A18.cells] at hw1 hx1 hy1
    have HW1 := Lib.hid hw1
    have HX1 := Lib.hid hx1
    have HY1 := Lib.hid hy1
    clear hsm hw1 hx1 hy1
    by_cases hbad : chk x.text = false ∨ chk y.text = false ∨ (x.ten = y.ten ∧ x.text = y.text)
    · go_wp2_with fail
      refine (CX.out _ HX.out.x).mono ?_
      rintro e w1 ⟨rfl, rfl⟩
      cases hcx : chk x.text with
      | false =>
        clear hbad
        go_wp2_with fail
        refine (HG.out _).mono ?_
        rintro e wf ⟨rfl, hb⟩
        have HBF := Lib.hid (HW1.out.trans (hb.mono HW1.out.size))
        clear hb
        go_wp2
        go_ret
        exact ⟨rfl, HBF.out⟩
      | true =>
        go_wp2_with fail
        refine (CY.out _ HY.out.x).mono ?_
        rintro e w1 ⟨rfl, rfl⟩
        cases hcy : chk y.text with
        | false =>
          clear hbad
          go_wp2_with fail
          refine (HG.out _).mono ?_
          rintro e wf ⟨rfl, hb⟩
          have HBF := Lib.hid (HW1.out.trans (hb.mono HW1.out.size))
          clear hb
          go_wp2
          go_ret
          exact ⟨rfl, HBF.out⟩
        | true =>
          rw [hcx, hcy] at hbad
          have hsame : x.ten = y.ten ∧ x.text = y.text := by
            rcases hbad with h | h | h
            · cases h
            · cases h
            · exact h
          have t1 : (x.ten == y.ten) = true := beq_iff_eq.2 hsame.1
          have t2 : (x.text.toList == y.text.toList) = true := by rw [seq_iff]; exact decide_eq_true hsame.2
          clear hsame hbad hcx hcy
          go_wp2_with fail
          refine (HG.out _).mono ?_
          rintro e wf ⟨rfl, hb⟩
          have HBF := Lib.hid (HW1.out.trans (hb.mono HW1.out.size))
          clear hb
          go_wp2
          go_ret
          exact ⟨rfl, HBF.out⟩
    · have hcx : chk x.text = true := by cases h : chk x.text; exact absurd (.inl h) hbad; rfl
      have hcy : chk y.text = true := by cases h : chk y.text; exact absurd (.inr (.inl h)) hbad; rfl
      have hns : ¬ (x.ten = y.ten ∧ x.text = y.text) := fun h => hbad (.inr (.inr h))
      have KX := Lib.hid hcx
      have KY := Lib.hid hcy
      have NS := Lib.hid hns
      have TT := Lib.hid (show ((x.ten == y.ten) = false) ∨ ((x.ten == y.ten) = true ∧ (x.text.toList == y.text.toList) = false) by
        by_cases h : x.ten = y.ten
        · right; refine ⟨beq_iff_eq.2 h, ?_⟩
          rw [seq_iff]; exact decide_eq_false (fun h' => hns ⟨h, h'⟩)
        · left; exact beq_eq_false_iff_ne.2 h)
      clear hcx hcy hns hbad
      go_upto_region 3 with fail
      go_cut [43] (fun s43 wx => s43 = .bool false ∧ Hid (Box8 wx w.heap.size x) ∧ Hid (Box8 wx (w.heap.size + 1) y) ∧ Hid (Below w.heap.size w wx) ∧ Hid (w.heap.size + 2 ≤ wx.heap.size))
      case first =>
        go_wp2_with fail
        refine (CX.out _ HX.out.x).mono ?_
        rintro e w1 ⟨rfl, rfl⟩
        rw [KX.out]
        go_wp2_with fail
        refine (CY.out _ HY.out.x).mono ?_
        rintro e w1 ⟨rfl, rfl⟩
        rw [KY.out]
        rcases TT.out with t1 | ⟨t1, t2⟩
        · go_wp2_with fail
          go_meet
          exact ⟨rfl, HX1, HY1, HW1, Lib.hid (by simp)⟩
        · go_wp2_with fail
          go_meet
          exact ⟨rfl, HX1, HY1, HW1, Lib.hid (by simp)⟩
      case rest =>
        obtain ⟨rfl, HX2, HY2, HW2, HZ2⟩ := hcut
        clear HX1 HY1 HW1 CX CY TT
        go_upto_if 45 with fail
        go_cut [] (fun wx => ∃ X Y : A18, ((X = x ∧ Y = y) ∨ (X = y ∧ Y = x)) ∧ Hid (Box8 wx w.heap.size X) ∧ Hid (Box8 wx (w.heap.size + 1) Y) ∧ Hid (Below w.heap.size w wx))
        case first =>
          cases sw with
          | false =>
            go_wp2_with fail
            go_meet
            exact ⟨x, y, .inl ⟨rfl, rfl⟩, HX2, HY2, HW2⟩
          | true =>
            have a0 : wc.cell? ⟨w.heap.size, 0, none⟩ = some (.int .u8 x.doo) := by rw [blk_cell HX2.out]; rfl
            obtain ⟨a1, a2, a3, a4, a5⟩ := HX2.out.cells
            have c0 : wc.cell? ⟨w.heap.size + 1, 0, none⟩ = some (.int .u8 y.doo) := by rw [blk_cell HY2.out]; rfl
            obtain ⟨c1, c2, c3, c4, c5⟩ := HY2.out.cells
            have f1 : ∀ i, wc.frozen? ⟨w.heap.size, i, none⟩ = false := fun i => blk_frozen HX2.out i
            have f2 : ∀ i, wc.frozen? ⟨w.heap.size + 1, i, none⟩ = false := fun i => blk_frozen HY2.out i
            go_wp2_with fail
            go_meet
            refine ⟨y, x, .inr ⟨rfl, rfl⟩, ?_, ?_, ?_⟩
            · exact (set6_box y HX2.out).keep (set6_keep (set6 wc w.heap.size y) (w.heap.size + 1) x) (by omega)
            · exact set6_box x (HY2.out.keep (set6_keep wc w.heap.size y) (by omega))
            · have hk : Keep (fun i => i = w.heap.size ∨ i = w.heap.size + 1) wc (set6 (set6 wc w.heap.size y) (w.heap.size + 1) x) := ((set6_keep wc w.heap.size y).mono (fun i h => .inl h)).trans ((set6_keep (set6 wc w.heap.size y) (w.heap.size + 1) x).mono (fun i h => .inr h)) (fun i h => .inl h)
              exact HW2.out.trans (hk.below (B := w.heap.size) HW2.out.size (fun i hi => by omega))
        case rest =>
          obtain ⟨X, Y, hXY, HX3, HY3, HW3⟩ := hcut
          have HXO := Lib.hid (show X.Ok by rcases hXY with ⟨rfl, rfl⟩ | ⟨rfl, rfl⟩; exact HX.out; exact HY.out)
          have HYO := Lib.hid (show Y.Ok by rcases hXY with ⟨rfl, rfl⟩ | ⟨rfl, rfl⟩; exact HY.out; exact HX.out)
          have SXX := Lib.hid (show X.text.size ≤ 100 ∧ X.body.size ≤ 1000 ∧ X.reply.size ≤ 1000 by rcases hXY with ⟨rfl, rfl⟩ | ⟨rfl, rfl⟩; exact SX.out; exact SY.out)
          have SYY := Lib.hid (show Y.text.size ≤ 100 ∧ Y.body.size ≤ 1000 ∧ Y.reply.size ≤ 1000 by rcases hXY with ⟨rfl, rfl⟩ | ⟨rfl, rfl⟩; exact SY.out; exact SX.out)
          have KXX := Lib.hid (show chk X.text = true by rcases hXY with ⟨rfl, rfl⟩ | ⟨rfl, rfl⟩; exact KX.out; exact KY.out)
          have NSS := Lib.hid (show ¬ (X.ten = Y.ten ∧ X.text = Y.text) by
            rcases hXY with ⟨rfl, rfl⟩ | ⟨rfl, rfl⟩
            · exact NS.out
            · exact fun h => NS.out ⟨h.1.symm, h.2.symm⟩)
          obtain ⟨n, hn⟩ : ∃ n, n = w.heap.size := ⟨_, rfl⟩
          have HN := Lib.hid hn
          rw [← hn] at HX3 HY3
          clear hXY HX2 HY2 HW2 HZ2 SX SY KX KY NS HBX HBY W0 WZ G GR HB0 HX HY hn
          rw [← HN.out]
          obtain ⟨fb, gb, eb, sb, lb⟩ := conv_ex X.body (by have := SXX.out; omega)
          obtain ⟨fp, gp, ep, sp, lp⟩ := conv_ex X.reply (by have := SXX.out; omega)
          obtain ⟨fyb, gyb, eyb, syb, lyb⟩ := conv_ex Y.body (by have := SYY.out; omega)
          obtain ⟨fyp, gyp, eyp, syp, lyp⟩ := conv_ex Y.reply (by have := SYY.out; omega)
          have SB := Lib.hid sb
          have LB := Lib.hid lb
          have SP := Lib.hid sp
          have LP := Lib.hid lp
          have SYB := Lib.hid syb
          have LYB := Lib.hid lyb
          have SYP := Lib.hid syp
          have LYP := Lib.hid lyp
          clear sb lb sp lp syb lyb syp lyp
          go_wp2_with fail
          refine (new_any (-1) _).mono ?_
          rintro e w1 ⟨p, b1, b2, rfl, hp, hb1, hb2, hm, hb⟩
          have HM1 := Lib.hid hm
          have HB1 := Lib.hid (HW3.out.trans (hb.mono HW3.out.size))
          have BX1 := Lib.hid (HX3.out.below hb)
          have BY1 := Lib.hid (HY3.out.below hb)
          have HP := Lib.hid (And.intro (Nat.le_trans HW3.out.size hp) (And.intro (Nat.le_trans HW3.out.size hb1) (Nat.le_trans HW3.out.size hb2)))
          clear hm hb hp hb1 hb2
          unfold pV
          go_wp2_with fail
          refine (new_any (-1) _).mono ?_
          rintro e w2 ⟨p', b1', b2', rfl, hp, hb1, hb2, hm, hb⟩
          have HT2 := Lib.hid hm
          have HS2 := Lib.hid (HM1.out.below hb)
          have HB2 := Lib.hid (HB1.out.trans (hb.mono HB1.out.size))
          have BX2 := Lib.hid (BX1.out.below hb)
          have BY2 := Lib.hid (BY1.out.below hb)
          have ND := Lib.hid (show (¬ p' = b1 ∧ ¬ b1' = b1 ∧ ¬ b2' = b1) ∧ (¬ p = b1' ∧ ¬ b1 = b1' ∧ ¬ b2 = b1') ∧ w.heap.size ≤ b1' from by
            have := blk_lt HM1.out.blk; have := HM1.out.now.lt; have := HM1.out.was.lt; have := HB1.out.size
            exact ⟨⟨by omega, by omega, by omega⟩, ⟨by omega, by omega, by omega⟩, by omega⟩)
          clear hm hb hp hb1 hb2 HM1 BX1 BY1 HX3 HY3
          unfold pV
          obtain ⟨d1, d2, d3, d4, d5⟩ := BX2.out.stage LB.out LP.out
          have LL2 := Lib.hid (below_and (LB.out w2) (LP.out (gb w2)))
          go_wp2_with fail
          refine (keep_any p (-1) b1 b2 [] [] F0 X.ten HXO.out.t.1 HXO.out.t.2 X.text X.toRec (fb w2) (fp (gb w2)) (gp (gb w2)) (HS2.out.below LL2.out) idx0 HXO.out.x ((SB.out w2).below (LP.out _)) (SP.out _) (by have := SXX.out; show X.body.size ≤ _; omega) (by have := SXX.out; show X.reply.size ≤ _; omega) HXO.out.s (by decide)).mono ?_
          rintro e w3 ⟨rfl, hm, hk⟩
          obtain ⟨E, hE⟩ : ∃ E, E = keepE (-1) [] F0 X.ten X.text X.toRec := ⟨_, rfl⟩
          obtain ⟨n1, hn1⟩ : ∃ n1, n1 = keepA (-1) [] F0 X.ten X.text X.toRec := ⟨_, rfl⟩
          obtain ⟨F1, hF1⟩ : ∃ F1, F1 = keepF (-1) [] F0 X.ten X.text X.toRec := ⟨_, rfl⟩
          have I1 := Lib.hid (show Idx n1 F1 by rw [hn1, hF1]; exact keep_idx idx0 HXO.out.t.1 HXO.out.t.2 HXO.out.s)
          have hl1 : n1.length ≤ 1 := by rw [hn1]; exact keepA_len
          have HE := Lib.hid hE
          have HN1 := Lib.hid hn1
          have HF1 := Lib.hid hF1
          rw [← hn1] at hm
          rw [← hE]
          have HS3 := Lib.hid hm
          have HT3 := Lib.hid ((HT2.out.below LL2.out).keep hk ND.out.1.1 ND.out.1.2.1 ND.out.1.2.2)
          have BX3 := Lib.hid ((BX2.out.below LL2.out).keep hk ((BX2.out.below LL2.out).ne (HS2.out.below LL2.out).now))
          have BY3 := Lib.hid ((BY2.out.below LL2.out).keep hk ((BY2.out.below LL2.out).ne (HS2.out.below LL2.out).now))
          have HB3 := Lib.hid ((HB2.out.trans (LL2.out.mono HB2.out.size)).trans (hk.below (B := w.heap.size) (Nat.le_trans HB2.out.size LL2.out.size) (fun i hi => by subst hi; exact HP.out.2.1)))
          clear hm hk hE hn1 hF1 d1 d2 d3 d4 d5 BX2 BY2 HS2 HT2
          obtain ⟨d1, d2, d3, d4, d5⟩ := BX3.out.stage LB.out LP.out
          have LL3 := Lib.hid (below_and (LB.out w3) (LP.out (gb w3)))
          go_wp2_with fail
          refine (keep_any p' (-1) b1' b2' [] [] F0 X.ten HXO.out.t.1 HXO.out.t.2 X.text X.toRec (fb w3) (fp (gb w3)) (gp (gb w3)) (HT3.out.below LL3.out) idx0 HXO.out.x ((SB.out w3).below (LP.out _)) (SP.out _) (by have := SXX.out; show X.body.size ≤ _; omega) (by have := SXX.out; show X.reply.size ≤ _; omega) HXO.out.s (by decide)).mono ?_
          rintro e w4 ⟨rfl, hm, hk⟩
          rw [← HN1.out] at hm
          rw [← HE.out]
          have HT4 := Lib.hid hm
          have HS4 := Lib.hid ((HS3.out.below LL3.out).keep hk ND.out.2.1.1 ND.out.2.1.2.1 ND.out.2.1.2.2)
          have BX4 := Lib.hid ((BX3.out.below LL3.out).keep hk ((BX3.out.below LL3.out).ne (HT3.out.below LL3.out).now))
          have BY4 := Lib.hid ((BY3.out.below LL3.out).keep hk ((BY3.out.below LL3.out).ne (HT3.out.below LL3.out).now))
          have HB4 := Lib.hid ((HB3.out.trans (LL3.out.mono HB3.out.size)).trans (hk.below (B := w.heap.size) (Nat.le_trans HB3.out.size LL3.out.size) (fun i hi => by subst hi; exact ND.out.2.2)))
          clear hm hk d1 d2 d3 d4 d5 BX3 BY3 HS3 HT3
          obtain ⟨d1, d2, d3, d4, d5⟩ := BY4.out.stage LYB.out LYP.out
          have LL4 := Lib.hid (below_and (LYB.out w4) (LYP.out (gyb w4)))
          go_wp2_with fail
          refine (keep_any p (-1) b1 b2 n1 [] F1 Y.ten HYO.out.t.1 HYO.out.t.2 Y.text Y.toRec (fyb w4) (fyp (gyb w4)) (gyp (gyb w4)) (HS4.out.below LL4.out) I1.out HYO.out.x ((SYB.out w4).below (LYP.out _)) (SYP.out _) (by have := SYY.out; show Y.body.size ≤ _; omega) (by have := SYY.out; show Y.reply.size ≤ _; omega) HYO.out.s (by omega)).mono ?_
          rintro e w5 ⟨rfl, hm, hk⟩
          obtain ⟨n2, hn2⟩ : ∃ n2, n2 = keepA (-1) n1 F1 Y.ten Y.text Y.toRec := ⟨_, rfl⟩
          obtain ⟨F2, hF2⟩ : ∃ F2, F2 = keepF (-1) n1 F1 Y.ten Y.text Y.toRec := ⟨_, rfl⟩
          have I2 := Lib.hid (show Idx n2 F2 by rw [hn2, hF2]; exact keep_idx I1.out HYO.out.t.1 HYO.out.t.2 HYO.out.s)
          have HF2 := Lib.hid hF2
          rw [← hn2] at hm
          have HS5 := Lib.hid hm
          have HT5 := Lib.hid ((HT4.out.below LL4.out).keep hk ND.out.1.1 ND.out.1.2.1 ND.out.1.2.2)
          have BX5 := Lib.hid ((BX4.out.below LL4.out).keep hk ((BX4.out.below LL4.out).ne (HS4.out.below LL4.out).now))
          have HB5 := Lib.hid ((HB4.out.trans (LL4.out.mono HB4.out.size)).trans (hk.below (B := w.heap.size) (Nat.le_trans HB4.out.size LL4.out.size) (fun i hi => by subst hi; exact HP.out.2.1)))
          have HR := Lib.hid (show findR F2 X.ten X.text X.body = findR F1 X.ten X.text X.body by
            unfold findR
            rw [HF2.out, keepF_other NSS.out])
          have HQ := Lib.hid (show (findR F1 X.ten X.text X.body).2.1 = (E == 0) by
            unfold findR
            rw [KXX.out, if_neg (by decide)]
            have e0 := HE.out
            by_cases he : E = 0
            · rw [HF1.out, keepF_same (by rw [← e0]; exact he)]
              rw [he]
              unfold fr
              rw [if_neg (by simp)]
              show (if X.toRec.body = X.body then (X.toRec.reply, true, (0 : Int)) else (ByteArray.empty, false, 41)).2.1 = _
              rw [if_pos (show X.toRec.body = X.body from rfl)]; rfl
            · rw [HF1.out, keepF_not (by rw [← e0]; exact he)]
              show false = (E == 0)
              exact (beq_eq_false_iff_ne.2 he).symm)
          clear hm hk hn2 hF2 d1 d2 d3 d4 d5 BX4 BY4 HS4 HT4
          obtain ⟨d1, d2, d3, d4, d5⟩ := BX5.out.cells
          go_wp2_with fail
          refine (find_any p (-1) b1 b2 n2 [] F2 X.ten HXO.out.t.1 HXO.out.t.2 X.text X.body (fb w5) (gb w5) (HS5.out.below (LB.out w5)) I2.out HXO.out.x (SB.out w5)).mono ?_
          rintro e w6 ⟨u6, rfl, hu, hb⟩
          rw [HR.out] at hu ⊢
          have hb6 := below_and (LB.out w5) hb
          have HU6 := Lib.hid hu
          have HT6 := Lib.hid (HT5.out.below hb6)
          have BX6 := Lib.hid (BX5.out.below hb6)
          have HB6 := Lib.hid (HB5.out.trans (hb6.mono HB5.out.size))
          clear hu hb hb6 d1 d2 d3 d4 d5 BX5 HT5 HS5
          obtain ⟨d1, d2, d3, d4, d5⟩ := BX6.out.cells
          go_wp2_with fail
          refine (find_any p' (-1) b1' b2' n1 [] F1 X.ten HXO.out.t.1 HXO.out.t.2 X.text X.body (fb w6) (gb w6) (HT6.out.below (LB.out w6)) I1.out HXO.out.x (SB.out w6)).mono ?_
          rintro e w7 ⟨u7, rfl, hu, hb⟩
          have hb7 := below_and (LB.out w6) hb
          have cv1 := (HU6.out.below hb7).string (P := Try.prog) 23 5 9 uBytes uByte uStr
          have cv2 := hu.string (P := Try.prog) 23 5 9 uBytes uByte uStr
          have HB7 := Lib.hid (HB6.out.trans (hb7.mono HB6.out.size))
          rw [HQ.out]
          generalize (findR F1 X.ten X.text X.body).1 = R1 at cv1 cv2
          generalize (findR F1 X.ten X.text X.body).2.2 = R3
          clear hu hb hb7 d1 d2 d3 d4 d5 BX6 HT6 eb ep eyb eyp
          have q1 : (R1.toList == R1.toList) = true := by simp
          have q2 : ((E == 0) == (E == 0)) = true := by simp
          have q3 : (R3 == R3) = true := by simp
          go_wp2_with fail
          refine (HG.out _).mono ?_
          rintro e wf ⟨rfl, hb⟩
          have HBF := Lib.hid (HB7.out.trans (hb.mono HB7.out.size))
          clear hb
          go_wp2
          go_ret
          exact ⟨rfl, HBF.out⟩
end Go.Proofs.Ytiadoimdohnebaa
