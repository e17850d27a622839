/- The walk of IdemOnce. -/
import Derived.Test.YtiadoimdohnebaaLawIFinds
import Derived.Deep.DeepCutAuto
namespace Go.Proofs.Ytiadoimdohnebaa
open Go.RowKit
set_option maxRecDepth 100000
set_option linter.unusedVariables false
set_option linter.unusedSimpArgs false
set_option maxHeartbeats 4000000
theorem append_ne (s u : ByteArray) (h : 0 < u.size) : ¬ s = s ++ u := by
  intro e
  have := congrArg ByteArray.size e
  rw [size_append] at this
  omega
theorem findR_in {F : IxF} {t : Int} {x : ByteArray} {r : Rec} (hx : chk x = true) (hf : F t x = some r) : findR F t x r.body = (r.reply, true, 0) := by
  unfold findR
  rw [if_neg (by rw [hx]; decide), hf]
  unfold fr
  rw [if_neg (by simp)]
  show (if r.body = r.body then (r.reply, true, (0 : Int)) else _) = _
  rw [if_pos rfl]
theorem findR_out {F : IxF} {t : Int} {x b : ByteArray} {r : Rec} (hx : chk x = true) (hf : F t x = some r) (hb : ¬ r.body = b) : findR F t x b = (ByteArray.empty, false, 41) := by
  unfold findR
  rw [if_neg (by rw [hx]; decide), hf]
  unfold fr
  rw [if_neg (by simp)]
  show (if r.body = b then (r.reply, true, (0 : Int)) else _) = _
  rw [if_neg hb]
theorem seqR_in {F : IxF} {t : Int} {x : ByteArray} {r : Rec} (hx : chk x = true) (hf : F t x = some r) : seqR F t x = (r.seq, 0) := by
  unfold seqR
  rw [if_neg (by rw [hx]; decide), hf]
theorem ionce_any (lv : Value) (l : List A18) (x : A18) (w : World) (hL : AS8 w lv l) (hx : x.Ok) :
    Calls Try.prog 8 #[lv, .agg x.cells.toArray] w fun e w' => e = .returned (.bool true) ∧ Below w.heap.size w w' := by
  obtain ⟨la, lc, rfl⟩ : ∃ a c, lv = .slice a l.length c := by obtain ⟨a, c, h, _⟩ := hL; exact ⟨a, c, h⟩
  have HG := Lib.hid goes18
  have hb0 : Below w.heap.size w (w.alloc (.cells x.cells.toArray 59)) := (Below.refl _ _).alloc (Nat.le_refl _) _
  have GL := Lib.hid (great18_any _ l _ (hL.below hb0))
  have GX := Lib.hid (great18_any _ [x] _ (AS8.one (w.alloc (.cells x.cells.toArray 59)) x hx))
  have hb1 := hb0.alloc hb0.size (.cells #[.int .u8 x.doo, .int .u32 x.ten, .string x.text, .string x.body, .string x.reply, .int .u64 x.seq] 59)
  have hbox : Box8 ((w.alloc (.cells x.cells.toArray 59)).alloc (.cells #[.int .u8 x.doo, .int .u32 x.ten, .string x.text, .string x.body, .string x.reply, .int .u64 x.seq] 59)) w.heap.size x := blk_alloc (blk_new w _) _
  rw [show (w.alloc (.cells x.cells.toArray 59)).heap.size = w.heap.size + 1 by simp] at GX
  simp only [A18.cells] at GL GX hb0 hb1 hbox ⊢
  have HB0 := Lib.hid hb0
  have HB1 := Lib.hid hb1
  have BX1 := Lib.hid hbox
  have HX := Lib.hid hx
  have HL := Lib.hid hL
  clear hL hb0 hb1 hbox hx
  cases hg1 : gr18 l with
  | true =>
    have G := Lib.hid hg1
    clear hg1
    go_enter Try.func8, Try.ntmps8
    go_wp2_with fail
    refine GL.out.mono ?_
    rintro e w1 ⟨rfl, rfl⟩
    rw [G.out]
    go_wp2
    go_ret
    exact ⟨rfl, HB0.out⟩
  | false =>
    have G1 := Lib.hid hg1
    clear hg1
    cases hg2 : gr18 [x] with
    | true =>
      have G := Lib.hid hg2
      clear hg2
      go_enter Try.func8, Try.ntmps8
      go_wp2_with fail
      refine GL.out.mono ?_
      rintro e w1 ⟨rfl, rfl⟩
      rw [G1.out]
      go_wp2_with fail
      refine GX.out.mono ?_
      rintro e w1 ⟨rfl, rfl⟩
      rw [G.out]
      go_wp2
      go_ret
      exact ⟨rfl, HB1.out⟩
    | false =>
      have SX := Lib.hid (big18_false ((gr18_false hg2).2 0 x rfl))
      have SL := Lib.hid (gr18_false G1.out)
      have hll : l.length ≤ 100 := SL.out.1
      have G2 := Lib.hid hg2
      clear hg2
      obtain ⟨fb, gb, eb, sb, lb⟩ := conv_ex x.body (by have := SX.out; omega)
      obtain ⟨fp, gp, ep, sp, lp⟩ := conv_ex x.reply (by have := SX.out; omega)
      obtain ⟨fq, gq, eq, sq, lq⟩ := conv_ex (x.body ++ ⟨#[46]⟩) (by have := SX.out; rw [size_append, show (⟨#[46]⟩ : ByteArray).size = 1 from rfl]; omega)
      have SB := Lib.hid sb
      have LB := Lib.hid lb
      have SP := Lib.hid sp
      have LP := Lib.hid lp
      have SQ := Lib.hid sq
      have LQ := Lib.hid lq
      have hcat : ¬ 9223372036854775807 < x.body.size + 1 := by have := SX.out; omega
      have CX := Lib.hid (check_i x.text)
      clear sb lb sp lp sq lq
      go_enter Try.func8, Try.ntmps8
      go_wp2_with fail
      refine GL.out.mono ?_
      rintro e w1 ⟨rfl, rfl⟩
      rw [G1.out]
      go_wp2_with fail
      refine GX.out.mono ?_
      rintro e w1 ⟨rfl, rfl⟩
      rw [G2.out]
      go_wp2_with fail
      refine (new_any (-1) _).mono ?_
      rintro e w2 ⟨p, b1, b2, rfl, hp, hb1, hb2, hm, hb⟩
      have HS2 := Lib.hid hm
      have HB2 := Lib.hid (HB1.out.trans (hb.mono HB1.out.size))
      have BX2 := Lib.hid (BX1.out.below hb)
      have HP := Lib.hid (Nat.le_trans HB1.out.size hb1)
      clear hm hb hp hb1 hb2 GL GX BX1 HB0 HB1 G1 G2
      unfold pV
      obtain ⟨d1, d2, d3, d4, d5⟩ := BX2.out.stage LB.out LP.out
      have LL2 := Lib.hid (below_and (LB.out w2) (LP.out (gb w2)))
      go_wp2_with fail
      refine (keep_any p (-1) b1 b2 [] [] F0 x.ten HX.out.t.1 HX.out.t.2 x.text x.toRec (fb w2) (fp (gb w2)) (gp (gb w2)) (HS2.out.below LL2.out) idx0 HX.out.x ((SB.out w2).below (LP.out _)) (SP.out _) (by have := SX.out; show x.body.size ≤ _; omega) (by have := SX.out; show x.reply.size ≤ _; omega) HX.out.s (by decide)).mono ?_
      rintro e w3 ⟨rfl, hm, hk⟩
      have HS3 := Lib.hid hm
      have BX3 := Lib.hid ((BX2.out.below LL2.out).keep hk ((BX2.out.below LL2.out).ne (HS2.out.below LL2.out).now))
      have HB3 := Lib.hid ((HB2.out.trans (LL2.out.mono HB2.out.size)).trans (hk.below (B := w.heap.size) (Nat.le_trans HB2.out.size LL2.out.size) (fun i hi => by subst hi; exact HP.out)))
      clear hm hk d1 d2 d3 d4 d5 BX2 HS2
      have hE := keepE_is (r := x.toRec) (x := x.text) idx0 HX.out.t.1 HX.out.t.2
      rw [if_neg (show ¬ (F0 x.ten x.text).isSome = true by unfold F0; simp)] at hE
      obtain ⟨d1, d2, d3, d4, d5⟩ := BX3.out.cells
      by_cases hc : chk x.text = false
      · rw [if_pos hc] at hE
        rw [hE]
        have HC := Lib.hid hc
        clear hc hE
        go_wp2_with fail
        refine (CX.out _ HX.out.x).mono ?_
        rintro e w4 ⟨rfl, rfl⟩
        rw [HC.out]
        go_wp2_with fail
        refine (HG.out _).mono ?_
        rintro e wf ⟨rfl, hb⟩
        have HBF := Lib.hid (HB3.out.trans (hb.mono HB3.out.size))
        clear hb
        go_wp2
        go_ret
        exact ⟨rfl, HBF.out⟩
      · rw [if_neg hc] at hE
        have hct : chk x.text = true := by simpa using hc
        have HC := Lib.hid hct
        clear hc hct
        by_cases hlong : 900 < x.toRec.body.size + x.toRec.reply.size
        · rw [if_pos hlong] at hE
          rw [hE]
          clear hlong hE
          go_wp2_with fail
          refine (CX.out _ HX.out.x).mono ?_
          rintro e w4 ⟨rfl, rfl⟩
          rw [HC.out]
          go_wp2_with fail
          refine (HG.out _).mono ?_
          rintro e wf ⟨rfl, hb⟩
          have HBF := Lib.hid (HB3.out.trans (hb.mono HB3.out.size))
          clear hb
          go_wp2
          go_ret
          exact ⟨rfl, HBF.out⟩
        · rw [if_neg hlong] at hE
          rw [hE]
          have HH3 := Lib.hid (show ∃ now F, MemIs w3 p (-1) b1 b2 now [] ∧ Idx now F ∧ now.length ≤ 1 + 0 ∧ F x.ten x.text = some x.toRec from ⟨_, _, HS3.out, keep_idx idx0 HX.out.t.1 HX.out.t.2 HX.out.s, keepA_len, keepF_same hE⟩)
          clear hlong hE d1 d2 d3 d4 d5 HS3 CX
          go_wp2_with fail
          go_loopw [7] (fun i wr => ∃ j : Nat, j ≤ l.length ∧ i = .int .i64 j ∧ Hid (∃ now F, MemIs wr p (-1) b1 b2 now [] ∧ Idx now F ∧ now.length ≤ 1 + j ∧ F x.ten x.text = some x.toRec) ∧ Hid (Box8 wr w.heap.size x) ∧ Hid (Below w.heap.size w wr)) (fun i _ => l.length - (intOf i).toNat)
          case atStart => exact ⟨0, by omega, rfl, HH3, BX3, HB3⟩
          case round =>
            clear HH3 BX3 HB3
            obtain ⟨j, hj, rfl, HH, BX4, HB4⟩ := hrel
            obtain ⟨now, F, hS, hI, hn, hf⟩ := HH.out
            have HS4 := Lib.hid hS
            have HI := Lib.hid hI
            have HF := Lib.hid hf
            have hl : now.length ≤ 9223372036854775807 := by omega
            have HN := Lib.hid hn
            clear hS hI hf HH hn
            by_cases hlt : j < l.length
            · obtain ⟨a, ha⟩ : ∃ a, l[j]? = some a := ⟨_, List.getElem?_eq_getElem hlt⟩
              obtain ⟨lb, lo, hla, hok, c0, c1, c2, c3, c4, c5⟩ := (HL.out.below HB4.out).at_ ha
              subst hla
              have hsm := big18_false (SL.out.2 j a ha)
              have SA := Lib.hid hsm
              have HA := Lib.hid hok
              have i1 : decide ((j : Int) < (l.length : Int)) = true := decide_eq_true (by omega)
              have i2 : (j : Int) < (l.length : Int) := by omega
              obtain ⟨fab, gab, eab, sab, lab⟩ := conv_ex a.body (by omega)
              obtain ⟨far, gar, ear, sar, lar⟩ := conv_ex a.reply (by omega)
              have SAB := Lib.hid sab
              have LAB := Lib.hid lab
              have SAR := Lib.hid sar
              have LAR := Lib.hid lar
              have hO : Box8 (wr.alloc (.cells a.cells.toArray 59)) wr.heap.size a := blk_new _ _
              have hst := hO.stage LAB.out LAR.out
              have hbO : Below w.heap.size w (wr.alloc (.cells a.cells.toArray 59)) := HB4.out.alloc HB4.out.size _
              have hSO : MemIs (wr.alloc (.cells a.cells.toArray 59)) p (-1) b1 b2 now [] := HS4.out.alloc _
              have hXO : Box8 (wr.alloc (.cells a.cells.toArray 59)) w.heap.size x := BX4.out.below ((Below.refl _ _).alloc (Nat.le_refl _) _)
              simp only [A18.cells] at hO hst hbO hSO hXO
              obtain ⟨e1, e2, e3, e4, e5⟩ := hst
              have HO := Lib.hid hO
              have HBO := Lib.hid hbO
              have HSO := Lib.hid hSO
              have HXO := Lib.hid hXO
              have NX := Lib.hid (show ¬ wr.heap.size = w.heap.size by have := blk_lt BX4.out; omega)
              obtain ⟨O, hOO⟩ : ∃ O, O = wr.alloc (.cells #[.int .u8 a.doo, .int .u32 a.ten, .string a.text, .string a.body, .string a.reply, .int .u64 a.seq] 59) := ⟨_, rfl⟩
              have LL := Lib.hid (below_and (LAB.out O) (LAR.out (gab O)))
              rw [hOO] at LL
              clear hok ha hsm hO hbO hSO hXO sab lab sar lar hOO
              go_upto_region 11 with fail
              go_cut [99] (fun s99 wx => s99 = .bool false ∧ Hid (∃ now F, MemIs wx p (-1) b1 b2 now [] ∧ Idx now F ∧ now.length ≤ 1 + (j + 1) ∧ F x.ten x.text = some x.toRec) ∧ Hid (Box8 wx w.heap.size x) ∧ Hid (Below w.heap.size w wx))
              case first =>
                go_wp2_with fail
                refine (keep_any p (-1) b1 b2 now [] F a.ten HA.out.t.1 HA.out.t.2 a.text a.toRec (fab _) (far (gab _)) (gar (gab _)) (HSO.out.below LL.out) HI.out HA.out.x ((SAB.out _).below (LAR.out _)) (SAR.out _) (by have := SA.out; show a.body.size ≤ _; omega) (by have := SA.out; show a.reply.size ≤ _; omega) HA.out.s hl).mono ?_
                rintro e w5 ⟨rfl, hm, hk⟩
                obtain ⟨E, hE⟩ : ∃ E, E = keepE (-1) now F a.ten a.text a.toRec := ⟨_, rfl⟩
                obtain ⟨n5, hn5⟩ : ∃ n5, n5 = keepA (-1) now F a.ten a.text a.toRec := ⟨_, rfl⟩
                obtain ⟨F5, hF5⟩ : ∃ F5, F5 = keepF (-1) now F a.ten a.text a.toRec := ⟨_, rfl⟩
                have I5 := Lib.hid (show Idx n5 F5 by rw [hn5, hF5]; exact keep_idx HI.out HA.out.t.1 HA.out.t.2 HA.out.s)
                have hl5 : n5.length ≤ 1 + (j + 1) := by have := HN.out; rw [hn5]; exact Nat.le_trans keepA_len (by omega)
                have HF5 := Lib.hid (show F5 x.ten x.text = some x.toRec by rw [hF5]; exact keepF_stays HC.out HF.out)
                have HQ := Lib.hid (show E = 0 → ¬ (a.ten = x.ten ∧ a.text = x.text) from by
                  intro h0 hh
                  rw [hE, hh.1, hh.2, keepE_twice HC.out HF.out] at h0
                  cases h0)
                rw [← hn5] at hm
                rw [← hE]
                have HS5 := Lib.hid hm
                have BA5 := Lib.hid ((HO.out.below LL.out).keep hk ((HO.out.below LL.out).ne (HSO.out.below LL.out).now))
                have BX5 := Lib.hid ((HXO.out.below LL.out).keep hk ((HXO.out.below LL.out).ne (HSO.out.below LL.out).now))
                have HB5 := Lib.hid ((HBO.out.trans (LL.out.mono HBO.out.size)).trans (hk.below (B := w.heap.size) (Nat.le_trans HBO.out.size LL.out.size) (fun i hi => by subst hi; exact HP.out)))
                have L5 := Lib.hid hl5
                clear hm hk hE hn5 hF5 hl5 e1 e2 e3 e4 e5 c0 c1 c2 c3 c4 c5 HO HBO HSO HXO LL HS4 BX4 HB4
                have HH5 := Lib.hid (show ∃ now F, MemIs w5 p (-1) b1 b2 now [] ∧ Idx now F ∧ now.length ≤ 1 + (j + 1) ∧ F x.ten x.text = some x.toRec from ⟨_, _, HS5.out, I5.out, L5.out, HF5.out⟩)
                obtain ⟨d1, d2, d3, d4, d5⟩ := BX5.out.cells
                obtain ⟨e1, e2, e3, e4, e5⟩ := BA5.out.cells
                have TT := Lib.hid (show ((E == 0) = false) ∨ ((E == 0) = true ∧ (a.ten == x.ten) = false) ∨ ((E == 0) = true ∧ (a.ten == x.ten) = true ∧ (a.text.toList == x.text.toList) = false) from by
                  by_cases h : E = 0
                  · have hn := HQ.out h
                    by_cases ht : a.ten = x.ten
                    · exact .inr (.inr ⟨beq_iff_eq.2 h, beq_iff_eq.2 ht, by rw [seq_iff]; exact decide_eq_false (fun h' => hn ⟨ht, h'⟩)⟩)
                    · exact .inr (.inl ⟨beq_iff_eq.2 h, beq_eq_false_iff_ne.2 ht⟩)
                  · exact .inl (beq_eq_false_iff_ne.2 h))
                rcases TT.out with t1 | ⟨t1, t2⟩ | ⟨t1, t2, t3⟩
                · go_wp2_with fail
                  go_meet
                  exact ⟨rfl, HH5, BX5, HB5⟩
                · go_wp2_with fail
                  go_meet
                  exact ⟨rfl, HH5, BX5, HB5⟩
                · go_wp2_with fail
                  go_meet
                  exact ⟨rfl, HH5, BX5, HB5⟩
              case rest =>
                obtain ⟨rfl, HH5, BX5, HB5⟩ := hcut
                obtain ⟨n5, F5, hS5, hI5, hn5, hf5⟩ := HH5.out
                have HS5 := Lib.hid hS5
                have I5 := Lib.hid hI5
                have HF5 := Lib.hid hf5
                have HN5 := Lib.hid hn5
                clear hS5 hI5 hn5 hf5 e1 e2 e3 e4 e5 c0 c1 c2 c3 c4 c5 HO HBO HSO HXO LL HS4 BX4 HB4
                obtain ⟨d1, d2, d3, d4, d5⟩ := BX5.out.cells
                go_wp2_with fail
                refine (find_any p (-1) b1 b2 n5 [] F5 x.ten HX.out.t.1 HX.out.t.2 x.text x.body (fb wc) (gb wc) (HS5.out.below (LB.out wc)) I5.out HX.out.x (SB.out wc)).mono ?_
                rintro e w6 ⟨u6, rfl, hu, hb⟩
                rw [show findR F5 x.ten x.text x.body = (x.reply, true, 0) from findR_in HC.out HF5.out] at hu ⊢
                have hb6 := below_and (LB.out wc) hb
                have HU6 := Lib.hid hu
                have HS6 := Lib.hid (HS5.out.below hb6)
                have BX6 := Lib.hid (BX5.out.below hb6)
                have HB6 := Lib.hid (HB5.out.trans (hb6.mono HB5.out.size))
                clear hu hb hb6 d1 d2 d3 d4 d5 HS5 BX5 HB5 HH5
                obtain ⟨d1, d2, d3, d4, d5⟩ := BX6.out.cells
                go_wp2_with fail
                refine (seq_any p (-1) b1 b2 n5 [] F5 x.ten HX.out.t.1 HX.out.t.2 x.text w6 HS6.out I5.out HX.out.x).mono ?_
                rintro e w7 ⟨rfl, hb⟩
                rw [show seqR F5 x.ten x.text = (x.seq, 0) from seqR_in HC.out HF5.out]
                have cv := (HU6.out.below hb).string (P := Try.prog) 23 5 9 uBytes uByte uStr
                have HS7 := Lib.hid (HS6.out.below hb)
                have BX7 := Lib.hid (BX6.out.below hb)
                have HB7 := Lib.hid (HB6.out.trans (hb.mono HB6.out.size))
                clear hb d1 d2 d3 d4 d5 HS6 BX6 HB6 HU6
                obtain ⟨d1, d2, d3, d4, d5⟩ := BX7.out.cells
                have q1 : (x.reply.toList != x.reply.toList) = false := by simp
                have q2 : (x.seq != x.seq) = false := by simp
                go_wp2_with fail
                refine (find_any p (-1) b1 b2 n5 [] F5 x.ten HX.out.t.1 HX.out.t.2 x.text (x.body ++ ⟨#[46]⟩) (fq w7) (gq w7) (HS7.out.below (LQ.out w7)) I5.out HX.out.x (SQ.out w7)).mono ?_
                rintro e w8 ⟨u8, rfl, hu, hb⟩
                rw [show findR F5 x.ten x.text (x.body ++ ⟨#[46]⟩) = (ByteArray.empty, false, 41) from findR_out HC.out HF5.out (append_ne x.body ⟨#[46]⟩ (by decide))] at hu ⊢
                obtain ⟨ua, uc, rfl, _⟩ := hu.len2 (n := 0) rfl
                have hb8 := below_and (LQ.out w7) hb
                have HH8 := Lib.hid (show ∃ now F, MemIs w8 p (-1) b1 b2 now [] ∧ Idx now F ∧ now.length ≤ 1 + (j + 1) ∧ F x.ten x.text = some x.toRec from ⟨n5, F5, HS7.out.below hb8, I5.out, HN5.out, HF5.out⟩)
                have BX8 := Lib.hid (BX7.out.below hb8)
                have HB8 := Lib.hid (HB7.out.trans (hb8.mono HB7.out.size))
                clear hu hb hb8 d1 d2 d3 d4 d5 HS7 BX7 HB7 cv
                go_wp2_with fail
                go_roundw
                case rel => exact ⟨j + 1, by omega, by go_num, HH8, BX8, HB8⟩
                case measure => simp [intOf]; omega
            · have i1 : decide ((j : Int) < (l.length : Int)) = false := decide_eq_false (by omega)
              go_wp2_with fail
              refine (HG.out _).mono ?_
              rintro e wf ⟨rfl, hb⟩
              have HBF := Lib.hid (HB4.out.trans (hb.mono HB4.out.size))
              clear hb
              go_wp2
              go_ret
              exact ⟨rfl, HBF.out⟩
end Go.Proofs.Ytiadoimdohnebaa
