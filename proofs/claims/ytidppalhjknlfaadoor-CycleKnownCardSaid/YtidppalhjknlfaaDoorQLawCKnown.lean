/- The walk of CycleKnown. (Printed by wip/gen/cknown.py.) -/
import Derived.Test.YtidppalhjknlfaaDoorQLawCOnce
import Derived.Test.YtidppalhjknlfaaDoorQCKn
namespace Go.Proofs.YtidppalhjknlfaaDoor
open Go.RowKit
set_option maxRecDepth 100000
set_option maxHeartbeats 2000000
set_option linter.unusedVariables false
set_option linter.unusedSimpArgs false
theorem cycleknown_any (w : World) (hT : Tab w) :
    Calls Tryd.prog 7 #[] w fun e w' => e = .returned (.bool true) ∧ Below w.heap.size w w' := by
  have HT := Lib.hid hT
  have P0 := Lib.hid plan_any
  have HGO := Lib.hid fun (X : World) (hb : Below w.heap.size w X) => goes21 X (hT.below hb (Nat.le_refl _))
  have HMD := Lib.hid fun (X : World) (hb : Below w.heap.size w X) => made21_any (.slice none 0 0) [] X (hT.below hb (Nat.le_refl _)) (AS21.nil X) (by simp)
  have OP := Lib.hid fun (p b1 b2 m : Nat) (ts : List Tn) (t s i d : Int) (ht : U32 t) (hi : U32 i) (X : World) (h : CB X p b1 b2 ps12 ts m) (hm : m + 2 ≤ 1000000) (hb : Below w.heap.size w X) => copn_any p b1 b2 m ps12 ts t s i d ht hi X h hm (hT.below hb (Nat.le_refl _))
  have CH := Lib.hid fun (p b1 b2 m : Nat) (ts : List Tn) (t i d : Int) (ht : U32 t) (hi : U32 i) (X : World) (h : CB X p b1 b2 ps12 ts m) (hm : m + 1 ≤ 1000000) (hb : Below w.heap.size w X) => cchg_any p b1 b2 m ps12 ts t i d ht hi X h hm (hT.below hb (Nat.le_refl _))
  have DF := Lib.hid fun (p b1 b2 m : Nat) (ts : List Tn) (P : Pl) (hP : P.Ok) (v : Value) (X : World) (h : CB X p b1 b2 ps12 ts m) (hm : m + 1 ≤ 1000000) (hv : GR shT X v P.tiers) => cdef_any p b1 b2 m ps12 ts P hP v X h hm hv
  unfold sV pV at OP CH DF
  unfold Pl.val at DF
  have hB0 := Lib.hid (Below.refl w.heap.size w)
  clear hT
  go_enter Tryd.func7, Tryd.ntmps7
  go_wp2_with fail
  refine (HMD.out w hB0.out).mono ?_
  rintro e w1 ⟨p, b1, b2, rfl, hpb, hcb, hb⟩
  have HC1 := Lib.hid (show CB w1 p b1 b2 ps12 [] 2 from hcb)
  have HB1 := Lib.hid hb
  have HP := Lib.hid hpb
  clear hpb hcb hb

  go_upto_region 4 with (first
    | (go_at_call 20; refine (OP.out p b1 b2 2 [] 0 0 1 9 (u32 0 (by decide) (by decide)) (u32 1 (by decide) (by decide)) w1 HC1.out (by decide) HB1.out).mono ?_; rw [ko1.1, ko1.2]; rintro e w2 ⟨rfl, h, hk⟩
       have HC2 := Lib.hid h
       have HB2 := Lib.hid (HB1.out.trans (hk.below (B := w.heap.size) HB1.out.size (fun i hi => by subst hi; exact HP.out)))
       clear h hk HC1)
    | (go_at_call 20; refine (OP.out p b1 b2 4 [] 7 901 1 9 (u32 7 (by decide) (by decide)) (u32 1 (by decide) (by decide)) w2 HC2.out (by decide) HB2.out).mono ?_; rw [ko2.1, ko2.2]; rintro e w3 ⟨rfl, h, hk⟩
       have HC3 := Lib.hid h
       have HB3 := Lib.hid (HB2.out.trans (hk.below (B := w.heap.size) HB2.out.size (fun i hi => by subst hi; exact HP.out)))
       clear h hk HC2)
    | (go_at_call 20; refine (OP.out p b1 b2 6 [] 7 0 1 1099511627776 (u32 7 (by decide) (by decide)) (u32 1 (by decide) (by decide)) w3 HC3.out (by decide) HB3.out).mono ?_; rw [ko3.1, ko3.2]; rintro e w4 ⟨rfl, h, hk⟩
       have HC4 := Lib.hid h
       have HB4 := Lib.hid (HB3.out.trans (hk.below (B := w.heap.size) HB3.out.size (fun i hi => by subst hi; exact HP.out)))
       clear h hk HC3)
    | (go_at_call 20; refine (OP.out p b1 b2 8 [] 7 0 9 9 (u32 7 (by decide) (by decide)) (u32 9 (by decide) (by decide)) w4 HC4.out (by decide) HB4.out).mono ?_; rw [ko4.1, ko4.2]; rintro e w5 ⟨rfl, h, hk⟩
       have HC5 := Lib.hid h
       have HB5 := Lib.hid (HB4.out.trans (hk.below (B := w.heap.size) HB4.out.size (fun i hi => by subst hi; exact HP.out)))
       clear h hk HC4)
    | (go_at_call 20; refine (OP.out p b1 b2 10 [] 7 0 1 9 (u32 7 (by decide) (by decide)) (u32 1 (by decide) (by decide)) w5 HC5.out (by decide) HB5.out).mono ?_; rw [g_open.1, g_open.2]; rintro e w6 ⟨rfl, h, hk⟩
       have HC6 := Lib.hid h
       have HB6 := Lib.hid (HB5.out.trans (hk.below (B := w.heap.size) HB5.out.size (fun i hi => by subst hi; exact HP.out)))
       clear h hk HC5)
    | (go_at_call 20; refine (OP.out p b1 b2 12 g1 7 0 1 9 (u32 7 (by decide) (by decide)) (u32 1 (by decide) (by decide)) w6 HC6.out (by decide) HB6.out).mono ?_; rw [ko6.1, ko6.2]; rintro e w7 ⟨rfl, h, hk⟩
       have HC7 := Lib.hid h
       have HB7 := Lib.hid (HB6.out.trans (hk.below (B := w.heap.size) HB6.out.size (fun i hi => by subst hi; exact HP.out)))
       clear h hk HC6))

  go_upto_region 6 with (first
    | (go_at_call 21; refine (CH.out p b1 b2 14 g1 8 1 9 (u32 8 (by decide) (by decide)) (u32 1 (by decide) (by decide)) w7 HC7.out (by decide) HB7.out).mono ?_; rw [kc1.1, kc1.2]; rintro e w8 ⟨rfl, h, hk⟩
       have HC8 := Lib.hid h
       have HB8 := Lib.hid (HB7.out.trans (hk.below (B := w.heap.size) HB7.out.size (fun i hi => by subst hi; exact HP.out)))
       clear h hk HC7)
    | (go_at_call 21; refine (CH.out p b1 b2 15 g1 7 9 9 (u32 7 (by decide) (by decide)) (u32 9 (by decide) (by decide)) w8 HC8.out (by decide) HB8.out).mono ?_; rw [kc2.1, kc2.2]; rintro e w9 ⟨rfl, h, hk⟩
       have HC9 := Lib.hid h
       have HB9 := Lib.hid (HB8.out.trans (hk.below (B := w.heap.size) HB8.out.size (fun i hi => by subst hi; exact HP.out)))
       clear h hk HC8)
    | (go_at_call 21; refine (CH.out p b1 b2 16 g1 7 1 8 (u32 7 (by decide) (by decide)) (u32 1 (by decide) (by decide)) w9 HC9.out (by decide) HB9.out).mono ?_; rw [kc3.1, kc3.2]; rintro e w10 ⟨rfl, h, hk⟩
       have HC10 := Lib.hid h
       have HB10 := Lib.hid (HB9.out.trans (hk.below (B := w.heap.size) HB9.out.size (fun i hi => by subst hi; exact HP.out)))
       clear h hk HC9)
    | (go_at_call 21; refine (CH.out p b1 b2 17 g1 7 2 9 (u32 7 (by decide) (by decide)) (u32 2 (by decide) (by decide)) w10 HC10.out (by decide) HB10.out).mono ?_; rw [kc4.1, kc4.2]; rintro e w11 ⟨rfl, h, hk⟩
       have HC11 := Lib.hid h
       have HB11 := Lib.hid (HB10.out.trans (hk.below (B := w.heap.size) HB10.out.size (fun i hi => by subst hi; exact HP.out)))
       clear h hk HC10)
    | (go_at_call 21; refine (CH.out p b1 b2 18 k1 7 1 1099511627776 (u32 7 (by decide) (by decide)) (u32 1 (by decide) (by decide)) w11 HC11.out (by decide) HB11.out).mono ?_; rw [kc5.1, kc5.2]; rintro e w12 ⟨rfl, h, hk⟩
       have HC12 := Lib.hid h
       have HB12 := Lib.hid (HB11.out.trans (hk.below (B := w.heap.size) HB11.out.size (fun i hi => by subst hi; exact HP.out)))
       clear h hk HC11)
    | (go_at_call 22; refine (P0.out 2 w12).mono ?_; rintro e w13 ⟨a13, c13, rfl, hg, hb⟩
       have G13 := Lib.hid hg
       have HB13 := Lib.hid (HB12.out.trans (hb.mono HB12.out.size))
       have HC13 := Lib.hid (HC12.out.below hb)
       clear hg hb HC12)
    | (go_at_call 19; refine (DF.out p b1 b2 19 k1 (planP 2) (planP_ok 2 (by decide)) (.slice a13 1 c13) w13 HC13.out (by decide) G13.out).mono ?_; rw [kd2.1, kd2.2]; rintro e w14 ⟨rfl, h, hk⟩
       have HC14 := Lib.hid h
       have HB14 := Lib.hid (HB13.out.trans (hk.below (B := w.heap.size) HB13.out.size (fun i hi => by subst hi; exact HP.out)))
       clear h hk HC13 G13)
    | (go_at_call 22; refine (P0.out 0 w14).mono ?_; rintro e w15 ⟨a15, c15, rfl, hg, hb⟩
       have G15 := Lib.hid hg
       have HB15 := Lib.hid (HB14.out.trans (hb.mono HB14.out.size))
       have HC15 := Lib.hid (HC14.out.below hb)
       clear hg hb HC14)
    | (go_at_call 19; refine (DF.out p b1 b2 20 k1 (planP 0) (planP_ok 0 (by decide)) (.slice a15 1 c15) w15 HC15.out (by decide) G15.out).mono ?_; rw [kd0.1, kd0.2]; rintro e w16 ⟨rfl, h, hk⟩
       have HC16 := Lib.hid h
       have HB16 := Lib.hid (HB15.out.trans (hk.below (B := w.heap.size) HB15.out.size (fun i hi => by subst hi; exact HP.out)))
       clear h hk HC15 G15))

  clear OP DF
  have OP := Lib.hid fun (p b1 b2 m : Nat) (ts : List Tn) (t s i d : Int) (ht : U32 t) (hi : U32 i) (X : World) (h : CB X p b1 b2 ps12 ts m) (hm : m + 2 ≤ 1000000) (hb : Below w.heap.size w X) => copn_any p b1 b2 m ps12 ts t s i d ht hi X h hm (HT.out.below hb (Nat.le_refl _))
  unfold sV pV at OP
  go_wp2_with fail
  refine (HMD.out w16 HB16.out).mono ?_
  rintro e v1 ⟨q, c1, c2, rfl, hpb, hcb, hb⟩
  have KC1 := Lib.hid (show CB v1 q c1 c2 ps12 [] 2 from hcb)
  have VB1 := Lib.hid hb
  have HQ := Lib.hid hpb
  have hs := HB16.out.size
  clear hpb hcb hb
  go_wp2_with fail
  refine (OP.out q c1 c2 2 [] 7 0 1 0 (u32 7 (by decide) (by decide)) (u32 1 (by decide) (by decide)) v1 KC1.out (by decide) (HB16.out.trans (VB1.out.mono hs))).mono ?_
  rw [kt_open.1, kt_open.2]
  rintro e v2 ⟨rfl, h, hk⟩
  have VC2 := Lib.hid h
  have VB2 := Lib.hid (VB1.out.trans (hk.below (B := w16.heap.size) VB1.out.size (fun i hi => by subst hi; exact HQ.out)))
  clear h hk KC1 VB1 OP
  go_wp2_with fail
  go_loopw [3] (fun i wr => ∃ j : Nat, 1 ≤ j ∧ j ≤ 31 ∧ i = .int .i64 j ∧ Hid (CB wr q c1 c2 ps12 (kt (min (j - 1) 23)) (4 + j)) ∧ Hid (Below w16.heap.size w16 wr)) (fun i _ => 31 - (intOf i).toNat)
  case atStart => exact ⟨1, by omega, by omega, rfl, Lib.hid (VC2.out.mono (by omega) (by omega)), VB2⟩
  case round =>
    clear VC2 VB2
    obtain ⟨j, hj1, hj2, rfl, VC, VB⟩ := hrel
    have hww := HB16.out.trans (VB.out.mono hs)
    have HWW := Lib.hid hww
    have hvs := VB.out.size
    clear hww
    by_cases hlt : j < 31
    · have i1 : (j : Int) < 31 := by omega
      by_cases h23 : j ≤ 23
      · have hc := CH.out q c1 c2 (4 + j) (kt (min (j - 1) 23)) 7 2 (j : Int) (u32 7 (by decide) (by decide)) (u32 2 (by decide) (by decide)) wr VC.out (by omega) HWW.out
        rw [(kt_lt2 j hj1 h23).1, (kt_lt2 j hj1 h23).2] at hc
        have HCC := Lib.hid hc
        have i2 : ¬ (j : Int) > 23 := by omega
        clear hc
        go_wp2_with fail
        refine HCC.out.mono ?_
        rintro e v3 ⟨rfl, h, hk⟩
        have VC3 := Lib.hid (show CB v3 q c1 c2 ps12 (kt (min (j + 1 - 1) 23)) (4 + (j + 1)) by rw [Nat.add_sub_cancel]; exact h.mono (by omega) (by omega))
        have VB3 := Lib.hid (VB.out.trans (hk.below (B := w16.heap.size) hvs (fun i hi => by subst hi; exact HQ.out)))
        clear h hk
        go_wp2_with fail
        go_roundw
        case rel => exact ⟨j + 1, by omega, by omega, by go_num, VC3, VB3⟩
        case measure => simp [intOf]; omega
      · have hc := CH.out q c1 c2 (4 + j) (kt (min (j - 1) 23)) 7 2 (j : Int) (u32 7 (by decide) (by decide)) (u32 2 (by decide) (by decide)) wr VC.out (by omega) HWW.out
        rw [show min (j - 1) 23 = 23 by omega, (kt_ge (j : Int) (by omega) (by omega)).1, (kt_ge (j : Int) (by omega) (by omega)).2] at hc
        have HCC := Lib.hid hc
        have i2 : (j : Int) > 23 := by omega
        clear hc
        go_wp2_with fail
        refine HCC.out.mono ?_
        rintro e v3 ⟨rfl, h, hk⟩
        have VC3 := Lib.hid (show CB v3 q c1 c2 ps12 (kt (min (j + 1 - 1) 23)) (4 + (j + 1)) by rw [show min (j + 1 - 1) 23 = 23 by omega]; exact h.mono (by omega) (by omega))
        have VB3 := Lib.hid (VB.out.trans (hk.below (B := w16.heap.size) hvs (fun i hi => by subst hi; exact HQ.out)))
        clear h hk
        go_wp2_with fail
        go_roundw
        case rel => exact ⟨j + 1, by omega, by omega, by go_num, VC3, VB3⟩
        case measure => simp [intOf]; omega
    · obtain rfl : j = 31 := by omega
      have VCf := Lib.hid (show CB wr q c1 c2 ps12 (kt 23) 35 from VC.out)
      have u7 : U32 7 := u32 7 (by decide) (by decide)
      have A9 := Lib.hid fun (X : World) (h : CB X p b1 b2 ps12 k1 21) => cat_any p b1 b2 21 ps12 k1 7 9 u7 X h
      have M1 := Lib.hid fun (X : World) (h : CB X p b1 b2 ps12 k1 21) (hT : Tab X) => cmon_any p b1 b2 21 ps12 k1 7 23641 u7 X h hT
      have M2 := Lib.hid fun (X : World) (h : CB X p b1 b2 ps12 k1 21) (hT : Tab X) => cmon_any p b1 b2 21 ps12 k1 7 23639 u7 X h hT
      have M3 := Lib.hid fun (X : World) (h : CB X p b1 b2 ps12 k1 21) (hT : Tab X) => cmon_any p b1 b2 21 ps12 k1 7 11 u7 X h hT
      have P9 := Lib.hid fun (X : World) (h : CB X p b1 b2 ps12 k1 21) => cplan_no p b1 b2 21 ps12 k1 9 (u32 9 (by decide) (by decide)) X h k_p9
      have DY := Lib.hid fun (X : World) (hT : Tab X) => cdays_any (.slice none 0 0) [] 23640 X hT (GR.nil X) (by simp) (by simp)
      rw [k_at, show atV (some 2) = 2 from rfl, show atE (some 2) = 0 from rfl] at A9
      rw [k_m1.1, k_m1.2] at M1
      rw [k_m2] at M2
      rw [k_m3] at M3
      rw [show daysV [] 23640 = [] from rfl] at DY
      unfold sV pV at A9 M1 M2 M3 P9
      unfold Pl.val Pl.zero at P9
      have HCs := Lib.hid fun (X : World) (hb : Below w16.heap.size w16 X) => HC16.out.below hb
      clear VC HC16
      go_upto_region 18 with (first
        | (go_at_call 21; refine (CH.out q c1 c2 35 (kt 23) 7 1 23 (u32 7 (by decide) (by decide)) (u32 1 (by decide) (by decide)) wr VCf.out (by decide) HWW.out).mono ?_; rw [kt_eq.1, kt_eq.2]; rintro e v3 ⟨rfl, h, hk⟩
           have VC3 := Lib.hid h
           have VB3 := Lib.hid (VB.out.trans (hk.below (B := w16.heap.size) hvs (fun i hi => by subst hi; exact HQ.out)))
           clear h hk VCf)
        | (go_at_call 21; refine (CH.out q c1 c2 36 kz 7 1 31 (u32 7 (by decide) (by decide)) (u32 1 (by decide) (by decide)) v3 VC3.out (by decide) (HB16.out.trans (VB3.out.mono hs))).mono ?_; rw [kz_any 31 (by decide) (by decide)]; rintro e v4 ⟨rfl, h, hk⟩
           have VB4 := Lib.hid (VB3.out.trans (hk.below (B := w16.heap.size) VB3.out.size (fun i hi => by subst hi; exact HQ.out)))
           clear h hk VC3))
      go_wp2_with fail
      refine (A9.out v4 (HCs.out v4 VB4.out)).mono ?_
      rintro e v5 ⟨rfl, hb⟩
      have VB5 := Lib.hid (VB4.out.trans (hb.mono VB4.out.size))
      clear hb A9
      go_wp2_with fail
      refine (jan_any _).mono ?_
      rintro e w' ⟨rfl, hw⟩
      obtain rfl := hw.symm
      clear hw
      go_wp2_with fail
      refine (M1.out v5 (HCs.out v5 VB5.out) (HT.out.below (HB16.out.trans (VB5.out.mono hs)) (Nat.le_refl _))).mono ?_
      rintro e v6 ⟨x6, rfl, hg, hb⟩
      have VB6 := Lib.hid (VB5.out.trans (hb.mono VB5.out.size))
      obtain ⟨ga, offa, capa, rfl, c0, c1'⟩ := hg.at2s (i := 0) rfl
      have HG6 := Lib.hid hg
      clear hb hg M1 c0 c1'
      go_wp2_with fail
      refine (jan_any _).mono ?_
      rintro e w' ⟨rfl, hw⟩
      obtain rfl := hw.symm
      clear hw
      go_wp2_with fail
      refine (M2.out v6 (HCs.out v6 VB6.out) (HT.out.below (HB16.out.trans (VB6.out.mono hs)) (Nat.le_refl _))).mono ?_
      rintro e v7 ⟨x7, rfl, hg, hb⟩
      have VB7 := Lib.hid (VB6.out.trans (hb.mono VB6.out.size))
      have HG7 := Lib.hid (HG6.out.below hb)
      obtain ⟨a7, c7, rfl, _, _, _⟩ := hg.shape
      clear hb hg M2 HG6
      go_wp2_with fail
      refine (M3.out v7 (HCs.out v7 VB7.out) (HT.out.below (HB16.out.trans (VB7.out.mono hs)) (Nat.le_refl _))).mono ?_
      rintro e v8 ⟨x8, rfl, hg, hb⟩
      have VB8 := Lib.hid (VB7.out.trans (hb.mono VB7.out.size))
      have HG8 := Lib.hid (HG7.out.below hb)
      obtain ⟨a8, c8, rfl, _, _, _⟩ := hg.shape
      clear hb hg M3 HG7
      go_wp2_with fail
      refine (P9.out v8 (HCs.out v8 VB8.out)).mono ?_
      rintro e v9 ⟨rfl, hb⟩
      have hba := hb.alloc hb.size (.cells #[.int .u32 0, .int .i64 0, .int .i64 0, .int .i64 0, .int .i64 0, .int .i64 0, .slice none 0 0] 48)
      have HB9 := Lib.hid (HB16.out.trans ((VB8.out.trans (hba.mono VB8.out.size)).mono hs))
      have HG9 := HG8.out.below hba
      obtain ⟨ga', offa', capa', he, c0, c1'⟩ := HG9.at2s (i := 0) rfl
      injection he with he hx1 hx2
      injection he with he
      injection he with e1 e2
      subst e1; subst e2
      rw [Nat.zero_mul, Nat.add_zero] at c0 c1'
      dsimp only at c0 c1'
      clear hb hba P9 HG8 HG9 hx1 hx2
      go_wp2_with (first
        | (go_at_call 23; refine (jan_any _).mono ?_; rintro e w' ⟨rfl, hw⟩; obtain rfl := hw.symm; clear hw)
        | (go_at_call 8; refine (DY.out _ (HT.out.below HB9.out (Nat.le_refl _))).mono ?_; rintro e v10 ⟨x10, rfl, hg, hb⟩
           obtain ⟨a10, c10, rfl, _, _, _⟩ := hg.shape
           have HB10 := Lib.hid (HB9.out.trans (hb.mono HB9.out.size))
           clear hb hg DY)
        | (go_at_call 10; refine (HGO.out _ HB10.out).mono ?_; rintro e v11 ⟨rfl, hb⟩
           have HB11 := Lib.hid (HB10.out.trans (hb.mono HB10.out.size))
           clear hb))
      go_ret
      exact ⟨rfl, HB11.out⟩
end Go.Proofs.YtidppalhjknlfaaDoor
