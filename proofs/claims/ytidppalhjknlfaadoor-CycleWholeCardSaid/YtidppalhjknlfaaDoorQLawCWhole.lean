/- The walk of CycleWhole. -/
import Derived.Test.YtidppalhjknlfaaDoorQLawCOnce
import Derived.Test.YtidppalhjknlfaaDoorQCyWhole
namespace Go.Proofs.YtidppalhjknlfaaDoor
open Go.RowKit
set_option maxRecDepth 100000
set_option maxHeartbeats 4000000
set_option linter.unusedVariables false
set_option linter.unusedSimpArgs false
theorem cyclewhole_any (v : Value) (l : List A21) (t M : Int) (ht : U32 t) (w : World) (hT : Tab w) (hv : AS21 w v l) :
    Calls Tryd.prog 4 #[v, .int .u32 t, .int .i64 M] w fun e w' => e = .returned (.bool true) ∧ Below w.heap.size w w' := by
  obtain ⟨a, c, rfl, hlc, hcm, _⟩ := hv.1.shape
  have HG1 := Lib.hid (great21_any _ l w hv.1)
  have HMD := Lib.hid fun (hl : l.length ≤ 100) (X : World) (hb : Below w.heap.size w X) => made21_any _ l X (hT.below hb (Nat.le_refl _)) (hv.below hb) hl
  have HGO := Lib.hid fun (X : World) (hb : Below w.heap.size w X) => goes21 X (hT.below hb (Nat.le_refl _))
  have HT := Lib.hid fun (X : World) (hb : Below w.heap.size w X) => show Tab X from hT.below hb (Nat.le_refl _)
  obtain ⟨b, hb1⟩ : ∃ b, b = greatB l := ⟨_, rfl⟩
  rw [← hb1] at HG1
  have HB1 := Lib.hid hb1
  clear hv hT hb1
  go_enter Tryd.func4, Tryd.ntmps4
  cases b with
  | true =>
    go_wp2_with (go_at_call 11; refine HG1.out.mono ?_; rintro e w1 ⟨rfl, hw⟩; obtain rfl := hw.symm)
    go_ret
    exact ⟨rfl, Below.refl _ _⟩
  | false =>
    go_upto_region 3 with (go_at_call 11; refine HG1.out.mono ?_; rintro e w1 ⟨rfl, hw⟩; obtain rfl := hw.symm; clear hw HG1)
    have hll := greatB_no HB1.out.symm
    go_wp2_with fail
    refine (HMD.out hll w (Below.refl _ _)).mono ?_
    rintro e w4 ⟨p, b1, b2, rfl, hpb, hcb, hb⟩
    obtain ⟨m, hm⟩ : ∃ m, m = 2 + 2 * l.length := ⟨_, rfl⟩
    rw [← hm] at hcb
    have hm2 : m ≤ 202 := by omega
    obtain ⟨ps, hps⟩ : ∃ ps, ps = (madeB l).1 := ⟨_, rfl⟩
    obtain ⟨ts, hts⟩ : ∃ ts, ts = (madeB l).2 := ⟨_, rfl⟩
    rw [← hps, ← hts] at hcb
    have HC := Lib.hid fun (X : World) (hb : Below w4.heap.size w4 X) => show CB X p b1 b2 ps ts m from hcb.below hb
    have HB4 := Lib.hid hb
    have hs4 := hb.size
    have htok : ∀ T, tfind ts t = some T → T.Ok := fun T hT => (ten_u hcb hT).1
    have HTOK := Lib.hid htok
    have HMO := Lib.hid fun (X : World) (h : CB X p b1 b2 ps ts m) (hT : Tab X) => cmon_any p b1 b2 m ps ts t M ht X h hT
    have HTN := Lib.hid fun (X : World) (h : CB X p b1 b2 ps ts m) => cten_any p b1 b2 m ps ts t ht X h
    unfold sV pV at HMO HTN
    clear hb hpb hcb hm hps hts htok HMD
    by_cases hM : M < 12 ∨ 120000 ≤ M
    · have e1 : monE ts t M = 1 := by unfold monE; rw [if_pos hM]
      rw [e1] at HMO
      have HF := Lib.hid fun (X : World) => first_no M hM X
      clear e1 hM
      go_wp2_with fail
      refine (HMO.out w4 (HC.out w4 (Below.refl _ _)) (HT.out w4 HB4.out)).mono ?_
      rintro e w5 ⟨x, rfl, hg, hb⟩
      obtain ⟨xa, xc, rfl, _, _, _⟩ := hg.shape
      have HB5 := Lib.hid (HB4.out.trans (hb.mono hs4))
      clear hg hb
      go_wp2_with fail
      refine (HF.out w5).mono ?_
      rintro e w6 ⟨rfl, hw⟩
      obtain rfl := hw.symm
      clear hw
      go_wp2_with (go_at_call 10; refine (HGO.out _ HB5.out).mono ?_; rintro e w7 ⟨rfl, hb⟩; have HB7 := Lib.hid (HB5.out.trans (hb.mono HB5.out.size)); clear hb)
      go_ret
      exact ⟨rfl, HB7.out⟩
    · have h1 : 12 ≤ M := by omega
      have h2 : M < 120000 := by omega
      have hfb := first_bd M h1 h2
      have hlb := Cal.len_bd M
      have HF := Lib.hid fun (X : World) (hb : Below w.heap.size w X) => first_yes M h1 h2 X (HT.out X hb)
      have HLN := Lib.hid fun (X : World) (hb : Below w.heap.size w X) => length_yes M h1 h2 X (HT.out X hb)
      have hnone : tfind ts t = none → monE ts t M = 4 ∧ monV ts t M = [] := fun h => by
        have e : monE ts t M = 4 := by unfold monE; rw [if_neg hM, h]
        exact ⟨e, by unfold monV; rw [e]; rfl⟩
      have hlate : ∀ T, tfind ts t = some T → ¬ T.day < Cal.first M + Cal.len M → monE ts t M = 4 ∧ monV ts t M = [] := fun T h hd => by
        have e : monE ts t M = 4 := by unfold monE; rw [if_neg hM, h]; show (if upto T.L _ = [] then (4 : Int) else 0) = 4; rw [whole_late (HTOK.out T h) hd, if_pos rfl]
        exact ⟨e, by unfold monV; rw [e]; rfl⟩
      have hwh : ∀ T, tfind ts t = some T → T.day < Cal.first M + Cal.len M → monE ts t M = 0 ∧ Whole ts t (Cal.first M) (Cal.first M + Cal.len M) T.day (monV ts t M) := fun T h hd => by
        obtain ⟨g1, g2⟩ := whole_law h (HTOK.out T h) h1 h2 hd
        have e : monE ts t M = 0 := by unfold monE; rw [if_neg hM, h]; show (if upto T.L _ = [] then (4 : Int) else 0) = 0; rw [if_neg g1]
        refine ⟨e, ?_⟩
        unfold monV
        rw [e, if_pos rfl, show tsegs ts t = T.L by unfold tsegs; rw [h]; rfl]
        exact g2
      have HDY := Lib.hid fun (y : Value) (X : World) (hb : Below w.heap.size w X) (hy : GR shS X y (monV ts t M)) (hl : (monV ts t M).length ≤ 1000000) (hd : ∀ g ∈ monV ts t M, D60 g.day) => cdays_any y (monV ts t M) M X (HT.out X hb) hy hl hd
      rw [show daysV (monV ts t M) M = daysL (Cal.first M + Cal.len M) (monV ts t M) by unfold daysV; rw [if_neg hM]] at HDY
      obtain ⟨F, hF⟩ : ∃ F, F = Cal.first M := ⟨_, rfl⟩
      obtain ⟨N, hN⟩ : ∃ N, N = Cal.len M := ⟨_, rfl⟩
      rw [← hF] at HF hfb hlate hwh HDY
      rw [← hN] at HLN hlb hlate hwh HDY
      obtain ⟨ME, hME⟩ : ∃ e, e = monE ts t M := ⟨_, rfl⟩
      obtain ⟨X, hX⟩ : ∃ x, x = monV ts t M := ⟨_, rfl⟩
      rw [← hME, ← hX] at HMO hnone hlate hwh
      rw [← hX] at HDY
      have x1 : wrap64 (F + N) = F + N := by unfold wrap64; omega
      cases hf : tfind ts t with
      | none =>
        obtain ⟨rfl, rfl⟩ := hnone hf
        rw [hf] at HTN
        rw [show tnS none = 0 from rfl, show tnD none = 0 from rfl, show tnE none = 4 from rfl] at HTN
        clear hnone hlate hwh hF hN hME hX hM hf HDY
        go_wp2_with fail
        refine (HMO.out w4 (HC.out w4 (Below.refl _ _)) (HT.out w4 HB4.out)).mono ?_
        rintro e w5 ⟨x, rfl, hg, hb⟩
        have HB45 := Lib.hid hb
        have HB5 := Lib.hid (HB4.out.trans (hb.mono hs4))
        obtain ⟨xa, xc, rfl, _, _, _⟩ := hg.shape
        clear hg hb HMO
        go_wp2_with fail
        refine (HF.out w5 HB5.out).mono ?_
        rintro e w6 ⟨rfl, hw⟩
        obtain rfl := hw.symm
        clear hw
        go_wp2_with fail
        refine (HLN.out w5 HB5.out).mono ?_
        rintro e w6 ⟨rfl, hw⟩
        obtain rfl := hw.symm
        clear hw
        go_wp2_with fail
        refine (HTN.out w5 (HC.out w5 HB45.out)).mono ?_
        rintro e w7 ⟨rfl, hb⟩
        have HB7 := Lib.hid (HB5.out.trans (hb.mono HB5.out.size))
        clear hb
        go_wp2_with (go_at_call 10; refine (HGO.out _ HB7.out).mono ?_; rintro e w8 ⟨rfl, hb⟩; have HB8 := Lib.hid (HB7.out.trans (hb.mono HB7.out.size)); clear hb)
        go_ret
        exact ⟨rfl, HB8.out⟩
      | some T =>
        rw [hf] at HTN
        rw [show tnS (some T) = T.shift from rfl, show tnD (some T) = T.day from rfl, show tnE (some T) = 0 from rfl] at HTN
        by_cases hd : T.day < F + N
        · obtain ⟨rfl, hW⟩ := hwh T hf hd
          have hxl := hW.len
          have hpos := hW.pos
          have hhd := hW.head
          have hd60 : ∀ g ∈ X, D60 g.day := fun g hg => by
            obtain ⟨i, hi, he⟩ := List.mem_iff_getElem.1 hg
            have hgi : X[i]? = some g := by rw [List.getElem?_eq_getElem hi, he]
            have h3 := hW.low i hi
            have h4 := hW.top i
            rw [dayX_get hgi] at h3 h4
            unfold D60; omega
          have HD2 := Lib.hid fun (y : Value) (Y : World) (hb : Below w.heap.size w Y) (hy : GR shS Y y X) => HDY.out y Y hb hy (by omega) hd60
          have HAT := Lib.hid fun (Y : World) (h : CB Y p b1 b2 ps ts m) (z : Int) => cat_any p b1 b2 m ps ts t z ht Y h
          unfold sV pV at HAT
          have hdl := daysL_len (F + N) X
          have hdg := daysL_get (F + N) X
          obtain ⟨D, hD⟩ : ∃ D, D = daysL (F + N) X := ⟨_, rfl⟩
          rw [← hD] at HD2 hdl hdg
          have HDG := Lib.hid hdg
          have HW := Lib.hid hW
          have hmx : max F T.day = dayX (F + N) X 0 := hhd.symm
          have hlen32 : X.length ≤ 32 := by omega
          have i1 : ¬ (T.day ≥ F + N) := by omega
          clear hnone hlate hwh hF hN hME hX hM hf HDY hD hdg hW hhd hd60
          go_wp2_with fail
          refine (HMO.out w4 (HC.out w4 (Below.refl _ _)) (HT.out w4 HB4.out)).mono ?_
          rintro e w5 ⟨x, rfl, hg, hb⟩
          have HB45 := Lib.hid hb
          have HB5 := Lib.hid (HB4.out.trans (hb.mono hs4))
          have HG5 := Lib.hid hg
          obtain ⟨xa, xc, rfl, _, _, _⟩ := hg.shape
          clear hg hb HMO
          go_wp2_with fail
          refine (HF.out w5 HB5.out).mono ?_
          rintro e w6 ⟨rfl, hw⟩
          obtain rfl := hw.symm
          clear hw
          go_wp2_with fail
          refine (HLN.out w5 HB5.out).mono ?_
          rintro e w6 ⟨rfl, hw⟩
          obtain rfl := hw.symm
          clear hw
          obtain ⟨x0, hx0⟩ : ∃ x0, X[0]? = some x0 := ⟨_, List.getElem?_eq_getElem hpos⟩
          have hd0 : dayX (F + N) X 0 = x0.day := dayX_get hx0
          have HX0 := Lib.hid hx0
          have HMX := Lib.hid (show max F T.day = x0.day from hmx.trans hd0)
          have HD0 := Lib.hid hd0
          have i0 : ((X.length : Int) == 0) = false := beq_eq_false_iff_ne.2 (by omega)
          have HPOS := Lib.hid hpos
          have HDL := Lib.hid hdl
          have i00 : (0 : Int) < (X.length : Int) := by omega
          clear hx0 hd0 hmx hpos hdl
          go_wp2_with fail
          refine (HTN.out w5 (HC.out w5 HB45.out)).mono ?_
          rintro e w7 ⟨rfl, hb⟩
          have HB47 := Lib.hid (HB45.out.trans (hb.mono HB45.out.size))
          have HB7 := Lib.hid (HB5.out.trans (hb.mono HB5.out.size))
          have HG7 := Lib.hid (HG5.out.below hb)
          clear hb HTN HG5
          go_wp2_with fail
          refine (HD2.out _ w7 HB7.out HG7.out).mono ?_
          rintro e w8 ⟨dv, rfl, hg, hb⟩
          have HB48 := Lib.hid (HB47.out.trans (hb.mono HB47.out.size))
          have HB8 := Lib.hid (HB7.out.trans (hb.mono HB7.out.size))
          have HG8 := Lib.hid (HG7.out.below hb)
          have HD8 := Lib.hid hg
          obtain ⟨da, dc, rfl, _, _, _⟩ := hg.shape
          obtain ⟨g0, o0, cp0, he, c0, c1⟩ := HG8.out.at2s HX0.out
          injection he with he hx1 hx2
          subst he; subst hx2
          rw [Nat.zero_mul, Nat.add_zero] at c0 c1
          rw [HDL.out]
          have i2 : ((X.length : Int) == (X.length : Int)) = true := beq_self_eq_true _
          have hmx := HMX.out
          clear hb hg HD2 HG7 hx1 c1
          go_upto_region 16 with fail
          have HXL := Lib.hid hxl
          have hs8 := HB8.out.size
          have HFB := Lib.hid hfb
          have HLB := Lib.hid hlb
          clear hmx c0 hxl i2
          go_wp2_with fail
          go_loopw [17, 18] (fun a i wr => ∃ j : Nat, j ≤ X.length ∧ i = .int .i64 j ∧ a = .int .i64 (dayX (F + N) X j) ∧ Hid (Below w8.heap.size w8 wr)) (fun _ i _ => X.length - (intOf i).toNat)
          case atStart => exact ⟨0, by omega, rfl, by rw [HD0.out], Lib.hid (Below.refl _ _)⟩
          case round =>
            obtain ⟨j, hj, rfl, rfl, HB⟩ := hrel
            have HBw := Lib.hid (HB8.out.trans (HB.out.mono hs8))
            by_cases hlt : j < X.length
            · obtain ⟨x, hx⟩ : ∃ x, X[j]? = some x := ⟨_, List.getElem?_eq_getElem hlt⟩
              obtain ⟨g', off', cap', he, c0, c1⟩ := (HG8.out.below HB.out).at2s hx
              injection he with he hx1 hx2
              injection he with he
              injection he with e1 e2
              subst e1; subst e2
              have hdj := HDG.out j hlt
              obtain ⟨gd, offd, capd, he, d0⟩ := (HD8.out.below HB.out).at1 hdj
              have hda := HDL.out
              injection he with he hy1 hy2
              subst he
              have hzx := dayX_get (E := F + N) hx
              have hinc := HW.out.inc j hlt
              have hlow := HW.out.low j hlt
              have htop := HW.out.top (j + 1)
              have hat := HW.out.at_ j x
              obtain ⟨z2, hz2⟩ : ∃ z, z = dayX (F + N) X (j + 1) := ⟨_, rfl⟩
              rw [dayAt_eq] at d0
              rw [← hz2, hzx] at d0 hinc hat
              rw [← hz2] at htop
              rw [hzx] at hlow
              rw [hzx]
              obtain ⟨δ, hδ⟩ : ∃ δ, δ = z2 - x.day := ⟨_, rfl⟩
              rw [show max 0 (z2 - x.day) = δ by omega] at d0
              have HAX := Lib.hid fun (n : Nat) (h : (n : Int) < δ) => hat (x.day + n) hx (by omega) (by omega)
              have hd1 : ¬ δ < 1 := by omega
              have hfb := HFB.out
              have hlb := HLB.out
              have hb32 : δ ≤ 32 := by omega
              have hxb : -719162 ≤ x.day ∧ x.day ≤ 3000000 := by omega
              have HZ2 := Lib.hid (show dayX (F + N) X (j + 1) = x.day + δ by omega)
              have HX := Lib.hid hx
              have HDJ := Lib.hid (show D[j]? = some δ by rw [hdj, dayAt_eq, ← hz2, hzx]; congr 1; omega)
              have i3 : (j : Int) < (X.length : Int) := by omega
              clear hx hdj hzx hinc hlow htop hat hz2 hδ hx1 hx2 hy1 hy2 hda hfb hlb c1
              go_upto_region 21 with fail
              clear c0 d0
              go_wp2_with fail
              go_loopw [17, 19] (fun a k wr' => ∃ n : Nat, (n : Int) ≤ δ ∧ k = .int .i64 n ∧ a = .int .i64 (x.day + n) ∧ Hid (Below w8.heap.size w8 wr')) (fun _ k _ => δ.toNat - (intOf k).toNat)
              case atStart => exact ⟨0, by omega, rfl, by simp, HB⟩
              case round =>
                obtain ⟨n, hn, rfl, rfl, HBn⟩ := hrel
                obtain ⟨gd', offd', capd', he, d0⟩ := (HD8.out.below HBn.out).at1 HDJ.out
                injection he with he hy1 hy2
                injection he with he
                injection he with e1 e2
                subst e1; subst e2
                clear hy1 hy2
                by_cases hnd : (n : Int) < δ
                · have hA := HAT.out wr (HC.out _ (HB48.out.trans (HBn.out.mono HB48.out.size))) (x.day + n)
                  rw [HAX.out n hnd, show atV (some x.plan) = x.plan from rfl, show atE (some x.plan) = 0 from rfl] at hA
                  have HA := Lib.hid hA
                  have i4 : wrap64 (x.day + n + 1) = x.day + (n + 1 : Nat) := by unfold wrap64; omega
                  clear hA
                  go_upto_region 24 with fail
                  clear d0
                  go_wp2_with fail
                  refine HA.out.mono ?_
                  rintro e w9 ⟨rfl, hb⟩
                  have HB9 := Lib.hid (HBn.out.trans (hb.mono HBn.out.size))
                  obtain ⟨g', off', cap', he, c0, c1⟩ := (HG8.out.below HB9.out).at2s HX.out
                  injection he with he hx1 hx2
                  injection he with he
                  injection he with e1 e2
                  subst e1; subst e2
                  clear hb hx1 hx2 c0
                  go_wp2_with fail
                  go_roundw
                  case rel => exact ⟨n + 1, by omega, by go_num, by first | rfl | (congr 1; omega), HB9⟩
                  case measure => simp [intOf]; omega
                · obtain rfl : δ = (n : Int) := by omega
                  go_wp2_with fail
                  go_roundw
                  case rel => exact ⟨j + 1, by omega, by go_num, by rw [HZ2.out], HBn⟩
                  case measure => simp [intOf]; omega
            · obtain rfl : j = X.length := by omega
              rw [dayX_end]
              go_wp2_with (go_at_call 10; refine (HGO.out _ HBw.out).mono ?_; rintro e w9 ⟨rfl, hb⟩; have HB9 := Lib.hid (HBw.out.trans (hb.mono HBw.out.size)); clear hb)
              go_ret
              exact ⟨rfl, HB9.out⟩
        · obtain ⟨rfl, rfl⟩ := hlate T hf hd
          have i1 : T.day ≥ F + N := by omega
          clear hnone hlate hwh hF hN hME hX hM hf HDY hd
          go_wp2_with fail
          refine (HMO.out w4 (HC.out w4 (Below.refl _ _)) (HT.out w4 HB4.out)).mono ?_
          rintro e w5 ⟨x, rfl, hg, hb⟩
          have HB45 := Lib.hid hb
          have HB5 := Lib.hid (HB4.out.trans (hb.mono hs4))
          obtain ⟨xa, xc, rfl, _, _, _⟩ := hg.shape
          clear hg hb HMO
          go_wp2_with fail
          refine (HF.out w5 HB5.out).mono ?_
          rintro e w6 ⟨rfl, hw⟩
          obtain rfl := hw.symm
          clear hw
          go_wp2_with fail
          refine (HLN.out w5 HB5.out).mono ?_
          rintro e w6 ⟨rfl, hw⟩
          obtain rfl := hw.symm
          clear hw
          go_wp2_with fail
          refine (HTN.out w5 (HC.out w5 HB45.out)).mono ?_
          rintro e w7 ⟨rfl, hb⟩
          have HB7 := Lib.hid (HB5.out.trans (hb.mono HB5.out.size))
          clear hb
          go_wp2_with (go_at_call 10; refine (HGO.out _ HB7.out).mono ?_; rintro e w8 ⟨rfl, hb⟩; have HB8 := Lib.hid (HB7.out.trans (hb.mono HB7.out.size)); clear hb)
          go_ret
          exact ⟨rfl, HB8.out⟩
end Go.Proofs.YtidppalhjknlfaaDoor
