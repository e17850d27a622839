/- cycle.At, cycle.Change. -/
import Derived.Test.YtidppalhjknlfaaGreatDoorQCy5
import Derived.Test.YtidppalhjknlfaaGreatDoorQCy3
namespace Go.Proofs.YtidppalhjknlfaaGreatDoor
open Go.RowKit
set_option maxRecDepth 100000
set_option maxHeartbeats 2000000
set_option linter.unusedVariables false
set_option linter.unusedSimpArgs false
theorem ten_u {ps : List Pl} {ts : List Tn} {w : World} {p b1 b2 m : Nat} (h : CB w p b1 b2 ps ts m) {t : Int} {T : Tn} (hf : tfind ts t = some T) : T.Ok ∧ T.L.length ≤ 1000000 := by
  obtain ⟨now, hM, hC, hS, hm⟩ := h
  obtain ⟨h1, h2⟩ := tfind_some hf
  have hok := hC.tok T h1
  have hu : U32 t := by have := hok.id; exact ⟨by omega, by omega⟩
  have hss : SS now t T.L := by
    have := hC.seg t hu
    unfold tsegs at this
    rw [hf] at this; exact this
  exact ⟨hok, Nat.le_trans (seg_len hS.nd hss) (Nat.le_trans hS.len hm)⟩
/-- the plan in force -/
def atP (ts : List Tn) (t d : Int) : Option Int := (tfind ts t).bind fun T => (upto T.L d).getLast?.map Sg.plan
def atV (o : Option Int) : Int := o.getD 0
def atE (o : Option Int) : Int := if o.isSome = true then 0 else 4
theorem cat_any (p b1 b2 m : Nat) (ps : List Pl) (ts : List Tn) (t d : Int) (ht : U32 t) (w : World) (h : CB w p b1 b2 ps ts m) :
    Calls Tryz.prog 14 #[sV p, .int .u32 t, .int .i64 d] w fun e w' => e = .returned (.tuple #[.int .u32 (atV (atP ts t d)), .int .i64 (atE (atP ts t d))]) ∧ Below w.heap.size w w' := by
  cases hf : tfind ts t with
  | none =>
    have HA := Lib.hid (call_no p b1 b2 m ps ts t ht w h hf)
    have e0 : atP ts t d = none := by unfold atP; rw [hf]; rfl
    rw [e0, show atV none = 0 from rfl, show atE none = 4 from rfl]
    unfold sV pV at *
    clear h hf e0
    go_enter Tryz.func14, Tryz.ntmps14
    go_wp2_with fail
    refine HA.out.mono ?_
    rintro e w1 ⟨rfl, hb⟩
    have HB := Lib.hid hb
    clear hb HA
    go_wp2
    go_ret2
    exact ⟨rfl, HB.out⟩
  | some T =>
    have HA := Lib.hid (call_yes p b1 b2 m ps ts t ht w h T hf)
    obtain ⟨hok, hll⟩ := ten_u h hf
    have e0 : atP ts t d = (upto T.L d).getLast?.map Sg.plan := by unfold atP; rw [hf]; rfl
    rw [e0]
    have hul := upto_len T.L d
    have hug := upto_get T.L d
    have hlast : (upto T.L d).getLast? = (upto T.L d)[(upto T.L d).length - 1]? := List.getLast?_eq_getElem?
    have HU := Lib.hid fun (v : Value) (W : World) (hv : GR shS W v T.L) => upto_any v d T.L W hv hll
    obtain ⟨U, hU⟩ : ∃ U, U = upto T.L d := ⟨_, rfl⟩
    rw [← hU] at hul hug hlast HU ⊢
    obtain ⟨n, hn⟩ : ∃ n, n = U.length := ⟨_, rfl⟩
    rw [← hn] at hul hug hlast HU
    unfold sV pV at *
    by_cases h0 : n = 0
    · have e1 : U.getLast? = none := by rw [hlast, List.getElem?_eq_none (by omega)]
      rw [e1, show atV (Option.map Sg.plan none) = 0 from rfl, show atE (Option.map Sg.plan none) = 4 from rfl]
      subst h0
      clear h hf e0 hok hul hug hlast hU hn e1
      go_enter Tryz.func14, Tryz.ntmps14
      go_wp2_with fail
      refine HA.out.mono ?_
      rintro e w1 ⟨v, rfl, hr, hb⟩
      have HB := Lib.hid hb
      have H2 := Lib.hid (HU.out v w1 hr)
      obtain ⟨a, c, rfl, _, _, _⟩ := hr.shape
      clear hr hb HA HU
      go_wp2_with fail
      refine H2.out.mono ?_
      rintro e w2 ⟨rfl, hb⟩
      have HB2 := Lib.hid (HB.out.trans (hb.mono HB.out.size))
      clear hb H2
      go_wp2
      go_ret2
      exact ⟨rfl, HB2.out⟩
    · obtain ⟨g, hg⟩ : ∃ g, U[n - 1]? = some g := ⟨_, List.getElem?_eq_getElem (by omega)⟩
      have hgL : T.L[n - 1]? = some g := by rw [hug (n - 1) (by omega), hg]
      rw [hlast, hg, show atV (Option.map Sg.plan (some g)) = g.plan from rfl, show atE (Option.map Sg.plan (some g)) = 0 from rfl]
      have HG := Lib.hid hgL
      have i0 : ((n : Int) == 0) = false := beq_eq_false_iff_ne.2 (by omega)
      have i1 : wrap64 ((n : Int) - 1) = ((n - 1 : Nat) : Int) := by unfold wrap64; omega
      have i2 : ((n - 1 : Nat) : Int) < (T.L.length : Int) := by omega
      have i3 : ¬ ((n : Int) = 0) := by omega
      clear h hf e0 hok hul hug hlast hU hn hg hgL h0
      go_enter Tryz.func14, Tryz.ntmps14
      go_wp2_with fail
      refine HA.out.mono ?_
      rintro e w1 ⟨v, rfl, hr, hb⟩
      have HB := Lib.hid hb
      have HR := Lib.hid hr
      have H2 := Lib.hid (HU.out v w1 hr)
      obtain ⟨a, c, rfl, _, _, _⟩ := hr.shape
      clear hr hb HA HU
      go_wp2_with fail
      refine H2.out.mono ?_
      rintro e w2 ⟨rfl, hb⟩
      have HB2 := Lib.hid (HB.out.trans (hb.mono HB.out.size))
      obtain ⟨g', off, cap', he, c0, c1⟩ := (HR.out.below hb).at2s HG.out
      injection he with he hx1 hx2
      subst he; subst hx2
      clear hb H2 hx1
      go_wp2
      go_ret2
      exact ⟨rfl, HB2.out⟩
def lastD (L : List Sg) : Int := (L.getLast?.map Sg.day).getD 0
theorem last_max {L : List Sg} (hu : L.Pairwise fun a b => a.day < b.day) {x : Sg} (hx : x ∈ L) : x.day ≤ lastD L := by
  unfold lastD
  have hne : L ≠ [] := fun e => by rw [e] at hx; simp at hx
  rw [List.getLast?_eq_some_getLast hne]
  show x.day ≤ (L.getLast hne).day
  obtain ⟨i, hi, rfl⟩ := List.mem_iff_getElem.1 hx
  rw [List.getLast_eq_getElem]
  rw [List.pairwise_iff_getElem] at hu
  rcases Nat.lt_or_ge i (L.length - 1) with h | h
  · have := hu i (L.length - 1) hi (by omega) h; omega
  · have : i = L.length - 1 := by omega
    subst this; omega
def chgE (ps : List Pl) (ts : List Tn) (t i d : Int) : Int :=
  match tfind ts t with
  | none => 4
  | some T => if (pfind ps i).isNone = true then 4 else if isDate d = false ∨ d < lastD T.L then 1 else if 24 ≤ (manyL T.L d).length then 3 else 0
def chgT (ps : List Pl) (ts : List Tn) (t i d : Int) : List Tn := if chgE ps ts t i d = 0 then tset ts t (chgL (tsegs ts t) ⟨d, i⟩) else ts
theorem chg_no (p b1 b2 m : Nat) (ps : List Pl) (ts : List Tn) (t i d : Int) (ht : U32 t) (hi : U32 i) (w : World) (h : CB w p b1 b2 ps ts m) (hE : tfind ts t = none ∨ pfind ps i = none) :
    Calls Tryz.prog 12 #[sV p, .int .u32 t, .int .u32 i, .int .i64 d] w fun e w' => e = .returned (.int .i64 4) ∧ Below w.heap.size w w' := by
  cases hf : tfind ts t with
  | none =>
    have HA := Lib.hid (call_no p b1 b2 m ps ts t ht w h hf)
    unfold sV pV at *
    clear h hf hE
    go_enter Tryz.func12, Tryz.ntmps12
    go_wp2_with fail
    refine HA.out.mono ?_
    rintro e w1 ⟨rfl, hb⟩
    have HB := Lib.hid hb
    clear hb HA
    go_wp2
    go_ret
    exact ⟨rfl, HB.out⟩
  | some T =>
    have hg : pfind ps i = none := by
      rcases hE with h1 | h1
      · rw [hf] at h1; cases h1
      · exact h1
    have HA := Lib.hid (call_yes p b1 b2 m ps ts t ht w h T hf)
    have HP := Lib.hid fun (W : World) (hb : Below w.heap.size w W) => cplan_no p b1 b2 m ps ts i hi W (h.below hb) hg
    unfold sV pV Pl.val Pl.zero at *
    clear h hf hE hg
    go_enter Tryz.func12, Tryz.ntmps12
    go_wp2_with fail
    refine HA.out.mono ?_
    rintro e w1 ⟨v, rfl, hr, hb⟩
    have HB := Lib.hid hb
    obtain ⟨a, c, rfl, _, _, _⟩ := hr.shape
    clear hr hb HA
    go_wp2_with fail
    refine (HP.out w1 HB.out).mono ?_
    rintro e w2 ⟨rfl, hb⟩
    have HB2 := Lib.hid (HB.out.trans (hb.mono HB.out.size))
    clear hb HP
    go_wp2
    go_ret
    exact ⟨rfl, HB2.out.alloc HB2.out.size _⟩
theorem cchg_any (p b1 b2 m : Nat) (ps : List Pl) (ts : List Tn) (t i d : Int) (ht : U32 t) (hi : U32 i) (w : World) (h : CB w p b1 b2 ps ts m) (hm1 : m + 1 ≤ 1000000) (hT : Tab w) :
    Calls Tryz.prog 12 #[sV p, .int .u32 t, .int .u32 i, .int .i64 d] w fun e w' => e = .returned (.int .i64 (chgE ps ts t i d)) ∧ CB w' p b1 b2 ps (chgT ps ts t i d) (m + 1) ∧ Keep (fun i => i = b1) w w' := by
  by_cases hE : tfind ts t = none ∨ pfind ps i = none
  · have e1 : chgE ps ts t i d = 4 := by
      unfold chgE
      rcases hE with h1 | h1
      · rw [h1]
      · rw [h1]; split <;> rfl
    have e2 : chgT ps ts t i d = ts := by unfold chgT; rw [e1, if_neg (by decide)]
    rw [e1, e2]
    refine (chg_no p b1 b2 m ps ts t i d ht hi w h hE).mono ?_
    rintro e w' ⟨rfl, hb⟩
    exact ⟨rfl, (h.below hb).mono (by omega) hm1, Keep.ofBelow hb _⟩
  · obtain ⟨T, hf⟩ : ∃ T, tfind ts t = some T := by
      cases hh : tfind ts t with
      | none => exact absurd (.inl hh) hE
      | some T => exact ⟨T, rfl⟩
    obtain ⟨P, hg⟩ : ∃ P, pfind ps i = some P := by
      cases hh : pfind ps i with
      | none => exact absurd (.inr hh) hE
      | some P => exact ⟨P, rfl⟩
    obtain ⟨hok, hll⟩ := ten_u h hf
    have hts : tsegs ts t = T.L := by unfold tsegs; rw [hf]; rfl
    have e0 : chgE ps ts t i d = if isDate d = false ∨ d < lastD T.L then 1 else if 24 ≤ (manyL T.L d).length then 3 else 0 := by
      unfold chgE; rw [hf, hg]; rfl
    have HA := Lib.hid (call_yes p b1 b2 m ps ts t ht w h T hf)
    have HP := Lib.hid fun (W : World) (hb : Below w.heap.size w W) => cplan_yes p b1 b2 m ps ts i hi W (h.below hb) P hg
    have HD := Lib.hid fun (W : World) (hb : Below w.heap.size w W) => cdate_any d W (hT.below hb (Nat.le_refl _))
    have HH := Lib.hid h
    have HT := Lib.hid hT
    obtain ⟨E, hEe⟩ : ∃ E, E = chgE ps ts t i d := ⟨_, rfl⟩
    obtain ⟨S, hS⟩ : ∃ S, S = chgT ps ts t i d := ⟨_, rfl⟩
    rw [← hEe, ← hS]
    have HS := Lib.hid hS
    obtain ⟨r, pd, hhead⟩ := hok.head
    have hpos : 0 < T.L.length := by rw [hhead]; simp
    obtain ⟨g, hgl⟩ : ∃ g, T.L[T.L.length - 1]? = some g := ⟨_, List.getElem?_eq_getElem (by omega)⟩
    have hld : lastD T.L = g.day := by unfold lastD; rw [List.getLast?_eq_getElem?, hgl]; rfl
    have HMX := Lib.hid fun (x : Sg) (hx : x ∈ T.L) => last_max hok.up hx
    rw [hld] at e0 HMX
    have HG := Lib.hid hgl
    have HOK := Lib.hid hok
    have hPi := pfind_some hg
    have hi1 : 1 ≤ i ∧ i ≤ 4294967295 := by
      have := (HH.out)
      obtain ⟨now, _, hC, _⟩ := this
      have h1 := Pl.pos (hC.pok P hPi.1).2
      rw [hPi.2] at h1
      exact ⟨by omega, hi.2⟩
    have HF := Lib.hid hf
    have HTS := Lib.hid hts
    obtain ⟨L, hL⟩ : ∃ L, L = T.L := ⟨_, rfl⟩
    rw [← hL] at HA HG HMX hpos hll e0 HTS
    have HLT := Lib.hid hL
    have i1 : wrap64 ((L.length : Int) - 1) = ((L.length - 1 : Nat) : Int) := by unfold wrap64; omega
    have i2 : ((L.length - 1 : Nat) : Int) < (L.length : Int) := by omega
    have i3 : (L.length : Int) > 0 := by omega
    have HE0 := Lib.hid (show E = _ from hEe.trans e0)
    have HEE := Lib.hid hEe
    unfold sV pV Pl.val at *
    clear h hf hg hE hT hok hts e0 hEe hS hhead hgl hld hPi hL
    go_enter Tryz.func12, Tryz.ntmps12
    go_wp2_with fail
    refine HA.out.mono ?_
    rintro e w1 ⟨v, rfl, hr, hb⟩
    have HB := Lib.hid hb
    have HR := Lib.hid hr
    obtain ⟨a, c, rfl, _, _, _⟩ := hr.shape
    clear hr hb HA
    go_wp2_with fail
    refine (HP.out w1 HB.out).mono ?_
    rintro e w2 ⟨tv, rfl, hgr, hb⟩
    obtain ⟨ta, tc, rfl, _, _, _⟩ := hgr.shape
    have HB2 := Lib.hid (HB.out.trans (hb.mono HB.out.size))
    have HR2 := Lib.hid (HR.out.below hb)
    clear hb HP hgr HR
    go_upto_region 7 with fail
    obtain ⟨w3, hw3⟩ : ∃ w3, w3 = w2.alloc (.cells #[.int .u32 P.id, .int .i64 P.daily, .int .i64 P.monthly, .int .i64 P.over, .int .i64 P.roll, .int .i64 P.base, .slice ta P.tiers.length tc] 35) := ⟨_, rfl⟩
    have hb3 : Below w2.heap.size w2 w3 := by rw [hw3]; exact (Below.refl _ _).alloc (Nat.le_refl _) _
    have HR3 := Lib.hid (HR2.out.below hb3)
    have HB3 := Lib.hid (HB2.out.trans (hb3.mono HB2.out.size))
    have H3 := Lib.hid (HD.out w3 HB3.out)
    rw [← hw3]
    clear hw3 hb3 HR2 HB2 HD
    cases hdt : isDate d with
    | false =>
      have hE1 : E = 1 := by rw [HE0.out, if_pos (.inl hdt)]
      have hS2 : S = ts := by rw [HS.out]; unfold chgT; rw [show chgE ps ts t i d = 1 by rw [← HEE.out]; exact hE1, if_neg (by decide)]
      subst hE1
      subst hS2
      rw [hdt] at H3
      clear hdt
      go_wp2_with (go_at_call 31; refine H3.out.mono ?_; rintro e w4 ⟨rfl, hb⟩; have HB4 := Lib.hid (HB3.out.trans (hb.mono HB3.out.size)); clear hb H3)
      go_ret
      exact ⟨rfl, (HH.out.below HB4.out).mono (by omega) hm1, Keep.ofBelow HB4.out _⟩
    | true =>
      have hdr := isDate_iff.1 hdt
      rw [hdt] at H3
      by_cases hlt : d < g.day
      · have hE1 : E = 1 := by rw [HE0.out, if_pos (.inr hlt)]
        have hS2 : S = ts := by rw [HS.out]; unfold chgT; rw [show chgE ps ts t i d = 1 by rw [← HEE.out]; exact hE1, if_neg (by decide)]
        subst hE1
        subst hS2
        clear hdt
        go_wp2_with (
          go_at_call 31; refine H3.out.mono ?_; rintro e w4 ⟨rfl, hb⟩
          have HB4 := Lib.hid (HB3.out.trans (hb.mono HB3.out.size))
          obtain ⟨g', off, cap', he, c0, c1⟩ := (HR3.out.below hb).at2s HG.out
          injection he with he hx1 hx2
          subst he; subst hx2
          clear hb H3 hx1)
        go_ret
        exact ⟨rfl, (HH.out.below HB4.out).mono (by omega) hm1, Keep.ofBelow HB4.out _⟩
      · have hE2 : E = if 24 ≤ (manyL L d).length then 3 else 0 := by rw [HE0.out, if_neg (by rw [hdt]; simp; omega)]
        have HE2 := Lib.hid hE2
        have HM := Lib.hid fun (v : Value) (W : World) (hTW : Tab W) (hv : GR shS W v L) => many_any v d L W hTW hv hll hdr (fun g hg => ((HOK.out.seg g (by rw [← HLT.out]; exact hg)).day))
        have hml : (manyL L d).length ≤ L.length := List.length_filter_le _ _
        obtain ⟨n, hn⟩ : ∃ n, n = (manyL L d).length := ⟨_, rfl⟩
        rw [← hn] at HM hml HE2
        clear hdt hE2 hn
        go_upto_region 9 with (
          go_at_call 31; refine H3.out.mono ?_; rintro e w4 ⟨rfl, hb⟩
          have HB4 := Lib.hid (HB3.out.trans (hb.mono HB3.out.size))
          have HR4 := Lib.hid (HR3.out.below hb)
          obtain ⟨g', off, cap', he, c0, c1⟩ := (HR3.out.below hb).at2s HG.out
          injection he with he hx1 hx2
          subst he; subst hx2
          clear hb H3 hx1)
        have HM4 := Lib.hid (HM.out _ w4 (HT.out.below HB4.out (Nat.le_refl _)) HR4.out)
        clear HM
        by_cases h24 : 24 ≤ n
        · have hE1 : E = 3 := by rw [HE2.out, if_pos h24]
          have hS2 : S = ts := by rw [HS.out]; unfold chgT; rw [show chgE ps ts t i d = 3 by rw [← HEE.out]; exact hE1, if_neg (by decide)]
          subst hE1
          subst hS2
          have j1 : (n : Int) ≥ 24 := by omega
          have j2 : (24 : Int) ≤ n := by omega
          go_wp2_with fail
          refine HM4.out.mono ?_
          rintro e w5 ⟨rfl, hb⟩
          have HB5 := Lib.hid (HB4.out.trans (hb.mono HB4.out.size))
          clear hb
          go_wp2
          go_ret
          exact ⟨rfl, (HH.out.below HB5.out).mono (by omega) hm1, Keep.ofBelow HB5.out _⟩
        · have hE1 : E = 0 := by rw [HE2.out, if_neg h24]
          have hS2 : S = tset ts t (chgL L ⟨d, i⟩) := by rw [HS.out]; unfold chgT; rw [show chgE ps ts t i d = 0 by rw [← HEE.out]; exact hE1, if_pos rfl, HTS.out]
          subst hE1
          subst hS2
          have j1 : ¬ ((n : Int) ≥ 24) := by omega
          have j2 : ¬ ((24 : Int) ≤ n) := by omega
          go_wp2_with fail
          refine HM4.out.mono ?_
          rintro e w5 ⟨rfl, hb⟩
          have HB5 := Lib.hid (HB4.out.trans (hb.mono HB4.out.size))
          clear hb c0 c1
          obtain ⟨now, g1, g2, g3, g4⟩ := HH.out
          have hseg := cseg_any p b1 b2 now [] t d i ht hdr hi1 w5 (g1.below HB5.out) (by have := g3.len; omega)
          unfold sV pV at hseg
          have HSG := Lib.hid hseg
          have G2 := Lib.hid g2
          have G3 := Lib.hid g3
          clear hseg g1 g2 g3
          go_wp2_with fail
          refine HSG.out.mono ?_
          rintro e w6 ⟨rfl, hm, hk⟩
          have HM6 := Lib.hid hm
          have HK6 := Lib.hid hk
          clear hm hk
          go_wp2
          go_ret
          refine ⟨rfl, ⟨_, HM6.out, ?_, G3.out.put (by rw [show ((⟨d, i⟩ : Sg).key t).size = 17 from sk_size _ _]; omega) (by rw [show (be8 i).size = 8 from be_size _ 8]; omega), hm1⟩, (Keep.ofBelow HB5.out (fun i => i = b1)).trans HK6.out (fun i hi => .inl hi)⟩
          have hc := CS.changed G3.out.nd G2.out t i d T HF.out hi1 hdr (fun x hx => by
            have := HMX.out x (by rw [HLT.out]; exact hx)
            omega)
          rw [HLT.out]
          exact hc
end Go.Proofs.YtidppalhjknlfaaGreatDoor
