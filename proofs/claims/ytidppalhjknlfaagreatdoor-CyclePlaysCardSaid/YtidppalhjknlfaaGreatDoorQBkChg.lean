/- The document's book: Change. -/
import Derived.Test.YtidppalhjknlfaaGreatDoorQBkOpn
import Derived.Deep.DeepCutAuto
namespace Go.Proofs.YtidppalhjknlfaaGreatDoor
open Go.RowKit
set_option maxRecDepth 100000
set_option maxHeartbeats 4000000
set_option linter.unusedVariables false
set_option linter.unusedSimpArgs false
/-- the segments that stay when one begins on a day -/
def keepN (L : List Sg) (d : Int) : Nat := if (L.getLast?.map Sg.day) = some d then L.length - 1 else L.length
theorem keep_take {L : List Sg} (hu : Up L) {d : Int} (hl : ∀ x ∈ L, x.day ≤ d) : (L.filter fun x => decide (x.day ≠ d)) = L.take (keepN L d) := by
  rcases List.eq_nil_or_concat L with rfl | ⟨r, g, rfl⟩
  · rfl
  · rw [List.concat_eq_append] at hu hl ⊢
    have hr : ∀ x ∈ r, x.day < g.day := fun x hx => by
      have hu' : List.Pairwise (fun a b : Sg => a.day < b.day) (r ++ [g]) := hu
      exact (List.pairwise_append.1 hu').2.2 x hx g (List.mem_singleton.2 rfl)
    have hg := hl g (List.mem_append.2 (.inr (List.mem_singleton.2 rfl)))
    have hrf : (r.filter fun x => decide (x.day ≠ d)) = r := List.filter_eq_self.2 (fun x hx => by have := hr x hx; exact decide_eq_true (by omega))
    rw [List.filter_append, hrf]
    unfold keepN
    rw [List.getLast?_concat]
    show r ++ _ = List.take (if some g.day = some d then _ else _) _
    by_cases he : g.day = d
    · rw [if_pos (by rw [he]), List.filter_cons_of_neg (by simpa using he)]
      simp
    · rw [if_neg (fun h => he (by injection h)), List.filter_cons_of_pos (by simpa using he), List.take_of_length_le (Nat.le_refl _)]
      rfl
def monN (L : List Sg) (d : Int) (j : Nat) : Nat := ((L.take j).filter fun x => decide (mon x.day = mon d)).length
theorem monN_step {L : List Sg} {d : Int} {j : Nat} {x : Sg} (hx : L[j]? = some x) : monN L d (j + 1) = monN L d j + (if mon x.day = mon d then 1 else 0) := by
  unfold monN
  rw [List.take_add_one, hx, List.filter_append, List.length_append]
  by_cases h : mon x.day = mon d
  · rw [if_pos h]; simp [h]
  · rw [if_neg h]; simp [h]
theorem monN_many {L : List Sg} (hu : Up L) {d : Int} (hl : ∀ x ∈ L, x.day ≤ d) : (manyL L d).length = monN L d (keepN L d) := by
  unfold monN manyL
  rw [← keep_take hu hl, List.filter_filter]
  congr 1
  refine List.filter_congr (fun x _ => ?_)
  by_cases h1 : x.day = d <;> by_cases h2 : mon x.day = mon d <;> simp [h1, h2]
theorem monN_le (L : List Sg) (d : Int) (j : Nat) : monN L d j ≤ j := by
  unfold monN
  exact Nat.le_trans (List.length_filter_le _ _) (by simp; omega)
def TVd (ts : List TV) : Prop := ∀ x ∈ ts, ∀ g ∈ x.T.L, -719162 ≤ g.day ∧ g.day ≤ 2932896
theorem month_pair {M N : Int} : (M / 12 = N / 12 ∧ M % 12 + 1 = N % 12 + 1) ↔ M = N := by omega
/-- Change: what is refused early -/
theorem rchg_no (base q : Nat) (pv tv : Value) (ps : List PV) (ts : List TV) (t i d : Int) (w : World) (h : RB base w q pv tv ps ts) (hl : ts.length ≤ 1000000) (hlp : ps.length ≤ 1000000) (hE : tfV ts t = none ∨ pfV ps i = none) :
    Calls Tryz.prog 13 #[.pointer (some ⟨q, 0, none⟩), .int .u32 t, .int .u32 i, .int .i64 d] w fun e w' => e = .returned (.int .i64 4) ∧ Below w.heap.size w w' := by
  have HTN := Lib.hid (rten_any base q pv tv ps ts t w h hl)
  have HPL := Lib.hid (rplan_any base q pv tv ps ts i w h hlp)
  unfold PV.val at HPL
  obtain ⟨P, hP⟩ : ∃ P, P = (pfV ps i).getD PV.zero := ⟨_, rfl⟩
  rw [← hP] at HPL
  cases hf : tfV ts t with
  | none =>
    rw [hf, show Option.map (fun x : TV => (⟨x.b, 0, none⟩ : Addr)) none = none from rfl] at HTN
    clear h hE hf hP
    go_enter Tryz.func13, Tryz.ntmps13
    go_wp2_with fail
    refine HTN.out.mono ?_
    rintro e w3 ⟨rfl, hw3⟩
    obtain rfl := hw3.symm
    clear hw3
    go_wp2_with fail
    refine HPL.out.mono ?_
    rintro e w4 ⟨rfl, hb⟩
    have HB := Lib.hid hb
    clear hb
    go_wp2
    go_ret
    exact ⟨rfl, HB.out.alloc HB.out.size _⟩
  | some T =>
    have hg : pfV ps i = none := by
      rcases hE with h1 | h1
      · rw [hf] at h1; cases h1
      · exact h1
    rw [hf, show Option.map (fun x => (⟨x.b, 0, none⟩ : Addr)) (some T) = some ⟨T.b, 0, none⟩ from rfl] at HTN
    rw [hg, show (none : Option PV).isSome = false from rfl] at HPL
    clear h hE hf hg hP
    go_enter Tryz.func13, Tryz.ntmps13
    go_wp2_with fail
    refine HTN.out.mono ?_
    rintro e w3 ⟨rfl, hw3⟩
    obtain rfl := hw3.symm
    clear hw3
    go_wp2_with fail
    refine HPL.out.mono ?_
    rintro e w4 ⟨rfl, hb⟩
    have HB := Lib.hid hb
    clear hb
    go_wp2
    go_ret
    exact ⟨rfl, HB.out.alloc HB.out.size _⟩
theorem rchg_yes (base q : Nat) (pv tv : Value) (ps : List PV) (ts : List TV) (t i d : Int) (w : World) (h : RB base w q pv tv ps ts) (hbw : base ≤ w.heap.size) (hl : ts.length ≤ 1000000) (hlp : ps.length ≤ 1000000) (hok : TVok ts) (htd : TVd ts) (x : TV) (hf : tfV ts t = some x) (P : PV) (hg : pfV ps i = some P) :
    Calls Tryz.prog 13 #[.pointer (some ⟨q, 0, none⟩), .int .u32 t, .int .u32 i, .int .i64 d] w fun e w' => e = .returned (.int .i64 (chgE (psOf ps) (tsOf ts) t i d)) ∧ (∃ ts', tsOf ts' = chgT (psOf ps) (tsOf ts) t i d ∧ ts'.length = ts.length ∧ RB base w' q pv tv ps ts') ∧ Keep (RF base w) w w' := by
  have HTN := Lib.hid (rten_any base q pv tv ps ts t w h hl)
  have HPL := Lib.hid (rplan_any base q pv tv ps ts i w h hlp)
  have HD := Lib.hid fun (W : World) => rdate_any d W
  obtain ⟨hx, hxt⟩ := tfV_mem hf
  obtain ⟨hup, hne, hll⟩ := hok x hx
  have hti := h.tis x hx
  have hts : tsegs (tsOf ts) t = x.T.L := by unfold tsegs; rw [tfV_eq, hf]; rfl
  have e0 : chgE (psOf ps) (tsOf ts) t i d = if isDate d = false ∨ d < lastD x.T.L then 1 else if 24 ≤ (manyL x.T.L d).length then 3 else 0 := by
    unfold chgE; rw [tfV_eq, hf, pfV_eq, hg]; rfl
  obtain ⟨E, hEe⟩ : ∃ E, E = chgE (psOf ps) (tsOf ts) t i d := ⟨_, rfl⟩
  obtain ⟨S, hS⟩ : ∃ S, S = chgT (psOf ps) (tsOf ts) t i d := ⟨_, rfl⟩
  rw [← hEe, ← hS]
  rw [hf, show Option.map (fun x => (⟨x.b, 0, none⟩ : Addr)) (some x) = some ⟨x.b, 0, none⟩ from rfl] at HTN
  rw [hg, show ((some P : Option PV).getD PV.zero) = P from rfl, show (some P : Option PV).isSome = true from rfl] at HPL
  unfold PV.val at HPL
  have hpos : 0 < x.T.L.length := List.length_pos_iff.2 hne
  obtain ⟨g, hgl⟩ : ∃ g, x.T.L[x.T.L.length - 1]? = some g := ⟨_, List.getElem?_eq_getElem (by omega)⟩
  have hld : lastD x.T.L = g.day := by unfold lastD; rw [List.getLast?_eq_getElem?, hgl]; rfl
  have hkn : keepN x.T.L d = if g.day = d then x.T.L.length - 1 else x.T.L.length := by
    unfold keepN
    rw [List.getLast?_eq_getElem?, hgl]
    show (if some g.day = some d then _ else _) = _
    by_cases he : g.day = d
    · rw [if_pos he, if_pos (by rw [he])]
    · rw [if_neg he, if_neg (fun h => he (by injection h))]
  rw [hld] at e0
  have HMX := Lib.hid fun (y : Sg) (hy : y ∈ x.T.L) => show y.day ≤ g.day by rw [← hld]; exact last_max hup hy
  have HGD := Lib.hid fun (y : Sg) (hy : y ∈ x.T.L) => htd x hx y hy
  have HH := Lib.hid h
  have HX := Lib.hid hx
  have HXT := Lib.hid hxt
  have HEE := Lib.hid hEe
  have HE0 := Lib.hid (show E = _ from hEe.trans e0)
  have HS := Lib.hid hS
  have HTS := Lib.hid hts
  have HUP := Lib.hid hup
  have HG := Lib.hid hgl
  obtain ⟨b, hb⟩ : ∃ b, b = x.b := ⟨_, rfl⟩
  obtain ⟨L, hL⟩ : ∃ L, L = x.T.L := ⟨_, rfl⟩
  have d2 : w.cell? ⟨b, 2, none⟩ = some (.slice x.la L.length x.lc) := by rw [hb, hL, blk_cell hti.blk]; rfl
  have HSG := Lib.hid hti.seg
  rw [← hb] at HTN
  rw [← hL] at hll hpos HMX HGD HTS HUP HG HSG HE0 hkn
  have hbw2 : b < w.heap.size := by rw [hb]; exact blk_lt hti.blk
  have HDD := Lib.hid fun (W : World) (hb2 : Below w.heap.size w W) => show W.cell? ⟨b, 2, none⟩ = some (.slice x.la L.length x.lc) from (Keep.ofBelow hb2 (fun _ => False)).cell d2 (fun h => h)
  have i1 : wrap64 ((L.length : Int) - 1) = ((L.length - 1 : Nat) : Int) := by unfold wrap64; omega
  have i2 : ((L.length - 1 : Nat) : Int) < (L.length : Int) := by omega
  have HLX := Lib.hid hL
  have HBX := Lib.hid hb
  have HKN := Lib.hid hkn
  clear h hx hxt hf hg hup hne hti hts e0 hEe hS hgl hld hb hL d2 hkn hok htd
  go_enter Tryz.func13, Tryz.ntmps13
  go_wp2_with fail
  refine HTN.out.mono ?_
  rintro e w1 ⟨rfl, hw1⟩
  obtain rfl := hw1.symm
  clear hw1 HTN
  go_wp2_with fail
  refine HPL.out.mono ?_
  rintro e w2 ⟨rfl, hb⟩
  go_upto_region 3 with fail
  obtain ⟨w3, hw3⟩ : ∃ w3, w3 = w2.alloc (.cells #[.int .u32 P.P.id, .int .i64 P.P.daily, .int .i64 P.P.monthly, .int .i64 P.P.over, .int .i64 P.P.roll, .int .i64 P.P.base, .slice P.ta P.P.tiers.length P.tc] 35) := ⟨_, rfl⟩
  rw [← hw3]
  have hb3 : Below w.heap.size w w3 := by rw [hw3]; exact hb.alloc hb.size _
  have HB3 := Lib.hid hb3
  have hgg := (HSG.out.below hb3).at2s HG.out
  obtain ⟨g', off, cap', he, c0, c1⟩ := hgg
  injection he with he hx1 hx2
  have d3 := HDD.out w3 hb3
  rw [he] at d3
  have HLA := Lib.hid he
  clear hw3 hb hb3 HPL hx1 hx2 c1 he
  have H3 := Lib.hid (HD.out w3)
  cases hdt : isDate d with
  | false =>
    have hE1 : E = 1 := by rw [HE0.out, if_pos (.inl hdt)]
    have hS2 : S = tsOf ts := by rw [HS.out]; unfold chgT; rw [show chgE (psOf ps) (tsOf ts) t i d = 1 by rw [← HEE.out]; exact hE1, if_neg (by decide)]
    subst hE1
    have HS2 := Lib.hid hS2
    rw [hdt] at H3
    clear hdt hS2
    go_wp2_with (go_at_call 35; refine H3.out.mono ?_; rintro e w4 ⟨rfl, hw⟩; obtain rfl := hw.symm)
    go_ret
    exact ⟨rfl, ⟨ts, HS2.out.symm, rfl, HH.out.below HB3.out⟩, Keep.ofBelow HB3.out _⟩
  | true =>
    have hdr := isDate_iff.1 hdt
    rw [hdt] at H3
    by_cases hlt : d < g.day
    · have hE1 : E = 1 := by rw [HE0.out, if_pos (.inr hlt)]
      have hS2 : S = tsOf ts := by rw [HS.out]; unfold chgT; rw [show chgE (psOf ps) (tsOf ts) t i d = 1 by rw [← HEE.out]; exact hE1, if_neg (by decide)]
      subst hE1
      have HS2 := Lib.hid hS2
      clear hdt hS2
      go_wp2_with (go_at_call 35; refine H3.out.mono ?_; rintro e w4 ⟨rfl, hw⟩; obtain rfl := hw.symm; clear hw)
      go_ret
      exact ⟨rfl, ⟨ts, HS2.out.symm, rfl, HH.out.below HB3.out⟩, Keep.ofBelow HB3.out _⟩
    · have hE2 : E = if 24 ≤ (manyL L d).length then 3 else 0 := by rw [HE0.out, if_neg (by rw [hdt]; simp; omega)]
      have HLE := Lib.hid fun (y : Sg) (hy : y ∈ L) => show y.day ≤ d from Int.le_trans (HMX.out y hy) (by omega)
      rw [monN_many HUP.out HLE.out] at hE2
      have HE2 := Lib.hid hE2
      obtain ⟨K, hK⟩ : ∃ K, K = keepN L d := ⟨_, rfl⟩
      have HK := Lib.hid hK
      rw [← hK] at HE2 HKN
      have hKL : K ≤ L.length := by rw [HKN.out]; split <;> omega
      clear hdt hE2 hK
      go_upto_if 66 with (go_at_call 35; refine H3.out.mono ?_; rintro e w4 ⟨rfl, hw⟩; obtain rfl := hw.symm; clear hw)
      go_cut [12] (fun s12 wx => s12 = .int .i64 K ∧ wx = w3)
      case first =>
        by_cases hgd : d = g.day
        · have hk2 : K = L.length - 1 := by rw [HKN.out, if_pos hgd.symm]
          subst hgd
          go_wp2_with fail
          go_meet
          exact ⟨by rw [hk2]; congr 1; omega, rfl⟩
        · have hk2 : K = L.length := by rw [HKN.out, if_neg (fun e => hgd e.symm)]
          go_wp2_with fail
          go_meet
          exact ⟨by rw [hk2], rfl⟩
      case rest =>
        obtain ⟨rfl, hw⟩ := hcut
        obtain rfl := hw.symm
        clear hw H3 c0
        obtain ⟨M, hM⟩ : ∃ M, M = mon d := ⟨_, rfl⟩
        have HMI := Lib.hid (mon_in hdr)
        rw [← hM] at HMI
        have HMD := Lib.hid hM
        have hm1 := HMI.out.2.1
        have hm2 := HMI.out.2.2
        have HOF := Lib.hid fun (W : World) => rof_yes d M HMI.out.1 HMI.out.2.1 HMI.out.2.2 W
        unfold dateV at HOF
        obtain ⟨A, hA⟩ : ∃ A, A = M / 12 := ⟨_, rfl⟩
        obtain ⟨B, hB⟩ : ∃ B, B = M % 12 + 1 := ⟨_, rfl⟩
        obtain ⟨D, hD⟩ : ∃ D, D = d - Cal.first M + 1 := ⟨_, rfl⟩
        rw [← hA, ← hB, ← hD] at HOF
        have HPR := Lib.hid fun (N : Int) => show (N / 12 = A ∧ N % 12 + 1 = B) ↔ N = M from by rw [hA, hB]; exact month_pair
        clear hM hA hB hD hm1 hm2
        go_wp2_with fail
        refine (HOF.out _).mono ?_
        rintro e w5 ⟨rfl, hb⟩
        go_upto_region 11 with fail
        obtain ⟨W6, hW6⟩ : ∃ W6, W6 = w5.alloc (.cells #[.int .i64 (A), .int .i64 (B), .int .i64 (D)] 91) := ⟨_, rfl⟩
        rw [← hW6]
        have hb6 : Below w.heap.size w W6 := (HB3.out.trans (hb.mono HB3.out.size)).trans (by rw [hW6]; exact ((Below.refl _ _).alloc (by have := HB3.out.size; have := hb.size; omega) _))
        have q13 : W6.heap[w5.heap.size]? = some (.cells #[.int .i64 (A), .int .i64 (B), .int .i64 (D)] 91 (0, 0)) := by rw [hW6]; exact blk_new _ _
        have HB6 := Lib.hid hb6
        have hs6 := hb6.size
        have HMC := Lib.hid fun (W : World) (hbb : Below W6.heap.size W6 W) => show W.cell? ⟨w5.heap.size, 0, none⟩ = some (.int .i64 (A)) ∧ W.cell? ⟨w5.heap.size, 1, none⟩ = some (.int .i64 (B)) from by
          have := (Keep.ofBelow hbb (fun _ => False)).blk q13 (fun h => h)
          exact ⟨blk_cell this 0, blk_cell this 1⟩
        clear hW6 hb hb6 q13
        go_wp2_with fail
        go_loopw [15, 16] (fun c i wr => ∃ j : Nat, j ≤ K ∧ i = .int .i64 j ∧ c = .int .i64 (monN L d j) ∧ Hid (Below W6.heap.size W6 wr)) (fun _ i _ => K - (intOf i).toNat)
        case atStart => exact ⟨0, by omega, rfl, rfl, Lib.hid (Below.refl _ _)⟩
        case round =>
          obtain ⟨j, hj, rfl, rfl, HBr⟩ := hrel
          have HBw := Lib.hid (HB6.out.trans (HBr.out.mono hs6))
          have hws := HBw.out.size
          have d3 := HDD.out wr HBw.out
          rw [HLA.out] at d3
          by_cases hlt : j < K
          · obtain ⟨y, hy⟩ : ∃ y, L[j]? = some y := ⟨_, List.getElem?_eq_getElem (by omega)⟩
            obtain ⟨g2, off2, cap2, he2, a0, a1⟩ := (HSG.out.below HBw.out).at2s hy
            rw [HLA.out] at he2
            injection he2 with he2 hx1 hx2
            injection he2 with he2
            injection he2 with e1 e2
            subst e1; subst e2
            have i3 : (j : Int) < (K : Int) := by omega
            have i4 : (j : Int) < (L.length : Int) := by omega
            have hyd := HGD.out y (List.mem_of_getElem? hy)
            have hmi := mon_in hyd
            have HY := Lib.hid (monN_step (d := d) hy)
            rw [← HMD.out] at HY
            obtain ⟨yd, yp⟩ := y
            dsimp only at a0 a1 hyd hmi HY
            obtain ⟨N, hN⟩ : ∃ N, N = mon yd := ⟨_, rfl⟩
            rw [← hN] at hmi HY
            have HOF2 := Lib.hid fun (W : World) => rof_yes yd N hmi.1 hmi.2.1 hmi.2.2 W
            unfold dateV at HOF2
            have hPR := HPR.out N
            obtain ⟨Y, hY⟩ : ∃ Y, Y = N / 12 := ⟨_, rfl⟩
            obtain ⟨Z, hZ⟩ : ∃ Z, Z = N % 12 + 1 := ⟨_, rfl⟩
            obtain ⟨V, hV⟩ : ∃ V, V = yd - Cal.first N + 1 := ⟨_, rfl⟩
            rw [← hY, ← hZ] at hPR
            rw [← hY, ← hZ, ← hV] at HOF2
            have HQ := Lib.hid hPR
            clear hY hZ hV hPR
            have hcn := monN_le L d j
            obtain ⟨C, hC⟩ : ∃ C, C = monN L d j := ⟨_, rfl⟩
            rw [← hC] at HY hcn ⊢
            clear hx1 hx2 hy hmi hN hC hyd a1
            go_upto_region 15 with fail
            go_wp2_with fail
            refine (HOF2.out _).mono ?_
            rintro e w7 ⟨rfl, hb⟩
            have hb7 := HBr.out.trans (hb.mono HBr.out.size)
            have HB8 := Lib.hid (hb7.alloc hb7.size (.cells #[.int .i64 (Y), .int .i64 (Z), .int .i64 (V)] 91))
            obtain ⟨z0, z1⟩ := HMC.out _ HB8.out
            have q17 := blk_new w7 (.cells #[.int .i64 (Y), .int .i64 (Z), .int .i64 (V)] 91)
            have y0 := blk_cell q17 0
            have y1 := blk_cell q17 1
            clear hb hb7 d3 a0 q17
            by_cases hYA : Y = A
            · by_cases hZB : Z = B
              · rw [if_pos (HQ.out.1 ⟨hYA, hZB⟩)] at HY
                have hc1 : (0 : Int) ≤ (C : Int) := by omega
                have hc2 : (C : Int) ≤ 1000000 := by omega
                have HMS := Lib.hid (show K - (j + 1) < K - j from by omega)
                have HJK := Lib.hid (show j + 1 ≤ K from by omega)
                have hc3 : (0 : Int) ≤ (j : Int) := by omega
                have hc4 : (j : Int) ≤ 1000000 := by omega
                subst hYA; subst hZB
                clear hdr hbw hl hlp hs6 hws hKL hj hlt hcn i1 i2 i3 i4 hll hpos
                go_wp2_with fail
                refine ⟨⟨j + 1, HJK.out, by go_num, by rw [HY.out]; go_num, HB8⟩, by simp [intOf]; exact HMS.out⟩
              · rw [if_neg (fun e => hZB (HQ.out.2 e).2)] at HY
                subst hYA
                go_wp2_with fail
                refine ⟨⟨j + 1, by omega, by go_num, by rw [HY.out]; go_num, HB8⟩, by simp [intOf]; omega⟩
            · rw [if_neg (fun e => hYA (HQ.out.2 e).1)] at HY
              go_wp2_with fail
              refine ⟨⟨j + 1, by omega, by go_num, by rw [HY.out]; go_num, HB8⟩, by simp [intOf]; omega⟩
          · obtain rfl : j = K := by omega
            have i3 : ¬ (j : Int) < (j : Int) := by omega
            by_cases h24 : 24 ≤ monN L d j
            · have hE1 : E = 3 := by rw [HE2.out, if_pos h24]
              have hS2 : S = tsOf ts := by rw [HS.out]; unfold chgT; rw [show chgE (psOf ps) (tsOf ts) t i d = 3 by rw [← HEE.out]; exact hE1, if_neg (by decide)]
              subst hE1
              have HS2 := Lib.hid hS2
              obtain ⟨C, hC⟩ : ∃ C, C = monN L d j := ⟨_, rfl⟩
              rw [← hC] at h24 ⊢
              have j1 : (C : Int) ≥ 24 := by omega
              have j2 : (24 : Int) ≤ C := by omega
              clear hS2 hC h24
              go_wp2_with fail
              go_ret
              exact ⟨rfl, ⟨ts, HS2.out.symm, rfl, HH.out.below HBw.out⟩, Keep.ofBelow HBw.out _⟩
            · have hE1 : E = 0 := by rw [HE2.out, if_neg h24]
              have hS2 : S = tset (tsOf ts) t (L.take j ++ [⟨d, i⟩]) := by
                rw [HS.out]; unfold chgT
                rw [show chgE (psOf ps) (tsOf ts) t i d = 0 by rw [← HEE.out]; exact hE1, if_pos rfl, HTS.out]
                unfold chgL
                rw [keep_take HUP.out HLE.out, ← HK.out]
              subst hE1
              have HS2 := Lib.hid hS2
              obtain ⟨C, hC⟩ : ∃ C, C = monN L d j := ⟨_, rfl⟩
              rw [← hC] at h24 ⊢
              have j1 : ¬ (C : Int) ≥ 24 := by omega
              have j2 : ¬ (24 : Int) ≤ C := by omega
              have hgr := HSG.out.below HBw.out
              rw [HLA.out] at hgr
              obtain ⟨_, _, he2, hlc, hcm, _⟩ := hgr.shape
              injection he2 with he2 hx1 hx2
              subst hx2
              have hgt := hgr.take j hKL
              have hlt2 : (L.take j).length = j := by rw [List.length_take]; omega
              have HGT := Lib.hid hgt
              have HLT := Lib.hid hlt2
              have j3 : (j : Int) ≤ (x.lc : Int) := by omega
              clear hS2 hC h24 hgr he2 hx1 hgt hlt2
              have RN := Lib.hid (World.ownsRow_nil wr wr.heap.size 66 shS.sz)
              go_upto_region 22 with (at_builtin; go_must (
                refine wp_app_g 54 66 16 _ uSg iSg rfl (by decide) wr.heap.size rfl _ _ rfl (.slice none 0 0) (.slice (some ⟨g', off, none⟩) j x.lc) [] (L.take j) rfl rfl RN.out HGT.out (Nat.le_refl _) (by simp) (by rw [HLT.out]; omega) ?_
                rw [List.nil_append, HLT.out]
                intro v7 w7 ho hk hat
                obtain ⟨a7, c7, rfl⟩ := rowS_shape ho
                have hb7 : Below wr.heap.size wr w7 := hk.below (Nat.le_refl _) (fun k hk => by cases hk)
                have HO7 := Lib.hid ho
                have HB7 := Lib.hid hb7
                clear ho hk hat hb7))
              have hs7 := HB7.out.size
              have hbw7 := HBw.out.trans (HB7.out.mono hws)
              have d7 := HDD.out w7 hbw7
              have HBW7 := Lib.hid hbw7
              have QB7 := Lib.hid (HH.out.below hbw7)
              have HLOW := Lib.hid (rowS_low HO7.out)
              have HLT1 := Lib.hid (show (L.take j ++ [(⟨d, i⟩ : Sg)]).length = j + 1 from by rw [List.length_append, HLT.out]; rfl)
              have FIN := Lib.hid fun (w8 : World) (a8 : Option Addr) (c8 : Nat) (ho : w8.ownsRow wr.heap.size 66 shS.sz (.slice a8 (j + 1) c8) (j + 1) (shS.cells (L.take j ++ [⟨d, i⟩]))) (hb8 : Below wr.heap.size w7 w8) => show (∃ ts', tsOf ts' = S ∧ ts'.length = ts.length ∧ RB base (w8.setCell ⟨b, 2, none⟩ (.slice a8 (j + 1) c8)) q pv tv ps ts') ∧ Keep (RF base w) w (w8.setCell ⟨b, 2, none⟩ (.slice a8 (j + 1) c8)) from by
                have hb08 : Below w.heap.size w w8 := HBW7.out.trans (hb8.mono hws)
                have hgr := GR.of_row (S := shS) (v := .slice a8 (j + 1) c8) (L := L.take j ++ [⟨d, i⟩]) (by rw [HLT1.out]; exact ho)
                have hbt := BT.of_row ho
                rw [← HLT1.out] at hgr hbt ⊢
                obtain ⟨f1, f2⟩ := (HH.out.below hb08).changed HX.out hgr hbt
                rw [← HBX.out, HXT.out] at f1
                rw [← HBX.out] at f2
                exact ⟨⟨_, by rw [tvset_ts, HS2.out], by unfold tvset; simp, f1⟩, Keep.rf_from hb08 f2⟩
              have HXB := Lib.hid fun (W : World) (hbb : Below wr.heap.size w7 W) => show W.heap[b]? = some (.cells #[.int .u32 x.T.id, .int .i64 x.T.shift, .slice x.la L.length x.lc] 64 (0, 0)) from by
                have := ((HH.out.below (HBW7.out.trans (hbb.mono hws))).tis x HX.out).blk
                rw [← HBX.out, ← HLX.out] at this
                exact this
              have HOA := Lib.hid (show (w7.alloc (.cells #[.int .i64 d, .int .u32 i] 66)).ownsRow wr.heap.size 66 shS.sz (.slice a7 j c7) (L.take j).length (shS.cells (L.take j)) from by
                rw [HLT.out]; exact rowS_below HO7.out ((Below.refl _ _).alloc (Nat.le_refl _) _))
              go_wp2_with (at_builtin; go_must (
                refine wp_app_g 54 66 16 _ uSg iSg rfl (by decide) wr.heap.size rfl _ _ rfl (.slice a7 j c7) (.slice (some ⟨w7.heap.size, 0, none⟩) 1 1) (L.take j) [⟨d, i⟩] rfl rfl HOA.out (GR.lit (S := shS) w7 _ [⟨d, i⟩] (by simp)) (by simp; omega) (by rw [HLT.out]; omega) (by simp) ?_
                rw [HLT1.out]
                intro v8 w8 ho hk hat
                obtain ⟨a8, c8, rfl⟩ := rowS_shape ho
                have hb8 : Below wr.heap.size w7 w8 := ((Below.refl wr.heap.size w7).alloc hs7 _).trans (hk.below (by simp; omega) (fun k hk => (HLOW.out k hk).1))
                have f8 := blk_frozen (HXB.out w8 hb8) 2
                have k8 := blk_cell (HXB.out w8 hb8) 2
                have HO8 := Lib.hid ho
                have HB8 := Lib.hid hb8
                clear ho hk hat hb8))
              go_ret
              exact ⟨rfl, FIN.out _ _ _ HO8.out HB8.out⟩
end Go.Proofs.YtidppalhjknlfaaGreatDoor
