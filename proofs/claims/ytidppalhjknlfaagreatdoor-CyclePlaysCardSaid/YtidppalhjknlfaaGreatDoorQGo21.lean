/- quitrentlaw21: plan, goes. -/
import Derived.Test.YtidppalhjknlfaaGreatDoorQCy8
import Derived.Test.YtidppalhjknlfaaGreatDoorQCy10
namespace Go.Proofs.YtidppalhjknlfaaGreatDoor
open Go.RowKit
set_option maxRecDepth 100000
set_option maxHeartbeats 2000000
set_option linter.unusedVariables false
set_option linter.unusedSimpArgs false
def planP (i : Int) : Pl := ⟨i, 0, 0, 0, 0, 0, [⟨0, 0⟩]⟩
theorem planP_ok (i : Int) (h : 0 ≤ i ∧ i ≤ 4294967295) : (planP i).Ok := ⟨h, (show W64 0 by unfold W64; decide), (show W64 0 by unfold W64; decide), (show W64 0 by unfold W64; decide), (show W64 0 by unfold W64; decide), (show W64 0 by unfold W64; decide), fun t ht => by
  obtain rfl := List.mem_singleton.1 ht
  exact ⟨by unfold W64; decide, by unfold W64; decide⟩⟩
theorem plan_any (i : Int) (w : World) :
    Calls Tryz.prog 24 #[.int .u32 i] w fun e w' => ∃ a c, e = .returned (.agg #[.int .u32 i, .int .i64 0, .int .i64 0, .int .i64 0, .int .i64 0, .int .i64 0, .slice a 1 c]) ∧ GR shT w' (.slice a 1 c) [⟨0, 0⟩] ∧ Below w.heap.size w w' := by
  go_enter Tryz.func24, Tryz.ntmps24
  go_wp2
  have hz := blk_alloc (blk_new w (.cells #[.int .u32 i, .int .i64 0, .int .i64 0, .int .i64 0, .int .i64 0, .int .i64 0, .slice (some ⟨w.heap.size + 1, 0, none⟩) 1 1] 35)) (.cells #[.int .i64 0, .int .i64 0] 103)
  have hg : GR shT ((w.alloc (.cells #[.int .u32 i, .int .i64 0, .int .i64 0, .int .i64 0, .int .i64 0, .int .i64 0, .slice (some ⟨w.heap.size + 1, 0, none⟩) 1 1] 35)).alloc (.cells #[.int .i64 0, .int .i64 0] 103)) (.slice (some ⟨w.heap.size + 1, 0, none⟩) 1 1) [⟨0, 0⟩] := by
    have h := GR.lit (S := shT) (w.alloc (.cells #[.int .u32 i, .int .i64 0, .int .i64 0, .int .i64 0, .int .i64 0, .int .i64 0, .slice (some ⟨w.heap.size + 1, 0, none⟩) 1 1] 35)) 103 [⟨0, 0⟩] (by simp)
    rw [World.size_alloc] at h
    exact h
  have hb := ((Below.refl w.heap.size w).alloc (Nat.le_refl _) (.cells #[.int .u32 i, .int .i64 0, .int .i64 0, .int .i64 0, .int .i64 0, .int .i64 0, .slice (some ⟨w.heap.size + 1, 0, none⟩) 1 1] 35)).alloc (by simp) (.cells #[.int .i64 0, .int .i64 0] 103)
  generalize (w.alloc (.cells #[.int .u32 i, .int .i64 0, .int .i64 0, .int .i64 0, .int .i64 0, .int .i64 0, .slice (some ⟨w.heap.size + 1, 0, none⟩) 1 1] 35)).alloc (.cells #[.int .i64 0, .int .i64 0] 103) = W9 at *
  have x0 : W9.cell? ⟨w.heap.size, 0, none⟩ = some (.int .u32 i) := blk_cell hz 0
  have x1 : W9.cell? ⟨w.heap.size, 1, none⟩ = some (.int .i64 0) := blk_cell hz 1
  have x2 : W9.cell? ⟨w.heap.size, 2, none⟩ = some (.int .i64 0) := blk_cell hz 2
  have x3 : W9.cell? ⟨w.heap.size, 3, none⟩ = some (.int .i64 0) := blk_cell hz 3
  have x4 : W9.cell? ⟨w.heap.size, 4, none⟩ = some (.int .i64 0) := blk_cell hz 4
  have x5 : W9.cell? ⟨w.heap.size, 5, none⟩ = some (.int .i64 0) := blk_cell hz 5
  have x6 : W9.cell? ⟨w.heap.size, 6, none⟩ = some (.slice (some ⟨w.heap.size + 1, 0, none⟩) 1 1) := blk_cell hz 6
  refine bodyPost_ret (by simp [results, Tryz.results24, go_sem, x0, x1, x2, x3, x4, x5, x6]; try rfl) rfl ?_
  exact ⟨_, _, rfl, hg, hb⟩
theorem planP_def (i : Int) (h : 1 ≤ i ∧ i ≤ 4294967295) : plchk (planP i) = true := by
  unfold plchk
  rw [show tchk (planP i).tiers = true from (show tchk [⟨0, 0⟩] = true by decide +kernel), show NUMS.all (goodN (planP i)) = true by
    rw [List.all_eq_true]
    intro x _
    match x with
    | 0 => rfl
    | 1 => rfl
    | 2 => rfl
    | 3 => rfl
    | 4 => rfl, decide_eq_true (show 0 < (planP i).id by show 0 < i; omega)]
  rfl
/-- Define of a known plan -/
theorem defp_any (p b1 b2 m : Nat) (ps : List Pl) (ts : List Tn) (i : Int) (hi : 1 ≤ i ∧ i ≤ 4294967295) (hf : pfind ps i = none) (a : Option Addr) (c : Nat) (w : World) (h : CB w p b1 b2 ps ts m) (hm1 : m + 1 ≤ 1000000) (hv : GR shT w (.slice a 1 c) [⟨0, 0⟩]) :
    Calls Tryz.prog 8 #[.iface 24 (.pointer (some ⟨p, 0, none⟩)), .agg #[.int .u32 i, .int .i64 0, .int .i64 0, .int .i64 0, .int .i64 0, .int .i64 0, .slice a 1 c]] w fun e w' => e = .returned (.int .i64 0) ∧ CB w' p b1 b2 (ps ++ [planP i]) ts (m + 1) ∧ Keep (fun i => i = b1) w w' := by
  have e1 : defE ps (planP i) = 0 := by
    unfold defE
    rw [planP_def i hi, if_neg (by decide), show (planP i).id = i from rfl, hf]; rfl
  have e2 : defP ps (planP i) = ps ++ [planP i] := by unfold defP; rw [if_pos e1]
  have := cdef_any p b1 b2 m ps ts (planP i) (planP_ok i ⟨by omega, hi.2⟩) (.slice a 1 c) w h hm1 hv
  rw [e1, e2] at this
  exact this
theorem mon70 (d : Int) (h0 : 0 ≤ d) (h1 : d ≤ 30) : mon d = 23640 := by
  refine mon_eq ⟨?_, ?_⟩ (by decide) (by decide)
  · rw [show Cal.first 23640 = 0 by decide +kernel]; exact h0
  · rw [show Cal.first (23640 + 1) = 31 by decide +kernel]; omega
def ps12 : List Pl := [planP 1, planP 2]
def g1 : List Tn := [⟨7, 0, 9, [⟨9, 1⟩]⟩]
def g2 : List Tn := [⟨7, 0, 9, [⟨9, 1⟩, ⟨19, 2⟩]⟩]
theorem g_open : opnE ps12 [] 7 0 1 9 = 0 ∧ opnT ps12 [] 7 0 1 9 = g1 := by
  have e : opnE ps12 [] 7 0 1 9 = 0 := by decide +kernel
  exact ⟨e, by unfold opnT; rw [if_pos e]; rfl⟩
theorem g_chg : chgE ps12 g1 7 2 19 = 0 ∧ chgT ps12 g1 7 2 19 = g2 := by
  have hm : (manyL [⟨9, 1⟩] 19).length = 1 := by
    unfold manyL
    rw [List.filter_cons_of_pos (by rw [mon70 9 (by decide) (by decide), mon70 19 (by decide) (by decide)]; decide)]; rfl
  have e : chgE ps12 g1 7 2 19 = 0 := by
    unfold chgE
    show (if (pfind ps12 2).isNone = true then (4 : Int) else if isDate 19 = false ∨ 19 < lastD [⟨9, 1⟩] then 1 else if 24 ≤ (manyL [⟨9, 1⟩] 19).length then 3 else 0) = 0
    rw [hm, if_neg (by decide +kernel), if_neg (by decide +kernel), if_neg (by decide)]
  exact ⟨e, by unfold chgT; rw [if_pos e]; rfl⟩
theorem g_at : atP g2 7 8 = none ∧ atP g2 7 9 = some 1 ∧ atP g2 7 30 = some 2 := ⟨by decide +kernel, by decide +kernel, by decide +kernel⟩
theorem g_mon : monE g2 7 23640 = 0 ∧ monV g2 7 23640 = [⟨9, 1⟩, ⟨19, 2⟩] := by
  have e : monE g2 7 23640 = 0 := by decide +kernel
  exact ⟨e, by decide +kernel⟩
theorem g_days : daysV [⟨9, 1⟩, ⟨19, 2⟩] 23640 = [10, 12] := by decide +kernel
theorem jan_any (w : World) : Calls Tryz.prog 25 #[] w fun e w' => e = .returned (.int .i64 23640) ∧ w' = w := by
  go_enter Tryz.func25, Tryz.ntmps25
  go_wp2
  go_ret
  exact ⟨rfl, rfl⟩
theorem GR.at1 {w : World} {v : Value} {L : List Int} (h : GR shI w v L) {i : Nat} {x : Int} (hx : L[i]? = some x) : ∃ g off cap, v = .slice (some ⟨g, off, none⟩) L.length cap ∧ w.cell? ⟨g, off + i, none⟩ = some (.int .i64 x) := by
  obtain ⟨g, off, cap, he, hc⟩ := h.at_ hx
  refine ⟨g, off, cap, he, ?_⟩
  have := hc 0 _ rfl
  rwa [show off + i * shI.sz + 0 = off + i by show off + i * 1 + 0 = _; omega] at this
theorem goes21 (w : World) (hT : Tab w) :
    Calls Tryz.prog 7 #[] w fun e w' => e = .returned (.bool true) ∧ Below w.heap.size w w' := by
  have HT := Lib.hid hT
  have D0 := Lib.hid defp_any
  have P0 := Lib.hid plan_any
  clear hT
  go_enter Tryz.func7, Tryz.ntmps7
  go_wp2_with fail
  refine (new_any (-1) _).mono ?_
  rintro e w1 ⟨p, b1, b2, rfl, hp, hb1, hb2, hm, hb⟩
  have H1 := Lib.hid (show CB w1 p b1 b2 [] [] 0 from ⟨[], hm, CS.nil, St.nil, by decide⟩)
  have HB1 := Lib.hid hb
  have HP := Lib.hid hb1
  clear hm hb hp hb1 hb2
  unfold pV
  go_upto_region 4 with (
    first
      | (go_at_call 24; refine (P0.out 1 w1).mono ?_; rintro e w2 ⟨a2, c2, rfl, hg, hb⟩
         have G2 := Lib.hid hg
         have HB2 := Lib.hid (HB1.out.trans (hb.mono HB1.out.size))
         have H2 := Lib.hid (H1.out.below hb)
         clear hg hb H1)
      | (go_at_call 8; refine (D0.out p b1 b2 0 [] [] 1 (by decide) rfl a2 c2 w2 H2.out (by decide) G2.out).mono ?_; rintro e w3 ⟨rfl, h, hk⟩
         have H3 := Lib.hid h
         have HB3 := Lib.hid (HB2.out.trans (hk.below (B := w.heap.size) HB2.out.size (fun i hi => by subst hi; exact HP.out)))
         clear h hk H2 G2)
      | (go_at_call 24; refine (P0.out 2 w3).mono ?_; rintro e w4 ⟨a4, c4, rfl, hg, hb⟩
         have G4 := Lib.hid hg
         have HB4 := Lib.hid (HB3.out.trans (hb.mono HB3.out.size))
         have H4 := Lib.hid (H3.out.below hb)
         clear hg hb H3)
      | (go_at_call 8; refine (D0.out p b1 b2 1 [planP 1] [] 2 (by decide) rfl a4 c4 w4 H4.out (by decide) G4.out).mono ?_; rintro e w5 ⟨rfl, h, hk⟩
         have H5 := Lib.hid (show CB w5 p b1 b2 ps12 [] 2 from h)
         have HB5 := Lib.hid (HB4.out.trans (hk.below (B := w.heap.size) HB4.out.size (fun i hi => by subst hi; exact HP.out)))
         clear h hk H4 G4)
      | (go_at_call 10; refine (copn_any p b1 b2 2 ps12 [] 7 0 1 9 (by unfold U32; decide) (by unfold U32; decide) w5 H5.out (by decide) (HT.out.below HB5.out (Nat.le_refl _))).mono ?_; rw [g_open.1, g_open.2]; rintro e w6 ⟨rfl, h, hk⟩
         have H6 := Lib.hid h
         have HB6 := Lib.hid (HB5.out.trans (hk.below (B := w.heap.size) HB5.out.size (fun i hi => by subst hi; exact HP.out)))
         clear h hk H5)
      | (go_at_call 12; refine (cchg_any p b1 b2 4 ps12 g1 7 2 19 (by unfold U32; decide) (by unfold U32; decide) w6 H6.out (by decide) (HT.out.below HB6.out (Nat.le_refl _))).mono ?_; rw [g_chg.1, g_chg.2]; rintro e w7 ⟨rfl, h, hk⟩
         have H7 := Lib.hid h
         have HB7 := Lib.hid (HB6.out.trans (hk.below (B := w.heap.size) HB6.out.size (fun i hi => by subst hi; exact HP.out)))
         clear h hk H6))
  have u7 : U32 7 := by unfold U32; decide
  have A8 := Lib.hid (cat_any p b1 b2 (4 + 1) ps12 g2 7 8 u7 w7 H7.out)
  have A9 := Lib.hid fun (W : World) (hb : Below w7.heap.size w7 W) => cat_any p b1 b2 (4 + 1) ps12 g2 7 9 u7 W (H7.out.below hb)
  have A30 := Lib.hid fun (W : World) (hb : Below w7.heap.size w7 W) => cat_any p b1 b2 (4 + 1) ps12 g2 7 30 u7 W (H7.out.below hb)
  have AM := Lib.hid fun (W : World) (hb : Below w7.heap.size w7 W) (hT : Tab W) => cmon_any p b1 b2 (4 + 1) ps12 g2 7 23640 u7 W (H7.out.below hb) hT
  rw [g_at.1, show atV none = 0 from rfl, show atE none = 4 from rfl] at A8
  rw [g_at.2.1, show atV (some 1) = 1 from rfl, show atE (some 1) = 0 from rfl] at A9
  rw [g_at.2.2, show atV (some 2) = 2 from rfl, show atE (some 2) = 0 from rfl] at A30
  rw [g_mon.1, g_mon.2] at AM
  have AD := Lib.hid fun (v : Value) (W : World) (hT : Tab W) (hv : GR shS W v [⟨9, 1⟩, ⟨19, 2⟩]) => cdays_any v [⟨9, 1⟩, ⟨19, 2⟩] 23640 W hT hv (by simp) (by unfold D60; simp)
  rw [g_days] at AD
  unfold sV pV at A8 A9 A30 AM
  go_wp2_with fail
  refine A8.out.mono ?_
  rintro e w8 ⟨rfl, hb⟩
  have B8 := Lib.hid hb
  clear hb A8
  go_wp2_with fail
  refine (A9.out _ B8.out).mono ?_
  rintro e w9 ⟨rfl, hb⟩
  have B9 := Lib.hid (B8.out.trans (hb.mono B8.out.size))
  clear hb A9
  go_wp2_with fail
  refine (A30.out _ B9.out).mono ?_
  rintro e w10 ⟨rfl, hb⟩
  have B10 := Lib.hid (B9.out.trans (hb.mono B9.out.size))
  clear hb A30
  go_wp2_with fail
  refine (jan_any _).mono ?_
  rintro e w' ⟨rfl, hw⟩
  obtain rfl := hw.symm
  clear hw
  go_wp2_with fail
  refine (AM.out _ B10.out (HT.out.below (HB7.out.trans (B10.out.mono HB7.out.size)) (Nat.le_refl _))).mono ?_
  rintro e w11 ⟨v11, rfl, hg, hb⟩
  have B11 := Lib.hid (HB7.out.trans ((B10.out.trans (hb.mono B10.out.size)).mono HB7.out.size))
  have G11 := Lib.hid hg
  clear hb hg AM
  go_wp2_with fail
  refine (jan_any _).mono ?_
  rintro e w' ⟨rfl, hw⟩
  obtain rfl := hw.symm
  clear hw
  go_wp2_with fail
  refine (AD.out _ _ (HT.out.below B11.out (Nat.le_refl _)) G11.out).mono ?_
  rintro e w12 ⟨v12, rfl, hg, hb⟩
  have B12 := Lib.hid (B11.out.trans (hb.mono B11.out.size))
  obtain ⟨ga, offa, capa, rfl, c0, c1⟩ := (G11.out.below hb).at2s (i := 1) rfl
  obtain ⟨gb, offb, capb, he, d0⟩ := hg.at1 (i := 0) rfl
  subst he
  obtain ⟨gc, offc, capc, he, d1⟩ := hg.at1 (i := 1) rfl
  injection he with he _ _
  injection he with he
  injection he with e1 e2
  subst e1; subst e2
  dsimp only at c0 c1
  rw [Nat.add_zero] at d0
  clear hg hb AD G11
  go_wp2
  go_ret
  exact ⟨rfl, B12.out⟩
end Go.Proofs.YtidppalhjknlfaaGreatDoor
