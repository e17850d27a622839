/- The walk of CycleOnce. -/
import Derived.Test.YtidppalhjknlfaaDoorQLawCLater
namespace Go.Proofs.YtidppalhjknlfaaDoor
open Go.RowKit
set_option maxRecDepth 100000
set_option maxHeartbeats 2000000
set_option linter.unusedVariables false
set_option linter.unusedSimpArgs false
/-- what Plan answers, in one -/
theorem cplan_any (p b1 b2 m : Nat) (ps : List Pl) (ts : List Tn) (i : Int) (hi : U32 i) (w : World) (h : CB w p b1 b2 ps ts m) :
    Calls Tryd.prog 18 #[sV p, .int .u32 i] w fun e w' => ∃ tv, e = .returned (.tuple #[((pfind ps i).getD Pl.zero).val tv, .int .i64 (if (pfind ps i).isSome = true then 0 else 4)]) ∧ GR shT w' tv ((pfind ps i).getD Pl.zero).tiers ∧ Below w.heap.size w w' := by
  cases hf : pfind ps i with
  | none =>
    refine (cplan_no p b1 b2 m ps ts i hi w h hf).mono ?_
    rintro e w' ⟨rfl, hb⟩
    exact ⟨_, rfl, GR.nil _, hb⟩
  | some P =>
    refine (cplan_yes p b1 b2 m ps ts i hi w h P hf).mono ?_
    rintro e w' ⟨tv, rfl, hg, hb⟩
    exact ⟨tv, rfl, hg, hb⟩
/-- what Tenant answers, in one -/
def tnS (o : Option Tn) : Int := (o.map Tn.shift).getD 0
def tnD (o : Option Tn) : Int := (o.map Tn.day).getD 0
def tnE (o : Option Tn) : Int := if o.isSome = true then 0 else 4
theorem cten_any (p b1 b2 m : Nat) (ps : List Pl) (ts : List Tn) (t : Int) (ht : U32 t) (w : World) (h : CB w p b1 b2 ps ts m) :
    Calls Tryd.prog 16 #[sV p, .int .u32 t] w fun e w' => e = .returned (.tuple #[.int .i64 (tnS (tfind ts t)), .int .i64 (tnD (tfind ts t)), .int .i64 (tnE (tfind ts t))]) ∧ Below w.heap.size w w' := by
  cases hf : tfind ts t with
  | none => exact cten_no p b1 b2 m ps ts t ht w h hf
  | some T => exact cten_yes p b1 b2 m ps ts t ht w h T hf
theorem defE_cases (ps : List Pl) (p : Pl) : defE ps p = 0 ∨ defE ps p = 1 ∨ defE ps p = 5 := by
  unfold defE
  split
  · exact .inr (.inl rfl)
  · split
    · exact .inr (.inr rfl)
    · exact .inl rfl
theorem opnE_cases (ps : List Pl) (ts : List Tn) (t s i d : Int) : opnE ps ts t s i d = 0 ∨ opnE ps ts t s i d = 1 ∨ opnE ps ts t s i d = 4 ∨ opnE ps ts t s i d = 5 := by
  unfold opnE
  split
  · exact .inr (.inl rfl)
  · split
    · exact .inr (.inr (.inr rfl))
    · split
      · exact .inr (.inr (.inl rfl))
      · exact .inl rfl
theorem defE_twice {ps : List Pl} {p q : Pl} (h : pfind ps p.id = some q) : (defE ps p = 1 ∨ defE ps p = 5) ∧ pfind (defP ps p) p.id = some q := by
  have h1 : defE ps p = 1 ∨ defE ps p = 5 := by
    unfold defE
    split
    · exact .inl rfl
    · rw [if_pos (by rw [h]; rfl)]; exact .inr rfl
  refine ⟨h1, ?_⟩
  unfold defP
  rw [if_neg (by rcases h1 with h1 | h1 <;> rw [h1] <;> decide)]
  exact h
theorem opnE_twice {ps : List Pl} {ts : List Tn} {t s i d : Int} {T : Tn} (h : tfind ts t = some T) : (opnE ps ts t s i d = 1 ∨ opnE ps ts t s i d = 5) ∧ tfind (opnT ps ts t s i d) t = some T := by
  have h1 : opnE ps ts t s i d = 1 ∨ opnE ps ts t s i d = 5 := by
    unfold opnE
    split
    · exact .inl rfl
    · rw [if_pos (by rw [h]; rfl)]; exact .inr rfl
  refine ⟨h1, ?_⟩
  unfold opnT
  rw [if_neg (by rcases h1 with h1 | h1 <;> rw [h1] <;> decide)]
  exact h
theorem cycleonce_any (v : Value) (l : List A21) (x : A21) (w : World) (hT : Tab w) (hv : AS21 w v l) (hx : x.Ok w) :
    Calls Tryd.prog 5 #[v, .agg x.cells.toArray] w fun e w' => e = .returned (.bool true) ∧ Below w.heap.size w w' := by
  obtain ⟨a, c, rfl, hlc, hcm, _⟩ := hv.1.shape
  obtain ⟨W, hW⟩ : ∃ W, W = w.alloc (.cells x.cells.toArray 50) := ⟨_, rfl⟩
  have hbW : Below w.heap.size w W := by rw [hW]; exact (Below.refl _ _).alloc (Nat.le_refl _) _
  have hbx : Box21 W w.heap.size x := by rw [hW]; exact blk_new _ _
  have HG1 := Lib.hid (great21_any _ l W (hv.below hbW).1)
  have HG2 := Lib.hid fun (X : World) => great21_any _ [x] (X.alloc (.cells (shA.cells [x]).toArray 50)) (GR.lit (S := shA) X _ [x] (by simp))
  have HMD := Lib.hid fun (hl : l.length ≤ 100) (X : World) (hb : Below w.heap.size w X) => made21_any _ l X (hT.below hb (Nat.le_refl _)) (hv.below hb) hl
  have HGO := Lib.hid fun (X : World) (hb : Below w.heap.size w X) => goes21 X (hT.below hb (Nat.le_refl _))
  have HT := Lib.hid hT
  have HBW := Lib.hid hbW
  have HBX := Lib.hid hbx
  have HX := Lib.hid hx
  obtain ⟨b1, hb1⟩ : ∃ b, b = greatB l := ⟨_, rfl⟩
  obtain ⟨b2, hb2⟩ : ∃ b, b = greatB [x] := ⟨_, rfl⟩
  rw [← hb1] at HG1
  rw [← hb2] at HG2
  have HB1 := Lib.hid hb1
  obtain ⟨k0, k1, k2, k3, k4, k5, k6, k7, k8, k9, k10, k11⟩ := hbx.cells
  have hWs : W.heap.size = w.heap.size + 1 := by rw [hW]; simp
  have HWS := Lib.hid hWs
  simp only [A21.cells] at hW ⊢
  have e2 : shA.cells [x] = [.int .u8 x.doo, .int .u32 x.P.id, .int .i64 x.P.daily, .int .i64 x.P.monthly, .int .i64 x.P.over, .int .i64 x.P.roll, .int .i64 x.P.base, .slice x.ta x.P.tiers.length x.tc, .int .u32 x.ten, .int .u32 x.id, .int .i64 x.shift, .int .i64 x.n] := rfl
  rw [e2] at HG2
  clear hv hx hT hbW hbx hb1 hb2 hWs e2
  go_enter Tryd.func5, Tryd.ntmps5
  go_upto_region 1 with fail
  rw [← hW]
  clear hW
  cases b1 with
  | true =>
    go_wp2_with (go_at_call 11; refine HG1.out.mono ?_; rintro e w1 ⟨rfl, hw⟩; obtain rfl := hw.symm)
    go_ret
    exact ⟨rfl, HBW.out⟩
  | false =>
    cases b2 with
    | true =>
      go_wp2_with (first
        | (go_at_call 11; refine HG1.out.mono ?_; rintro e w1 ⟨rfl, hw⟩; obtain rfl := hw.symm; clear hw HG1)
        | (go_at_call 11; refine (HG2.out _).mono ?_; rintro e w1 ⟨rfl, hw⟩; obtain rfl := hw.symm; clear hw HG2))
      go_ret
      exact ⟨rfl, HBW.out.alloc HBW.out.size _⟩
    | false =>
      go_upto_region 3 with (first
        | (go_at_call 11; refine HG1.out.mono ?_; rintro e w1 ⟨rfl, hw⟩; obtain rfl := hw.symm; clear hw HG1)
        | (go_at_call 11; refine (HG2.out _).mono ?_; rintro e w1 ⟨rfl, hw⟩; obtain rfl := hw.symm; clear hw HG2))
      obtain ⟨W3, hW3⟩ : ∃ W3, W3 = W.alloc (.cells #[.int .u8 x.doo, .int .u32 x.P.id, .int .i64 x.P.daily, .int .i64 x.P.monthly, .int .i64 x.P.over, .int .i64 x.P.roll, .int .i64 x.P.base, .slice x.ta x.P.tiers.length x.tc, .int .u32 x.ten, .int .u32 x.id, .int .i64 x.shift, .int .i64 x.n] 50) := ⟨_, rfl⟩
      have hb3 : Below W.heap.size W W3 := by rw [hW3]; exact (Below.refl _ _).alloc (Nat.le_refl _) _
      have HB3 := Lib.hid (HBW.out.trans (hb3.mono HBW.out.size))
      have HBX3 := Lib.hid (HBX.out.below hb3)
      have HMM := Lib.hid (HMD.out (greatB_no HB1.out.symm) W3 HB3.out)
      rw [← hW3]
      clear hW3 hb3 HMD k0 k1 k2 k3 k4 k5 k6 k7 k8 k9 k10 k11
      go_wp2_with fail
      refine HMM.out.mono ?_
      rintro e w4 ⟨p, b1, b2, rfl, hpb, hcb, hb⟩
      have HB4 := Lib.hid (HB3.out.trans (hb.mono HB3.out.size))
      have hbx4 := HBX3.out.below hb
      have HBX4 := Lib.hid hbx4
      obtain ⟨m, hm⟩ : ∃ m, m = 2 + 2 * l.length := ⟨_, rfl⟩
      rw [← hm] at hcb
      have hll := greatB_no HB1.out.symm
      have hm2 : m ≤ 202 := by omega
      obtain ⟨ps, hps⟩ : ∃ ps, ps = (madeB l).1 := ⟨_, rfl⟩
      obtain ⟨ts, hts⟩ : ∃ ts, ts = (madeB l).2 := ⟨_, rfl⟩
      rw [← hps, ← hts] at hcb
      have HC4 := Lib.hid hcb
      have hbw : w.heap.size + 1 ≤ b1 := by
        have h1 := HB3.out.size
        have h2 := blk_lt HBX3.out
        omega
      have HP1 := Lib.hid (cplan_any p b1 b2 m ps ts x.P.id HX.out.P.id w4 hcb)
      have HT1 := Lib.hid fun (X : World) (hb : Below w4.heap.size w4 X) => cten_any p b1 b2 m ps ts x.ten HX.out.ten X (hcb.below hb)
      have HD1 := Lib.hid fun (X : World) (hb : Below w4.heap.size w4 X) => cdef_any p b1 b2 m ps ts x.P HX.out.P (.slice x.ta x.P.tiers.length x.tc) X (hcb.below hb) (by omega) (HX.out.tiers.below (HB4.out.trans (hb.mono HB4.out.size)))
      have HO1 := Lib.hid fun (X : World) (hb : Below w.heap.size w X) (h : CB X p b1 b2 (defP ps x.P) ts (m + 1)) => copn_any p b1 b2 (m + 1) (defP ps x.P) ts x.ten x.shift 1 x.n HX.out.ten (by unfold U32; decide) X h (by omega) (HT.out.below hb (Nat.le_refl _))
      have HP2 := Lib.hid fun (X : World) (h : CB X p b1 b2 (defP ps x.P) (opnT (defP ps x.P) ts x.ten x.shift 1 x.n) (m + 3)) => cplan_any p b1 b2 (m + 3) _ _ x.P.id HX.out.P.id X h
      have HT2 := Lib.hid fun (X : World) (h : CB X p b1 b2 (defP ps x.P) (opnT (defP ps x.P) ts x.ten x.shift 1 x.n) (m + 3)) => cten_any p b1 b2 (m + 3) _ _ x.ten HX.out.ten X h
      have hA : ((if (pfind ps x.P.id).isSome = true then (0 : Int) else 4) = 0 ∧ (defE ps x.P = 1 ∨ defE ps x.P = 5) ∧ (pfind (defP ps x.P) x.P.id).getD Pl.zero = (pfind ps x.P.id).getD Pl.zero ∧ (if (pfind (defP ps x.P) x.P.id).isSome = true then (0 : Int) else 4) = 0) ∨ (if (pfind ps x.P.id).isSome = true then (0 : Int) else 4) = 4 := by
        cases hf : pfind ps x.P.id with
        | none => exact .inr rfl
        | some q =>
          obtain ⟨h1, h2⟩ := defE_twice hf
          exact .inl ⟨rfl, h1, by rw [h2], by rw [h2]; rfl⟩
      have hB : (tnE (tfind ts x.ten) = 0 ∧ (opnE (defP ps x.P) ts x.ten x.shift 1 x.n = 1 ∨ opnE (defP ps x.P) ts x.ten x.shift 1 x.n = 5) ∧ tnS (tfind (opnT (defP ps x.P) ts x.ten x.shift 1 x.n) x.ten) = tnS (tfind ts x.ten) ∧ tnD (tfind (opnT (defP ps x.P) ts x.ten x.shift 1 x.n) x.ten) = tnD (tfind ts x.ten) ∧ tnE (tfind (opnT (defP ps x.P) ts x.ten x.shift 1 x.n) x.ten) = 0) ∨ tnE (tfind ts x.ten) = 4 := by
        cases hf : tfind ts x.ten with
        | none => exact .inr rfl
        | some q =>
          obtain ⟨h1, h2⟩ := opnE_twice (ps := defP ps x.P) (s := x.shift) (i := 1) (d := x.n) hf
          exact .inl ⟨rfl, h1, by rw [h2], by rw [h2], by rw [h2]; rfl⟩
      generalize (if (pfind ps x.P.id).isSome = true then (0 : Int) else 4) = E1 at hA HP1
      generalize (if (pfind (defP ps x.P) x.P.id).isSome = true then (0 : Int) else 4) = E2 at hA HP2
      generalize (pfind ps x.P.id).getD Pl.zero = Q at hA HP1
      generalize (pfind (defP ps x.P) x.P.id).getD Pl.zero = Q2 at hA HP2
      generalize tnE (tfind ts x.ten) = F1 at hB HT1
      generalize tnS (tfind ts x.ten) = S1 at hB HT1
      generalize tnD (tfind ts x.ten) = D1 at hB HT1
      generalize tnE (tfind (opnT (defP ps x.P) ts x.ten x.shift 1 x.n) x.ten) = F2 at hB HT2
      generalize tnS (tfind (opnT (defP ps x.P) ts x.ten x.shift 1 x.n) x.ten) = S2 at hB HT2
      generalize tnD (tfind (opnT (defP ps x.P) ts x.ten x.shift 1 x.n) x.ten) = D2 at hB HT2
      generalize opnE (defP ps x.P) ts x.ten x.shift 1 x.n = H1 at hB HO1
      generalize opnT (defP ps x.P) ts x.ten x.shift 1 x.n = ts1 at HO1 HP2 HT2
      generalize defE ps x.P = G1 at hA HD1
      generalize defP ps x.P = ps1 at HD1 HO1 HP2 HT2
      have HA := Lib.hid hA
      have HBb := Lib.hid hB
      have hbl := hcb.b1lt
      unfold sV pV at HP1 HT1 HD1 HO1 HP2 HT2
      unfold Pl.val at HP1 HD1 HP2
      obtain ⟨k0, k1, k2, k3, k4, k5, k6, k7, k8, k9, k10, k11⟩ := hbx4.cells
      clear hb hbx4 hpb hcb hm hps hts hA hB HMM HBX3 HB3 k0 k2 k3 k4 k5 k6 k7 k8 k9 k10 k11 HC4
      go_wp2_with fail
      refine HP1.out.mono ?_
      rintro e w5 ⟨tv, rfl, hgr, hb⟩
      obtain ⟨ta, tc, rfl, _, _, _⟩ := hgr.shape
      obtain ⟨w6, hw6⟩ : ∃ w6, w6 = w5.alloc (.cells #[.int .u32 Q.id, .int .i64 Q.daily, .int .i64 Q.monthly, .int .i64 Q.over, .int .i64 Q.roll, .int .i64 Q.base, .slice ta Q.tiers.length tc] 48) := ⟨_, rfl⟩
      have hb6 : Below w5.heap.size w5 w6 := by rw [hw6]; exact (Below.refl _ _).alloc (Nat.le_refl _) _
      have hp6 : w6.heap[w5.heap.size]? = some (.cells #[.int .u32 Q.id, .int .i64 Q.daily, .int .i64 Q.monthly, .int .i64 Q.over, .int .i64 Q.roll, .int .i64 Q.base, .slice ta Q.tiers.length tc] 48 (0, 0)) := by rw [hw6]; exact blk_new _ _
      have hb46 := hb.trans (hb6.mono hb.size)
      have hs5 := hb.size
      have hbx6 := HBX4.out.below hb46
      have HBX6 := Lib.hid hbx6
      have HP6 := Lib.hid hp6
      have HB46 := Lib.hid hb46
      obtain ⟨k0, k1, k2, k3, k4, k5, k6, k7, k8, k9, k10, k11⟩ := hbx6.cells
      clear hgr hb hb6 hp6 hbx6 hb46 HP1 HBX4 k0 k1 k2 k3 k4 k5 k6 k7 k9 k10 k11
      go_upto_region 5 with fail
      rw [← hw6]
      clear hw6
      go_wp2_with fail
      refine (HT1.out _ HB46.out).mono ?_
      rintro e w7 ⟨rfl, hb⟩
      have HB47 := Lib.hid (HB46.out.trans (hb.mono HB46.out.size))
      have hbx7 := HBX6.out.below hb
      have HBX7 := Lib.hid hbx7
      have HP7 := Lib.hid ((Keep.ofBelow hb (fun _ => False)).blk HP6.out (fun h => h))
      obtain ⟨k0, k1, k2, k3, k4, k5, k6, k7, k8, k9, k10, k11⟩ := hbx7.cells
      clear hb hbx7 HP6 HBX6 HT1 HB46 k0 k8 k9 k10 k11
      go_wp2_with fail
      refine (HD1.out _ HB47.out).mono ?_
      rintro e w8 ⟨rfl, h, hk⟩
      have hb47 := HB4.out.trans (HB47.out.mono HB4.out.size)
      have HC8 := Lib.hid h
      have HB8 := Lib.hid (hb47.trans (hk.below (B := w.heap.size) hb47.size (fun i hi => by subst hi; omega)))
      have hbx8 := HBX7.out.keep hk (fun e => by omega)
      have HBX8 := Lib.hid hbx8
      have HP8 := Lib.hid (hk.blk HP7.out (fun e => by omega))
      obtain ⟨k0, k1, k2, k3, k4, k5, k6, k7, k8, k9, k10, k11⟩ := hbx8.cells
      clear h hk hbx8 hb47 HP7 HBX7 HD1 HB47 k0 k1 k2 k3 k4 k5 k6 k7 k9
      go_wp2_with fail
      refine (HO1.out _ HB8.out HC8.out).mono ?_
      rintro e w9 ⟨rfl, h, hk⟩
      have hb9 := HB8.out.trans (hk.below (B := w.heap.size) HB8.out.size (fun i hi => by subst hi; omega))
      have HC9 := Lib.hid (show CB w9 p b1 b2 ps1 ts1 (m + 3) from h)
      have HB9 := Lib.hid hb9
      have hbx9 := HBX8.out.keep hk (fun e => by omega)
      have HBX9 := Lib.hid hbx9
      have HP9 := Lib.hid (hk.blk HP8.out (fun e => by omega))
      obtain ⟨k0, k1, k2, k3, k4, k5, k6, k7, k8, k9, k10, k11⟩ := hbx9.cells
      clear h hk hb9 hbx9 HP8 HBX8 HO1 HC8 HB8 k0 k2 k3 k4 k5 k6 k7 k9 k10 k11
      have hA := HA.out
      have hB := HBb.out
      clear HA HBb
      rcases hA with ⟨rfl, hG, rfl, rfl⟩ | rfl
      · rcases hB with ⟨rfl, hH, rfl, rfl, rfl⟩ | rfl
        · rcases hG with rfl | rfl
          all_goals
            rcases hH with rfl | rfl
            all_goals
              go_wp2_with (first
                | (go_at_call 18; refine (HP2.out _ HC9.out).mono ?_; rintro e w10 ⟨tv2, rfl, hgr, hb⟩
                   obtain ⟨ta2, tc2, rfl, _, _, _⟩ := hgr.shape
                   have hba := hb.alloc hb.size (.cells #[.int .u32 Q2.id, .int .i64 Q2.daily, .int .i64 Q2.monthly, .int .i64 Q2.over, .int .i64 Q2.roll, .int .i64 Q2.base, .slice ta2 Q2.tiers.length tc2] 48)
                   have HC10 := Lib.hid (HC9.out.below hba)
                   have HB10 := Lib.hid (HB9.out.trans (hba.mono HB9.out.size))
                   have hbx10 := HBX9.out.below hba
                   have l8 := hbx10.cells.2.2.2.2.2.2.2.2.1
                   have hp10 := (Keep.ofBelow hba (fun _ => False)).blk HP9.out (fun h => h)
                   have hn10 := blk_new w10 (.cells #[.int .u32 Q2.id, .int .i64 Q2.daily, .int .i64 Q2.monthly, .int .i64 Q2.over, .int .i64 Q2.roll, .int .i64 Q2.base, .slice ta2 Q2.tiers.length tc2] 48)
                   have m2 := blk_cell hp10 2
                   have m5 := blk_cell hp10 5
                   have m6 := blk_cell hp10 6
                   have n2 := blk_cell hn10 2
                   have n5 := blk_cell hn10 5
                   have n6 := blk_cell hn10 6
                   clear hgr hb hba hbx10 hp10 hn10 HP2)
                | (go_at_call 16; refine (HT2.out _ HC10.out).mono ?_; rintro e w12 ⟨rfl, hb⟩
                   have HB12 := Lib.hid (HB10.out.trans (hb.mono HB10.out.size))
                   clear hb HT2)
                | (go_at_call 10; refine (HGO.out _ HB12.out).mono ?_; rintro e w13 ⟨rfl, hb⟩
                   have HB13 := Lib.hid (HB12.out.trans (hb.mono HB12.out.size))
                   clear hb HGO))
              go_ret
              exact ⟨rfl, HB13.out⟩
        · rcases hG with rfl | rfl
          all_goals
            go_wp2_with (first
              | (go_at_call 18; refine (HP2.out _ HC9.out).mono ?_; rintro e w10 ⟨tv2, rfl, hgr, hb⟩
                 obtain ⟨ta2, tc2, rfl, _, _, _⟩ := hgr.shape
                 have hba := hb.alloc hb.size (.cells #[.int .u32 Q2.id, .int .i64 Q2.daily, .int .i64 Q2.monthly, .int .i64 Q2.over, .int .i64 Q2.roll, .int .i64 Q2.base, .slice ta2 Q2.tiers.length tc2] 48)
                 have HC10 := Lib.hid (HC9.out.below hba)
                 have HB10 := Lib.hid (HB9.out.trans (hba.mono HB9.out.size))
                 have hbx10 := HBX9.out.below hba
                 have l8 := hbx10.cells.2.2.2.2.2.2.2.2.1
                 have hp10 := (Keep.ofBelow hba (fun _ => False)).blk HP9.out (fun h => h)
                 have hn10 := blk_new w10 (.cells #[.int .u32 Q2.id, .int .i64 Q2.daily, .int .i64 Q2.monthly, .int .i64 Q2.over, .int .i64 Q2.roll, .int .i64 Q2.base, .slice ta2 Q2.tiers.length tc2] 48)
                 have m2 := blk_cell hp10 2
                 have m5 := blk_cell hp10 5
                 have m6 := blk_cell hp10 6
                 have n2 := blk_cell hn10 2
                 have n5 := blk_cell hn10 5
                 have n6 := blk_cell hn10 6
                 clear hgr hb hba hbx10 hp10 hn10 HP2)
              | (go_at_call 10; refine (HGO.out _ HB10.out).mono ?_; rintro e w13 ⟨rfl, hb⟩
                 have HB13 := Lib.hid (HB10.out.trans (hb.mono HB10.out.size))
                 clear hb HGO))
            go_ret
            exact ⟨rfl, HB13.out⟩
      · rcases hB with ⟨rfl, hH, rfl, rfl, rfl⟩ | rfl
        · rcases hH with rfl | rfl
          all_goals
            go_wp2_with (first
              | (go_at_call 16; refine (HT2.out _ HC9.out).mono ?_; rintro e w12 ⟨rfl, hb⟩
                 have HB12 := Lib.hid (HB9.out.trans (hb.mono HB9.out.size))
                 clear hb HT2)
              | (go_at_call 10; refine (HGO.out _ HB12.out).mono ?_; rintro e w13 ⟨rfl, hb⟩
                 have HB13 := Lib.hid (HB12.out.trans (hb.mono HB12.out.size))
                 clear hb HGO))
            go_ret
            exact ⟨rfl, HB13.out⟩
        ·
          go_wp2_with (first
            | (go_at_call 10; refine (HGO.out _ HB9.out).mono ?_; rintro e w13 ⟨rfl, hb⟩
               have HB13 := Lib.hid (HB9.out.trans (hb.mono HB9.out.size))
               clear hb HGO))
          go_ret
          exact ⟨rfl, HB13.out⟩
end Go.Proofs.YtidppalhjknlfaaDoor
