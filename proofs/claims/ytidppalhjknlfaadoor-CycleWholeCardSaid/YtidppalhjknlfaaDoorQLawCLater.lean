/- The walk of CycleLater. -/
import Derived.Test.YtidppalhjknlfaaDoorQMade21
import Derived.Test.YtidppalhjknlfaaDoorQCyLaw2
namespace Go.Proofs.YtidppalhjknlfaaDoor
open Go.RowKit
set_option maxRecDepth 100000
set_option maxHeartbeats 2000000
set_option linter.unusedVariables false
set_option linter.unusedSimpArgs false
/-- an act's box -/
def Box21 (w : World) (n : Nat) (x : A21) : Prop := w.heap[n]? = some (.cells x.cells.toArray 50 (0, 0))
theorem Box21.below {w w' : World} {n : Nat} {x : A21} (h : Box21 w n x) (hb : Below w.heap.size w w') : Box21 w' n x := (Keep.ofBelow hb (fun _ => False)).blk h (fun h => h)
theorem Box21.keep {F : Nat → Prop} {w w' : World} {n : Nat} {x : A21} (h : Box21 w n x) (hk : Keep F w w') (hF : ¬ F n) : Box21 w' n x := hk.blk h hF
theorem Box21.cells {w : World} {n : Nat} {x : A21} (h : Box21 w n x) : w.cell? ⟨n, 0, none⟩ = some (.int .u8 x.doo) ∧ w.cell? ⟨n, 1, none⟩ = some (.int .u32 x.P.id) ∧ w.cell? ⟨n, 2, none⟩ = some (.int .i64 x.P.daily) ∧ w.cell? ⟨n, 3, none⟩ = some (.int .i64 x.P.monthly) ∧ w.cell? ⟨n, 4, none⟩ = some (.int .i64 x.P.over) ∧ w.cell? ⟨n, 5, none⟩ = some (.int .i64 x.P.roll) ∧ w.cell? ⟨n, 6, none⟩ = some (.int .i64 x.P.base) ∧ w.cell? ⟨n, 7, none⟩ = some (.slice x.ta x.P.tiers.length x.tc) ∧ w.cell? ⟨n, 8, none⟩ = some (.int .u32 x.ten) ∧ w.cell? ⟨n, 9, none⟩ = some (.int .u32 x.id) ∧ w.cell? ⟨n, 10, none⟩ = some (.int .i64 x.shift) ∧ w.cell? ⟨n, 11, none⟩ = some (.int .i64 x.n) := by
  refine ⟨?_, ?_, ?_, ?_, ?_, ?_, ?_, ?_, ?_, ?_, ?_, ?_⟩ <;> rw [blk_cell h] <;> rfl
theorem cyclelater_any (v : Value) (l : List A21) (x : A21) (d : Int) (w : World) (hT : Tab w) (hv : AS21 w v l) (hx : x.Ok w) :
    Calls Tryd.prog 6 #[v, .agg x.cells.toArray, .int .i64 d] w fun e w' => e = .returned (.bool true) ∧ Below w.heap.size w w' := by
  obtain ⟨a, c, rfl, hlc, hcm, _⟩ := hv.1.shape
  obtain ⟨W, hW⟩ : ∃ W, W = w.alloc (.cells x.cells.toArray 50) := ⟨_, rfl⟩
  have hbW : Below w.heap.size w W := by rw [hW]; exact (Below.refl _ _).alloc (Nat.le_refl _) _
  have hbx : Box21 W w.heap.size x := by rw [hW]; exact blk_new _ _
  have HG1 := Lib.hid (great21_any _ l W (hv.below hbW).1)
  have HG2 := Lib.hid fun (X : World) => great21_any _ [x] (X.alloc (.cells (shA.cells [x]).toArray 50)) (GR.lit (S := shA) X _ [x] (by simp))
  have HMD := Lib.hid fun (hl : l.length ≤ 100) (X : World) (hb : Below w.heap.size w X) => made21_any _ l X (hT.below hb (Nat.le_refl _)) (hv.below hb) hl
  have HGO := Lib.hid fun (X : World) (hb : Below w.heap.size w X) => goes21 X (hT.below hb (Nat.le_refl _))
  have HT := Lib.hid hT
  have HBW := Lib.hid hbW
  have HBX := Lib.hid hbx
  have HX := Lib.hid hx
  obtain ⟨b1, hb1⟩ : ∃ b, b = greatB l := ⟨_, rfl⟩
  obtain ⟨b2, hb2⟩ : ∃ b, b = greatB [x] := ⟨_, rfl⟩
  rw [← hb1] at HG1
  rw [← hb2] at HG2
  have HB1 := Lib.hid hb1
  obtain ⟨k0, k1, k2, k3, k4, k5, k6, k7, k8, k9, k10, k11⟩ := hbx.cells
  have hWs : W.heap.size = w.heap.size + 1 := by rw [hW]; simp
  have HWS := Lib.hid hWs
  simp only [A21.cells] at hW ⊢
  have e2 : shA.cells [x] = [.int .u8 x.doo, .int .u32 x.P.id, .int .i64 x.P.daily, .int .i64 x.P.monthly, .int .i64 x.P.over, .int .i64 x.P.roll, .int .i64 x.P.base, .slice x.ta x.P.tiers.length x.tc, .int .u32 x.ten, .int .u32 x.id, .int .i64 x.shift, .int .i64 x.n] := rfl
  rw [e2] at HG2
  clear hv hx hT hbW hbx hb1 hb2 hWs e2
  go_enter Tryd.func6, Tryd.ntmps6
  go_upto_region 1 with fail
  rw [← hW]
  clear hW
  cases b1 with
  | true =>
    go_wp2_with (go_at_call 11; refine HG1.out.mono ?_; rintro e w1 ⟨rfl, hw⟩; obtain rfl := hw.symm)
    go_ret
    exact ⟨rfl, HBW.out⟩
  | false =>
    cases b2 with
    | true =>
      go_wp2_with (first
        | (go_at_call 11; refine HG1.out.mono ?_; rintro e w1 ⟨rfl, hw⟩; obtain rfl := hw.symm; clear hw HG1)
        | (go_at_call 11; refine (HG2.out _).mono ?_; rintro e w1 ⟨rfl, hw⟩; obtain rfl := hw.symm; clear hw HG2))
      go_ret
      exact ⟨rfl, HBW.out.alloc HBW.out.size _⟩
    | false =>
      go_upto_region 3 with (first
        | (go_at_call 11; refine HG1.out.mono ?_; rintro e w1 ⟨rfl, hw⟩; obtain rfl := hw.symm; clear hw HG1)
        | (go_at_call 11; refine (HG2.out _).mono ?_; rintro e w1 ⟨rfl, hw⟩; obtain rfl := hw.symm; clear hw HG2))
      obtain ⟨W3, hW3⟩ : ∃ W3, W3 = W.alloc (.cells #[.int .u8 x.doo, .int .u32 x.P.id, .int .i64 x.P.daily, .int .i64 x.P.monthly, .int .i64 x.P.over, .int .i64 x.P.roll, .int .i64 x.P.base, .slice x.ta x.P.tiers.length x.tc, .int .u32 x.ten, .int .u32 x.id, .int .i64 x.shift, .int .i64 x.n] 50) := ⟨_, rfl⟩
      have hb3 : Below W.heap.size W W3 := by rw [hW3]; exact (Below.refl _ _).alloc (Nat.le_refl _) _
      have HB3 := Lib.hid (HBW.out.trans (hb3.mono HBW.out.size))
      have HBX3 := Lib.hid (HBX.out.below hb3)
      have HMM := Lib.hid (HMD.out (greatB_no HB1.out.symm) W3 HB3.out)
      rw [← hW3]
      clear hW3 hb3 HMD k0 k1 k2 k3 k4 k5 k6 k7 k8 k9 k10 k11
      go_wp2_with fail
      refine HMM.out.mono ?_
      rintro e w4 ⟨p, b1, b2, rfl, hpb, hcb, hb⟩
      have HB4 := Lib.hid (HB3.out.trans (hb.mono HB3.out.size))
      have hbx4 := HBX3.out.below hb
      have HBX4 := Lib.hid hbx4
      obtain ⟨m, hm⟩ : ∃ m, m = 2 + 2 * l.length := ⟨_, rfl⟩
      rw [← hm] at hcb
      have hll := greatB_no HB1.out.symm
      have hm2 : m ≤ 202 := by omega
      obtain ⟨ps, hps⟩ : ∃ ps, ps = (madeB l).1 := ⟨_, rfl⟩
      obtain ⟨ts, hts⟩ : ∃ ts, ts = (madeB l).2 := ⟨_, rfl⟩
      rw [← hps, ← hts] at hcb
      have HC4 := Lib.hid hcb
      have hbw : w.heap.size + 1 ≤ b1 := by
        have h1 := HB3.out.size
        have h2 := blk_lt HBX3.out
        omega
      have htok : ∀ T, tfind ts x.ten = some T → T.Ok := fun T hT => (ten_u hcb hT).1
      have HA := Lib.hid (cat_any p b1 b2 m ps ts x.ten d HX.out.ten w4 hcb)
      have HCH := Lib.hid fun (X : World) (hb : Below w4.heap.size w4 X) => cchg_any p b1 b2 m ps ts x.ten x.id x.n HX.out.ten HX.out.id X (hcb.below hb) (by omega) (HT.out.below (HB4.out.trans (hb.mono HB4.out.size)) (Nat.le_refl _))
      have HA2 := Lib.hid fun (X : World) (h : CB X p b1 b2 ps (chgT ps ts x.ten x.id x.n) (m + 1)) => cat_any p b1 b2 (m + 1) ps (chgT ps ts x.ten x.id x.n) x.ten d HX.out.ten X h
      have hfe : chgE ps ts x.ten x.id x.n ≠ 0 → chgT ps ts x.ten x.id x.n = ts := fun h => by unfold chgT; rw [if_neg h]
      have hlt := fun (h1 : chgE ps ts x.ten x.id x.n = 0) (h2 : d < x.n) => at_chg_lt htok h1 h2
      have hge := fun (h1 : chgE ps ts x.ten x.id x.n = 0) (h2 : x.n ≤ d) => at_chg_ge htok h1 h2
      have hcs := chgE_cases ps ts x.ten x.id x.n
      obtain ⟨F, hF⟩ : ∃ F, F = chgE ps ts x.ten x.id x.n := ⟨_, rfl⟩
      obtain ⟨Z, hZ⟩ : ∃ Z, Z = chgT ps ts x.ten x.id x.n := ⟨_, rfl⟩
      rw [← hF] at HCH hfe hlt hge hcs
      rw [← hZ] at HCH HA2 hfe hlt hge
      obtain ⟨o, ho⟩ : ∃ o, o = atP ts x.ten d := ⟨_, rfl⟩
      obtain ⟨o2, ho2⟩ : ∃ o, o = atP Z x.ten d := ⟨_, rfl⟩
      rw [← ho] at HA hlt
      rw [← ho2] at HA2 hlt hge
      have hfe2 : F ≠ 0 → o2 = o := fun h => by rw [ho2, hfe h, ← ho]
      have HFE := Lib.hid hfe2
      have HLT := Lib.hid hlt
      have HGE := Lib.hid hge
      unfold sV pV at HA HCH HA2
      obtain ⟨k0, k1, k2, k3, k4, k5, k6, k7, k8, k9, k10, k11⟩ := hbx4.cells
      clear hb hbx4 hpb hcb hm hps hts htok hfe hfe2 hlt hge hF hZ ho ho2 HMM HBX3 HB3 k0 k1 k2 k3 k4 k5 k6 k7 k9 k10 k11
      go_wp2_with fail
      refine HA.out.mono ?_
      rintro e w5 ⟨rfl, hb⟩
      have HB5 := Lib.hid (HB4.out.trans (hb.mono HB4.out.size))
      have hbx5 := HBX4.out.below hb
      have HBX5 := Lib.hid hbx5
      have HC5 := Lib.hid (HCH.out w5 hb)
      obtain ⟨k0, k1, k2, k3, k4, k5, k6, k7, k8, k9, k10, k11⟩ := hbx5.cells
      clear hb hbx5 HA HCH HBX4 k0 k1 k2 k3 k4 k5 k6 k7 k10
      go_wp2_with fail
      refine HC5.out.mono ?_
      rintro e w6 ⟨rfl, h, hk⟩
      have hb6 := HB5.out.trans (hk.below (B := w.heap.size) HB5.out.size (fun i hi => by subst hi; omega))
      have HB6 := Lib.hid hb6
      have hbx6 := HBX5.out.keep hk (fun e => by omega)
      have HBX6 := Lib.hid hbx6
      have HA6 := Lib.hid (HA2.out w6 h)
      obtain ⟨k0, k1, k2, k3, k4, k5, k6, k7, k8, k9, k10, k11⟩ := hbx6.cells
      clear hb6 hk h hbx6 HC5 HA2 HBX5 k0 k1 k2 k3 k4 k5 k6 k7 k9 k10 k11
      go_wp2_with fail
      refine HA6.out.mono ?_
      rintro e w7 ⟨rfl, hb⟩
      have HB7 := Lib.hid (HB6.out.trans (hb.mono HB6.out.size))
      have hbx7 := HBX6.out.below hb
      have H7 := Lib.hid (HGO.out _ HB7.out)
      obtain ⟨k0, k1, k2, k3, k4, k5, k6, k7, k8, k9, k10, k11⟩ := hbx7.cells
      clear hb hbx7 HA6 HBX6 k0 k1 k2 k3 k4 k5 k6 k7 k8 k10
      rcases hcs with rfl | rfl | rfl | rfl
      · by_cases hd : d < x.n
        · have e1 := HLT.out rfl hd
          subst e1
          generalize atV o2 = A
          generalize atE o2 = E
          go_wp2_with (go_at_call 10; refine H7.out.mono ?_; rintro e w8 ⟨rfl, hb⟩; have HB8 := Lib.hid (HB7.out.trans (hb.mono HB7.out.size)); clear hb)
          go_ret
          exact ⟨rfl, HB8.out⟩
        · have e1 := HGE.out rfl (by omega)
          subst e1
          rw [show atV (some x.id) = x.id from rfl, show atE (some x.id) = 0 from rfl]
          generalize atV o = A
          generalize atE o = E
          go_wp2_with (go_at_call 10; refine H7.out.mono ?_; rintro e w8 ⟨rfl, hb⟩; have HB8 := Lib.hid (HB7.out.trans (hb.mono HB7.out.size)); clear hb)
          go_ret
          exact ⟨rfl, HB8.out⟩
      · have e1 := HFE.out (by decide)
        subst e1
        generalize atV o2 = A
        generalize atE o2 = E
        go_wp2_with (go_at_call 10; refine H7.out.mono ?_; rintro e w8 ⟨rfl, hb⟩; have HB8 := Lib.hid (HB7.out.trans (hb.mono HB7.out.size)); clear hb)
        go_ret
        exact ⟨rfl, HB8.out⟩
      · have e1 := HFE.out (by decide)
        subst e1
        generalize atV o2 = A
        generalize atE o2 = E
        go_wp2_with (go_at_call 10; refine H7.out.mono ?_; rintro e w8 ⟨rfl, hb⟩; have HB8 := Lib.hid (HB7.out.trans (hb.mono HB7.out.size)); clear hb)
        go_ret
        exact ⟨rfl, HB8.out⟩
      · have e1 := HFE.out (by decide)
        subst e1
        generalize atV o2 = A
        generalize atE o2 = E
        go_wp2_with (go_at_call 10; refine H7.out.mono ?_; rintro e w8 ⟨rfl, hb⟩; have HB8 := Lib.hid (HB7.out.trans (hb.mono HB7.out.size)); clear hb)
        go_ret
        exact ⟨rfl, HB8.out⟩
end Go.Proofs.YtidppalhjknlfaaDoor
