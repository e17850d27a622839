/- quitrentlaw20: goes, leases. -/
import Derived.Test.YtidppalhjknlfaaRef20b
import Derived.Test.YtidppalhjknlfaaLadd
namespace Go.Proofs.Ytidppalhjknlfaa
open Go.RowKit
set_option maxRecDepth 100000
set_option maxHeartbeats 2000000
set_option linter.unusedVariables false
set_option linter.unusedSimpArgs false
theorem small_nil : Small [] := ⟨by simp, by simp⟩
theorem St.toSmall {m : Nat} {l : AL} (h : St m l) (hm : m ≤ 1000000) : Small l := ⟨Nat.le_trans h.len hm, h.small⟩
def g20 : Ls := ⟨0, 5, 60, 2, 3⟩
theorem g20_ok : g20.Ok := ⟨by decide, by unfold W64; decide, by unfold W64; decide, by unfold W64; decide, by unfold W64; decide⟩
theorem goes20 (w : World) :
    Calls Try.prog 20 #[] w fun e w' => e = .returned (.bool true) ∧ Below w.heap.size w w' := by
  have t1 : U32 1 := by unfold U32; decide
  have a1 : addE [] g20 0 = 0 := by decide +kernel
  have a2 : addI [] 0 g20 0 = 1 := by decide +kernel
  have a3 : addL [] 0 g20 0 = [⟨1, 5, 60, 2, 3⟩] := by unfold addL; rw [if_pos a1]; rfl
  have a4 : addN [] 0 g20 0 = 1 := by decide +kernel
  have a5 : live 59 [⟨1, 5, 60, 2, 3⟩] = [⟨1, 5, 60, 2, 3⟩] := by decide +revert
  have a6 : live 60 [⟨1, 5, 60, 2, 3⟩] = [] := by decide +revert
  have a7 : getR [⟨1, 5, 60, 2, 3⟩] 1 60 = none := by unfold getR; rw [a6]; rfl
  have a8 : heldD [⟨1, 5, 60, 2, 3⟩] 2 = 5 := by decide +kernel
  have a9 : heldM [⟨1, 5, 60, 2, 3⟩] 4 = 0 := by decide +kernel
  have hs := LS.addS (now := []) (t := 1) (L := []) (last := 0) List.Pairwise.nil (LS.nil 1) t1 g20 g20_ok (by decide) 0
  rw [a3, a4] at hs
  obtain ⟨S, hS⟩ : ∃ S, S = addS [] 1 [] 0 g20 0 := ⟨_, rfl⟩
  have hst : St 2 S := by rw [hS]; exact St.addS St.nil 1 [] 0 g20 0
  rw [← hS] at hs
  have HS := Lib.hid hs
  have HST := Lib.hid hst
  have HSE := Lib.hid hS
  have A1 := Lib.hid a1
  have A2 := Lib.hid a2
  have A5 := Lib.hid a5
  have A6 := Lib.hid a6
  have A7 := Lib.hid a7
  have A8 := Lib.hid a8
  have A9 := Lib.hid a9
  clear a1 a2 a3 a4 a5 a6 a7 a8 a9 hs hst hS
  go_enter Try.func20, Try.ntmps20
  go_wp2_with fail
  refine (new_any (-1) _).mono ?_
  rintro e w1 ⟨p, b1, b2, rfl, hp, hb1, hb2, hm, hb⟩
  have HM1 := Lib.hid hm
  have HB1 := Lib.hid hb
  have HP := Lib.hid hb1
  clear hm hb hp hb1 hb2
  unfold pV
  go_wp2_with fail
  refine (ladd_any p b1 b2 [] [] 1 t1 [] 0 g20 g20_ok 0 (by unfold W64; decide) w1 HM1.out small_nil List.Pairwise.nil (LS.nil 1) (by decide) (by decide)).mono ?_
  rw [A1.out, A2.out, ← HSE.out]
  rintro e w2 ⟨rfl, hm, hk⟩
  have HM2 := Lib.hid hm
  have HB2 := Lib.hid (HB1.out.trans (hk.below (B := w.heap.size) HB1.out.size (fun i hi => by subst hi; exact HP.out)))
  clear hm hk
  go_wp2_with fail
  refine (llive_any p b1 b2 (-1) S [] 1 t1 [⟨1, 5, 60, 2, 3⟩] 1 59 w2 HM2.out (HST.out.toSmall (by decide)) HST.out.nd HS.out (by simp)).mono ?_
  rw [A5.out]
  rintro e w3 ⟨v3, rfl, hr, hb⟩
  obtain ⟨a3, c3, rfl, _, _, _⟩ := hr.shape
  have HM3 := Lib.hid (HM2.out.below hb)
  have HB3 := Lib.hid (HB2.out.trans (hb.mono HB2.out.size))
  have HR3 := Lib.hid hr
  clear hr hb
  go_wp2_with fail
  refine (llive_any p b1 b2 (-1) S [] 1 t1 [⟨1, 5, 60, 2, 3⟩] 1 60 w3 HM3.out (HST.out.toSmall (by decide)) HST.out.nd HS.out (by simp)).mono ?_
  rw [A6.out]
  rintro e w4 ⟨v4, rfl, hr, hb⟩
  obtain ⟨a4, c4, rfl, _, _, _⟩ := hr.shape
  have HM4 := Lib.hid (HM3.out.below hb)
  have HB4 := Lib.hid (HB3.out.trans (hb.mono HB3.out.size))
  have HR4 := Lib.hid (HR3.out.below hb)
  clear hr hb
  go_wp2_with fail
  refine (lget_any p b1 b2 (-1) S [] 1 t1 1 [⟨1, 5, 60, 2, 3⟩] 1 60 w4 HM4.out (HST.out.toSmall (by decide)) HST.out.nd HS.out (by simp)).mono ?_
  rw [A7.out]
  rintro e w5 ⟨rfl, hb⟩
  have HB5 := Lib.hid (HB4.out.trans (hb.mono HB4.out.size))
  have HR5 := Lib.hid (HR4.out.below hb)
  have hz : (getV none).val = .agg #[.int .u32 0, .int .i64 0, .int .i64 0, .int .i64 0, .int .i64 0] := rfl
  have he : getE none = 44 := rfl
  rw [hz, he]
  clear hz he hb
  go_wp2_with fail
  refine (lheld_any _ [⟨1, 5, 60, 2, 3⟩] 2 4 _ (HR5.out.alloc _) (by simp)).mono ?_
  rw [A8.out, A9.out]
  rintro e w6 ⟨rfl, hb⟩
  have HB6 := Lib.hid ((HB5.out.alloc HB5.out.size _).trans (hb.mono (by have := HB5.out.size; simp; omega)))
  clear hb
  go_wp2
  go_ret
  exact ⟨rfl, HB6.out⟩
theorem leases_any (u v : Value) (L : List Ls) (w : World) (hu : LR w u L) (hv : LR w v L) (hl : L.length ≤ 1000000) :
    Calls Try.prog 19 #[u, v] w fun e w' => e = .returned (.bool true) ∧ Below w.heap.size w w' := by
  obtain ⟨ua, uc, rfl, u1, u2, u3⟩ := hu.shape
  obtain ⟨va, vc, rfl, v1, v2, v3⟩ := hv.shape
  have HU := Lib.hid hu
  have HV := Lib.hid hv
  clear hu hv u3 v3
  go_enter Try.func19, Try.ntmps19
  go_wp2_with fail
  go_loopw [5] (fun s wr => ∃ j : Nat, j ≤ L.length ∧ s = .int .i64 j ∧ Hid (Below w.heap.size w wr)) (fun s _ => L.length - (intOf s).toNat)
  case atStart => exact ⟨0, by omega, rfl, Lib.hid (Below.refl _ _)⟩
  case round =>
    obtain ⟨j, hj, rfl, HB⟩ := hrel
    by_cases hlt : j < L.length
    · obtain ⟨x, hx⟩ : ∃ x, L[j]? = some x := ⟨_, List.getElem?_eq_getElem hlt⟩
      obtain ⟨g, off, cap', he, c0, c1, c2, c3, c4⟩ := (HU.out.below HB.out).at_ hx
      injection he with he _ hcap
      subst he; subst hcap
      obtain ⟨g', off', cap'', he, d0, d1, d2, d3, d4⟩ := (HV.out.below HB.out).at_ hx
      injection he with he _ hcap
      subst he; subst hcap
      clear hx
      go_wp2_with fail
      go_quiet (fail)
      go_wp2_with fail
      refine ⟨⟨j + 1, by omega, by go_num, Lib.hid (below_drewN HB.out _)⟩, by simp [intOf]; omega⟩
    · obtain rfl : j = L.length := by omega
      go_wp2_with fail
      go_ret
      exact ⟨rfl, HB.out⟩
end Go.Proofs.Ytidppalhjknlfaa
