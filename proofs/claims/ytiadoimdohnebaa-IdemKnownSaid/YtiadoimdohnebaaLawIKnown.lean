/- The walk of IdemKnown. -/
import Derived.Test.YtiadoimdohnebaaIdLaw
namespace Go.Proofs.Ytiadoimdohnebaa
open Go.RowKit
set_option maxRecDepth 100000
set_option linter.unusedVariables false
set_option linter.unusedSimpArgs false
set_option maxHeartbeats 4000000
def x16 : ByteArray := ⟨#[48, 49, 50, 51, 52, 53, 54, 55, 56, 57, 97, 98, 99, 100, 101, 102]⟩
def xB : ByteArray := ⟨#[98]⟩
def xC : ByteArray := ⟨#[99]⟩
theorem iknown_any (w : World) :
    Calls Try.prog 10 #[] w fun e w' => e = .returned (.bool true) ∧ Below w.heap.size w w' := by
  have hkc := kc
  obtain ⟨f9, g9, m9, o9, l9⟩ := made_ex 900 900 rfl (by decide)
  have O9 := Lib.hid o9
  have L9 := Lib.hid l9
  obtain ⟨r1, hr1⟩ : ∃ r1 : Rec, r1 = ⟨zp 900, ByteArray.empty, 1⟩ := ⟨_, rfl⟩
  have E1 := Lib.hid (show keepE 1 [] F0 1 x16 r1 = 0 by rw [keepE_put idx0 (by decide) (by decide) (by decide +kernel) rfl (by rw [hr1]; simp [zp_size]), if_neg (by decide)])
  obtain ⟨n1, hn1⟩ : ∃ n1, n1 = keepA 1 [] F0 1 x16 r1 := ⟨_, rfl⟩
  obtain ⟨F1, hF1⟩ : ∃ F1, F1 = keepF 1 [] F0 1 x16 r1 := ⟨_, rfl⟩
  have hI1 : Idx n1 F1 := by rw [hn1, hF1]; exact keep_idx idx0 (by decide) (by decide) (by rw [hr1]; decide)
  have hf1 : F1 1 x16 = some r1 := by rw [hF1]; exact keepF_same E1.out
  have hfb : F1 1 xB = none := by rw [hF1, keepF_other (by decide +kernel)]; rfl
  have hfc : F1 1 xC = none := by rw [hF1, keepF_other (by decide +kernel)]; rfl
  have hl1 : n1.length = 1 := by rw [hn1]; unfold keepA; rw [if_pos E1.out]; rfl
  have I1 := Lib.hid hI1
  have N1 := Lib.hid hn1
  have L1 := Lib.hid hl1
  obtain ⟨r0, hr0⟩ : ∃ r0 : Rec, r0 = ⟨ByteArray.empty, ByteArray.empty, 1⟩ := ⟨_, rfl⟩
  obtain ⟨r9, hr9⟩ : ∃ r9 : Rec, r9 = ⟨zp 900, ⟨#[120]⟩, 1⟩ := ⟨_, rfl⟩
  have E2 := Lib.hid (show keepE 1 n1 F1 1 x16 r0 = 5 from keepE_twice (by decide +kernel) hf1)
  have E3 := Lib.hid (show keepE 1 n1 F1 1 xB r0 = 3 by rw [keepE_put hI1 (by decide) (by decide) (by decide +kernel) hfb (by rw [hr0]; decide), hl1, if_pos (by decide)])
  have E4 := Lib.hid (show keepE 1 n1 F1 1 xC r9 = 2 from keepE_long (by decide +kernel) hfc (by rw [hr9]; simp [zp_size]; decide))
  have S1 := Lib.hid (show seqR F1 1 xB = (0, 4) by unfold seqR; rw [hfb]; decide +kernel)
  have S2 := Lib.hid (show seqR F1 1 ByteArray.empty = (0, 1) by unfold seqR; rfl)
  have R1 := Lib.hid (show findR F1 1 x16 (zp 900) = (ByteArray.empty, true, 0) by
    unfold findR
    rw [hf1, if_neg (by decide +kernel), hr1]
    unfold fr recD
    simp)
  have C1 := Lib.hid (show chk ⟨#[48, 49, 50, 51, 52, 53, 54, 55, 56, 57, 97, 98, 99, 100, 101, 102, 103]⟩ = false by decide +kernel)
  have C2 := Lib.hid (show chk ByteArray.empty = false by decide +kernel)
  have HG := Lib.hid goes18
  have hb1 : r1.body = zp 900 := by rw [hr1]
  have hp1 : r1.reply = ByteArray.empty := by rw [hr1]
  have hs1 : r1.seq = 1 := by rw [hr1]
  have hb0 : r0.body = ByteArray.empty := by rw [hr0]
  have hp0 : r0.reply = ByteArray.empty := by rw [hr0]
  have hs0 : r0.seq = 1 := by rw [hr0]
  have hb9 : r9.body = zp 900 := by rw [hr9]
  have hp9 : r9.reply = ⟨#[120]⟩ := by rw [hr9]
  have hs9 : r9.seq = 1 := by rw [hr9]
  have K1 := Lib.hid fun (p b1 b2 : Nat) (bv : Value) (W : World) (hM : MemIs W p 1 b1 b2 [] []) (hb : BS W bv (zp 900)) => by
    have := keep_any p 1 b1 b2 [] [] F0 1 (by decide) (by decide) x16 r1 bv (.slice none 0 0) W hM idx0 (by decide +kernel) (by rw [hb1]; exact hb) (by rw [hp1]; exact BS.nil _) (by rw [hb1, zp_size]; decide) (by rw [hp1]; decide) (by rw [hs1]; decide) (by decide)
    rw [hs1, E1.out, ← hn1] at this
    exact this
  have K2 := Lib.hid fun (p b1 b2 : Nat) (W : World) (hM : MemIs W p 1 b1 b2 n1 []) => by
    have := keep_any p 1 b1 b2 n1 [] F1 1 (by decide) (by decide) x16 r0 (.slice none 0 0) (.slice none 0 0) W hM hI1 (by decide +kernel) (by rw [hb0]; exact BS.nil _) (by rw [hp0]; exact BS.nil _) (by rw [hb0]; decide) (by rw [hp0]; decide) (by rw [hs0]; decide) (by rw [hl1]; decide)
    rw [hs0, keepA_not (by rw [E2.out]; decide), E2.out] at this
    exact this
  have K3 := Lib.hid fun (p b1 b2 : Nat) (W : World) (hM : MemIs W p 1 b1 b2 n1 []) => by
    have := keep_any p 1 b1 b2 n1 [] F1 1 (by decide) (by decide) xB r0 (.slice none 0 0) (.slice none 0 0) W hM hI1 (by decide +kernel) (by rw [hb0]; exact BS.nil _) (by rw [hp0]; exact BS.nil _) (by rw [hb0]; decide) (by rw [hp0]; decide) (by rw [hs0]; decide) (by rw [hl1]; decide)
    rw [hs0, keepA_not (by rw [E3.out]; decide), E3.out] at this
    exact this
  have K4 := Lib.hid fun (p b1 b2 : Nat) (bv rv : Value) (W : World) (hM : MemIs W p 1 b1 b2 n1 []) (hb : BS W bv (zp 900)) (hr : BS W rv ⟨#[120]⟩) => by
    have := keep_any p 1 b1 b2 n1 [] F1 1 (by decide) (by decide) xC r9 bv rv W hM hI1 (by decide +kernel) (by rw [hb9]; exact hb) (by rw [hp9]; exact hr) (by rw [hb9, zp_size]; decide) (by rw [hp9]; decide) (by rw [hs9]; decide) (by rw [hl1]; decide)
    rw [hs9, keepA_not (by rw [E4.out]; decide), E4.out] at this
    exact this
  clear hr1 hn1 hF1 hI1 hf1 hfb hfc hl1 hr0 hr9 hb1 hp1 hs1 hb0 hp0 hs0 hb9 hp9 hs9 o9 l9
  go_enter Try.func10, Try.ntmps10
  go_wp2_with fail
  refine (new_any 1 _).mono ?_
  rintro e w1 ⟨p, b1, b2, rfl, hp, hb1, hb2, hm, hb⟩
  have HM1 := Lib.hid (hm.below (L9.out w1))
  have HV1 := Lib.hid (O9.out w1).bs
  have HB1 := Lib.hid (hb.trans ((L9.out w1).mono hb.size))
  have HP := Lib.hid hb1
  clear hm hb hp hb1 hb2
  unfold pV
  go_wp2_with fail
  refine (K1.out p b1 b2 (f9 w1) (g9 w1) HM1.out HV1.out).mono ?_
  rintro e w2 ⟨rfl, hm, hk⟩
  have HV2 := Lib.hid (bs_kept HM1.out HV1.out hk)
  have HM2 := Lib.hid hm
  have HB2 := Lib.hid (HB1.out.trans (hk.below (B := w.heap.size) HB1.out.size (fun i hi => by subst hi; exact HP.out)))
  clear hm hk
  go_wp2_with fail
  refine (K2.out p b1 b2 w2 HM2.out).mono ?_
  rintro e w3 ⟨rfl, hm, hk⟩
  have HV3 := Lib.hid (bs_kept HM2.out HV2.out hk)
  have HM3 := Lib.hid hm
  have HB3 := Lib.hid (HB2.out.trans (hk.below (B := w.heap.size) HB2.out.size (fun i hi => by subst hi; exact HP.out)))
  clear hm hk
  go_wp2_with fail
  refine (K3.out p b1 b2 w3 HM3.out).mono ?_
  rintro e w4 ⟨rfl, hm, hk⟩
  have HV4 := Lib.hid (bs_kept HM3.out HV3.out hk)
  have HM4 := Lib.hid hm
  have HB4 := Lib.hid (HB3.out.trans (hk.below (B := w.heap.size) HB3.out.size (fun i hi => by subst hi; exact HP.out)))
  clear hm hk
  go_wp2_with fail
  refine (K4.out p b1 b2 _ _ _ (HM4.out.alloc _) (HV4.out.alloc _) (BS.lit rfl _ ⟨#[120]⟩ _ rfl rfl (by decide))).mono ?_
  rintro e w5 ⟨rfl, hm, hk⟩
  have HV5 := Lib.hid (bs_kept (HM4.out.alloc _) (HV4.out.alloc _) hk)
  have HM5 := Lib.hid hm
  have HB5 := Lib.hid ((HB4.out.alloc HB4.out.size _).trans (hk.below (B := w.heap.size) (by have := HB4.out.size; simp; omega) (fun i hi => by subst hi; exact HP.out)))
  clear hm hk
  go_wp2_with fail
  refine (seq_any p 1 b1 b2 n1 [] F1 1 (by decide) (by decide) xB w5 HM5.out I1.out (by decide)).mono ?_
  rintro e w6 ⟨rfl, hb⟩
  rw [S1.out]
  have HV6 := Lib.hid (HV5.out.below hb)
  have HM6 := Lib.hid (HM5.out.below hb)
  have HB6 := Lib.hid (HB5.out.trans (hb.mono HB5.out.size))
  clear hb
  go_wp2_with fail
  refine (seq_any p 1 b1 b2 n1 [] F1 1 (by decide) (by decide) ByteArray.empty w6 HM6.out I1.out (by decide)).mono ?_
  rintro e w7 ⟨rfl, hb⟩
  rw [S2.out]
  have HV7 := Lib.hid (HV6.out.below hb)
  have HM7 := Lib.hid (HM6.out.below hb)
  have HB7 := Lib.hid (HB6.out.trans (hb.mono HB6.out.size))
  clear hb
  go_wp2_with fail
  refine (find_any p 1 b1 b2 n1 [] F1 1 (by decide) (by decide) x16 (zp 900) _ w7 HM7.out I1.out (by decide) HV7.out).mono ?_
  rintro e w8 ⟨u8, rfl, hu, hb⟩
  rw [R1.out] at hu ⊢
  obtain ⟨au, cu, rfl, _⟩ := hu.len2 (n := 0) rfl
  have HB8 := Lib.hid (HB7.out.trans (hb.mono HB7.out.size))
  clear hb hu
  go_wp2_with fail
  refine (check_i _ w8 (by decide)).mono ?_
  rintro e w9 ⟨rfl, rfl⟩
  rw [C1.out]
  go_wp2_with fail
  refine (check_i _ w8 (by decide)).mono ?_
  rintro e w9 ⟨rfl, rfl⟩
  rw [show chk ({ data := #[] } : ByteArray) = false from C2.out]
  go_wp2_with fail
  refine (HG.out _).mono ?_
  rintro e wf ⟨rfl, hb⟩
  have HBF := Lib.hid (HB8.out.trans (hb.mono HB8.out.size))
  clear hb
  go_wp2
  go_ret
  exact ⟨rfl, HBF.out⟩
end Go.Proofs.Ytiadoimdohnebaa
