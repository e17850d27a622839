/- The walk of StoreKnown. -/
import Derived.Test.YtlmngghkhnnaeaaQKno
namespace Go.Proofs.Ytlmngghkhnnaeaa
open Go.RowKit
set_option maxRecDepth 100000
set_option maxHeartbeats 2000000
set_option linter.unusedVariables false
set_option linter.unusedSimpArgs false
theorem Own.to0 {w : World} {B : Nat} {v : Value} {u : ByteArray} (h : Own 5 w B v u) : Own 5 w 0 v u :=
  ⟨h.1, h.2.imp id (fun ⟨g, cap, cur, e, hb, rest⟩ => ⟨g, cap, cur, e, Nat.zero_le _, rest⟩)⟩
theorem sknown_law (w : World) : Calls Try.prog 4 #[] w fun e w' => e = .returned (.bool true) ∧ Below w.heap.size w w' := by
  have HM := fun w1 => Lib.hid (made_any 5 w1 (by decide) (by decide))
  have HN := fun w1 => Lib.hid (new_ok 3 w1 (by decide) (by decide))
  obtain ⟨i0, i1, i2, i3, i4, i5⟩ := S0_law (n := 5) (by decide)
  have hd0 : (S0 5).dd = false := i0.dd
  have hh := S0_head
  obtain ⟨S, hS⟩ : ∃ S, S = S0 5 := ⟨_, rfl⟩
  rw [← hS] at HM i0 i1 i2 i3 i4 i5 hd0 hh
  have E1 := Lib.hid (ex1 hd0 i1)
  have E2 := Lib.hid (ex2 (S := { S with st := exSt1 }) hd0 rfl)
  have E3 := Lib.hid (ex3 (S := { S with st := exSt2 }) hd0 rfl)
  have E5 := Lib.hid (ex5 (S := { S with st := exSt3 }) hd0 rfl)
  have E6 := Lib.hid (ex6 (S := { S with st := exSt5 }) hd0 rfl)
  have hI : Inv { S with st := exSt6 } 5 := by
    have h1 := i0.take exA
    rw [E1.out] at h1
    have h2 := h1.take exB
    rw [E2.out] at h2
    have h3 := h2.setr 2
    rw [E3.out] at h3
    have h5 := h3.give 3
    rw [E5.out] at h5
    have h6 := h5.take exC
    rw [E6.out] at h6
    exact h6
  have HC := Lib.hid (fun (L : List Int) => kn_commit (L := L) hI rfl i3 (by show S.D.fuse = -1; rw [i4]; rfl) hh)
  have HST := Lib.hid (show S.stamp + 1 ≤ 18446744073709551615 by rw [i3]; decide)
  clear hI i0 i1 i2 i3 i4 i5 hd0 hS hh
  obtain ⟨fm, gm, hfm, hom, hbm⟩ := made_ex 4012 4012 rfl (by decide)
  have HOM := Lib.hid hom
  have HBM := Lib.hid hbm
  clear hom hbm
  unfold pS at HM
  unfold dV at HM HN
  have hkc := kc5
  go_enter Try.func4, Try.ntmps4
  go_wp2_with fail
  refine (open_nil _).mono ?_
  rintro e w1 ⟨rfl, h⟩
  obtain rfl := h.symm
  go_wp2_with fail
  refine (HN _).out.mono ?_
  rintro e w1 ⟨rfl, hD, hb⟩
  have h2 := open_small w1 hD rfl (by decide)
  unfold dV at h2
  have HD1 := Lib.hid h2
  have HB1 := Lib.hid hb
  clear hD hb h2
  go_wp2_with fail
  refine HD1.out.mono ?_
  rintro e w2 ⟨rfl, rfl⟩
  go_wp2_with fail
  refine (HM _).out.mono ?_
  rintro e w3 ⟨pd, M, rfl, h1, h2, h3, h4⟩
  obtain ⟨p, hp⟩ : ∃ p, p = M.p := ⟨_, rfl⟩
  rw [← hp]
  have hs1 := HB1.out.size
  have H0 := Lib.hid (show AtS w w3 M S noA ∧ p = M.p ∧ pd = M.pd from ⟨⟨⟨noV, h1⟩, fun i hi => ⟨Nat.le_trans hs1 (h3 i hi), fun h => h⟩, HB1.out.trans (h4.mono HB1.out.size), fun i hi => hi.elim⟩, hp, h2.symm⟩)
  clear h1 h2 h3 h4 hp hs1 HB1 HD1
  go_wp2_with fail
  have h2 := at_take (.slice (some ⟨w3.heap.size, 0, none⟩) 1 1) exA (H0.out.1.later ((Below.refl _ w3).alloc (Nat.le_refl _) _)).1 (lit1 w3 97 exA rfl rfl) (by decide)
  rw [E1.out] at h2
  unfold pS at h2
  rw [← H0.out.2.1] at h2
  refine h2.mono ?_
  clear h2
  rintro e w4 ⟨rfl, M1, e1, e2, h1, _⟩
  have H1 := Lib.hid (show AtS w w4 M1 _ noA ∧ p = M1.p ∧ pd = M1.pd from ⟨h1, by rw [e1]; exact H0.out.2.1, by rw [e2]; exact H0.out.2.2⟩)
  clear h1 e1 e2
  go_wp2_with fail
  have h2 := at_take (.slice (some ⟨w4.heap.size, 0, none⟩) 1 1) exB (H1.out.1.later ((Below.refl _ w4).alloc (Nat.le_refl _) _)).1 (lit1 w4 98 exB rfl rfl) (by decide)
  rw [E2.out] at h2
  unfold pS at h2
  rw [← H1.out.2.1] at h2
  refine h2.mono ?_
  clear h2
  rintro e w5 ⟨rfl, M2, e1, e2, h1, _⟩
  have H2 := Lib.hid (show AtS w w5 M2 _ noA ∧ p = M2.p ∧ pd = M2.pd from ⟨h1, by rw [e1]; exact H1.out.2.1, by rw [e2]; exact H1.out.2.2⟩)
  clear h1 e1 e2
  go_wp2_with fail
  have h2 := at_setr 2 H2.out.1
  rw [E3.out] at h2
  unfold pS at h2
  rw [← H2.out.2.1] at h2
  refine h2.mono ?_
  clear h2
  rintro e w6 ⟨rfl, M3, e1, e2, h1, _⟩
  have H3 := Lib.hid (show AtS w w6 M3 _ noA ∧ p = M3.p ∧ pd = M3.pd from ⟨h1, by rw [e1]; exact H2.out.2.1, by rw [e2]; exact H2.out.2.2⟩)
  clear h1 e1 e2
  go_wp2_with fail
  have h2 := at_give 3 H3.out.1
  rw [E5.out] at h2
  unfold pS at h2
  rw [← H3.out.2.1] at h2
  refine h2.mono ?_
  clear h2
  rintro e w7 ⟨rfl, M4, e1, e2, h1, _⟩
  have H4 := Lib.hid (show AtS w w7 M4 _ noA ∧ p = M4.p ∧ pd = M4.pd from ⟨h1, by rw [e1]; exact H3.out.2.1, by rw [e2]; exact H3.out.2.2⟩)
  clear h1 e1 e2
  go_wp2_with fail
  have h2 := at_take (.slice (some ⟨w7.heap.size, 0, none⟩) 1 1) exC (H4.out.1.later ((Below.refl _ w7).alloc (Nat.le_refl _) _)).1 (lit1 w7 99 exC rfl rfl) (by decide)
  rw [E6.out] at h2
  unfold pS at h2
  rw [← H4.out.2.1] at h2
  refine h2.mono ?_
  clear h2
  rintro e w8 ⟨rfl, M5, e1, e2, h1, _⟩
  have H5 := Lib.hid (show AtS w w8 M5 _ noA ∧ p = M5.p ∧ pd = M5.pd from ⟨h1, by rw [e1]; exact H4.out.2.1, by rw [e2]; exact H4.out.2.2⟩)
  clear h1 e1 e2
  go_wp2_with fail
  have h2 := at_commit H5.out.1 HST.out
  unfold pS at h2
  rw [← H5.out.2.1] at h2
  refine h2.mono ?_
  clear h2
  rintro e w9 ⟨L, hL, he, M6, e1, e2, h1, _⟩
  obtain ⟨S1, eS, g1, g2, g3, g4, g5, g6⟩ := HC.out L hL
  rw [eS] at h1
  rw [eS] at he
  subst he
  have hd1 := g1.dd
  have K7 := Lib.hid (kt7 hd1 g2)
  have K8 := Lib.hid (kg8 (S := { S1 with st := kn7 }) hd1 rfl)
  have K9 := Lib.hid (kt9 (S := { S1 with st := kn8 }) hd1 rfl)
  have K10 := Lib.hid (show abortS { S1 with st := kn8 } = { S1 with st := kn6 } by unfold abortS; simp only [g3, g4])
  have K11 := Lib.hid (kl10 (S := { S1 with st := kn6 }) hd1 rfl)
  have HG := Lib.hid (show S1.D.dead = false ∧ S1.dead = false ∧ S1.D.L.length = 5 ∧ S1.D.fuse < 0 ∧ readP S1.D 1 = frP 1 1 1 (hdBytes exSt6) from ⟨g1.alive.2, g1.alive.1, g1.disc.ok.len, by omega, g6⟩)
  clear g1 g2 g3 g4 g5 g6 hd1 eS hL
  have H6 := Lib.hid (show AtS w w9 M6 _ noA ∧ p = M6.p ∧ pd = M6.pd from ⟨h1, by rw [e1]; exact H5.out.2.1, by rw [e2]; exact H5.out.2.2⟩)
  clear h1 e1 e2
  go_wp2_with fail
  have h2 := at_take (.slice (some ⟨w9.heap.size, 0, none⟩) 1 1) exD (H6.out.1.later ((Below.refl _ w9).alloc (Nat.le_refl _) _)).1 (lit1 w9 100 exD rfl rfl) (by decide)
  rw [K7.out] at h2
  unfold pS at h2
  rw [← H6.out.2.1] at h2
  refine h2.mono ?_
  clear h2
  rintro e w10 ⟨rfl, M7, e1, e2, h1, _⟩
  have H7 := Lib.hid (show AtS w w10 M7 _ noA ∧ p = M7.p ∧ pd = M7.pd from ⟨h1, by rw [e1]; exact H6.out.2.1, by rw [e2]; exact H6.out.2.2⟩)
  clear h1 e1 e2
  go_wp2_with fail
  have h2 := at_give 3 H7.out.1
  rw [K8.out] at h2
  unfold pS at h2
  rw [← H7.out.2.1] at h2
  refine h2.mono ?_
  clear h2
  rintro e w11 ⟨rfl, M8, e1, e2, h1, _⟩
  have H8 := Lib.hid (show AtS w w11 M8 _ noA ∧ p = M8.p ∧ pd = M8.pd from ⟨h1, by rw [e1]; exact H7.out.2.1, by rw [e2]; exact H7.out.2.2⟩)
  clear h1 e1 e2
  go_wp2_with fail
  have h2 := at_take (.slice none 0 0) ByteArray.empty H8.out.1 (BS.nil _) (by decide)
  rw [K9.out] at h2
  unfold pS at h2
  rw [← H8.out.2.1] at h2
  refine h2.mono ?_
  clear h2
  rintro e w12 ⟨rfl, M9, e1, e2, h1, _⟩
  have H9 := Lib.hid (show AtS w w12 M9 _ noA ∧ p = M9.p ∧ pd = M9.pd from ⟨h1, by rw [e1]; exact H8.out.2.1, by rw [e2]; exact H8.out.2.2⟩)
  clear h1 e1 e2
  go_wp2_with fail
  have h2 := at_abort H9.out.1
  rw [K10.out] at h2
  unfold pS at h2
  rw [← H9.out.2.1] at h2
  refine h2.mono ?_
  clear h2
  rintro e w13 ⟨rfl, M10, e1, e2, h1, _⟩
  have H10 := Lib.hid (show AtS w w13 M10 _ noA ∧ p = M10.p ∧ pd = M10.pd from ⟨h1, by rw [e1]; exact H9.out.2.1, by rw [e2]; exact H9.out.2.2⟩)
  clear h1 e1 e2
  go_wp2_with fail
  have h2 := at_left H10.out.1
  rw [K11.out] at h2
  unfold pS at h2
  rw [← H10.out.2.1] at h2
  refine h2.mono ?_
  clear h2
  rintro e w20 ⟨rfl, h1, _, _⟩
  have H20 := Lib.hid (show AtS w w20 M10 _ noA ∧ p = M10.p ∧ pd = M10.pd from ⟨h1, H10.out.2⟩)
  clear h1
  go_wp2_with fail
  refine (fput_any 0 1 9 (.slice (some ⟨w20.heap.size, 0, none⟩) 1 1) exQ (by decide) (by decide) (by decide) (by decide) (by decide) (by decide) _ (lit1 w20 63 exQ rfl rfl) (by decide)).mono ?_
  rintro e w21 ⟨v21, rfl, ho, hb⟩
  have HO21 := Lib.hid ho
  have H21 := Lib.hid (show AtS w w21 M10 _ noA ∧ p = M10.p ∧ pd = M10.pd from ⟨((H20.out.1.later ((Below.refl _ w20).alloc (Nat.le_refl _) _)).1.later hb).1, H20.out.2⟩)
  clear ho hb
  go_wp2_with fail
  have h2 := at_dwrite 0 v21 _ H21.out.1 (Own.to0 HO21.out)
  unfold dV at h2
  rw [← H21.out.2.2] at h2
  refine h2.mono ?_
  clear h2
  rintro e w22 ⟨c22, rfl, hc22, M22, e1, e2, h1, _⟩
  have H22 := Lib.hid (show AtS w w22 M22 _ noA ∧ p = M22.p ∧ pd = M22.pd from ⟨h1, by rw [e1]; exact H21.out.2.1, by rw [e2]; exact H21.out.2.2⟩)
  obtain ⟨d1, d2, d3, d4, d5⟩ := kn_write HG.out.1 HG.out.2.2.1 HG.out.2.2.2.1 (frP 0 1 9 exQ) (frP_size _ _ _ _ (by decide))
  obtain ⟨D1, hD1⟩ : ∃ D, D = writeR S1.D 0 (frP 0 1 9 exQ) := ⟨_, rfl⟩
  have H22' := Lib.hid (show AtS w w22 M22 { S1 with st := kn6, D := D1 } noA by rw [hD1]; exact h1)
  rw [← hD1] at d1 d2 d3 d4 d5
  rw [HG.out.2.2.2.2] at d5
  obtain ⟨o1, o2⟩ := kn_bad d4 d5
  have h2 := at_open 5 H22'.out d1 d3 (by decide)
  unfold dV at h2
  rw [← H22.out.2.2] at h2
  have HOP := Lib.hid h2
  have HO1 := Lib.hid (And.intro o1 o2)
  have HD1 := Lib.hid (And.intro d1 (And.intro d2 (And.intro d3 d5)))
  clear h1 e1 e2 h2 d1 d2 d3 d4 d5 hD1 o1 o2 hc22
  go_wp2_with fail
  refine HOP.out.mono ?_
  rintro e w23 ⟨_, h3, _, h4, _⟩
  obtain ⟨M23, rfl, _, h5⟩ := h3 (by show (openO (readP D1) 5).stamp ≠ _; rw [HO1.out.2]; decide)
  obtain ⟨p2, hp2⟩ : ∃ p2, p2 = M23.p := ⟨_, rfl⟩
  unfold pS
  rw [← hp2]
  have H23 := Lib.hid (And.intro h4 (And.intro h5 hp2))
  clear h3 h4 h5 hp2 HOP
  go_wp2_with fail
  have h2 := at_root H23.out.2.1
  rw [show (if (openSS D1 5).dd = true then 0 else (openSS D1 5).st.root) = 2 by
    rw [if_neg (by show ¬ (false || D1.dead) = true; rw [HD1.out.1]; decide)]
    show (openO (readP D1) 5).st.root = 2
    rw [HO1.out.1]; rfl] at h2
  unfold pS at h2
  rw [← H23.out.2.2] at h2
  refine h2.mono ?_
  clear h2
  rintro e w24 ⟨rfl, rfl⟩
  go_wp2_with fail
  refine (fput_any 0 1 18446744073709551615 (.slice none 0 0) ByteArray.empty (by decide) (by decide) (by decide) (by decide) (by decide) (by decide) _ (BS.nil _) (by decide)).mono ?_
  rintro e w25 ⟨v25, rfl, ho, hb⟩
  have HO25 := Lib.hid ho
  have H25 := Lib.hid (H23.out.1.later hb).1
  clear ho hb
  go_wp2_with fail
  have h2 := at_dwrite 0 v25 _ H25.out (Own.to0 HO25.out)
  unfold dV at h2
  rw [← H22.out.2.2] at h2
  refine h2.mono ?_
  clear h2
  rintro e w26 ⟨c26, rfl, hc26, M26, e1, e2, h1, _⟩
  obtain ⟨d1, d2, d3, d4, d5⟩ := kn_write HD1.out.1 HD1.out.2.2.1 HD1.out.2.1 (frP 0 1 18446744073709551615 ByteArray.empty) (frP_size _ _ _ _ (by decide))
  obtain ⟨D2, hD2⟩ : ∃ D, D = writeR D1 0 (frP 0 1 18446744073709551615 ByteArray.empty) := ⟨_, rfl⟩
  have H26 := Lib.hid (show AtS w w26 M26 { S1 with st := kn6, D := D2 } noA ∧ p = M26.p from ⟨by rw [hD2]; exact h1, by rw [e1]; exact H22.out.2.1⟩)
  rw [← hD2] at d1 d2 d3 d4 d5
  rw [HD1.out.2.2.2] at d5
  have o1 := kn_last d4 d5
  have h2 := at_open 5 H26.out.1 d1 d3 (by decide)
  unfold dV at h2
  rw [e2, ← H22.out.2.2] at h2
  have HOP := Lib.hid h2
  have HO2 := Lib.hid o1
  have KL := Lib.hid (klong (S := { S1 with st := kn6, D := D2 }) (by show (S1.dead || D2.dead) = false; rw [HG.out.2.1, d1]; rfl) (zp 4012) (by rw [zp_size]; decide))
  clear h1 e1 e2 h2 d1 d2 d3 d4 d5 hD2 o1 hc26
  go_wp2_with fail
  refine HOP.out.mono ?_
  rintro e w27 ⟨h3, _, _, h4, _⟩
  obtain rfl := h3 HO2.out
  have H27 := Lib.hid h4
  clear h3 h4 HOP
  go_wp2_with fail
  have h2 := at_take (fm w27) (zp 4012) (H27.out.later (HBM.out w27)).1 (HOM.out w27).bs (by rw [zp_size]; decide)
  rw [KL.out] at h2
  unfold pS at h2
  rw [← H26.out.2] at h2
  refine h2.mono ?_
  clear h2
  rintro e w28 ⟨rfl, M28, _, _, h1, _⟩
  have H28 := Lib.hid h1.below
  clear h1
  go_wp2_with fail
  refine (goes_any _).mono ?_
  rintro e w29 ⟨rfl, hb⟩
  have H29 := Lib.hid (H28.out.trans (hb.mono H28.out.size))
  clear hb
  go_wp2_with fail
  go_ret
  exact ⟨rfl, H29.out⟩
end Go.Proofs.Ytlmngghkhnnaeaa
