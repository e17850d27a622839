/- The walk of StoreHeads. -/
import Derived.Test.YtlmngghkhnnaeaaQHds
namespace Go.Proofs.Ytlmngghkhnnaeaa
open Go.RowKit
set_option maxRecDepth 100000
set_option maxHeartbeats 2000000
set_option linter.unusedVariables false
set_option linter.unusedSimpArgs false
/-- a head, read -/
theorem head_read {w0 w : World} {M : SM} {S : SS} (x : Int) (hx : isH x) (h : AtS w0 w M S noA) (hI : Inv S 30) : Calls Try.prog 7 #[dV M.pd, .int .i64 x] w fun e w' => ∃ a c, e = .returned (.tuple #[.slice a 4096 c, .int .i64 0]) ∧ Own 5 w' w.heap.size (.slice a 4096 c) (readP S.D x) ∧ AtS w0 w' M S noA ∧ Below w.heap.size w w' := by
  have hz : (readP S.D x).size = 4096 := hI.disc.ok.readSize (by rcases hx with e | e <;> omega) (by rcases hx with e | e <;> omega)
  refine (at_dread x h).mono ?_
  rintro e w' ⟨v, c, rfl, hc, g1, _, g2, _, g3⟩
  have hc0 : c = 0 := by
    rw [hc]
    unfold sureE
    rw [hI.alive.2, if_neg (by decide), if_neg (by rw [hI.disc.ok.len]; rcases hx with e | e <;> subst e <;> decide)]
  have ho := g1 hc0
  obtain ⟨a, cc, rfl⟩ := ho.size
  rw [hz] at ho ⊢
  rw [hc0]
  exact ⟨a, cc, rfl, ho, g2, g3⟩
/-- []byte(s) -/
theorem conv_ex (s : ByteArray) (hs : s.size ≤ 9223372036854775807) : ∃ (f : World → Value) (g : World → World),
    (∀ W, (convert 9 28 (.string s)).run Try.prog W = .ok (f W) (g W)) ∧ (∀ W, BS (g W) (f W) s) ∧ ∀ W, Below W.heap.size W (g W) :=
  ⟨_, _, fun W => Lib.run_convert_string_bytes (P := Try.prog) W 9 28 5 s uStr uBytes uByte, fun W => BS.bytes W 5 s hs, fun W => bytes_below W 5 s⟩
theorem sheads_law (v0 : Value) (l : List ByteArray) (w : World) (hl : TS w v0 l) : Calls Try.prog 3 #[v0] w fun e w' => e = .returned (.bool true) ∧ Below w.heap.size w w' := by
  obtain ⟨a0, cap0, rfl, _⟩ := id hl
  have HT := Lib.hid hl
  have HM := Lib.hid (made_at w 30 (by decide) (by decide))
  have HZ := Lib.hid HInv.zero
  obtain ⟨S00, hS⟩ : ∃ S, S = S0 30 := ⟨_, rfl⟩
  rw [← hS] at HM HZ
  unfold pS dV at HM
  clear hl hS
  by_cases h20 : l.length ≤ 20
  · have i20 : ¬ ((l.length : Int) > 20) := by omega
    go_enter Try.func3, Try.ntmps3
    go_wp2_with fail
    refine HM.out.mono ?_
    rintro e w1 ⟨M, rfl, h1⟩
    obtain ⟨p, hp⟩ : ∃ p, p = M.p := ⟨_, rfl⟩
    obtain ⟨pd, hpd⟩ : ∃ pd, pd = M.pd := ⟨_, rfl⟩
    rw [← hp, ← hpd]
    have H1 := Lib.hid (show AtS w w1 M S00 noA ∧ p = M.p ∧ pd = M.pd from ⟨h1, hp, hpd⟩)
    clear h1 hp hpd
    go_wp2_with fail
    go_loopw [5, 6] (fun nv s wr => ∃ (i : Nat) (nw : Int) (S : SS) (M : SM), i ≤ l.length ∧ s = .int .i64 i ∧ nv = .int .u64 nw ∧ Hid (HInv S i nw) ∧ Hid (AtS w wr M S noA ∧ p = M.p ∧ pd = M.pd)) (fun nv s _ => l.length - (intOf s).toNat)
    case atStart => exact ⟨0, 0, S00, M, by omega, rfl, rfl, HZ, H1⟩
    case round =>
      clear H1 HZ
      obtain ⟨i, nw, S, M, hi, rfl, rfl, HI, HA⟩ := hrel
      by_cases hlt : i < l.length
      · obtain ⟨u, hu⟩ : ∃ u, l[i]? = some u := ⟨_, List.getElem?_eq_getElem hlt⟩
        obtain ⟨b0, o0, c0, he, hcu⟩ := (HT.out.below HA.out.1.below).at_ hu
        injection he with he _ hec
        subst he; subst hec
        have j1 : decide ((i : Int) < (l.length : Int)) = true := decide_eq_true (by omega)
        have HU := Lib.hid hu
        clear hu
        by_cases hu20 : u.size ≤ 20
        · have j2 : ¬ ((u.size : Int) > 20) := by omega
          have R0 := fun (wq : World) (M : SM) (hh : AtS w wq M S noA) => Lib.hid (head_read 0 (.inl rfl) hh HI.out.inv)
          have R1 := fun (wq : World) (M : SM) (hh : AtS w wq M S noA) => Lib.hid (head_read 1 (.inr rfl) hh HI.out.inv)
          have HST := Lib.hid (HI.out.still (by omega) (L := []))
          obtain ⟨P0, hP0⟩ : ∃ P, P = readP S.D 0 := ⟨_, rfl⟩
          obtain ⟨P1, hP1⟩ : ∃ P, P = readP S.D 1 := ⟨_, rfl⟩
          rw [← hP0] at R0
          rw [← hP1] at R1
          have HPP := Lib.hid (And.intro hP0 hP1)
          have HSS := Lib.hid (show S.stamp + 1 ≤ 18446744073709551615 by have := HI.out.si; omega)
          clear hP0 hP1 HST
          go_wp2_with fail
          have h2 := (R0 _ _ HA.out.1).out
          unfold dV at h2
          rw [← HA.out.2.2] at h2
          refine h2.mono ?_
          clear h2
          rintro e w2 ⟨aa, ca, rfl, ho2, ha2, hb2⟩
          have HO2 := Lib.hid ho2
          have HA2 := Lib.hid ha2
          clear ho2 ha2 hb2
          go_wp2_with fail
          have h2 := (R1 _ _ HA2.out).out
          unfold dV at h2
          rw [← HA.out.2.2] at h2
          refine h2.mono ?_
          clear h2
          rintro e w3 ⟨ab, cb, rfl, ho3, ha3, hb3⟩
          have HO3 := Lib.hid (And.intro (HO2.out.below hb3) ho3)
          have HA3 := Lib.hid ha3
          clear ho3 ha3 hb3 HA2 HO2
          go_wp2_with fail
          have h2 := at_commit HA3.out HSS.out
          unfold pS at h2
          rw [← HA.out.2.1] at h2
          refine h2.mono ?_
          clear h2
          rintro e w4 ⟨L, hL, rfl, M4, e1, e2, ha4, hk4⟩
          obtain ⟨S1, eS1, hi1, hd1⟩ := HI.out.still (by omega) hL
          rw [eS1] at ha4 ⊢
          have HO4 := Lib.hid (And.intro (hk4.2 _ _ _ HO3.out.1) (hk4.2 _ _ _ HO3.out.2))
          have HA4 := Lib.hid (show AtS w w4 M4 S1 noA ∧ p = M4.p ∧ pd = M4.pd from ⟨ha4, by rw [e1]; exact HA.out.2.1, by rw [e2]; exact HA.out.2.2⟩)
          have HI1 := Lib.hid hi1
          have HD1 := Lib.hid hd1
          clear ha4 hk4 e1 e2 hi1 hd1 eS1 hL HO3 HA3
          go_wp2_with fail
          have h2 := head_read 0 (.inl rfl) HA4.out.1 HI1.out.inv
          rw [HD1.out, ← HPP.out.1] at h2
          unfold dV at h2
          rw [← HA4.out.2.2] at h2
          refine h2.mono ?_
          clear h2
          rintro e w5 ⟨ac, cc, rfl, ho5, ha5, hb5⟩
          have HO5 := Lib.hid (And.intro (HO4.out.1.below hb5) (And.intro (HO4.out.2.below hb5) ho5))
          have HA5 := Lib.hid ha5
          clear ho5 ha5 hb5 HO4
          go_wp2_with fail
          have h2 := head_read 1 (.inr rfl) HA5.out HI1.out.inv
          rw [HD1.out, ← HPP.out.2] at h2
          unfold dV at h2
          rw [← HA4.out.2.2] at h2
          refine h2.mono ?_
          clear h2
          rintro e w6 ⟨ae, ce, rfl, ho6, ha6, hb6⟩
          have HO6 := Lib.hid (And.intro (HO5.out.1.below hb6) (And.intro (HO5.out.2.1.below hb6) (And.intro (HO5.out.2.2.below hb6) ho6)))
          have HA6 := Lib.hid ha6
          have s1 := BS.string (P := Try.prog) (Own.bs HO6.out.1) 28 5 9 (by kernel_rfl) (by kernel_rfl) (by kernel_rfl)
          have s2 := BS.string (P := Try.prog) (Own.bs HO6.out.2.1) 28 5 9 (by kernel_rfl) (by kernel_rfl) (by kernel_rfl)
          have s3 := BS.string (P := Try.prog) (Own.bs HO6.out.2.2.1) 28 5 9 (by kernel_rfl) (by kernel_rfl) (by kernel_rfl)
          have s4 := BS.string (P := Try.prog) (Own.bs HO6.out.2.2.2) 28 5 9 (by kernel_rfl) (by kernel_rfl) (by kernel_rfl)
          obtain ⟨b7, o7, c7, he, hcu6⟩ := (HT.out.below ha6.below).at_ HU.out
          injection he with he _ hec
          injection he with he
          injection he with he1 he2 he3
          subst he1; subst he2; subst hec
          obtain ⟨fb, gb, hfb, hBb, hLb⟩ := conv_ex u (by omega)
          obtain ⟨p7, S2, htk, hst2, hcm⟩ := HI1.out.step (by omega) u hu20
          have HBb := Lib.hid hBb
          have HLb := Lib.hid hLb
          have HTK := Lib.hid htk
          have HST2 := Lib.hid hst2
          have HCM := Lib.hid hcm
          clear ho6 ha6 hb6 HO5 HA5 hBb hLb htk hst2 hcm
          go_wp2_with fail
          have h2 := at_take (fb w6) u (HA6.out.later (HLb.out w6)).1 (HBb.out w6) (by omega)
          rw [HTK.out] at h2
          unfold pS at h2
          rw [← HA4.out.2.1] at h2
          refine h2.mono ?_
          clear h2
          rintro e w7 ⟨rfl, M7, e1, e2, ha7, hk7⟩
          have hk67 := (HA6.out.later (HLb.out w6)).2
          have HO7 := Lib.hid (And.intro (hk7.2 _ _ _ (hk67.2 _ _ _ HO6.out.1)) (hk7.2 _ _ _ (hk67.2 _ _ _ HO6.out.2.1)))
          have HA7 := Lib.hid (show AtS w w7 M7 S2 noA ∧ p = M7.p ∧ pd = M7.pd from ⟨ha7, by rw [e1]; exact HA4.out.2.1, by rw [e2]; exact HA4.out.2.2⟩)
          clear ha7 hk7 e1 e2 hk67 s1 s2 s3 s4 hcu6 HO6
          go_wp2_with fail
          have h2 := at_commit HA7.out.1 (by rw [HST2.out]; have := HI1.out.si; omega)
          unfold pS at h2
          rw [← HA7.out.2.1] at h2
          refine h2.mono ?_
          clear h2
          rintro e w8 ⟨L, hL, rfl, M8, e1, e2, ha8, hk8⟩
          obtain ⟨S3, eS3, hi3, hlt3, ⟨bo, hgo⟩, hke⟩ := HCM.out L hL
          rw [eS3] at ha8 ⊢
          have HO8 := Lib.hid (And.intro (hk8.2 _ _ _ HO7.out.1) (hk8.2 _ _ _ HO7.out.2))
          have HA8 := Lib.hid (show AtS w w8 M8 S3 noA ∧ p = M8.p ∧ pd = M8.pd from ⟨ha8, by rw [e1]; exact HA7.out.2.1, by rw [e2]; exact HA7.out.2.2⟩)
          have HI3 := Lib.hid hi3
          have HLT3 := Lib.hid hlt3
          have HGO := Lib.hid hgo
          have HKE := Lib.hid hke
          clear ha8 hk8 e1 e2 hi3 eS3 hL HO7 hlt3 hgo hke
          go_wp2_with fail
          have h2 := head_read 0 (.inl rfl) HA8.out.1 HI3.out.inv
          unfold dV at h2
          rw [← HA8.out.2.2] at h2
          refine h2.mono ?_
          clear h2
          rintro e w9 ⟨ax, cx, rfl, ho9, ha9, hb9⟩
          have HO9 := Lib.hid (And.intro (HO8.out.1.below hb9) (And.intro (HO8.out.2.below hb9) ho9))
          have HA9 := Lib.hid ha9
          clear ho9 ha9 hb9 HO8
          go_wp2_with fail
          have h2 := head_read 1 (.inr rfl) HA9.out HI3.out.inv
          unfold dV at h2
          rw [← HA8.out.2.2] at h2
          refine h2.mono ?_
          clear h2
          rintro e w10 ⟨ay, cy, rfl, ho10, ha10, hb10⟩
          have HO10 := Lib.hid (And.intro (HO9.out.1.below hb10) (And.intro (HO9.out.2.1.below hb10) (And.intro (HO9.out.2.2.below hb10) ho10)))
          have HA10 := Lib.hid ha10
          have hz0 := HI3.out.inv.disc.ok.readSize (x := 0) (by decide) (by decide)
          have hz1 := HI3.out.inv.disc.ok.readSize (x := 1) (by decide) (by decide)
          have HZZ := Lib.hid (And.intro hz0 hz1)
          clear ho10 ha10 hb10 HO9 HA9 hz0 hz1
          by_cases hm : (i : Int) % 2 = 1
          · have j3 : ((i : Int) % 2 == 1) = true := by rw [hm]; rfl
            have hg := HGO.out
            rw [hm] at hg
            rw [show (1 : Int) - 1 = 0 from rfl] at hg
            have hke := HKE.out
            rw [hm, HD1.out, ← HPP.out.2] at hke
            have HQ1 := Lib.hid HO10.out.2.1
            have HQ2 := Lib.hid HO10.out.2.2.2
            rw [hke] at HQ2
            have HF := Lib.hid (fget_any 0 1 _ _ (by decide) (by decide) (by decide) (by decide) w10 HO10.out.2.2.1.bs HZZ.out.1)
            rw [hg] at HF
            obtain ⟨ST, hST⟩ : ∃ ST, ST = S1.stamp + 1 := ⟨_, rfl⟩
            rw [← hST] at HF
            have j4 : ¬ (ST ≤ nw) := by rw [hST]; have := HLT3.out; omega
            have HE := Lib.hid (show HInv S3 (i + 1) ST by rw [hST]; exact HI3.out)
            clear hg hke hST
            go_wp2_with fail
            refine HF.out.mono ?_
            rintro e w11 ⟨⟨vg, rfl, _⟩, hb11⟩
            have HA11 := Lib.hid (HA10.out.later hb11).1
            have s1 := BS.string (P := Try.prog) (Own.bs (HQ1.out.below hb11)) 28 5 9 (by kernel_rfl) (by kernel_rfl) (by kernel_rfl)
            have s2 := BS.string (P := Try.prog) (Own.bs (HQ2.out.below hb11)) 28 5 9 (by kernel_rfl) (by kernel_rfl) (by kernel_rfl)
            clear hb11
            go_wp2_with fail
            exact ⟨⟨i + 1, ST, S3, M8, by omega, rfl, rfl, HE, Lib.hid ⟨HA11.out, HA8.out.2⟩⟩, by simp [intOf]; omega⟩
          · have hm0 : (i : Int) % 2 = 0 := by omega
            have j3 : ((i : Int) % 2 == 1) = false := by rw [hm0]; rfl
            have hg := HGO.out
            rw [hm0] at hg
            rw [show (1 : Int) - 0 = 1 from rfl] at hg
            have hke := HKE.out
            rw [hm0, HD1.out, ← HPP.out.1] at hke
            have HQ1 := Lib.hid HO10.out.1
            have HQ2 := Lib.hid HO10.out.2.2.1
            rw [hke] at HQ2
            have HF := Lib.hid (fget_any 1 1 _ _ (by decide) (by decide) (by decide) (by decide) w10 HO10.out.2.2.2.bs HZZ.out.2)
            rw [hg] at HF
            obtain ⟨ST, hST⟩ : ∃ ST, ST = S1.stamp + 1 := ⟨_, rfl⟩
            rw [← hST] at HF
            have j4 : ¬ (ST ≤ nw) := by rw [hST]; have := HLT3.out; omega
            have HE := Lib.hid (show HInv S3 (i + 1) ST by rw [hST]; exact HI3.out)
            clear hg hke hST
            go_wp2_with fail
            refine HF.out.mono ?_
            rintro e w11 ⟨⟨vg, rfl, _⟩, hb11⟩
            have HA11 := Lib.hid (HA10.out.later hb11).1
            have s1 := BS.string (P := Try.prog) (Own.bs (HQ1.out.below hb11)) 28 5 9 (by kernel_rfl) (by kernel_rfl) (by kernel_rfl)
            have s2 := BS.string (P := Try.prog) (Own.bs (HQ2.out.below hb11)) 28 5 9 (by kernel_rfl) (by kernel_rfl) (by kernel_rfl)
            clear hb11
            go_wp2_with fail
            exact ⟨⟨i + 1, ST, S3, M8, by omega, rfl, rfl, HE, Lib.hid ⟨HA11.out, HA8.out.2⟩⟩, by simp [intOf]; omega⟩
        · have j2 : ((u.size : Int) > 20) := by omega
          have HB := Lib.hid HA.out.1.below
          go_wp2_with fail
          go_ret
          exact ⟨rfl, HB.out⟩
      · obtain rfl : i = l.length := by omega
        have j1 : decide ((l.length : Int) < (l.length : Int)) = false := decide_eq_false (by omega)
        have HB := Lib.hid HA.out.1.below
        go_wp2_with fail
        refine (goes_any _).mono ?_
        rintro e w17 ⟨rfl, hb⟩
        have H17 := Lib.hid (HB.out.trans (hb.mono HB.out.size))
        clear hb
        go_wp2_with fail
        go_ret
        exact ⟨rfl, H17.out⟩
  · have i20 : ((l.length : Int) > 20) := by omega
    go_enter Try.func3, Try.ntmps3
    go_wp2_with fail
    go_ret
    exact ⟨rfl, Below.refl _ _⟩
end Go.Proofs.Ytlmngghkhnnaeaa
