/- The walk of DiskActs. -/
import Derived.Test.YtpclfnamknioaaaTold3
namespace Go.Proofs.Ytpclfnamknioaaa
open Go.RowKit
set_option maxRecDepth 100000
set_option maxHeartbeats 6000000
set_option linter.unusedVariables false
set_option linter.unusedSimpArgs false
structure Rel (S : DS) (R : R3) : Prop where
  L : R.L = S.L
  W : wOf R.N = S.W
  dead : R.dead = S.dead
  fuse : S.fuse = max R.left (-1)
theorem Rel.ok {S : DS} {R : R3} (h : Rel S R) (hS : S.Ok) : R.ds.Ok := by
  refine ⟨?_, ?_, ?_, ?_⟩
  · show ((wOf R.N).map (·.1)).Nodup; rw [h.W]; exact hS.nd
  · show ∀ q ∈ wOf R.N, 0 ≤ q.1 ∧ q.1 < R.L.length; rw [h.W, h.L]; exact hS.rng
  · show ∀ q ∈ wOf R.N, q.2.size = 4096; rw [h.W]; exact hS.wsz
  · show ∀ i, (pgOf (R.L.getD i none)).size = 4096; rw [h.L]; exact hS.lsz
theorem Rel.burn {S : DS} {R : R3} (h : Rel S R) (hd : S.dead = false) : Rel (burnS S) (countS R) ∧ (burnS S).dead = decide (R.left = 0) := by
  obtain ⟨h1, h2, h3, h4⟩ := h
  have hb : (burnS S).dead = (S.dead || S.fuse == 0) := rfl
  have hbf : (burnS S).fuse = if 0 < S.fuse then S.fuse - 1 else S.fuse := rfl
  unfold countS
  rcases (show R.left = 0 ∨ 0 < R.left ∨ R.left < 0 by omega) with h | h | h
  · have e : S.fuse = 0 := by rw [h4, h]; rfl
    rw [if_pos h]
    have hd2 : (burnS S).dead = true := by rw [hb, e]; simp
    refine ⟨⟨h1, h2, hd2.symm, ?_⟩, by rw [hd2]; simp [h]⟩
    rw [hbf, e, if_neg (by decide)]
    show (0 : Int) = max R.left (-1)
    rw [h]; rfl
  · have e : S.fuse = R.left := by rw [h4]; omega
    rw [if_neg (by omega), if_pos h]
    have hd2 : (burnS S).dead = false := by rw [hb, hd, e]; simp; omega
    refine ⟨⟨h1, h2, by rw [hd2]; exact h3.trans hd, ?_⟩, by rw [hd2]; simp; omega⟩
    rw [hbf, e, if_pos h]
    show R.left - 1 = max (R.left - 1) (-1)
    omega
  · have e : S.fuse = -1 := by rw [h4]; omega
    rw [if_neg (by omega), if_neg (by omega)]
    have hd2 : (burnS S).dead = false := by rw [hb, hd, e]; rfl
    refine ⟨⟨h1, h2, by rw [hd2]; exact h3.trans hd, ?_⟩, by rw [hd2]; simp; omega⟩
    rw [hbf, e, if_neg (by decide)]
    omega
theorem Rel.write {S : DS} {R : R3} (h : Rel S R) (at_ : Int) (u : ByteArray) : rwriteE R at_ u = writeE S at_ u ∧ Rel (writeR S at_ u) (rwriteS R at_ u) := by
  have es : sureE R.dead R.L.length at_ u.size = sureE S.dead S.L.length at_ u.size := by rw [h.dead, h.L]
  unfold rwriteE rwriteS writeE writeR
  rw [es]
  by_cases hz : sureE S.dead S.L.length at_ u.size = 0
  · rw [if_pos hz, if_pos hz, if_pos hz, if_pos hz]
    have hd := (sureE_zero hz).1
    have h2 : Rel { S with W := wput at_ u S.W } { R with N := R.N ++ [(at_, u)] } := ⟨h.L, by show wOf (R.N ++ [(at_, u)]) = _; rw [wOf_snoc, h.W], h.dead, h.fuse⟩
    obtain ⟨b1, b2⟩ := h2.burn hd
    refine ⟨?_, b1⟩
    show _ = if (burnS { S with W := wput at_ u S.W }).dead = true then 9 else 0
    rw [b2]
    simp
  · rw [if_neg hz, if_neg hz, if_neg hz, if_neg hz]
    exact ⟨rfl, h⟩
theorem Rel.flush {S : DS} {R : R3} (h : Rel S R) : rflushE R = flushE S ∧ Rel (flushR S) (rflushS R) := by
  unfold rflushE rflushS flushE flushR
  rw [h.dead]
  cases hd : S.dead with
  | true => exact ⟨rfl, h⟩
  | false =>
    obtain ⟨b1, b2⟩ := h.burn hd
    by_cases h0 : R.left = 0
    · have hb : (burnS S).dead = true := by rw [b2]; exact decide_eq_true h0
      simp only [hb, h0, if_true, Bool.false_eq_true, if_false]
      exact ⟨trivial, b1⟩
    · have hb : (burnS S).dead = false := by rw [b2]; exact decide_eq_false h0
      simp only [hb, h0, Bool.false_eq_true, if_false]
      refine ⟨trivial, ?_, rfl, by show (countS R).dead = false; rw [b1.dead]; exact hb, b1.fuse⟩
      show setl (fK [] 255) (wOf (countS R).N) (countS R).L (wOf (countS R).N).length = _
      rw [fK_nil, b1.W, b1.L]
      rfl
theorem Rel.act {S : DS} {R : R3} (h : Rel S R) (a : A3) : toldE R a = doesE S a ∧ Rel (doesR S a) (toldR R a) := by
  unfold toldE toldR doesE doesR
  by_cases h0 : a.doo % 7 = 0
  · simp only [if_pos h0]; exact h.write _ _
  by_cases h1 : a.doo % 7 = 1
  · simp only [if_neg h0, if_pos h1]; exact h.flush
  by_cases h2 : a.doo % 7 = 2
  · simp only [if_neg h0, if_neg h1, if_pos h2, show ¬ a.doo % 7 = 5 by omega, show ¬ a.doo % 7 = 6 by omega, if_false]
    refine ⟨trivial, ?_⟩
    unfold fuseS rfuseS
    rw [h.dead]
    by_cases hd : S.dead = true
    · rw [if_pos hd, if_pos hd]; exact h
    · rw [if_neg hd, if_neg hd]; exact ⟨h.L, h.W, rfl, rfl⟩
  by_cases h3 : a.doo % 7 = 3
  · simp only [if_neg h0, if_neg h1, if_neg h2, if_pos h3, show ¬ a.doo % 7 = 5 by omega, show ¬ a.doo % 7 = 6 by omega, if_false]
    exact ⟨trivial, h.L, h.W, rfl, h.fuse⟩
  by_cases h4 : a.doo % 7 = 4
  · simp only [if_neg h0, if_neg h1, if_neg h2, if_neg h3, if_pos h4, show ¬ a.doo % 7 = 5 by omega, show ¬ a.doo % 7 = 6 by omega, if_false]
    refine ⟨trivial, ?_, rfl, rfl, rfl⟩
    show setl (fK a.fates 0) (wOf R.N) R.L (wOf R.N).length = _
    rw [fK_zero, h.W, h.L]; rfl
  by_cases h5 : a.doo % 7 = 5
  · simp only [if_neg h0, if_neg h1, if_neg h2, if_neg h3, if_neg h4, if_pos h5]; exact h.write _ _
  simp only [if_neg h0, if_neg h1, if_neg h2, if_neg h3, if_neg h4, if_neg h5]
  refine ⟨?_, h⟩
  rw [h.dead, h.L]
theorem Rel.read {S : DS} {R : R3} (h : Rel S R) (k : Nat) : readR R k = readP S k := by
  unfold readR readP
  rw [h.W, h.L]; rfl
theorem countS_N (R : R3) : (countS R).N = R.N := countS_L.2
theorem rwriteS_N (R : R3) (at_ : Int) (u : ByteArray) : (rwriteS R at_ u).N.length ≤ R.N.length + 1 := by
  unfold rwriteS
  split
  · rw [countS_N]; simp
  · omega
theorem toldR_N (R : R3) (a : A3) : (toldR R a).N.length ≤ R.N.length + 1 := by
  unfold toldR
  split
  · exact rwriteS_N _ _ _
  split
  · unfold rflushS
    split
    · omega
    split
    · rw [countS_N]; omega
    · show ([] : List (Int × ByteArray)).length ≤ _; simp
  split
  · unfold rfuseS; split <;> simp
  split
  · simp
  split
  · show ([] : List (Int × ByteArray)).length ≤ _; simp
  split
  · exact rwriteS_N _ _ _
  · omega
theorem RX.lower {w0 w1 w : World} {p : Nat} {R : R3} (h : RX w1 w p R) (hb : w0.heap.size ≤ w1.heap.size) : RX w0 w p R := by
  obtain ⟨vL, vN, h⟩ := h
  refine ⟨vL, vN, h.blk, ⟨h.rowL.1, ?_⟩, ⟨h.rowN.1, ?_⟩, Nat.le_trans hb h.low, h.lft⟩
  · rcases h.rowL.2 with hn | ⟨g, cap, cur, he, hbg, rest⟩
    · exact .inl hn
    · exact .inr ⟨g, cap, cur, he, Nat.le_trans hb hbg, rest⟩
  · rcases h.rowN.2 with hn | ⟨g, cap, cur, he, hbg, rest⟩
    · exact .inl hn
    · exact .inr ⟨g, cap, cur, he, Nat.le_trans hb hbg, rest⟩
theorem rel_new (n : Nat) : Rel (newS n) (rnewS n) := ⟨rfl, rfl, rfl, rfl⟩
theorem acts_law (pg : Int) (va : Value) (la : List A3) (hp0 : -9223372036854775808 ≤ pg) (hp1 : pg ≤ 9223372036854775807) (w : World) (hA : AS3 w va la) :
    Calls Try.prog 5 #[.int .i64 pg, va] w fun e w' => e = .returned (.bool true) ∧ Below w.heap.size w w' := by
  have HGA := Lib.hid (great3_any va la w hA)
  obtain ⟨ga, hga⟩ : ∃ ga, ga = gr3 la := ⟨_, rfl⟩
  rw [← hga] at HGA
  obtain ⟨aa, ca, rfl, hma⟩ := hA.shape
  have hma' : la.length ≤ 9223372036854775807 := by unfold maxLen at hma; omega
  have HA := Lib.hid hA
  clear hA
  by_cases g1 : 0 < ga
  · have i1 : decide (ga > 0) = true := decide_eq_true g1
    go_enter Try.func5, Try.ntmps5
    go_wp2_with fail
    refine HGA.out.mono ?_
    rintro e w1 ⟨rfl, rfl⟩
    go_wp2_with fail
    go_ret
    exact ⟨rfl, Below.refl _ _⟩
  have i1 : decide (ga > 0) = false := decide_eq_false g1
  have hla60 : la.length ≤ 60 := by
    rw [hga] at g1
    unfold gr3 at g1
    split at g1 <;> omega
  clear hga
  by_cases g2 : 12 < pg ∧ pg ≤ 4096
  · have i2 : decide (pg > 12) = true := decide_eq_true g2.1
    have i3 : decide (pg ≤ 4096) = true := decide_eq_true g2.2
    go_enter Try.func5, Try.ntmps5
    go_wp2_with fail
    refine HGA.out.mono ?_
    rintro e w1 ⟨rfl, rfl⟩
    go_wp2_with fail
    go_ret
    exact ⟨rfl, Below.refl _ _⟩
  by_cases g3 : pg < 1 ∨ 4096 < pg
  · have HN := Lib.hid (new_no pg w g3)
    rcases g3 with g3 | g3
    · have i2 : decide (pg > 12) = false := decide_eq_false (by omega)
      have i4 : decide (pg < 1) = true := decide_eq_true g3
      clear g2
      go_enter Try.func5, Try.ntmps5
      go_wp2_with fail
      refine HGA.out.mono ?_
      rintro e w1 ⟨rfl, hw⟩
      obtain rfl := hw.symm
      go_wp2_with fail
      refine HN.out.mono ?_
      rintro e w1 ⟨rfl, hw⟩
      obtain rfl := hw.symm
      go_wp2_with fail
      refine (goes_any _).mono ?_
      rintro e w10 ⟨rfl, hb⟩
      have HB10 := Lib.hid hb
      clear hb
      go_wp2_with fail
      go_ret
      exact ⟨rfl, HB10.out⟩
    · have i2 : decide (pg > 12) = true := decide_eq_true (by omega)
      have i3 : decide (pg ≤ 4096) = false := decide_eq_false (by omega)
      have i4 : decide (pg < 1) = false := decide_eq_false (by omega)
      have i5 : decide (pg > 4096) = true := decide_eq_true g3
      clear g2
      go_enter Try.func5, Try.ntmps5
      go_wp2_with fail
      refine HGA.out.mono ?_
      rintro e w1 ⟨rfl, hw⟩
      obtain rfl := hw.symm
      go_wp2_with fail
      refine HN.out.mono ?_
      rintro e w1 ⟨rfl, hw⟩
      obtain rfl := hw.symm
      go_wp2_with fail
      refine (goes_any _).mono ?_
      rintro e w10 ⟨rfl, hb⟩
      have HB10 := Lib.hid hb
      clear hb
      go_wp2_with fail
      go_ret
      exact ⟨rfl, HB10.out⟩
  obtain ⟨m, rfl⟩ : ∃ m : Nat, pg = m := ⟨pg.toNat, by omega⟩
  have hm1 : 1 ≤ m := by omega
  have hm12 : m ≤ 12 := by omega
  have i2 : decide ((m : Int) > 12) = false := decide_eq_false (by omega)
  have i4 : decide ((m : Int) < 1) = false := decide_eq_false (by omega)
  have i5 : decide ((m : Int) > 4096) = false := decide_eq_false (by omega)
  have HN := Lib.hid (x_new m w w (Below.refl _ _) hm1 (by omega))
  unfold dV at HN
  clear g2 g3 hp0 hp1
  go_enter Try.func5, Try.ntmps5
  go_wp2_with fail
  refine HGA.out.mono ?_
  rintro e w1 ⟨rfl, hw⟩
  obtain rfl := hw.symm
  go_wp2_with fail
  refine HN.out.mono ?_
  rintro e w1 ⟨p, bl, bw, rfl, hx, hb1⟩
  have HX1 := Lib.hid hx
  have hs1 := hb1.size
  clear hx HN HGA i1 g1 hb1
  go_wp2_with fail
  refine (rnew_any m (by omega) w1).mono ?_
  rintro e w2 ⟨q, rfl, hr, hb⟩
  have HX2 := Lib.hid (HX1.out.below hb)
  have HR2 := Lib.hid (hr.lower hs1)
  clear hr hb HX1
  unfold rV
  go_wp2_with fail
  refine (x_size HX2.out).mono ?_
  rintro e w3 ⟨rfl, hw⟩
  obtain rfl := hw.symm
  rw [show (newS m).L.length = m by simp [newS]]
  go_wp2_with fail
  go_loopw [8] (fun s wr => ∃ (i : Nat) (S : DS) (R : R3), i ≤ la.length ∧ s = .int .i64 i ∧ Hid (Rel S R ∧ S.L.length = m ∧ R.N.length ≤ i) ∧ Hid (DX w wr p bl bw S) ∧ Hid (RX w wr q R)) (fun s _ => la.length - (intOf s).toNat)
  case atStart => exact ⟨0, newS m, rnewS m, by omega, rfl, Lib.hid ⟨rel_new m, by simp [newS], by simp [rnewS]⟩, HX2, HR2⟩
  case round =>
    clear HX2 HR2
    obtain ⟨i, S, R, hi, rfl, HJ, HX, HR⟩ := hrel
    obtain ⟨wo, rfl⟩ : ∃ wo : World, wo = wr := ⟨_, rfl⟩
    by_cases hlt : i < la.length
    · obtain ⟨x, hx⟩ : ∃ x, la[i]? = some x := ⟨_, List.getElem?_eq_getElem hlt⟩
      obtain ⟨b0, o0, c0, he, k0, k1, k2, k3, k4, k5⟩ := (HA.out.below HX.out.low).at_ hx
      injection he with he _ hec
      subst he; subst hec
      have hok := HA.out.ok hx
      have hbd : Below wo.heap.size wo wo.drew := (Below.refl _ _).drew
      have hXd := HX.out.below hbd
      have hRd := HR.out.below hbd
      have hpos : 0 < S.L.length := by have := HJ.out.2.1; omega
      have hd := does_any x hok hXd hpos
      have hrel := HJ.out.1.act x
      have htd := fun (W : World) (hR : RX w W q R) (hB : Below w.heap.size w W) => told_any x hok hR hB (by have := HJ.out.2.2; omega) (by rw [HJ.out.1.L]; have := HJ.out.2.1; omega) (HJ.out.1.ok HX.out.ok)
      rw [hrel.1] at htd
      have HREL := Lib.hid hrel.2
      have HRN := Lib.hid (Nat.le_trans (toldR_N R x) (Nat.succ_le_succ HJ.out.2.2))
      have HLN := Lib.hid ((doesR_len S x).trans HJ.out.2.1)
      obtain ⟨E, hE⟩ : ∃ E, E = doesE S x := ⟨_, rfl⟩
      obtain ⟨S2, hS2⟩ : ∃ S2, S2 = doesR S x := ⟨_, rfl⟩
      obtain ⟨R2, hR2⟩ : ∃ R2, R2 = toldR R x := ⟨_, rfl⟩
      rw [← hE] at hd htd
      rw [← hS2] at hd HREL HLN
      rw [← hR2] at htd HREL HRN
      obtain ⟨doo, at_, b, c, s, xv, fates⟩ := x
      obtain ⟨fa, fc, hfv, _⟩ := hok.is
      simp only at hfv
      subst hfv
      simp only [A3.cells] at hd htd k0 k1 k2 k3 k4 k5
      unfold dV at hd
      unfold rV at htd
      have HD := Lib.hid hd
      have HTD := Lib.hid htd
      have HXD := Lib.hid hXd
      have HRD := Lib.hid hRd
      have hcell : ∀ W, Below w.heap.size w W → W.cell? ⟨b0, o0 + i * 6, none⟩ = some (.int .u8 doo) ∧ W.cell? ⟨b0, o0 + i * 6 + 1, none⟩ = some (.int .i64 at_) ∧ W.cell? ⟨b0, o0 + i * 6 + 2, none⟩ = some (.int .u8 b) ∧ W.cell? ⟨b0, o0 + i * 6 + 3, none⟩ = some (.int .u8 c) ∧ W.cell? ⟨b0, o0 + i * 6 + 4, none⟩ = some (.int .u8 s) ∧ W.cell? ⟨b0, o0 + i * 6 + 5, none⟩ = some (.slice fa fates.length fc) := fun W hW => by
        obtain ⟨b1, o1, c1, he, l0, l1, l2, l3, l4, l5⟩ := (HA.out.below hW).at_ hx
        injection he with he _ hec
        injection he with he
        injection he with he1 he2 he3
        subst he1; subst he2
        exact ⟨l0, l1, l2, l3, l4, l5⟩
      have HCL := Lib.hid hcell
      have HLOW := Lib.hid hXd.low
      have j1 : decide ((i : Int) < (la.length : Int)) = true := decide_eq_true (by omega)
      clear hd htd hx hok hbd hXd hRd hpos hrel hE hS2 hR2 hcell HJ k0 k1 k2 k3 k4 k5
      go_wp2_with fail
      refine wp_region_held_drew (S := (fun w' => w'.cell? ⟨b0, o0 + i * 6, none⟩ = some (.int .u8 doo) ∧ w'.cell? ⟨b0, o0 + i * 6 + 1, none⟩ = some (.int .i64 at_) ∧ w'.cell? ⟨b0, o0 + i * 6 + 2, none⟩ = some (.int .u8 b) ∧ w'.cell? ⟨b0, o0 + i * 6 + 3, none⟩ = some (.int .u8 c) ∧ w'.cell? ⟨b0, o0 + i * 6 + 4, none⟩ = some (.int .u8 s) ∧ w'.cell? ⟨b0, o0 + i * 6 + 5, none⟩ = some (.slice fa fates.length fc))) (by kernel_rfl) ?_ (fun hHeld0 => ?_)
      · (try dsimp only)
        first | exact HCL.out _ HLOW.out | exact HCL.out _ HL2.out | exact HCL.out _ HL3.out
      refine takeN (v := ?_) 0 rfl (by kernel_rfl) (by kernel_rfl) (by kernel_rfl) (fun _ _ _ h => h) (by rfl) ?_ hHeld0 ?_
      rotate_left
      · intro w hSw; (try dsimp only at hSw); go_simp; with_reducible rfl
      try simp only [Act.put, List.setIfInBounds_toArray, List.set_cons_zero, List.set_cons_succ]
      refine takeN (v := ?_) 1 rfl (by kernel_rfl) (by kernel_rfl) (by kernel_rfl) (fun _ _ _ h => h) (by rfl) ?_ hHeld0 ?_
      rotate_left
      · intro w hSw; (try dsimp only at hSw); go_simp; with_reducible rfl
      try simp only [Act.put, List.setIfInBounds_toArray, List.set_cons_zero, List.set_cons_succ]
      refine takeN (v := ?_) 2 rfl (by kernel_rfl) (by kernel_rfl) (by kernel_rfl) (fun _ _ _ h => h) (by rfl) ?_ hHeld0 ?_
      rotate_left
      · intro w hSw; (try dsimp only at hSw); go_simp; with_reducible rfl
      try simp only [Act.put, List.setIfInBounds_toArray, List.set_cons_zero, List.set_cons_succ]
      refine takeN (v := ?_) 3 rfl (by kernel_rfl) (by kernel_rfl) (by kernel_rfl) (fun _ _ _ h => h) (by rfl) ?_ hHeld0 ?_
      rotate_left
      · intro w hSw; (try dsimp only at hSw); go_simp; with_reducible rfl
      try simp only [Act.put, List.setIfInBounds_toArray, List.set_cons_zero, List.set_cons_succ]
      refine takeN (v := ?_) 4 rfl (by kernel_rfl) (by kernel_rfl) (by kernel_rfl) (fun _ _ _ h => h) (by rfl) ?_ hHeld0 ?_
      rotate_left
      · intro w hSw; (try dsimp only at hSw); go_simp; with_reducible rfl
      try simp only [Act.put, List.setIfInBounds_toArray, List.set_cons_zero, List.set_cons_succ]
      refine takeN (v := ?_) 6 rfl (by kernel_rfl) (by kernel_rfl) (by kernel_rfl) (fun _ _ _ h => h) (by rfl) ?_ hHeld0 ?_
      rotate_left
      · intro w hSw; (try dsimp only at hSw); go_simp; with_reducible rfl
      try simp only [Act.put, List.setIfInBounds_toArray, List.set_cons_zero, List.set_cons_succ]
      refine takeN (v := ?_) 7 rfl (by kernel_rfl) (by kernel_rfl) (by kernel_rfl) (fun _ _ _ h => h) (by rfl) ?_ hHeld0 ?_
      rotate_left
      · intro w hSw; (try dsimp only at hSw); go_simp; with_reducible rfl
      try simp only [Act.put, List.setIfInBounds_toArray, List.set_cons_zero, List.set_cons_succ]
      refine takeN (v := ?_) 8 rfl (by kernel_rfl) (by kernel_rfl) (by kernel_rfl) (fun _ _ _ h => h) (by rfl) ?_ hHeld0 ?_
      rotate_left
      · intro w hSw; (try dsimp only at hSw); go_simp; with_reducible rfl
      try simp only [Act.put, List.setIfInBounds_toArray, List.set_cons_zero, List.set_cons_succ]
      refine takeN (v := ?_) 9 rfl (by kernel_rfl) (by kernel_rfl) (by kernel_rfl) (fun _ _ _ h => h) (by rfl) ?_ hHeld0 ?_
      rotate_left
      · intro w hSw; (try dsimp only at hSw); go_simp; with_reducible rfl
      try simp only [Act.put, List.setIfInBounds_toArray, List.set_cons_zero, List.set_cons_succ]
      refine takeN (v := ?_) 10 rfl (by kernel_rfl) (by kernel_rfl) (by kernel_rfl) (fun _ _ _ h => h) (by rfl) ?_ hHeld0 ?_
      rotate_left
      · intro w hSw; (try dsimp only at hSw); go_simp; with_reducible rfl
      try simp only [Act.put, List.setIfInBounds_toArray, List.set_cons_zero, List.set_cons_succ]
      refine wpAnyH_ready (rs := [5]) (by kernel_rfl) (by simp) ?_
      refine readyN rfl (fun K hK => ?_) ?_
      · -- operation 5
        go_simp
        first
          | (go_at_call 22
             refine HD.out.mono ?_
             rintro e w2 ⟨rfl, hx2, hfr⟩
             have HX2 := Lib.hid hx2
             have HR2 := Lib.hid (HRD.out.fr HXD.out hfr)
             have HL2 := Lib.hid hx2.low
             clear hx2 hfr)
          | (go_at_call 23
             refine (HTD.out _ HR2.out HL2.out).mono ?_
             rintro e w3 ⟨rfl, hr3, hkr⟩
             have HR3 := Lib.hid hr3
             have HX3 := Lib.hid (hkr.dx HX2.out)
             have HL3 := Lib.hid (hkr.below HL2.out)
             have hq3 : w3.cell? ⟨q, 3, none⟩ = some (.bool S2.dead) := by obtain ⟨vL, vN, h⟩ := hr3; rw [← HREL.out.dead]; exact h.c3
             clear hr3 hkr)
          | (go_at_call 17
             refine (x_dead HX3.out).mono ?_
             rintro e w4 ⟨rfl, hw⟩
             obtain rfl := hw.symm)
        go_wp2_with fail
        refine hK.out _ _ ?_ (fun hHeld1 => ?_)
        · (try dsimp only)
          first | exact HCL.out _ HLOW.out | exact HCL.out _ HL2.out | exact HCL.out _ HL3.out
        clear hK K hHeld0
        try simp only [Act.put, List.setIfInBounds_toArray, List.set_cons_zero, List.set_cons_succ]
        refine wpAnyH_ready (rs := [11]) (by kernel_rfl) (by simp) ?_
        refine readyN rfl (fun K hK => ?_) ?_
        · -- operation 11
          go_simp
          first
            | (go_at_call 22
               refine HD.out.mono ?_
               rintro e w2 ⟨rfl, hx2, hfr⟩
               have HX2 := Lib.hid hx2
               have HR2 := Lib.hid (HRD.out.fr HXD.out hfr)
               have HL2 := Lib.hid hx2.low
               clear hx2 hfr)
            | (go_at_call 23
               refine (HTD.out _ HR2.out HL2.out).mono ?_
               rintro e w3 ⟨rfl, hr3, hkr⟩
               have HR3 := Lib.hid hr3
               have HX3 := Lib.hid (hkr.dx HX2.out)
               have HL3 := Lib.hid (hkr.below HL2.out)
               have hq3 : w3.cell? ⟨q, 3, none⟩ = some (.bool S2.dead) := by obtain ⟨vL, vN, h⟩ := hr3; rw [← HREL.out.dead]; exact h.c3
               clear hr3 hkr)
            | (go_at_call 17
               refine (x_dead HX3.out).mono ?_
               rintro e w4 ⟨rfl, hw⟩
               obtain rfl := hw.symm)
          go_wp2_with fail
          refine hK.out _ _ ?_ (fun hHeld2 => ?_)
          · (try dsimp only)
            first | exact HCL.out _ HLOW.out | exact HCL.out _ HL2.out | exact HCL.out _ HL3.out
          clear hK K hHeld1
          try simp only [Act.put, List.setIfInBounds_toArray, List.set_cons_zero, List.set_cons_succ]
          refine takeN (v := ?_) 12 rfl (by kernel_rfl) (by kernel_rfl) (by kernel_rfl) (fun _ _ _ h => h) (by rfl) ?_ hHeld2 ?_
          rotate_left
          · intro w hSw; (try dsimp only at hSw); go_simp; with_reducible rfl
          try simp only [Act.put, List.setIfInBounds_toArray, List.set_cons_zero, List.set_cons_succ]
          refine takeN (v := ?_) 13 rfl (by kernel_rfl) (by kernel_rfl) (by kernel_rfl) (fun _ _ _ h => h) (by rfl) ?_ hHeld2 ?_
          rotate_left
          · intro w hSw; (try dsimp only at hSw); go_simp; with_reducible rfl
          try simp only [Act.put, List.setIfInBounds_toArray, List.set_cons_zero, List.set_cons_succ]
          refine takeN (v := ?_) 14 rfl (by kernel_rfl) (by kernel_rfl) (by kernel_rfl) (fun _ _ _ h => h) (by rfl) ?_ hHeld2 ?_
          rotate_left
          · intro w hSw; (try dsimp only at hSw); go_simp; with_reducible rfl
          try simp only [Act.put, List.setIfInBounds_toArray, List.set_cons_zero, List.set_cons_succ]
          refine takeN (v := ?_) 16 rfl (by kernel_rfl) (by kernel_rfl) (by kernel_rfl) (fun _ _ _ h => h) (by rfl) ?_ hHeld2 ?_
          rotate_left
          · intro w hSw; (try dsimp only at hSw); go_simp; with_reducible rfl
          try simp only [Act.put, List.setIfInBounds_toArray, List.set_cons_zero, List.set_cons_succ]
          refine takeN (v := ?_) 17 rfl (by kernel_rfl) (by kernel_rfl) (by kernel_rfl) (fun _ _ _ h => h) (by rfl) ?_ hHeld2 ?_
          rotate_left
          · intro w hSw; (try dsimp only at hSw); go_simp; with_reducible rfl
          try simp only [Act.put, List.setIfInBounds_toArray, List.set_cons_zero, List.set_cons_succ]
          refine takeN (v := ?_) 18 rfl (by kernel_rfl) (by kernel_rfl) (by kernel_rfl) (fun _ _ _ h => h) (by rfl) ?_ hHeld2 ?_
          rotate_left
          · intro w hSw; (try dsimp only at hSw); go_simp; with_reducible rfl
          try simp only [Act.put, List.setIfInBounds_toArray, List.set_cons_zero, List.set_cons_succ]
          refine wpAnyH_ready (rs := [15, 19]) (by kernel_rfl) (by simp) ?_
          refine readyN rfl (fun K hK => ?_) ?_
          · -- operation 15
            go_simp
            first
              | (go_at_call 22
                 refine HD.out.mono ?_
                 rintro e w2 ⟨rfl, hx2, hfr⟩
                 have HX2 := Lib.hid hx2
                 have HR2 := Lib.hid (HRD.out.fr HXD.out hfr)
                 have HL2 := Lib.hid hx2.low
                 clear hx2 hfr)
              | (go_at_call 23
                 refine (HTD.out _ HR2.out HL2.out).mono ?_
                 rintro e w3 ⟨rfl, hr3, hkr⟩
                 have HR3 := Lib.hid hr3
                 have HX3 := Lib.hid (hkr.dx HX2.out)
                 have HL3 := Lib.hid (hkr.below HL2.out)
                 have hq3 : w3.cell? ⟨q, 3, none⟩ = some (.bool S2.dead) := by obtain ⟨vL, vN, h⟩ := hr3; rw [← HREL.out.dead]; exact h.c3
                 clear hr3 hkr)
              | (go_at_call 17
                 refine (x_dead HX3.out).mono ?_
                 rintro e w4 ⟨rfl, hw⟩
                 obtain rfl := hw.symm)
            go_wp2_with fail
            refine hK.out _ _ ?_ (fun hHeld3 => ?_)
            · (try dsimp only)
              first | exact HCL.out _ HLOW.out | exact HCL.out _ HL2.out | exact HCL.out _ HL3.out
            clear hK K hHeld2
            try simp only [Act.put, List.setIfInBounds_toArray, List.set_cons_zero, List.set_cons_succ]
            refine wpAnyH_ready (rs := [19]) (by kernel_rfl) (by simp) ?_
            refine readyN rfl (fun K hK => ?_) ?_
            · -- operation 19
              go_simp
              refine hK.out _ _ ?_ (fun hHeld4 => ?_)
              · (try dsimp only)
                first | exact HCL.out _ HLOW.out | exact HCL.out _ HL2.out | exact HCL.out _ HL3.out
              clear hK K hHeld3
              try simp only [Act.put, List.setIfInBounds_toArray, List.set_cons_zero, List.set_cons_succ]
              refine takeN (v := ?_) 20 rfl (by kernel_rfl) (by kernel_rfl) (by kernel_rfl) (fun _ _ _ h => h) (by rfl) ?_ hHeld4 ?_
              rotate_left
              · intro w hSw; (try dsimp only at hSw); go_simp; with_reducible rfl
              try simp only [Act.put, List.setIfInBounds_toArray, List.set_cons_zero, List.set_cons_succ]
              refine takeN (v := ?_) 21 rfl (by kernel_rfl) (by kernel_rfl) (by kernel_rfl) (fun _ _ _ h => h) (by rfl) ?_ hHeld4 ?_
              rotate_left
              · intro w hSw; (try dsimp only at hSw); go_simp; with_reducible rfl
              try simp only [Act.put, List.setIfInBounds_toArray, List.set_cons_zero, List.set_cons_succ]
              refine wpAnyH_done (by kernel_rfl) ?_ _
              go_wp2_with fail
              refine (x_waits HX3.out).mono ?_
              rintro e w5 ⟨xv5, rfl, hrow5, hb5, hx5⟩
              obtain ⟨ks, hks⟩ : ∃ ks, ks = S2.W.map (·.1) := ⟨_, rfl⟩
              have hkl : S2.W.length = ks.length := by rw [hks, List.length_map]
              have hkw : (wOf R2.N).map (·.1) = ks := by rw [hks, HREL.out.W]
              rw [hkl, ← hks] at hrow5
              obtain ⟨xa, xc, rfl⟩ := rowk_shape hrow5
              have HW5 := Lib.hid hrow5
              have HX5 := Lib.hid hx5
              have HR5 := Lib.hid (HR3.out.below hb5)
              have HKW := Lib.hid hkw
              clear hrow5 hb5 hx5 hks hkl hkw HX3 HR3
              go_wp2_with fail
              obtain ⟨vL5, vN5, hr5⟩ := HR5.out
              refine (rwaits_any hr5 (by have := HRN.out; omega)).mono ?_
              rintro e w6 ⟨yv6, rfl, hrow6, hb6⟩
              rw [HKW.out] at hrow6
              obtain ⟨ya, yc, rfl⟩ := rowk_shape hrow6
              have HY6 := Lib.hid hrow6
              have HW6 := Lib.hid (rowk_keep (Keep.ofBelow hb6 (fun _ => False)) HW5.out (fun _ _ h => h))
              have HX6 := Lib.hid (HX5.out.below hb6)
              have HR6 := Lib.hid (HR5.out.below hb6)
              have hkm : ks.length ≤ 1000000 := by
                have h1 := wOf_keys_len _ R2.N rfl
                rw [HKW.out] at h1
                have := HRN.out; omega
              clear hrow6 hb6 hr5 HX5 HR5 HW5
              go_wp2_with fail
              go_loopw [11] (fun s wr => ∃ k : Nat, k ≤ ks.length ∧ s = .int .i64 k ∧ Hid (wr.ownsRow w3.heap.size 3 1 (.slice xa ks.length xc) ks.length (ks.map (Value.int .i64))) ∧ Hid (wr.ownsRow w5.heap.size 3 1 (.slice ya ks.length yc) ks.length (ks.map (Value.int .i64))) ∧ Hid (DX w wr p bl bw S2) ∧ Hid (RX w wr q R2)) (fun s _ => ks.length - (intOf s).toNat)
              case atStart => exact ⟨0, by omega, rfl, HW6, HY6, HX6, HR6⟩
              case round =>
                clear HW6 HY6 HX6 HR6
                obtain ⟨k, hk, rfl, HW7, HY7, HX7, HR7⟩ := hrel
                by_cases hkl : k < ks.length
                · have j2 : decide ((k : Int) < (ks.length : Int)) = true := decide_eq_true (by omega)
                  obtain ⟨z, hz⟩ : ∃ z, ks[k]? = some z := ⟨_, List.getElem?_eq_getElem hkl⟩
                  obtain ⟨g1, d1, he, e1⟩ := rowk_cell HW7.out (by omega)
                  injection he with he _ hec
                  subst he; subst hec
                  obtain ⟨g2, d2, he, e2⟩ := rowk_cell HY7.out (by omega)
                  injection he with he _ hec
                  subst he; subst hec
                  have q1 : ∀ n, (wr.drewN n).cell? ⟨g1, k, none⟩ = some (.int .i64 z) := fun n => e1 k _ (by rw [List.getElem?_map, hz]; rfl)
                  have q2 : ∀ n, (wr.drewN n).cell? ⟨g2, k, none⟩ = some (.int .i64 z) := fun n => e2 k _ (by rw [List.getElem?_map, hz]; rfl)
                  clear e1 e2 hz
                  go_wp2_with fail
                  go_quiet (fail)
                  go_wp2_with fail
                  exact ⟨⟨k + 1, by omega, rfl, Lib.hid (rowk_keep (Keep.ofBelow (below_drewN_of _ _) (fun _ => False)) HW7.out (fun _ _ h => h)), Lib.hid (rowk_keep (Keep.ofBelow (below_drewN_of _ _) (fun _ => False)) HY7.out (fun _ _ h => h)), Lib.hid (HX7.out.below (below_drewN_of _ _)), Lib.hid (HR7.out.below (below_drewN_of _ _))⟩, by simp [intOf]; omega⟩
                · obtain rfl : k = ks.length := by omega
                  have j2 : decide ((ks.length : Int) < (ks.length : Int)) = false := decide_eq_false (by omega)
                  clear HW7 HY7
                  go_wp2_with fail
                  go_loopw [12] (fun s wr => ∃ j : Nat, j ≤ m + 2 ∧ s = .int .i64 ((j : Int) - 1) ∧ Hid (DX w wr p bl bw S2) ∧ Hid (RX w wr q R2)) (fun s _ => m + 2 - (intOf s + 1).toNat)
                  case atStart => exact ⟨0, by omega, rfl, HX7, HR7⟩
                  case round =>
                    clear HX7 HR7
                    obtain ⟨j, hj, rfl, HX8, HR8⟩ := hrel
                    obtain ⟨kk, hkk⟩ : ∃ kk : Int, kk = (j : Int) - 1 := ⟨_, rfl⟩
                    rw [← hkk]
                    have hkk0 : -1 ≤ kk := by omega
                    have HKK := Lib.hid hkk
                    by_cases hjm : j < m + 2
                    · have hkk1 : kk ≤ (m : Int) := by omega
                      clear hkk
                      have j3 : decide (kk ≤ (m : Int)) = true := decide_eq_true (by omega)
                      have hwk : IntKind.i64.wrap (kk + 1) = kk + 1 := by rw [IntKind.wrap_i64]; omega
                      go_wp2_with fail
                      refine (x_read kk HX8.out).mono ?_
                      rintro e w9 ⟨v9, rfl, ho9, hn9, hb9, hx9⟩
                      have HX9 := Lib.hid hx9
                      have HR9 := Lib.hid (HR8.out.below hb9)
                      have hse : sureE R2.dead R2.L.length kk 4096 = sureE S2.dead S2.L.length kk 4096 := by rw [HREL.out.dead, HREL.out.L]
                      have hrd : ∃ vL vN, R3Is w9 w.heap.size q vL vN R2 := HR9.out
                      obtain ⟨vL9, vN9, hr9⟩ := hrd
                      have hrc := rread_any kk hr9 (by have := HRN.out; omega) (by rw [HREL.out.L]; have := HLN.out; omega)
                      rw [hse] at hrc
                      unfold rV at hrc
                      by_cases hz : sureE S2.dead S2.L.length kk 4096 = 0
                      · obtain ⟨z1, z2, z3, _⟩ := sureE_zero hz
                        have ho := ho9 hz
                        have hrp : readR R2 kk.toNat = readP S2 kk := by rw [HREL.out.read, show ((kk.toNat : Nat) : Int) = kk by omega]
                        rw [if_pos hz, hz, hrp] at hrc
                        have HRC := Lib.hid hrc
                        have hv9 := ho.bs.string (P := Try.prog) 27 5 9 uBytes uByte uStr3
                        obtain ⟨P, hP⟩ : ∃ P, P = readP S2 kk := ⟨_, rfl⟩
                        rw [← hP] at hv9 HRC ho
                        obtain ⟨a9, c9, rfl⟩ := ho.size
                        rw [hz]
                        have n1 : (P.toList == P.toList) = true := beq_iff_eq.2 rfl
                        clear ho9 hn9 hx9 hr9 hrc hse hrp ho hP hz hb9 z1 z2 z3
                        go_wp2_with fail
                        refine HRC.out.mono ?_
                        rintro e w10 ⟨rfl, hw⟩
                        obtain rfl := hw.symm
                        clear HRC
                        go_wp2_with fail
                        go_roundw
                        case rel => exact ⟨j + 1, by omega, by rw [HKK.out]; go_num, HX9, HR9⟩
                        case measure => rw [HKK.out]; simp [intOf]; omega
                      · have hv := hn9 hz
                        subst hv
                        rw [if_neg hz] at hrc
                        have HRC := Lib.hid hrc
                        obtain ⟨E9, hE9⟩ : ∃ E9, E9 = sureE S2.dead S2.L.length kk 4096 := ⟨_, rfl⟩
                        rw [← hE9] at HRC ⊢
                        have hv9 := (BS.nil w9).string (P := Try.prog) 27 5 9 uBytes uByte uStr3
                        have n1 : (ByteArray.empty.toList == ByteArray.empty.toList) = true := beq_iff_eq.2 rfl
                        clear ho9 hn9 hx9 hr9 hrc hse hE9 hz hb9
                        go_wp2_with fail
                        refine HRC.out.mono ?_
                        rintro e w10 ⟨rfl, hw⟩
                        obtain rfl := hw.symm
                        clear HRC
                        go_wp2_with fail
                        exact ⟨⟨j + 1, by omega, by rw [HKK.out]; go_num, HX9, HR9⟩, by rw [HKK.out]; simp [intOf]; omega⟩
                    · obtain rfl : j = m + 2 := by omega
                      have j3 : decide (kk ≤ (m : Int)) = false := decide_eq_false (by omega)
                      clear hkk
                      go_wp2_with fail
                      exact ⟨⟨i + 1, S2, R2, by omega, rfl, Lib.hid ⟨HREL.out, HLN.out, HRN.out⟩, HX8, HR8⟩, by simp [intOf]; omega⟩
            exact AllReadyH.nil
          refine readyN rfl (fun K hK => ?_) ?_
          · -- operation 19
            go_simp
            refine hK.out _ _ ?_ (fun hHeld3 => ?_)
            · (try dsimp only)
              first | exact HCL.out _ HLOW.out | exact HCL.out _ HL2.out | exact HCL.out _ HL3.out
            clear hK K hHeld2
            try simp only [Act.put, List.setIfInBounds_toArray, List.set_cons_zero, List.set_cons_succ]
            refine wpAnyH_ready (rs := [15]) (by kernel_rfl) (by simp) ?_
            refine readyN rfl (fun K hK => ?_) ?_
            · -- operation 15
              go_simp
              first
                | (go_at_call 22
                   refine HD.out.mono ?_
                   rintro e w2 ⟨rfl, hx2, hfr⟩
                   have HX2 := Lib.hid hx2
                   have HR2 := Lib.hid (HRD.out.fr HXD.out hfr)
                   have HL2 := Lib.hid hx2.low
                   clear hx2 hfr)
                | (go_at_call 23
                   refine (HTD.out _ HR2.out HL2.out).mono ?_
                   rintro e w3 ⟨rfl, hr3, hkr⟩
                   have HR3 := Lib.hid hr3
                   have HX3 := Lib.hid (hkr.dx HX2.out)
                   have HL3 := Lib.hid (hkr.below HL2.out)
                   have hq3 : w3.cell? ⟨q, 3, none⟩ = some (.bool S2.dead) := by obtain ⟨vL, vN, h⟩ := hr3; rw [← HREL.out.dead]; exact h.c3
                   clear hr3 hkr)
                | (go_at_call 17
                   refine (x_dead HX3.out).mono ?_
                   rintro e w4 ⟨rfl, hw⟩
                   obtain rfl := hw.symm)
              go_wp2_with fail
              refine hK.out _ _ ?_ (fun hHeld4 => ?_)
              · (try dsimp only)
                first | exact HCL.out _ HLOW.out | exact HCL.out _ HL2.out | exact HCL.out _ HL3.out
              clear hK K hHeld3
              try simp only [Act.put, List.setIfInBounds_toArray, List.set_cons_zero, List.set_cons_succ]
              refine takeN (v := ?_) 20 rfl (by kernel_rfl) (by kernel_rfl) (by kernel_rfl) (fun _ _ _ h => h) (by rfl) ?_ hHeld4 ?_
              rotate_left
              · intro w hSw; (try dsimp only at hSw); go_simp; with_reducible rfl
              try simp only [Act.put, List.setIfInBounds_toArray, List.set_cons_zero, List.set_cons_succ]
              refine takeN (v := ?_) 21 rfl (by kernel_rfl) (by kernel_rfl) (by kernel_rfl) (fun _ _ _ h => h) (by rfl) ?_ hHeld4 ?_
              rotate_left
              · intro w hSw; (try dsimp only at hSw); go_simp; with_reducible rfl
              try simp only [Act.put, List.setIfInBounds_toArray, List.set_cons_zero, List.set_cons_succ]
              refine wpAnyH_done (by kernel_rfl) ?_ _
              go_wp2_with fail
              refine (x_waits HX3.out).mono ?_
              rintro e w5 ⟨xv5, rfl, hrow5, hb5, hx5⟩
              obtain ⟨ks, hks⟩ : ∃ ks, ks = S2.W.map (·.1) := ⟨_, rfl⟩
              have hkl : S2.W.length = ks.length := by rw [hks, List.length_map]
              have hkw : (wOf R2.N).map (·.1) = ks := by rw [hks, HREL.out.W]
              rw [hkl, ← hks] at hrow5
              obtain ⟨xa, xc, rfl⟩ := rowk_shape hrow5
              have HW5 := Lib.hid hrow5
              have HX5 := Lib.hid hx5
              have HR5 := Lib.hid (HR3.out.below hb5)
              have HKW := Lib.hid hkw
              clear hrow5 hb5 hx5 hks hkl hkw HX3 HR3
              go_wp2_with fail
              obtain ⟨vL5, vN5, hr5⟩ := HR5.out
              refine (rwaits_any hr5 (by have := HRN.out; omega)).mono ?_
              rintro e w6 ⟨yv6, rfl, hrow6, hb6⟩
              rw [HKW.out] at hrow6
              obtain ⟨ya, yc, rfl⟩ := rowk_shape hrow6
              have HY6 := Lib.hid hrow6
              have HW6 := Lib.hid (rowk_keep (Keep.ofBelow hb6 (fun _ => False)) HW5.out (fun _ _ h => h))
              have HX6 := Lib.hid (HX5.out.below hb6)
              have HR6 := Lib.hid (HR5.out.below hb6)
              have hkm : ks.length ≤ 1000000 := by
                have h1 := wOf_keys_len _ R2.N rfl
                rw [HKW.out] at h1
                have := HRN.out; omega
              clear hrow6 hb6 hr5 HX5 HR5 HW5
              go_wp2_with fail
              go_loopw [11] (fun s wr => ∃ k : Nat, k ≤ ks.length ∧ s = .int .i64 k ∧ Hid (wr.ownsRow w3.heap.size 3 1 (.slice xa ks.length xc) ks.length (ks.map (Value.int .i64))) ∧ Hid (wr.ownsRow w5.heap.size 3 1 (.slice ya ks.length yc) ks.length (ks.map (Value.int .i64))) ∧ Hid (DX w wr p bl bw S2) ∧ Hid (RX w wr q R2)) (fun s _ => ks.length - (intOf s).toNat)
              case atStart => exact ⟨0, by omega, rfl, HW6, HY6, HX6, HR6⟩
              case round =>
                clear HW6 HY6 HX6 HR6
                obtain ⟨k, hk, rfl, HW7, HY7, HX7, HR7⟩ := hrel
                by_cases hkl : k < ks.length
                · have j2 : decide ((k : Int) < (ks.length : Int)) = true := decide_eq_true (by omega)
                  obtain ⟨z, hz⟩ : ∃ z, ks[k]? = some z := ⟨_, List.getElem?_eq_getElem hkl⟩
                  obtain ⟨g1, d1, he, e1⟩ := rowk_cell HW7.out (by omega)
                  injection he with he _ hec
                  subst he; subst hec
                  obtain ⟨g2, d2, he, e2⟩ := rowk_cell HY7.out (by omega)
                  injection he with he _ hec
                  subst he; subst hec
                  have q1 : ∀ n, (wr.drewN n).cell? ⟨g1, k, none⟩ = some (.int .i64 z) := fun n => e1 k _ (by rw [List.getElem?_map, hz]; rfl)
                  have q2 : ∀ n, (wr.drewN n).cell? ⟨g2, k, none⟩ = some (.int .i64 z) := fun n => e2 k _ (by rw [List.getElem?_map, hz]; rfl)
                  clear e1 e2 hz
                  go_wp2_with fail
                  go_quiet (fail)
                  go_wp2_with fail
                  exact ⟨⟨k + 1, by omega, rfl, Lib.hid (rowk_keep (Keep.ofBelow (below_drewN_of _ _) (fun _ => False)) HW7.out (fun _ _ h => h)), Lib.hid (rowk_keep (Keep.ofBelow (below_drewN_of _ _) (fun _ => False)) HY7.out (fun _ _ h => h)), Lib.hid (HX7.out.below (below_drewN_of _ _)), Lib.hid (HR7.out.below (below_drewN_of _ _))⟩, by simp [intOf]; omega⟩
                · obtain rfl : k = ks.length := by omega
                  have j2 : decide ((ks.length : Int) < (ks.length : Int)) = false := decide_eq_false (by omega)
                  clear HW7 HY7
                  go_wp2_with fail
                  go_loopw [12] (fun s wr => ∃ j : Nat, j ≤ m + 2 ∧ s = .int .i64 ((j : Int) - 1) ∧ Hid (DX w wr p bl bw S2) ∧ Hid (RX w wr q R2)) (fun s _ => m + 2 - (intOf s + 1).toNat)
                  case atStart => exact ⟨0, by omega, rfl, HX7, HR7⟩
                  case round =>
                    clear HX7 HR7
                    obtain ⟨j, hj, rfl, HX8, HR8⟩ := hrel
                    obtain ⟨kk, hkk⟩ : ∃ kk : Int, kk = (j : Int) - 1 := ⟨_, rfl⟩
                    rw [← hkk]
                    have hkk0 : -1 ≤ kk := by omega
                    have HKK := Lib.hid hkk
                    by_cases hjm : j < m + 2
                    · have hkk1 : kk ≤ (m : Int) := by omega
                      clear hkk
                      have j3 : decide (kk ≤ (m : Int)) = true := decide_eq_true (by omega)
                      have hwk : IntKind.i64.wrap (kk + 1) = kk + 1 := by rw [IntKind.wrap_i64]; omega
                      go_wp2_with fail
                      refine (x_read kk HX8.out).mono ?_
                      rintro e w9 ⟨v9, rfl, ho9, hn9, hb9, hx9⟩
                      have HX9 := Lib.hid hx9
                      have HR9 := Lib.hid (HR8.out.below hb9)
                      have hse : sureE R2.dead R2.L.length kk 4096 = sureE S2.dead S2.L.length kk 4096 := by rw [HREL.out.dead, HREL.out.L]
                      have hrd : ∃ vL vN, R3Is w9 w.heap.size q vL vN R2 := HR9.out
                      obtain ⟨vL9, vN9, hr9⟩ := hrd
                      have hrc := rread_any kk hr9 (by have := HRN.out; omega) (by rw [HREL.out.L]; have := HLN.out; omega)
                      rw [hse] at hrc
                      unfold rV at hrc
                      by_cases hz : sureE S2.dead S2.L.length kk 4096 = 0
                      · obtain ⟨z1, z2, z3, _⟩ := sureE_zero hz
                        have ho := ho9 hz
                        have hrp : readR R2 kk.toNat = readP S2 kk := by rw [HREL.out.read, show ((kk.toNat : Nat) : Int) = kk by omega]
                        rw [if_pos hz, hz, hrp] at hrc
                        have HRC := Lib.hid hrc
                        have hv9 := ho.bs.string (P := Try.prog) 27 5 9 uBytes uByte uStr3
                        obtain ⟨P, hP⟩ : ∃ P, P = readP S2 kk := ⟨_, rfl⟩
                        rw [← hP] at hv9 HRC ho
                        obtain ⟨a9, c9, rfl⟩ := ho.size
                        rw [hz]
                        have n1 : (P.toList == P.toList) = true := beq_iff_eq.2 rfl
                        clear ho9 hn9 hx9 hr9 hrc hse hrp ho hP hz hb9 z1 z2 z3
                        go_wp2_with fail
                        refine HRC.out.mono ?_
                        rintro e w10 ⟨rfl, hw⟩
                        obtain rfl := hw.symm
                        clear HRC
                        go_wp2_with fail
                        go_roundw
                        case rel => exact ⟨j + 1, by omega, by rw [HKK.out]; go_num, HX9, HR9⟩
                        case measure => rw [HKK.out]; simp [intOf]; omega
                      · have hv := hn9 hz
                        subst hv
                        rw [if_neg hz] at hrc
                        have HRC := Lib.hid hrc
                        obtain ⟨E9, hE9⟩ : ∃ E9, E9 = sureE S2.dead S2.L.length kk 4096 := ⟨_, rfl⟩
                        rw [← hE9] at HRC ⊢
                        have hv9 := (BS.nil w9).string (P := Try.prog) 27 5 9 uBytes uByte uStr3
                        have n1 : (ByteArray.empty.toList == ByteArray.empty.toList) = true := beq_iff_eq.2 rfl
                        clear ho9 hn9 hx9 hr9 hrc hse hE9 hz hb9
                        go_wp2_with fail
                        refine HRC.out.mono ?_
                        rintro e w10 ⟨rfl, hw⟩
                        obtain rfl := hw.symm
                        clear HRC
                        go_wp2_with fail
                        exact ⟨⟨j + 1, by omega, by rw [HKK.out]; go_num, HX9, HR9⟩, by rw [HKK.out]; simp [intOf]; omega⟩
                    · obtain rfl : j = m + 2 := by omega
                      have j3 : decide (kk ≤ (m : Int)) = false := decide_eq_false (by omega)
                      clear hkk
                      go_wp2_with fail
                      exact ⟨⟨i + 1, S2, R2, by omega, rfl, Lib.hid ⟨HREL.out, HLN.out, HRN.out⟩, HX8, HR8⟩, by simp [intOf]; omega⟩
            exact AllReadyH.nil
          exact AllReadyH.nil
        exact AllReadyH.nil
      exact AllReadyH.nil
    · obtain rfl : i = la.length := by omega
      have j1 : decide ((la.length : Int) < (la.length : Int)) = false := decide_eq_false (by omega)
      go_wp2_with fail
      refine (goes_any _).mono ?_
      rintro e w10 ⟨rfl, hb⟩
      have HB10 := Lib.hid (HX.out.below hb).low
      clear hb HX
      go_wp2_with fail
      go_ret
      exact ⟨rfl, HB10.out⟩
end Go.Proofs.Ytpclfnamknioaaa
