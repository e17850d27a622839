/- The walk of DiskSectors. -/
import Derived.Test.YtpclfnamknioaaaPure3
namespace Go.Proofs.Ytpclfnamknioaaa
open Go.RowKit
set_option maxRecDepth 100000
set_option maxHeartbeats 1000000
set_option linter.unusedVariables false
set_option linter.unusedSimpArgs false
/-- b[s:s+512] -/
theorem cut_s (g cap j : Nat) (hj : j < 8) (hc : 4096 ≤ cap) (hm : cap ≤ maxLen) (W : World) : (Instr.slice 27 (.slice (some ⟨g, 0, none⟩) 4096 cap) (some (.int .i64 ((j : Int) * 512))) (some (.int .i64 ((j : Int) * 512 + 512))) none).run Try.prog W = .ok (.slice (some ⟨g, j * 512, none⟩) 512 (cap - j * 512)) W := by
  have h := cut_lh g cap j hj hc hm W
  rw [show ((j : Int) + 1) * 512 = (j : Int) * 512 + 512 by omega] at h
  exact h
theorem sec_str {w : World} {g cap : Nat} {s : ByteArray} (h : BS w (.slice (some ⟨g, 0, none⟩) 4096 cap) s) (hs : s.size = 4096) (hc : 4096 ≤ cap) (hm : cap ≤ maxLen) (j : Nat) (hj : j < 8) :
    (convert 27 9 (.slice (some ⟨g, j * 512, none⟩) 512 (cap - j * 512))).run Try.prog w = .ok (.string (s.extract (512 * j) (512 * j + 512))) w := by
  have hb : BS w (.slice (some ⟨g, 0, none⟩) s.size cap) s := by rw [hs]; exact h
  have hcut := hb.cut (a' := some ⟨g, j * 512, none⟩) (c' := cap - j * 512) (512 * j) (512 * j + 512) (by omega) (by omega) (fun _ => by rw [Option.map_some, Go.WideShapes.add_plain, Nat.zero_add, Nat.mul_comm]) (by omega) (by omega) (fun e => by cases e)
  rw [show 512 * j + 512 - 512 * j = 512 by omega] at hcut
  exact hcut.string (P := Try.prog) 27 5 9 uBytes uByte (by kernel_rfl)
/-- a page of a row, ready to be cut -/
theorem PL.page {w : World} {B : Nat} {v : Value} {l : List ByteArray} (h : PL w B v l) (i : Nat) (s : ByteArray) (hs : l[i]? = some s) :
    ∃ g cap gg cc, v = .slice (some ⟨g, 0, none⟩) l.length cap ∧ w.cell? ⟨g, i, none⟩ = some (.slice (some ⟨gg, 0, none⟩) 4096 cc) ∧ BS w (.slice (some ⟨gg, 0, none⟩) 4096 cc) s ∧ s.size = 4096 ∧ 4096 ≤ cc ∧ cc ≤ maxLen := by
  obtain ⟨⟨vs, h1, h2⟩, h3⟩ := h
  obtain ⟨x, a, b⟩ := h2 i s hs
  have hsz := h3 s (List.mem_of_getElem? hs)
  have hi := (List.getElem?_eq_some_iff.1 hs).1
  obtain ⟨gg, cc, rfl, _, hc1, hc2, _⟩ := b.byte hsz
  rcases h1.2 with ⟨_, h0⟩ | ⟨g, cap, cur, he, hbg, hg, rest⟩
  · omega
  · have := h1.cells (g := g) (by rw [he]; rfl) i _ a
    rw [Go.WideShapes.add_plain, Nat.zero_add] at this
    exact ⟨g, cap, gg, cc, he, this, b.bs, hsz, hc1, hc2⟩
/-- an act of a slice that came in, ready to be loaded -/
theorem AS3.at_ {w : World} {v : Value} {l : List A3} (h : AS3 w v l) {i : Nat} {x : A3} (hx : l[i]? = some x) : ∃ b off cap, v = .slice (some ⟨b, off, none⟩) l.length cap ∧
    w.cell? ⟨b, off + i * 6, none⟩ = some (.int .u8 x.doo) ∧ w.cell? ⟨b, off + i * 6 + 1, none⟩ = some (.int .i64 x.at_) ∧ w.cell? ⟨b, off + i * 6 + 2, none⟩ = some (.int .u8 x.b) ∧ w.cell? ⟨b, off + i * 6 + 3, none⟩ = some (.int .u8 x.c) ∧
    w.cell? ⟨b, off + i * 6 + 4, none⟩ = some (.int .u8 x.s) ∧ w.cell? ⟨b, off + i * 6 + 5, none⟩ = some x.fv := by
  obtain ⟨a, cap, rfl, hm, hok, h0 | ⟨b, off, rfl, _, hc⟩⟩ := h
  · rw [h0] at hx; simp at hx
  · exact ⟨b, off, cap, rfl, by simpa using hc i x hx 0 _ rfl, hc i x hx 1 _ rfl, hc i x hx 2 _ rfl, hc i x hx 3 _ rfl, hc i x hx 4 _ rfl, hc i x hx 5 _ rfl⟩
theorem AS3.shape {w : World} {v : Value} {l : List A3} (h : AS3 w v l) : ∃ a cap, v = .slice a l.length cap ∧ l.length ≤ maxLen := by
  obtain ⟨a, cap, rfl, hm, _⟩ := h
  exact ⟨a, cap, rfl, hm⟩
theorem AS3.ok {w : World} {v : Value} {l : List A3} (h : AS3 w v l) {i : Nat} {x : A3} (hx : l[i]? = some x) : x.Ok w := by
  obtain ⟨a, cap, rfl, _, hok, _⟩ := h
  exact hok i x hx
theorem ownsRow_shape {w : World} {B : Nat} {e : TypeId} {n : Nat} {v : Value} {xs : List Value} (h : w.ownsRow B e 1 v n xs) : ∃ a cap, v = .slice a n cap := by
  rcases h.2 with ⟨he, h0⟩ | ⟨g, cap, cur, he, _⟩
  · exact ⟨none, 0, by rw [he, h0]⟩
  · exact ⟨_, _, he⟩
theorem y_restart_nil {w0 w : World} {p bl bw : Nat} {S : DS} (hX : DX w0 w p bl bw S) : Calls Try.prog 13 #[dV p, .slice none 0 0] w fun e w' => e = .returned (.tuple #[]) ∧ DX w0 w' p bl bw (restartS S []) ∧ FR p bl w w' :=
  y_restart (.slice none 0 0) [] hX ⟨none, 0, rfl, Nat.le_refl _, by decide, .inl rfl⟩ (by simp) (fun h => absurd rfl h)
theorem rows_get (n : Nat) (f : Nat → ByteArray) (i : Nat) (x : ByteArray) (h : ((List.range n).map f)[i]? = some x) : x = f i ∧ i < n := by
  have hi := (List.getElem?_eq_some_iff.1 h).1
  rw [List.length_map, List.length_range] at hi
  rw [List.getElem?_map, List.getElem?_range hi] at h
  simp at h
  exact ⟨h.symm, hi⟩
theorem rows_same {S T : DS} (h : S.Ok) (hL : S.L = T.L) (hW : T.W = []) : (List.range (restartS S []).L.length).map (fun (k : Nat) => readP (restartS S []) k) = (List.range T.L.length).map (fun (k : Nat) => readP T k) := by
  have e : (restartS S []).L.length = T.L.length := by rw [← hL]; exact setl_length _ _ _ _
  rw [e]
  refine List.map_congr_left fun i _ => ?_
  rw [restart_none h, read_empty T hW, hL]
theorem sectors_law (n : Int) (va vb fv : Value) (la lb : List A3) (fl : List Int) (hn0 : 0 ≤ n) (hn1 : n < 256) (w : World) (hA : AS3 w va la) (hB : AS3 w vb lb) (hI : IS w fv fl)
    (hr : ∀ x ∈ fl, -9223372036854775808 ≤ x ∧ x ≤ 9223372036854775807) (hlt : fl ≠ [] → ∀ k, fv.ownBlock = some k → k < w.heap.size) :
    Calls Try.prog 6 #[.int .u8 n, va, vb, fv] w fun e w' => e = .returned (.bool true) ∧ Below w.heap.size w w' := by
  have HGA := Lib.hid (great3_any va la w hA)
  have HGB := Lib.hid (great3_any vb lb w hB)
  obtain ⟨ga, hga⟩ : ∃ ga, ga = gr3 la := ⟨_, rfl⟩
  obtain ⟨gb, hgb⟩ : ∃ gb, gb = gr3 lb := ⟨_, rfl⟩
  rw [← hga] at HGA
  rw [← hgb] at HGB
  obtain ⟨aa, ca, rfl, hma⟩ := hA.shape
  obtain ⟨ab, cb, rfl, hmb⟩ := hB.shape
  have hma' : la.length ≤ 9223372036854775807 := by unfold maxLen at hma; omega
  have hmb' : lb.length ≤ 9223372036854775807 := by unfold maxLen at hmb; omega
  have HI := Lib.hid hI
  obtain ⟨af, cf, rfl, _, hmf, _⟩ := hI
  have HA := Lib.hid hA
  have HB := Lib.hid hB
  have HR := Lib.hid hr
  have HLT := Lib.hid hlt
  obtain ⟨m, hm⟩ : ∃ m : Nat, 1 + n % 12 = (m : Int) := ⟨(1 + n % 12).toNat, by omega⟩
  have hm1 : 1 ≤ m := by omega
  have hm12 : m ≤ 12 := by omega
  have HM := Lib.hid hm
  have HN := Lib.hid (x_new m w w (Below.refl _ _) hm1 (by omega))
  unfold dV at HN
  clear hA hB hr hlt hga hgb hm
  by_cases g1 : 0 < ga
  · have i1 : decide (ga > 0) = true := decide_eq_true g1
    go_enter Try.func6, Try.ntmps6
    go_wp2_with fail
    refine HGA.out.mono ?_
    rintro e w1 ⟨rfl, hw⟩
    obtain rfl := hw.symm
    go_wp2_with fail
    go_ret
    exact ⟨rfl, Below.refl _ _⟩
  have i1 : decide (ga > 0) = false := decide_eq_false g1
  by_cases g2 : 0 < gb
  · have i2 : decide (gb > 0) = true := decide_eq_true g2
    go_enter Try.func6, Try.ntmps6
    go_wp2_with fail
    refine HGA.out.mono ?_
    rintro e w1 ⟨rfl, hw⟩
    obtain rfl := hw.symm
    go_wp2_with fail
    refine HGB.out.mono ?_
    rintro e w1 ⟨rfl, hw⟩
    obtain rfl := hw.symm
    go_wp2_with fail
    go_ret
    exact ⟨rfl, Below.refl _ _⟩
  have i2 : decide (gb > 0) = false := decide_eq_false g2
  by_cases g3 : 60 < fl.length
  · have i3 : decide ((fl.length : Int) > 60) = true := decide_eq_true (by omega)
    go_enter Try.func6, Try.ntmps6
    go_wp2_with fail
    refine HGA.out.mono ?_
    rintro e w1 ⟨rfl, hw⟩
    obtain rfl := hw.symm
    go_wp2_with fail
    refine HGB.out.mono ?_
    rintro e w1 ⟨rfl, hw⟩
    obtain rfl := hw.symm
    go_wp2_with fail
    go_ret
    exact ⟨rfl, Below.refl _ _⟩
  have i3 : decide ((fl.length : Int) > 60) = false := decide_eq_false (by omega)
  go_enter Try.func6, Try.ntmps6
  go_wp2_with fail
  refine HGA.out.mono ?_
  rintro e w1 ⟨rfl, hw⟩
  obtain rfl := hw.symm
  go_wp2_with fail
  refine HGB.out.mono ?_
  rintro e w1 ⟨rfl, hw⟩
  obtain rfl := hw.symm
  go_wp2_with fail
  rw [HM.out]
  refine HN.out.mono ?_
  rintro e w1 ⟨p, bl, bw, rfl, hx, _⟩
  have HX1 := Lib.hid hx
  clear hx HN HGA HGB i1 i2 i3 g1 g2
  go_wp2_with fail
  go_loopw [11] (fun s wr => ∃ (i : Nat) (S : DS), i ≤ la.length ∧ s = .int .i64 i ∧ Hid (S.L.length = m) ∧ Hid (DX w wr p bl bw S)) (fun s _ => la.length - (intOf s).toNat)
  case atStart => exact ⟨0, newS m, by omega, rfl, Lib.hid (by simp [newS]), HX1⟩
  case round =>
    obtain ⟨i, S, hi, rfl, HL, HX⟩ := hrel
    by_cases hlt : i < la.length
    · obtain ⟨x, hx⟩ : ∃ x, la[i]? = some x := ⟨_, List.getElem?_eq_getElem hlt⟩
      obtain ⟨b0, o0, c0, he, k0, k1, k2, k3, k4, k5⟩ := (HA.out.below HX.out.low).at_ hx
      injection he with he _ hec
      subst he; subst hec
      have hd := does_any x (HA.out.ok hx) HX.out (by have := HL.out; omega)
      have HLN := Lib.hid ((doesR_len S x).trans HL.out)
      obtain ⟨doo, at_, b, c, s, xv, fates⟩ := x
      simp only [A3.cells] at hd k0 k1 k2 k3 k4 k5
      unfold dV at hd
      have HD := Lib.hid hd
      have j1 : decide ((i : Int) < (la.length : Int)) = true := decide_eq_true (by omega)
      clear hd hx
      go_wp2_with fail
      refine HD.out.mono ?_
      rintro e w2 ⟨rfl, hx2, _⟩
      have HX2 := Lib.hid hx2
      clear hx2 HD
      go_wp2_with fail
      exact ⟨⟨i + 1, _, by omega, rfl, HLN, HX2⟩, by simp [intOf]; omega⟩
    · obtain rfl : i = la.length := by omega
      have HLN := Lib.hid (show (restartS S []).L.length = m from (setl_length _ _ _ _).trans HL.out)
      obtain ⟨wa, rfl⟩ : ∃ wa : World, wa = wr := ⟨_, rfl⟩
      have j1 : decide ((la.length : Int) < (la.length : Int)) = false := decide_eq_false (by omega)
      go_wp2_with fail
      refine (x_restart_nil HX.out).mono ?_
      rintro e w2 ⟨rfl, hx⟩
      have HX2 := Lib.hid hx
      clear hx HX
      go_wp2_with fail
      refine (x_flush HX2.out (by have := HLN.out; omega)).mono ?_
      rintro e w3 ⟨rfl, hx⟩
      rw [(rest_flush S).1]
      rw [(rest_flush S).2] at hx
      have HX3 := Lib.hid hx
      have HW0 := Lib.hid (show (restartS S []).W = [] from rfl)
      have HD0 := Lib.hid (show (restartS S []).dead = false from rfl)
      clear hx HX2
      obtain ⟨T, hT⟩ : ∃ T, T = restartS S [] := ⟨_, rfl⟩
      rw [← hT] at HX3 HW0 HD0 HLN
      clear hT HL
      go_wp2_with fail
      refine (all_live HX3.out HD0.out).mono ?_
      rintro e w4 ⟨flv, rfl, hpl, hx, hb⟩
      have HPF := Lib.hid hpl
      have hpb : p < w3.heap.size ∧ bl < w3.heap.size := by
        obtain ⟨ov, d1, _⟩ := HX3.out
        exact ⟨d1.lt p (.inl rfl), d1.lt bl (.inr (.inl rfl))⟩
      have HPB := Lib.hid hpb
      have HX4 := Lib.hid hx
      clear hpl hx hb hpb
      go_wp2_with fail
      go_loopw [13] (fun s wr => ∃ (i : Nat) (S : DS), i ≤ lb.length ∧ s = .int .i64 i ∧ Hid (S.L = T.L ∧ (S.dead = true → S.W ≠ [])) ∧ Hid (DX w wr p bl bw S) ∧ Hid (PL wr w3.heap.size flv ((List.range T.L.length).map fun (k : Nat) => readP T k))) (fun s _ => lb.length - (intOf s).toNat)
      case atStart => exact ⟨0, T, by omega, rfl, Lib.hid ⟨rfl, fun h => by rw [HD0.out] at h; cases h⟩, HX4, HPF⟩
      case round =>
        clear HX4 HPF HX3
        obtain ⟨i, S, hi, rfl, HJ, HX, HPF⟩ := hrel
        by_cases hlt : i < lb.length
        · obtain ⟨x, hx⟩ : ∃ x, lb[i]? = some x := ⟨_, List.getElem?_eq_getElem hlt⟩
          obtain ⟨b0, o0, c0, he, k0, k1, k2, k3, k4, k5⟩ := (HB.out.below HX.out.low).at_ hx
          injection he with he _ hec
          subst he; subst hec
          have hok := HB.out.ok hx
          have hd := fun (W : World) (hW : Below wr.heap.size wr W) => does_any x hok (HX.out.below hW) (by rw [HJ.out.1]; have := HLN.out; omega)
          have hst := fun h => behind_step S x h HJ.out.2
          obtain ⟨doo, at_, b, c, s, xv, fates⟩ := x
          have hoq := hok.doo
          simp only [A3.cells] at hd k0 k1 k2 k3 k4 k5 hst hoq
          obtain ⟨fa, fc, hfv, _⟩ := hok.is
          simp only at hfv
          subst hfv
          unfold dV at hd
          have HD := Lib.hid hd
          have HST := Lib.hid hst
          have HFA := fun b => Lib.hid (FR.ofBelow (p := p) (bl := bl) ((Below.refl wr.heap.size wr).alloc (Nat.le_refl _) b))
          have j1 : decide ((i : Int) < (lb.length : Int)) = true := decide_eq_true (by omega)
          clear hd hx hok hst
          by_cases hdo : doo % 7 = 0
          · have j2 : (doo % 7 == 0) = true := beq_iff_eq.2 hdo
            go_wp2_with fail
            refine (HD.out _ ((Below.refl _ _).alloc (Nat.le_refl _) _)).mono ?_
            rintro e w5 ⟨rfl, hx5, hfr⟩
            have HX5 := Lib.hid hx5
            have HP5 := Lib.hid ((HPF.out.fr (HFA _).out HPB.out.1 HPB.out.2).fr hfr HPB.out.1 HPB.out.2)
            have hj := HST.out (.inl hdo)
            have HJ5 := Lib.hid (show _ ∧ _ from ⟨hj.1.trans HJ.out.1, hj.2⟩)
            clear hx5 HD hfr hj
            go_wp2_with fail
            exact ⟨⟨i + 1, _, by omega, rfl, HJ5, HX5, HP5⟩, by simp [intOf]; omega⟩
          · have j2 : (doo % 7 == 0) = false := beq_eq_false_iff_ne.2 hdo
            by_cases hd2 : doo % 7 = 2
            · have j3 : (doo % 7 == 2) = true := beq_iff_eq.2 hd2
              go_wp2_with fail
              refine (HD.out _ ((Below.refl _ _).alloc (Nat.le_refl _) _)).mono ?_
              rintro e w5 ⟨rfl, hx5, hfr⟩
              have HX5 := Lib.hid hx5
              have HP5 := Lib.hid ((HPF.out.fr (HFA _).out HPB.out.1 HPB.out.2).fr hfr HPB.out.1 HPB.out.2)
              have hj := HST.out (.inr hd2)
              have HJ5 := Lib.hid (show _ ∧ _ from ⟨hj.1.trans HJ.out.1, hj.2⟩)
              clear hx5 HD hfr hj
              go_wp2_with fail
              exact ⟨⟨i + 1, _, by omega, rfl, HJ5, HX5, HP5⟩, by simp [intOf]; omega⟩
            · have j3 : (doo % 7 == 2) = false := beq_eq_false_iff_ne.2 hd2
              go_wp2_with fail
              exact ⟨⟨i + 1, _, by omega, rfl, HJ, Lib.hid (HX.out.alloc _), Lib.hid (HPF.out.fr (HFA _).out HPB.out.1 HPB.out.2)⟩, by simp [intOf]; omega⟩
        · obtain rfl : i = lb.length := by omega
          obtain ⟨wb, rfl⟩ : ∃ wb : World, wb = wr := ⟨_, rfl⟩
          have j1 : decide ((lb.length : Int) < (lb.length : Int)) = false := decide_eq_false (by omega)
          have HOK := Lib.hid HX.out.ok
          go_wp2_with fail
          refine (x_dead HX.out).mono ?_
          rintro e w5 ⟨rfl, hw⟩
          obtain rfl := hw.symm
          cases hdd : S.dead with
          | true =>
            have HWN := Lib.hid (HJ.out.2 hdd)
            have hpos : 0 < S.W.length := List.length_pos_iff.2 HWN.out
            have HL4 := Lib.hid (HJ.out.1)
            have j2 : decide ((S.W.length : Int) > 0) = true := decide_eq_true (by omega)
            go_wp2_with fail
            refine (x_waits HX.out).mono ?_
            rintro e w6 ⟨wv, rfl, hrow, hb, hx⟩
            obtain ⟨wa6, wc6, rfl⟩ := ownsRow_shape hrow
            have HX6 := Lib.hid hx
            have HP6 := Lib.hid (HPF.out.below hb)
            clear hrow hb hx HX HPF
            go_wp2_with fail
            refine (y_restart_nil HX6.out).mono ?_
            rintro e w7 ⟨rfl, hx, hfr⟩
            have HX7 := Lib.hid hx
            have HP7 := Lib.hid (HP6.out.fr hfr HPB.out.1 HPB.out.2)
            clear hx hfr HX6 HP6
            go_wp2_with fail
            refine (all_live HX7.out rfl).mono ?_
            rintro e w8 ⟨nv, rfl, hpl, hx, hb⟩
            rw [rows_same HOK.out HL4.out HW0.out] at hpl
            have HX8 := Lib.hid hx
            have HN8 := Lib.hid hpl
            have HP8 := Lib.hid (HP7.out.below hb)
            clear hx hpl hb HX7 HP7
            go_wp2_with fail
            refine (same_any _ _ _ _ _ _ _ HN8.out HP8.out (by rw [List.length_map, List.length_range]; have := HLN.out; omega) (by rw [List.length_map, List.length_range]; have := HLN.out; omega)).mono ?_
            rintro e w9 ⟨rfl, hb⟩
            rw [decide_eq_true rfl]
            have HX9 := Lib.hid (HX8.out.below hb)
            clear hb HX8 HN8 HP8
            go_wp2_with fail
            refine (goes_any _).mono ?_
            rintro e w10 ⟨rfl, hb⟩
            have HB10 := Lib.hid (HX9.out.below hb).low
            clear hb HX9
            go_wp2_with fail
            go_ret
            exact ⟨rfl, HB10.out⟩
          | false =>
            have HL4 := Lib.hid (HJ.out.1)
            have hlen : S.L.length = m := by rw [HJ.out.1]; exact HLN.out
            have HLS := Lib.hid hlen
            have HPB5 := Lib.hid (show p < wb.heap.size ∧ bl < wb.heap.size by
              obtain ⟨ov, d1, _⟩ := HX.out
              exact ⟨d1.lt p (.inl rfl), d1.lt bl (.inr (.inl rfl))⟩)
            clear hlen
            go_wp2_with fail
            refine (all_live HX.out hdd).mono ?_
            rintro e w6 ⟨wrv, rfl, hpl, hx, hb⟩
            rw [HLS.out] at hpl
            have HPW6 := Lib.hid hpl
            have HX6 := Lib.hid hx
            have HP6 := Lib.hid (HPF.out.below hb)
            clear hpl hx hb HX HPF
            go_wp2_with fail
            refine (y_restart _ fl HX6.out (HI.out.below HX6.out.low) HR.out HLT.out).mono ?_
            rintro e w7 ⟨rfl, hx, hfr⟩
            have HX7 := Lib.hid hx
            have HP7 := Lib.hid (HP6.out.fr hfr HPB.out.1 HPB.out.2)
            have HPW7 := Lib.hid (HPW6.out.fr hfr HPB5.out.1 HPB5.out.2)
            clear hx hfr HX6 HP6 HPW6
            go_wp2_with fail
            refine (all_live HX7.out rfl).mono ?_
            rintro e w8 ⟨nv, rfl, hpl, hx, hb⟩
            rw [show (restartS S fl).L.length = m from (setl_length _ _ _ _).trans HLS.out] at hpl
            have HX8 := Lib.hid hx
            have HN8 := Lib.hid hpl
            have HP8 := Lib.hid (HP7.out.below hb)
            have HPW8 := Lib.hid (HPW7.out.below hb)
            rw [HLN.out] at HP8
            clear hx hpl hb HX7 HP7 HPW7
            have hS : ∀ (i : Nat) x f u, ((List.range m).map (fun (k : Nat) => readP (restartS S fl) k))[i]? = some x → ((List.range m).map (fun (k : Nat) => readP T k))[i]? = some f → ((List.range m).map (fun (k : Nat) => readP S k))[i]? = some u →
                ∀ j, j < 8 → x.extract (512 * j) (512 * j + 512) = f.extract (512 * j) (512 * j + 512) ∨ x.extract (512 * j) (512 * j + 512) = u.extract (512 * j) (512 * j + 512) := by
              intro i x f u hx hf hu j hj
              rw [(rows_get _ _ _ _ hx).1, (rows_get _ _ _ _ hf).1, (rows_get _ _ _ _ hu).1, read_empty T HW0.out, ← HL4.out]
              exact sectors_ok HOK.out fl i j hj
            obtain ⟨ln, hln⟩ : ∃ ln, ln = (List.range m).map (fun (k : Nat) => readP (restartS S fl) k) := ⟨_, rfl⟩
            obtain ⟨lf, hlf⟩ : ∃ lf, lf = (List.range m).map (fun (k : Nat) => readP T k) := ⟨_, rfl⟩
            obtain ⟨lw, hlw⟩ : ∃ lw, lw = (List.range m).map (fun (k : Nat) => readP S k) := ⟨_, rfl⟩
            have e1 : ln.length = m := by rw [hln, List.length_map, List.length_range]
            have e2 : lf.length = m := by rw [hlf, List.length_map, List.length_range]
            have e3 : lw.length = m := by rw [hlw, List.length_map, List.length_range]
            rw [← hln, ← hlf, ← hlw] at hS
            rw [← hln] at HN8
            rw [← hlf] at HP8
            rw [← hlw] at HPW8
            have HS := Lib.hid hS
            have E1 := Lib.hid e1
            have E2 := Lib.hid e2
            have E3 := Lib.hid e3
            obtain ⟨na, nc, hnv⟩ := HN8.out.shape
            obtain ⟨fa, fc, hfv⟩ := HP8.out.shape
            obtain ⟨ua, uc, huv⟩ := HPW8.out.shape
            rw [e1] at hnv; rw [e2] at hfv; rw [e3] at huv
            subst hnv; subst hfv; subst huv
            clear hS hln hlf hlw e1 e2 e3 HLS HL4 HLN HW0 HD0 HJ HPB HPB5 HOK HI HR HLT HA HB HM hdd
            go_wp2_with fail
            go_loopw [18] (fun s wr => ∃ i : Nat, i ≤ m ∧ s = .int .i64 i ∧ Hid (wr = w8)) (fun s _ => m - (intOf s).toNat)
            case atStart => exact ⟨0, by omega, rfl, Lib.hid rfl⟩
            case round =>
              obtain ⟨i, hi, rfl, HWE⟩ := hrel
              obtain rfl := HWE.out.symm
              by_cases hlt : i < m
              · have j3 : decide ((i : Int) < (m : Int)) = true := decide_eq_true (by omega)
                obtain ⟨x, hx⟩ : ∃ x, ln[i]? = some x := ⟨_, List.getElem?_eq_getElem (by have := E1.out; omega)⟩
                obtain ⟨f, hf⟩ : ∃ f, lf[i]? = some f := ⟨_, List.getElem?_eq_getElem (by have := E2.out; omega)⟩
                obtain ⟨u, hu⟩ : ∃ u, lw[i]? = some u := ⟨_, List.getElem?_eq_getElem (by have := E3.out; omega)⟩
                obtain ⟨g1, d1, p1, q1, he, c1, b1, s1, k1, m1⟩ := HN8.out.page i x hx
                rw [E1.out] at he; injection he with he _ _; subst he
                obtain ⟨g2, d2, p2, q2, he, c2, b2, s2, k2, m2⟩ := HP8.out.page i f hf
                rw [E2.out] at he; injection he with he _ _; subst he
                obtain ⟨g3, d3, p3, q3, he, c3, b3, s3, k3, m3⟩ := HPW8.out.page i u hu
                rw [E3.out] at he; injection he with he _ _; subst he
                have B1 := Lib.hid b1
                have B2 := Lib.hid b2
                have B3 := Lib.hid b3
                have HSX := Lib.hid (HS.out i x f u hx hf hu)
                have S1 := Lib.hid s1
                have S2 := Lib.hid s2
                have S3 := Lib.hid s3
                clear b1 b2 b3 hx hf hu s1 s2 s3
                go_wp2_with fail
                go_loopw [19] (fun s wr => ∃ j : Nat, j ≤ 8 ∧ s = .int .i64 ((j : Int) * 512) ∧ Hid (wr = w8)) (fun s _ => 4096 - (intOf s).toNat)
                case atStart => exact ⟨0, by omega, rfl, Lib.hid rfl⟩
                case round =>
                  obtain ⟨j, hj, rfl, HWE⟩ := hrel
                  obtain rfl := HWE.out.symm
                  by_cases hj8 : j < 8
                  · have j4 : decide ((j : Int) * 512 < 4096) = true := decide_eq_true (by omega)
                    have hw1 : IntKind.i64.wrap ((j : Int) * 512 + 512) = (j : Int) * 512 + 512 := by rw [IntKind.wrap_i64]; omega
                    have t1 := fun W => cut_s p1 q1 j hj8 k1 m1 W
                    have t2 := fun W => cut_s p2 q2 j hj8 k2 m2 W
                    have t3 := fun W => cut_s p3 q3 j hj8 k3 m3 W
                    have v1 := sec_str B1.out S1.out k1 m1 j hj8
                    have v2 := sec_str B2.out S2.out k2 m2 j hj8
                    have v3 := sec_str B3.out S3.out k3 m3 j hj8
                    have hor := HSX.out j hj8
                    obtain ⟨x', hx'⟩ : ∃ x', x' = x.extract (512 * j) (512 * j + 512) := ⟨_, rfl⟩
                    obtain ⟨f', hf'⟩ : ∃ f', f' = f.extract (512 * j) (512 * j + 512) := ⟨_, rfl⟩
                    obtain ⟨u', hu'⟩ : ∃ u', u' = u.extract (512 * j) (512 * j + 512) := ⟨_, rfl⟩
                    rw [← hx'] at v1 hor
                    rw [← hf'] at v2 hor
                    rw [← hu'] at v3 hor
                    clear hx' hf' hu'
                    by_cases hxf : x' = f'
                    · subst hxf
                      have n1 : (x'.toList == x'.toList) = true := beq_iff_eq.2 rfl
                      clear hor
                      go_wp2_with fail
                      exact ⟨⟨j + 1, by omega, by go_num, Lib.hid (by trivial)⟩, by simp [intOf]; omega⟩
                    · have n1 : (x'.toList == f'.toList) = false := by
                        rw [← beq_toListBytes]
                        exact Bool.eq_false_iff.2 (fun h => hxf ((Go.MapKept.bytes_beq x' f').1 h))
                      obtain rfl : x' = u' := by
                        rcases hor with h | h
                        · exact absurd h hxf
                        · exact h
                      have n2 : (x'.toList == x'.toList) = true := beq_iff_eq.2 rfl
                      clear hor hxf
                      go_wp2_with fail
                      exact ⟨⟨j + 1, by omega, by go_num, Lib.hid (by trivial)⟩, by simp [intOf]; omega⟩
                  · obtain rfl : j = 8 := by omega
                    have j4 : decide (((8 : Nat) : Int) * 512 < 4096) = false := by decide
                    clear HSX
                    go_wp2_with fail
                    exact ⟨⟨i + 1, by omega, by omega⟩, by first | omega | (simp [intOf]; omega)⟩
              · obtain rfl : i = m := by omega
                have j3 : decide ((i : Int) < (i : Int)) = false := decide_eq_false (by omega)
                go_wp2_with fail
                refine (goes_any _).mono ?_
                rintro e w10 ⟨rfl, hb⟩
                have HB10 := Lib.hid (HX8.out.below hb).low
                clear hb HX8
                go_wp2_with fail
                go_ret
                exact ⟨rfl, HB10.out⟩
end Go.Proofs.Ytpclfnamknioaaa
