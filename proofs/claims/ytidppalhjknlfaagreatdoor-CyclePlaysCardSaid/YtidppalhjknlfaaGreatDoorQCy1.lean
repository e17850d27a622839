/- cycle.date, cycle.segment, cycle.upto, cycle.many. -/
import Derived.Test.YtidppalhjknlfaaGreatDoorQMPl4
import Derived.Test.YtidppalhjknlfaaGreatDoorQPer2
import Derived.Test.YtidppalhjknlfaaGreatDoorQMMake
import Derived.Test.YtidppalhjknlfaaGreatDoorQNum
import Derived.Test.YtidppalhjknlfaaGreatDoorQMOrd3
namespace Go.Proofs.YtidppalhjknlfaaGreatDoor
open Go.RowKit
set_option maxRecDepth 100000
set_option maxHeartbeats 1000000
set_option linter.unusedVariables false
set_option linter.unusedSimpArgs false
theorem US.lit1 (w : World) (x : Int) (h0 : 0 ≤ x) (h1 : x ≤ 18446744073709551615) (e : TypeId) : US (w.alloc (.cells #[.int .u64 x] e)) (.slice (some ⟨w.heap.size, 0, none⟩) 1 1) [x] := by
  refine ⟨_, _, rfl, fun i hi => ?_, .inr ⟨_, 0, rfl, fun i hi => ?_⟩⟩
  · have : i = 0 := by simp at hi; exact hi
    subst this; exact ⟨h0, h1⟩
  · have : i = 0 := by simp at hi; exact hi
    subst this
    rw [blk_cell (blk_new w _)]; rfl
theorem US.lit2 (w : World) (x y : Int) (h0 : 0 ≤ x) (h1 : x ≤ 18446744073709551615) (k0 : 0 ≤ y) (k1 : y ≤ 18446744073709551615) (e : TypeId) : US (w.alloc (.cells #[.int .u64 x, .int .u64 y] e)) (.slice (some ⟨w.heap.size, 0, none⟩) 2 2) [x, y] := by
  refine ⟨_, _, rfl, fun i hi => ?_, .inr ⟨_, 0, rfl, fun i hi => ?_⟩⟩
  · match i, hi with
    | 0, _ => exact ⟨h0, h1⟩
    | 1, _ => exact ⟨k0, k1⟩
    | n + 2, h => exact absurd h (by simp)
  · rw [blk_cell (blk_new w _)]
    match i, hi with
    | 0, _ => rfl
    | 1, _ => rfl
    | n + 2, h => exact absurd h (by simp)
theorem cdate_any (d : Int) (w : World) (hT : Tab w) :
    Calls Tryz.prog 31 #[.int .i64 d] w fun e w' => e = .returned (.bool (isDate d)) ∧ Below w.heap.size w w' := by
  by_cases hd : -719162 ≤ d ∧ d ≤ 2932896
  · obtain ⟨M, h1, h2, hM⟩ := in_ex d hd.1 hd.2
    have HC := Lib.hid (of_yes d M hM h1 h2 w hT)
    unfold dateV at HC
    rw [show isDate d = true from decide_eq_true hd]
    clear hd hM hT
    go_enter Tryz.func31, Tryz.ntmps31
    go_wp2_with fail
    refine HC.out.mono ?_
    rintro e w1 ⟨rfl, hb⟩
    have HB := Lib.hid hb
    clear hb HC
    go_wp2
    go_ret
    exact ⟨rfl, HB.out.alloc HB.out.size _⟩
  · have HC := Lib.hid (of_no d (by omega) w)
    rw [show isDate d = false from decide_eq_false hd]
    clear hd hT
    go_enter Tryz.func31, Tryz.ntmps31
    go_wp2_with fail
    refine HC.out.mono ?_
    rintro e w1 ⟨rfl, hb⟩
    have HB := Lib.hid hb
    clear hb HC
    go_wp2
    go_ret
    exact ⟨rfl, HB.out.alloc HB.out.size _⟩
theorem GR.at2s {w : World} {v : Value} {L : List Sg} (h : GR shS w v L) {i : Nat} {t : Sg} (ht : L[i]? = some t) : ∃ g off cap, v = .slice (some ⟨g, off, none⟩) L.length cap ∧ w.cell? ⟨g, off + i * 2, none⟩ = some (.int .i64 t.day) ∧ w.cell? ⟨g, off + i * 2 + 1, none⟩ = some (.int .u32 t.plan) := by
  obtain ⟨g, off, cap, he, hc⟩ := h.at_ ht
  exact ⟨g, off, cap, he, hc 0 _ rfl, hc 1 _ rfl⟩
theorem later_c (q : Nat) (n : Int) (g : Sg) (w : World) (hq : w.cell? ⟨q, 0, none⟩ = some (.int .i64 n)) :
    Calls Tryz.prog 64 #[g.val, .pointer (some ⟨q, 0, none⟩)] w fun e w' => e = .returned (.bool (decide (n < g.day))) ∧ Below w.heap.size w w' := by
  have hq2 := fun o => ((Keep.refl (fun _ => False) w).alloc o).cell hq (fun h => h)
  obtain ⟨dy, pl⟩ := g
  unfold Sg.val
  clear hq
  go_enter Tryz.func64, Tryz.ntmps64
  go_wp2
  go_ret
  exact ⟨rfl, (Below.refl _ _).alloc (Nat.le_refl _) _⟩
def ixU (L : List Sg) (d : Int) : Int := if (upto L d).length < L.length then (upto L d).length else -1
theorem upto_ix (q : Nat) (v : Value) (d : Int) (L : List Sg) (w : World) (hq : w.cell? ⟨q, 0, none⟩ = some (.int .i64 d)) (hv : GR shS w v L) (hl : L.length ≤ 1000000) :
    Calls Tryz.prog 63 #[v, .func (Fn.func 64) #[] #[.pointer (some ⟨q, 0, none⟩)]] w fun e w' => e = .returned (.int .i64 (ixU L d)) ∧ Below w.heap.size w w' := by
  obtain ⟨a, cap, rfl, h1, h2, h3⟩ := hv.shape
  have HV := Lib.hid hv
  have HQ := Lib.hid hq
  obtain ⟨N, hN⟩ : ∃ N, N = ixU L d := ⟨_, rfl⟩
  rw [← hN]
  have HN := Lib.hid hN
  clear hv hq h3 hN
  go_enter Tryz.func63, Tryz.ntmps63
  go_wp2_with fail
  go_loopw [8] (fun s wr => ∃ j : Nat, j ≤ L.length ∧ s = .int .i64 j ∧ Hid (∀ (i' : Nat) y, i' < j → L[i']? = some y → y.day ≤ d) ∧ Hid (Below w.heap.size w wr)) (fun s _ => L.length - (intOf s).toNat)
  case atStart => exact ⟨0, by omega, rfl, Lib.hid (by simp), Lib.hid (Below.refl _ _)⟩
  case round =>
    obtain ⟨j, hj, rfl, HA, HB⟩ := hrel
    by_cases hlt : j < L.length
    · obtain ⟨x, hx⟩ : ∃ x, L[j]? = some x := ⟨_, List.getElem?_eq_getElem hlt⟩
      obtain ⟨g, off, cap', he, c0, c1⟩ := (HV.out.below HB.out).at2s hx
      injection he with he _ hcap
      subst he; subst hcap
      have hcon := later_c q d x wr ((Keep.ofBelow HB.out (fun _ => False)).cell HQ.out (fun h => h))
      have HX := Lib.hid hx
      clear hx
      obtain ⟨dy, pl⟩ := x
      unfold Sg.val at hcon
      dsimp only at c0 c1 hcon
      by_cases hi : d < dy
      · have HR := Lib.hid (upto_at d L j ⟨dy, pl⟩ (fun j' y a b => HA.out j' y a b) HX.out hi)
        rw [decide_eq_true hi] at hcon
        have hcon := Lib.hid hcon
        clear hi
        go_wp2_with fail
        refine hcon.out.mono ?_
        rintro e w1 ⟨rfl, hb⟩
        have HB1 := Lib.hid (HB.out.trans (hb.mono HB.out.size))
        clear hb hcon
        go_wp2
        go_ret
        refine ⟨?_, HB1.out⟩
        have e1 : (upto L d).length = j := by rw [HR.out, List.length_take]; omega
        rw [HN.out]; unfold ixU; rw [e1, if_pos hlt]; rfl
      · have HF := Lib.hid (show dy ≤ d by omega)
        rw [decide_eq_false hi] at hcon
        have hcon := Lib.hid hcon
        clear hi
        go_wp2_with fail
        refine hcon.out.mono ?_
        rintro e w1 ⟨rfl, hb⟩
        have HB1 := Lib.hid (HB.out.trans (hb.mono HB.out.size))
        clear hb hcon
        go_wp2
        go_roundw
        case rel =>
          refine ⟨j + 1, by omega, by go_num, Lib.hid (fun j' y a b => ?_), HB1⟩
          by_cases hji : j' = j
          · subst hji; rw [HX.out] at b; cases b; exact HF.out
          · exact HA.out j' y (by omega) b
        case measure => simp [intOf]; omega
    · obtain rfl : j = L.length := by omega
      go_wp2
      go_ret
      refine ⟨?_, HB.out⟩
      rw [HN.out]; unfold ixU
      rw [upto_all d L (fun i y hy => HA.out i y (List.getElem?_eq_some_iff.1 hy).1 hy), if_neg (by omega)]
      rfl
theorem upto_any (v : Value) (d : Int) (L : List Sg) (w : World) (hv : GR shS w v L) (hl : L.length ≤ 1000000) :
    Calls Tryz.prog 39 #[v, .int .i64 d] w fun e w' => e = .returned (.int .i64 (upto L d).length) ∧ Below w.heap.size w w' := by
  obtain ⟨a, cap, rfl, h1, h2, h3⟩ := hv.shape
  have hb : Below w.heap.size w (w.alloc (.cells #[.int .i64 d] 2)) := (Below.refl _ _).alloc (Nat.le_refl _) _
  have HX := Lib.hid (upto_ix w.heap.size (.slice a L.length cap) d L _ (by rw [blk_cell (blk_new w _)]; rfl) (hv.below hb) hl)
  have HB := Lib.hid hb
  have hul := upto_len L d
  unfold ixU at HX
  obtain ⟨n, hn⟩ : ∃ n, n = (upto L d).length := ⟨_, rfl⟩
  rw [← hn] at HX hul ⊢
  clear hv hb hn h3
  by_cases hlt : n < L.length
  · rw [if_pos hlt] at HX
    have i1 : ¬ (n : Int) < 0 := by omega
    go_enter Tryz.func39, Tryz.ntmps39
    go_wp2_with fail
    refine HX.out.mono ?_
    rintro e w1 ⟨rfl, hb⟩
    have HB1 := Lib.hid (HB.out.trans (hb.mono HB.out.size))
    clear hb HX
    go_wp2
    go_ret
    exact ⟨rfl, HB1.out⟩
  · obtain rfl : n = L.length := by omega
    rw [if_neg hlt] at HX
    go_enter Tryz.func39, Tryz.ntmps39
    go_wp2_with fail
    refine HX.out.mono ?_
    rintro e w1 ⟨rfl, hb⟩
    have HB1 := Lib.hid (HB.out.trans (hb.mono HB.out.size))
    clear hb HX
    go_wp2
    go_ret
    exact ⟨rfl, HB1.out⟩
theorem cmonth_c (d : Int) (hd : -719162 ≤ d ∧ d ≤ 2932896) (w : World) (hT : Tab w) :
    Calls Tryz.prog 59 #[.int .i64 d] w fun e w' => e = .returned (.int .i64 (mon d)) ∧ Below w.heap.size w w' := by
  obtain ⟨hM, h1, h2⟩ := mon_in hd
  obtain ⟨M, hMM⟩ : ∃ M, M = mon d := ⟨_, rfl⟩
  rw [← hMM] at hM h1 h2 ⊢
  clear hMM
  have c1 := fun (w : World) (h : Hid (Tab w)) => of_yes d M hM h1 h2 w h.out
  have c2 := fun (w : World) (h : Hid (Tab w)) => month_of M d hM h1 h2 w h.out
  have HT : Hid (Tab w) := Lib.hid hT
  unfold dateV at c1 c2
  obtain ⟨x, hx⟩ : ∃ x, x = d - Cal.first M + 1 := ⟨_, rfl⟩
  obtain ⟨y, hy⟩ : ∃ y, y = M / 12 := ⟨_, rfl⟩
  obtain ⟨m, hm⟩ : ∃ m, m = M % 12 + 1 := ⟨_, rfl⟩
  rw [← hy, ← hm, ← hx] at c1 c2
  have C1 := Lib.hid c1
  have C2 := Lib.hid c2
  clear c1 c2 hM hT hx hy hm
  go_enter Tryz.func59, Tryz.ntmps59
  go_wp2_with fail
  refine (C1.out _ HT).mono ?_
  rintro e w1 ⟨rfl, hb⟩
  have HB := Lib.hid hb
  have HT1 := Lib.hid (HT.out.below hb (Nat.le_refl _))
  clear hb
  go_wp2_with fail
  refine (C2.out _ (Lib.hid (HT1.out.alloc _))).mono ?_
  rintro e w2 ⟨rfl, hb2⟩
  have HB2 := Lib.hid hb2
  clear hb2
  go_wp2
  go_ret
  exact ⟨rfl, (HB.out.alloc HB.out.size _).trans (HB2.out.mono (by have := HB.out.size; simp; omega))⟩
theorem many_any (v : Value) (d : Int) (L : List Sg) (w : World) (hT : Tab w) (hv : GR shS w v L) (hl : L.length ≤ 1000000) (hd : -719162 ≤ d ∧ d ≤ 2932896) (hL : ∀ g ∈ L, -719162 ≤ g.day ∧ g.day ≤ 2932896) :
    Calls Tryz.prog 37 #[v, .int .i64 d] w fun e w' => e = .returned (.int .i64 (manyL L d).length) ∧ Below w.heap.size w w' := by
  obtain ⟨a, cap, rfl, h1, h2, h3⟩ := hv.shape
  have HV := Lib.hid hv
  have HT := Lib.hid hT
  have HL := Lib.hid hL
  have hc := fun (x : Int) (hx : -719162 ≤ x ∧ x ≤ 2932896) (W : World) (h : Tab W) => cmonth_c x hx W h
  obtain ⟨mf, hmf⟩ : ∃ mf, mf = mon := ⟨_, rfl⟩
  rw [← hmf] at hc
  have HC := Lib.hid hc
  have HSNO := Lib.hid fun (j : Nat) (x : Sg) => manyL_snoc (L.take j) d x
  rw [← hmf] at HSNO
  clear hc hmf
  have hml : (manyL L d).length ≤ L.length := List.length_filter_le _ _
  clear hv h3 hT hL
  have go_len : ∀ j, (manyL (L.take j) d).length ≤ 1000000 := fun j => Nat.le_trans (List.length_filter_le _ _) (by rw [List.length_take]; omega)
  have GL := Lib.hid go_len
  clear go_len
  go_enter Tryz.func37, Tryz.ntmps37
  go_wp2_with fail
  go_loopw [6, 11] (fun n s wr => ∃ j : Nat, j ≤ L.length ∧ s = .int .i64 j ∧ n = .int .i64 (manyL (L.take j) d).length ∧ Hid (Below w.heap.size w wr)) (fun _ s _ => L.length - (intOf s).toNat)
  case atStart => exact ⟨0, by omega, rfl, rfl, Lib.hid (Below.refl _ _)⟩
  case round =>
    obtain ⟨j, hj, rfl, rfl, HB⟩ := hrel
    by_cases hlt : j < L.length
    · obtain ⟨x, hx⟩ : ∃ x, L[j]? = some x := ⟨_, List.getElem?_eq_getElem hlt⟩
      obtain ⟨g, off, cap', he, c0, c1⟩ := (HV.out.below HB.out).at2s hx
      injection he with he _ hcap
      subst he; subst hcap
      have hxd := HL.out x (List.mem_of_getElem? hx)
      have htk : L.take (j + 1) = L.take j ++ [x] := by rw [List.take_add_one, hx]; rfl
      have hsn := HSNO.out j x
      rw [← htk] at hsn
      have hgl := GL.out j
      obtain ⟨dy, pl⟩ := x
      dsimp only at c0 c1 hxd hsn
      have hz := blk_new wr (.cells #[.int .i64 dy, .int .u32 pl] 66)
      have hbW : Below wr.heap.size wr (wr.alloc (.cells #[.int .i64 dy, .int .u32 pl] 66)) := (Below.refl _ _).alloc (Nat.le_refl _) _
      have TW := Lib.hid ((HT.out.below HB.out (Nat.le_refl _)).below hbW (Nat.le_refl _))
      have HBW := Lib.hid (HB.out.trans (hbW.mono HB.out.size))
      have z0 := blk_cell hz 0
      obtain ⟨W, hW⟩ : ∃ W, W = wr.alloc (.cells #[.int .i64 dy, .int .u32 pl] 66) := ⟨_, rfl⟩
      clear hx htk hz hbW
      go_upto_region 6 with fail
      rw [← hW] at TW HBW z0 ⊢
      clear hW
      by_cases hdd : dy = d
      · have e1 : (dy == d) = true := beq_iff_eq.2 hdd
        rw [if_neg (fun h => h.1 hdd), List.append_nil] at hsn
        have HSN := Lib.hid hsn
        clear hsn
        subst hdd
        go_wp2_with fail
        refine ⟨⟨j + 1, by omega, by go_num, by rw [HSN.out], HBW⟩, by simp [intOf]; omega⟩
      · have e1 : (dy == d) = false := beq_eq_false_iff_ne.2 hdd
        by_cases hmm : mf dy = mf d
        · rw [if_pos ⟨hdd, hmm⟩] at hsn
          have HSN := Lib.hid hsn
          have H1 := Lib.hid (HC.out dy hxd W TW.out)
          clear hsn
          go_wp2_with (first
            | (with_reducible refine H1.out.mono ?_; rintro e w1 ⟨rfl, hb⟩
               have HB1 := Lib.hid (HBW.out.trans (hb.mono HBW.out.size))
               have H2 := Lib.hid (HC.out d hd w1 (TW.out.below hb (Nat.le_refl _)))
               clear hb H1)
            | (with_reducible refine H2.out.mono ?_; rintro e w2 ⟨rfl, hb⟩
               have HB2 := Lib.hid (HB1.out.trans (hb.mono HB1.out.size))
               clear hb H2
               have e2 : (mf dy == mf d) = true := beq_iff_eq.2 hmm))
          refine ⟨⟨j + 1, by omega, by go_num, by rw [HSN.out, List.length_append]; go_num, HB2⟩, by simp [intOf]; omega⟩
        · rw [if_neg (fun h => hmm h.2), List.append_nil] at hsn
          have HSN := Lib.hid hsn
          have H1 := Lib.hid (HC.out dy hxd W TW.out)
          have e2 : (mf dy == mf d) = false := beq_eq_false_iff_ne.2 hmm
          clear hsn
          go_wp2_with (first
            | (with_reducible refine H1.out.mono ?_; rintro e w1 ⟨rfl, hb⟩
               have HB1 := Lib.hid (HBW.out.trans (hb.mono HBW.out.size))
               have H2 := Lib.hid (HC.out d hd w1 (TW.out.below hb (Nat.le_refl _)))
               clear hb H1)
            | (with_reducible refine H2.out.mono ?_; rintro e w2 ⟨rfl, hb⟩
               have HB2 := Lib.hid (HB1.out.trans (hb.mono HB1.out.size))
               clear hb H2))
          refine ⟨⟨j + 1, by omega, by go_num, by rw [HSN.out], HB2⟩, by simp [intOf]; omega⟩
    · obtain rfl : j = L.length := by omega
      rw [List.take_length]
      go_wp2_with fail
      go_ret
      exact ⟨rfl, HB.out⟩
end Go.Proofs.YtidppalhjknlfaaGreatDoor
