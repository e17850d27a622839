/- The document's Days; the walk of CycleDays. -/
import Derived.Test.YtidppalhjknlfaaDoorQGo21
import Derived.Test.YtidppalhjknlfaaDoorQIn21
import Derived.Test.YtidppalhjknlfaaDoorQPer5
namespace Go.Proofs.YtidppalhjknlfaaDoor
open Go.RowKit
set_option maxRecDepth 100000
set_option maxHeartbeats 2000000
set_option linter.unusedVariables false
set_option linter.unusedSimpArgs false
theorem rdays_any (v : Value) (L : List Sg) (M : Int) (w : World) (hv : GR shS w v L) (hl : L.length ≤ 1000000) (hd : ∀ g ∈ L, D60 g.day) :
    Calls Tryd.prog 9 #[v, .int .i64 M] w fun e w' => ∃ v', e = .returned v' ∧ GR shI w' v' (daysV L M) ∧ Below w.heap.size w w' := by
  obtain ⟨a, c, rfl, hlc, hcm, _⟩ := hv.shape
  by_cases hM : M < 12 ∨ 120000 ≤ M
  · rw [show daysV L M = [] by unfold daysV; rw [if_pos hM]]
    have HF := Lib.hid (rfirst_no M hM w)
    clear hM hd hv
    go_enter Tryd.func9, Tryd.ntmps9
    go_wp2_with fail
    refine HF.out.mono ?_
    rintro e w1 ⟨rfl, hw⟩
    obtain rfl := hw.symm
    go_wp2
    go_ret
    exact ⟨_, rfl, GR.nil _, Below.refl _ _⟩
  · have h1 : 12 ≤ M := by omega
    have h2 : M < 120000 := by omega
    have hfb := first_bd M h1 h2
    have hlb := Cal.len_bd M
    have hdv : daysV L M = daysL (Cal.first M + Cal.len M) L := by unfold daysV; rw [if_neg hM]
    have HF := Lib.hid (rfirst_yes M h1 h2 w)
    have HLN := Lib.hid fun (W : World) => rlength_yes M h1 h2 W
    obtain ⟨F, hF⟩ : ∃ F, F = Cal.first M := ⟨_, rfl⟩
    obtain ⟨N, hN⟩ : ∃ N, N = Cal.len M := ⟨_, rfl⟩
    rw [← hF] at HF hfb hdv
    rw [← hN] at HLN hlb hdv
    rw [hdv]
    have x1 : wrap64 (F + N) = F + N := by unfold wrap64; omega
    have HD := Lib.hid hd
    have HV := Lib.hid hv
    have HG := Lib.hid (daysL_get (F + N) L)
    have hdl := daysL_len (F + N) L
    obtain ⟨D, hD⟩ : ∃ D, D = daysL (F + N) L := ⟨_, rfl⟩
    rw [← hD] at HG hdl ⊢
    have HDL := Lib.hid hdl
    clear hM hd hv hF hN hD hdv hdl
    go_enter Tryd.func9, Tryd.ntmps9
    go_wp2_with fail
    refine HF.out.mono ?_
    rintro e w1 ⟨rfl, hb⟩
    have HB1 := Lib.hid hb
    clear hb
    go_wp2_with fail
    go_loopw [7, 8] (fun v i wr => ∃ j : Nat, j ≤ L.length ∧ i = .int .i64 j ∧ Hid (wr.ownsRow w.heap.size 2 shI.sz v (D.take j).length (shI.cells (D.take j))) ∧ Hid (Below w.heap.size w wr)) (fun _ i _ => L.length - (intOf i).toNat)
    case atStart => exact ⟨0, by omega, rfl, Lib.hid (World.ownsRow_nil _ _ _ _), HB1⟩
    case round =>
      obtain ⟨j, hj, rfl, HO, HB⟩ := hrel
      by_cases hlt : j < L.length
      · obtain ⟨x, hx⟩ : ∃ x, L[j]? = some x := ⟨_, List.getElem?_eq_getElem hlt⟩
        obtain ⟨g, off, cap', he, c0, c1⟩ := (HV.out.below HB.out).at2s hx
        injection he with he hx1 hx2
        subst he; subst hx2
        clear hx1
        have hxd := HD.out x (List.mem_of_getElem? hx)
        have hdj := HG.out j hlt
        have htk : D.take (j + 1) = D.take j ++ [dayAt (F + N) L j] := by rw [List.take_add_one, hdj]; rfl
        have hws := HB.out.size
        obtain ⟨dy, pl⟩ := x
        dsimp only at c0 c1 hxd
        unfold D60 at hxd
        have HTK := Lib.hid htk
        have hlj : (D.take j).length ≤ 1000000 := by rw [List.length_take, HDL.out]; omega
        by_cases hlast : j + 1 < L.length
        · obtain ⟨y, hy⟩ : ∃ y, L[j + 1]? = some y := ⟨_, List.getElem?_eq_getElem hlast⟩
          obtain ⟨g', off', cap', he, d0, d1⟩ := (HV.out.below HB.out).at2s hy
          injection he with he hx1 hx2
          injection he with he
          injection he with e1 e2
          subst e1; subst e2
          have hyd := HD.out y (List.mem_of_getElem? hy)
          have hda : dayAt (F + N) L j = max 0 (y.day - dy) := by unfold dayAt; rw [hx, hy]
          obtain ⟨ey, py⟩ := y
          dsimp only at d0 d1 hyd hda
          unfold D60 at hyd
          rw [hda] at HTK
          have i1 : (j : Int) + 1 < (L.length : Int) := Int.ofNat_lt.2 hlast
          clear hx hy hdj htk hda hx1 hx2 hlast d1 c1
          go_wp2_with fail
          refine (HLN.out _).mono ?_
          rintro e w4 ⟨rfl, hw⟩
          obtain rfl := hw.symm
          clear hw
          by_cases hlt2 : ey > dy
          · have hm : max 0 (ey - dy) = ey - dy := by omega
            have i4 : wrap64 (ey - dy) = ey - dy := by unfold wrap64; omega
            rw [hm] at HTK
            clear hm hyd hxd
            go_wp2_with (at_builtin; go_must (refine wp_app_g 26 2 8 _ uI64 iI64 rfl (by decide) w.heap.size rfl _ _ rfl _ _ (D.take j) [ey - dy] rfl rfl (rowS_below HO.out ((Below.refl _ _).alloc (Nat.le_refl _) _)) (GR.lit (S := shI) wr _ [ey - dy] (by simp)) (by simp; omega) hlj (by simp) ?_; intro v6 w6 ho hk hat))
            have hba := HB.out.alloc hws (.cells #[.int .i64 (ey - dy)] 2)
            refine ⟨⟨j + 1, by omega, by go_num, by rw [HTK.out]; exact Lib.hid ho, Lib.hid (hba.trans (hk.below (B := w.heap.size) hba.size (fun i hi => (rowS_low HO.out i hi).1)))⟩, by simp [intOf]; omega⟩
          · have hm : max 0 (ey - dy) = 0 := by omega
            rw [hm] at HTK
            clear hm hyd hxd
            go_wp2_with (at_builtin; go_must (refine wp_app_g 26 2 8 _ uI64 iI64 rfl (by decide) w.heap.size rfl _ _ rfl _ _ (D.take j) [0] rfl rfl (rowS_below HO.out ((Below.refl _ _).alloc (Nat.le_refl _) _)) (GR.lit (S := shI) wr _ [0] (by simp)) (by simp; omega) hlj (by simp) ?_; intro v6 w6 ho hk hat))
            have hba := HB.out.alloc hws (.cells #[.int .i64 0] 2)
            refine ⟨⟨j + 1, by omega, by go_num, by rw [HTK.out]; exact Lib.hid ho, Lib.hid (hba.trans (hk.below (B := w.heap.size) hba.size (fun i hi => (rowS_low HO.out i hi).1)))⟩, by simp [intOf]; omega⟩
        · have hda : dayAt (F + N) L j = max 0 (F + N - dy) := by unfold dayAt; rw [hx, List.getElem?_eq_none (by omega)]
          rw [hda] at HTK
          have i1 : ¬ (j : Int) + 1 < (L.length : Int) := by omega
          clear hx hdj htk hda c1
          go_wp2_with fail
          refine (HLN.out _).mono ?_
          rintro e w4 ⟨rfl, hw⟩
          obtain rfl := hw.symm
          clear hw
          by_cases hlt2 : F + N > dy
          · have hm : max 0 (F + N - dy) = F + N - dy := by omega
            have i4 : wrap64 (F + N - dy) = F + N - dy := by unfold wrap64; omega
            rw [hm] at HTK
            clear hm hxd
            go_wp2_with (at_builtin; go_must (refine wp_app_g 26 2 8 _ uI64 iI64 rfl (by decide) w.heap.size rfl _ _ rfl _ _ (D.take j) [F + N - dy] rfl rfl (rowS_below HO.out ((Below.refl _ _).alloc (Nat.le_refl _) _)) (GR.lit (S := shI) wr _ [F + N - dy] (by simp)) (by simp; omega) hlj (by simp) ?_; intro v6 w6 ho hk hat))
            have hba := HB.out.alloc hws (.cells #[.int .i64 (F + N - dy)] 2)
            refine ⟨⟨j + 1, by omega, by go_num, by rw [HTK.out]; exact Lib.hid ho, Lib.hid (hba.trans (hk.below (B := w.heap.size) hba.size (fun i hi => (rowS_low HO.out i hi).1)))⟩, by simp [intOf]; omega⟩
          · have hm : max 0 (F + N - dy) = 0 := by omega
            rw [hm] at HTK
            clear hm hxd
            go_wp2_with (at_builtin; go_must (refine wp_app_g 26 2 8 _ uI64 iI64 rfl (by decide) w.heap.size rfl _ _ rfl _ _ (D.take j) [0] rfl rfl (rowS_below HO.out ((Below.refl _ _).alloc (Nat.le_refl _) _)) (GR.lit (S := shI) wr _ [0] (by simp)) (by simp; omega) hlj (by simp) ?_; intro v6 w6 ho hk hat))
            have hba := HB.out.alloc hws (.cells #[.int .i64 0] 2)
            refine ⟨⟨j + 1, by omega, by go_num, by rw [HTK.out]; exact Lib.hid ho, Lib.hid (hba.trans (hk.below (B := w.heap.size) hba.size (fun i hi => (rowS_low HO.out i hi).1)))⟩, by simp [intOf]; omega⟩
      · obtain rfl : j = L.length := by omega
        rw [List.take_of_length_le (by rw [HDL.out]; exact Nat.le_refl _)] at HO
        go_wp2_with fail
        go_ret
        exact ⟨_, rfl, GR.of_row HO.out, HB.out⟩
theorem cycledays_any (v : Value) (L : List Sg) (M : Int) (w : World) (hT : Tab w) (hv : GR shS w v L) (hi : ∀ g ∈ L, g.In) :
    Calls Tryd.prog 3 #[v, .int .i64 M] w fun e w' => e = .returned (.bool true) ∧ Below w.heap.size w w' := by
  obtain ⟨a, c, rfl, hlc, hcm, _⟩ := hv.shape
  have HG := Lib.hid fun (W : World) (hb : Below w.heap.size w W) => goes21 W (hT.below hb (Nat.le_refl _))
  by_cases h60 : 60 < L.length
  · have i0 : (L.length : Int) > 60 := by omega
    clear hv hT hi
    go_enter Tryd.func3, Tryd.ntmps3
    go_wp2_with fail
    go_ret
    exact ⟨rfl, Below.refl _ _⟩
  · have i0 : ¬ (L.length : Int) > 60 := by omega
    have HV := Lib.hid hv
    have HI := Lib.hid hi
    have HT := Lib.hid hT
    have H1 := Lib.hid fun (hd : ∀ g ∈ L, D60 g.day) (W : World) (hb : Below w.heap.size w W) => cdays_any (.slice a L.length c) L M W (hT.below hb (Nat.le_refl _)) (hv.below hb) (by omega) hd
    have H2 := Lib.hid fun (hd : ∀ g ∈ L, D60 g.day) (W : World) (hb : Below w.heap.size w W) => rdays_any (.slice a L.length c) L M W (hv.below hb) (by omega) hd
    have hdl : (daysV L M).length ≤ L.length := by
      unfold daysV; split
      · simp
      · rw [daysL_len]; exact Nat.le_refl _
    obtain ⟨D, hD⟩ : ∃ D, D = daysV L M := ⟨_, rfl⟩
    rw [← hD] at H1 H2 hdl
    clear hv hi hT hD
    go_enter Tryd.func3, Tryd.ntmps3
    go_wp2_with fail
    go_loopw [5] (fun i wr => ∃ j : Nat, j ≤ L.length ∧ i = .int .i64 j ∧ Hid (∀ (i : Nat) g, i < j → L[i]? = some g → D60 g.day) ∧ Hid (Below w.heap.size w wr)) (fun i _ => L.length - (intOf i).toNat)
    case atStart => exact ⟨0, by omega, rfl, Lib.hid (by simp), Lib.hid (Below.refl _ _)⟩
    case round =>
      obtain ⟨j, hj, rfl, HA, HB⟩ := hrel
      by_cases hlt : j < L.length
      · obtain ⟨x, hx⟩ : ∃ x, L[j]? = some x := ⟨_, List.getElem?_eq_getElem hlt⟩
        obtain ⟨g, off, cap', he, c0, c1⟩ := (HV.out.below HB.out).at2s hx
        injection he with he hx1 hx2
        subst he; subst hx2
        clear hx1
        have HX := Lib.hid hx
        obtain ⟨dy, pl⟩ := x
        dsimp only at c0 c1
        clear hx c1
        by_cases h1 : dy < -1152921504606846976
        · go_wp2_with fail
          go_ret
          exact ⟨rfl, HB.out⟩
        · by_cases h2 : dy > 1152921504606846976
          · go_wp2_with fail
            go_ret
            exact ⟨rfl, HB.out⟩
          · have HD6 := Lib.hid (show D60 dy by unfold D60; omega)
            go_wp2_with fail
            refine ⟨⟨j + 1, by omega, by go_num, Lib.hid (fun i' y a b => ?_), HB⟩, by simp [intOf]; omega⟩
            by_cases hji : i' = j
            · subst hji; rw [HX.out] at b; cases b; exact HD6.out
            · exact HA.out i' y (by omega) b
      · obtain rfl : j = L.length := by omega
        have hd : ∀ g ∈ L, D60 g.day := fun g hg => by
          obtain ⟨i, hi, he⟩ := List.mem_iff_getElem.1 hg
          exact HA.out i g hi (by rw [List.getElem?_eq_getElem hi, he])
        have H1 := Lib.hid (H1.out hd wr HB.out)
        have H2 := Lib.hid (H2.out hd)
        have hbs := HB.out.size
        clear hd HA
        go_wp2_with fail
        refine H1.out.mono ?_
        rintro e w1 ⟨v1, rfl, hg, hb⟩
        have HB1 := Lib.hid (HB.out.trans (hb.mono hbs))
        have G1 := Lib.hid hg
        obtain ⟨a1, c1, rfl, _, _, _⟩ := hg.shape
        clear hb hg H1
        go_wp2_with fail
        refine (H2.out _ HB1.out).mono ?_
        rintro e w2 ⟨v2, rfl, hg, hb⟩
        have HB2 := Lib.hid (HB1.out.trans (hb.mono HB1.out.size))
        have G2 := Lib.hid hg
        have G12 := Lib.hid (G1.out.below hb)
        obtain ⟨a2, c2, rfl, _, _, _⟩ := hg.shape
        clear hb hg H2 G1
        go_wp2_with fail
        go_loopw [8] (fun i wr => ∃ j : Nat, j ≤ D.length ∧ i = .int .i64 j ∧ Hid (Below w2.heap.size w2 wr)) (fun i _ => D.length - (intOf i).toNat)
        case atStart => exact ⟨0, by omega, rfl, Lib.hid (Below.refl _ _)⟩
        case round =>
          obtain ⟨j, hj, rfl, HBj⟩ := hrel
          by_cases hlt : j < D.length
          · obtain ⟨x, hx⟩ : ∃ x, D[j]? = some x := ⟨_, List.getElem?_eq_getElem hlt⟩
            obtain ⟨g, off, cap', he, c0⟩ := (G12.out.below HBj.out).at1 hx
            injection he with he hx1 hx2
            subst he; subst hx2
            obtain ⟨g', off', cap'', he, d0⟩ := (G2.out.below HBj.out).at1 hx
            injection he with he hx1 hx2
            subst he; subst hx2
            clear hx1 hx
            go_wp2_with fail
            go_quiet (fail)
            go_wp2_with fail
            refine ⟨⟨j + 1, by omega, by go_num, Lib.hid (below_drewN HBj.out _)⟩, by simp [intOf]; omega⟩
          · obtain rfl : j = D.length := by omega
            have HG2 := Lib.hid (HG.out _ (HB2.out.trans (HBj.out.mono HB2.out.size)))
            have HBB := Lib.hid (HB2.out.trans (HBj.out.mono HB2.out.size))
            go_wp2_with fail
            refine HG2.out.mono ?_
            rintro e w3 ⟨rfl, hb⟩
            have HB3 := Lib.hid (HBB.out.trans (hb.mono HBB.out.size))
            clear hb
            go_wp2
            go_ret
            exact ⟨rfl, HB3.out⟩
end Go.Proofs.YtidppalhjknlfaaDoor
