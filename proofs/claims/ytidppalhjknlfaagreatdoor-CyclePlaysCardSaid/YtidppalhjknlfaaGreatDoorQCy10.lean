/- cycle.Month in one; cycle.Days. -/
import Derived.Test.YtidppalhjknlfaaGreatDoorQCy9
namespace Go.Proofs.YtidppalhjknlfaaGreatDoor
open Go.RowKit
set_option maxRecDepth 100000
set_option maxHeartbeats 2000000
set_option linter.unusedVariables false
set_option linter.unusedSimpArgs false
theorem cmon_any (p b1 b2 m : Nat) (ps : List Pl) (ts : List Tn) (t M : Int) (ht : U32 t) (w : World) (h : CB w p b1 b2 ps ts m) (hT : Tab w) :
    Calls Tryz.prog 16 #[sV p, .int .u32 t, .int .i64 M] w fun e w' => ∃ v, e = .returned (.tuple #[v, .int .i64 (monE ts t M)]) ∧ GR shS w' v (monV ts t M) ∧ Below w.heap.size w w' := by
  by_cases hM : M < 12 ∨ 120000 ≤ M
  · have e1 : monE ts t M = 1 := by unfold monE; rw [if_pos hM]
    have e2 : monV ts t M = [] := by unfold monV; rw [e1]; rfl
    rw [e1, e2]
    refine (cmonth_arg p t M w hM).mono ?_
    rintro e w' ⟨rfl, hb⟩
    exact ⟨_, rfl, GR.nil _, hb⟩
  · cases hf : tfind ts t with
    | none =>
      have e1 : monE ts t M = 4 := by unfold monE; rw [if_neg hM, hf]
      have e2 : monV ts t M = [] := by unfold monV; rw [e1]; rfl
      rw [e1, e2]
      refine (cmonth_no p b1 b2 m ps ts t M ht w h hT (by omega) (by omega) hf).mono ?_
      rintro e w' ⟨rfl, hb⟩
      exact ⟨_, rfl, GR.nil _, hb⟩
    | some T =>
      have e1 : monE ts t M = if upto T.L (Cal.first M + Cal.len M - 1) = [] then 4 else 0 := by unfold monE; rw [if_neg hM, hf]
      have e2 : monV ts t M = if upto T.L (Cal.first M + Cal.len M - 1) = [] then [] else monthL T.L M := by
        unfold monV; rw [e1]
        have hts : tsegs ts t = T.L := by unfold tsegs; rw [hf]; rfl
        by_cases hx : upto T.L (Cal.first M + Cal.len M - 1) = []
        · rw [if_pos hx, if_pos hx]; rfl
        · rw [if_neg hx, if_neg hx, if_pos rfl, hts]
      rw [e1, e2]
      exact cmonth_yes p b1 b2 m ps ts t M ht w h hT (by omega) (by omega) T hf
/-- a month's days: each segment's -/
def daysL (E : Int) : List Sg → List Int
  | [] => []
  | [g] => [max 0 (E - g.day)]
  | g :: h :: r => max 0 (h.day - g.day) :: daysL E (h :: r)
def dayAt (E : Int) (L : List Sg) (i : Nat) : Int := max 0 ((match L[i + 1]? with | some h => h.day | none => E) - (match L[i]? with | some g => g.day | none => E))
theorem daysL_get (E : Int) : ∀ (L : List Sg) (i : Nat), i < L.length → (daysL E L)[i]? = some (dayAt E L i)
  | [], i, h => by simp at h
  | [g], 0, _ => by simp [daysL, dayAt]
  | [g], i + 1, h => by simp at h
  | g :: h :: r, 0, _ => by simp [daysL, dayAt]
  | g :: h :: r, i + 1, hi => by
    have ih := daysL_get E (h :: r) i (by simpa using hi)
    unfold daysL
    rw [List.getElem?_cons_succ, ih]
    unfold dayAt
    simp
theorem daysL_len (E : Int) : ∀ L : List Sg, (daysL E L).length = L.length
  | [] => rfl
  | [g] => rfl
  | g :: h :: r => by
    unfold daysL
    rw [List.length_cons, daysL_len E (h :: r)]; rfl
def D60 (d : Int) : Prop := -1152921504606846976 ≤ d ∧ d ≤ 1152921504606846976
def shI : Sh Int := ⟨1, fun n => [.int .i64 n], fun _ => rfl, by decide, fun x u hu => by
  simp only [List.mem_cons, List.not_mem_nil, or_false] at hu
  subst hu; rfl⟩
theorem uI64 : Tryz.prog.underlying 74 = some (.slice 2) := by kernel_rfl
theorem iI64 : (Tryz.prog.info? 2).map (fun i => (i.zero, i.size, i.bytes)) = some (some (.int .i64 0), shI.sz, 8) := by kernel_rfl
def daysV (L : List Sg) (M : Int) : List Int := if M < 12 ∨ 120000 ≤ M then [] else daysL (Cal.first M + Cal.len M) L
theorem cdays_any (v : Value) (L : List Sg) (M : Int) (w : World) (hT : Tab w) (hv : GR shS w v L) (hl : L.length ≤ 1000000) (hd : ∀ g ∈ L, D60 g.day) :
    Calls Tryz.prog 26 #[v, .int .i64 M] w fun e w' => ∃ v', e = .returned v' ∧ GR shI w' v' (daysV L M) ∧ Below w.heap.size w w' := by
  obtain ⟨a, c, rfl, hlc, hcm, _⟩ := hv.shape
  by_cases hM : M < 12 ∨ 120000 ≤ M
  · rw [show daysV L M = [] by unfold daysV; rw [if_pos hM]]
    have HF := Lib.hid (first_no M hM w)
    clear hM hd hv
    go_enter Tryz.func26, Tryz.ntmps26
    go_wp2_with fail
    refine HF.out.mono ?_
    rintro e w1 ⟨rfl, hw⟩
    obtain rfl := hw.symm
    go_wp2
    go_ret
    exact ⟨_, rfl, GR.nil _, Below.refl _ _⟩
  · have h1 : 12 ≤ M := by omega
    have h2 : M < 120000 := by omega
    have hfb := first_bd M h1 h2
    have hlb := Cal.len_bd M
    have hdv : daysV L M = daysL (Cal.first M + Cal.len M) L := by unfold daysV; rw [if_neg hM]
    have HF := Lib.hid (first_yes M h1 h2 w hT)
    have HLN := Lib.hid fun (W : World) (hb : Below w.heap.size w W) => length_yes M h1 h2 W (hT.below hb (Nat.le_refl _))
    obtain ⟨F, hF⟩ : ∃ F, F = Cal.first M := ⟨_, rfl⟩
    obtain ⟨N, hN⟩ : ∃ N, N = Cal.len M := ⟨_, rfl⟩
    rw [← hF] at HF hfb hdv
    rw [← hN] at HLN hlb hdv
    rw [hdv]
    have x1 : wrap64 (F + N) = F + N := by unfold wrap64; omega
    have HD := Lib.hid hd
    have HV := Lib.hid hv
    have HG := Lib.hid (daysL_get (F + N) L)
    have hdl := daysL_len (F + N) L
    obtain ⟨D, hD⟩ : ∃ D, D = daysL (F + N) L := ⟨_, rfl⟩
    rw [← hD] at HG hdl ⊢
    have HDL := Lib.hid hdl
    clear hM hd hv hF hN hD hdv hdl
    go_enter Tryz.func26, Tryz.ntmps26
    go_wp2_with fail
    refine HF.out.mono ?_
    rintro e w1 ⟨rfl, hw⟩
    obtain rfl := hw.symm
    clear hw
    go_wp2_with fail
    go_loopw [7, 20] (fun v i wr => ∃ j : Nat, j ≤ L.length ∧ i = .int .i64 j ∧ Hid (wr.ownsRow w.heap.size 2 shI.sz v (D.take j).length (shI.cells (D.take j))) ∧ Hid (Below w.heap.size w wr)) (fun _ i _ => L.length - (intOf i).toNat)
    case atStart => exact ⟨0, by omega, rfl, Lib.hid (World.ownsRow_nil _ _ _ _), Lib.hid (Below.refl _ _)⟩
    case round =>
      obtain ⟨j, hj, rfl, HO, HB⟩ := hrel
      by_cases hlt : j < L.length
      · obtain ⟨x, hx⟩ : ∃ x, L[j]? = some x := ⟨_, List.getElem?_eq_getElem hlt⟩
        obtain ⟨g, off, cap', he, c0, c1⟩ := (HV.out.below HB.out).at2s hx
        injection he with he hx1 hx2
        subst he; subst hx2
        clear hx1
        have hxd := HD.out x (List.mem_of_getElem? hx)
        have hdj := HG.out j hlt
        have htk : D.take (j + 1) = D.take j ++ [dayAt (F + N) L j] := by rw [List.take_add_one, hdj]; rfl
        have hws := HB.out.size
        obtain ⟨dy, pl⟩ := x
        dsimp only at c0 c1 hxd
        unfold D60 at hxd
        obtain ⟨W, hW⟩ : ∃ W, W = wr.alloc (.cells #[.int .i64 dy, .int .u32 pl] 66) := ⟨_, rfl⟩
        have hbW : Below wr.heap.size wr W := by rw [hW]; exact (Below.refl _ _).alloc (Nat.le_refl _) _
        have hz : W.heap[wr.heap.size]? = some (.cells #[.int .i64 dy, .int .u32 pl] 66 (0, 0)) := by rw [hW]; exact blk_new _ _
        have z0 := blk_cell hz 0
        have HBW := Lib.hid (HB.out.trans (hbW.mono hws))
        have HOW := Lib.hid (rowS_below HO.out hbW)
        have HTK := Lib.hid htk
        have hlj : (D.take j).length ≤ 1000000 := by rw [List.length_take, HDL.out]; omega
        have hwW := HBW.out.size
        by_cases hlast : j + 1 < L.length
        · obtain ⟨y, hy⟩ : ∃ y, L[j + 1]? = some y := ⟨_, List.getElem?_eq_getElem hlast⟩
          obtain ⟨g', off', cap', he, d0, d1⟩ := (HV.out.below HBW.out).at2s hy
          injection he with he hx1 hx2
          injection he with he
          injection he with e1 e2
          subst e1; subst e2
          have hyd := HD.out y (List.mem_of_getElem? hy)
          have hda : dayAt (F + N) L j = max 0 (y.day - dy) := by unfold dayAt; rw [hx, hy]
          obtain ⟨ey, py⟩ := y
          dsimp only at d0 d1 hyd hda
          unfold D60 at hyd
          rw [hda] at HTK
          have i1 : (j : Int) < (L.length : Int) - 1 := by have := Int.ofNat_lt.2 hlast; push_cast at this; exact Int.lt_sub_right_of_add_lt this
          have i3 : (j : Int) + 1 < (L.length : Int) := Int.ofNat_lt.2 hlast
          clear hx hy hdj htk hz hbW hda hx1 hx2 hlast HO d1
          go_upto_region 8 with fail
          rw [← hW]
          clear hW c0 c1
          go_wp2_with fail
          refine (HLN.out _ HBW.out).mono ?_
          rintro e w4 ⟨rfl, hw⟩
          obtain rfl := hw.symm
          clear hw
          by_cases hlt2 : ey < dy
          · have hm : max 0 (ey - dy) = 0 := by omega
            rw [hm] at HTK
            clear hm hyd hxd
            go_wp2_with (at_builtin; go_must (refine wp_app_g 74 2 8 _ uI64 iI64 rfl (by decide) w.heap.size rfl _ _ rfl _ _ (D.take j) [0] rfl rfl (rowS_below HOW.out ((Below.refl _ _).alloc (Nat.le_refl _) _)) (GR.lit (S := shI) W _ [0] (by simp)) (by simp; omega) hlj (by simp) ?_; intro v6 w6 ho hk hat))
            have hba := HBW.out.alloc hwW (.cells #[.int .i64 (0)] 2)
            refine ⟨⟨j + 1, by omega, by go_num, by rw [HTK.out]; exact Lib.hid ho, Lib.hid (hba.trans (hk.below (B := w.heap.size) hba.size (fun i hi => (rowS_low HOW.out i hi).1)))⟩, by simp [intOf]; omega⟩
          · have hm : max 0 (ey - dy) = ey - dy := by omega
            have i4 : wrap64 (ey - dy) = ey - dy := by unfold wrap64; omega
            rw [hm] at HTK
            clear hm hyd hxd
            go_wp2_with (at_builtin; go_must (refine wp_app_g 74 2 8 _ uI64 iI64 rfl (by decide) w.heap.size rfl _ _ rfl _ _ (D.take j) [ey - dy] rfl rfl (rowS_below HOW.out ((Below.refl _ _).alloc (Nat.le_refl _) _)) (GR.lit (S := shI) W _ [ey - dy] (by simp)) (by simp; omega) hlj (by simp) ?_; intro v6 w6 ho hk hat))
            have hba := HBW.out.alloc hwW (.cells #[.int .i64 (ey - dy)] 2)
            refine ⟨⟨j + 1, by omega, by go_num, by rw [HTK.out]; exact Lib.hid ho, Lib.hid (hba.trans (hk.below (B := w.heap.size) hba.size (fun i hi => (rowS_low HOW.out i hi).1)))⟩, by simp [intOf]; omega⟩
        · have hda : dayAt (F + N) L j = max 0 (F + N - dy) := by unfold dayAt; rw [hx, List.getElem?_eq_none (by omega)]
          rw [hda] at HTK
          have i1 : ¬ (j : Int) < (L.length : Int) - 1 := by omega
          clear hx hdj htk hz hbW hda HO
          go_upto_region 8 with fail
          rw [← hW]
          clear hW c0 c1
          go_wp2_with fail
          refine (HLN.out _ HBW.out).mono ?_
          rintro e w4 ⟨rfl, hw⟩
          obtain rfl := hw.symm
          clear hw
          by_cases hlt2 : F + N < dy
          · have hm : max 0 (F + N - dy) = 0 := by omega
            rw [hm] at HTK
            clear hm hxd
            go_wp2_with (at_builtin; go_must (refine wp_app_g 74 2 8 _ uI64 iI64 rfl (by decide) w.heap.size rfl _ _ rfl _ _ (D.take j) [0] rfl rfl (rowS_below HOW.out ((Below.refl _ _).alloc (Nat.le_refl _) _)) (GR.lit (S := shI) W _ [0] (by simp)) (by simp; omega) hlj (by simp) ?_; intro v6 w6 ho hk hat))
            have hba := HBW.out.alloc hwW (.cells #[.int .i64 (0)] 2)
            refine ⟨⟨j + 1, by omega, by go_num, by rw [HTK.out]; exact Lib.hid ho, Lib.hid (hba.trans (hk.below (B := w.heap.size) hba.size (fun i hi => (rowS_low HOW.out i hi).1)))⟩, by simp [intOf]; omega⟩
          · have hm : max 0 (F + N - dy) = F + N - dy := by omega
            have i4 : wrap64 (F + N - dy) = F + N - dy := by unfold wrap64; omega
            rw [hm] at HTK
            clear hm hxd
            go_wp2_with (at_builtin; go_must (refine wp_app_g 74 2 8 _ uI64 iI64 rfl (by decide) w.heap.size rfl _ _ rfl _ _ (D.take j) [F + N - dy] rfl rfl (rowS_below HOW.out ((Below.refl _ _).alloc (Nat.le_refl _) _)) (GR.lit (S := shI) W _ [F + N - dy] (by simp)) (by simp; omega) hlj (by simp) ?_; intro v6 w6 ho hk hat))
            have hba := HBW.out.alloc hwW (.cells #[.int .i64 (F + N - dy)] 2)
            refine ⟨⟨j + 1, by omega, by go_num, by rw [HTK.out]; exact Lib.hid ho, Lib.hid (hba.trans (hk.below (B := w.heap.size) hba.size (fun i hi => (rowS_low HOW.out i hi).1)))⟩, by simp [intOf]; omega⟩
      · obtain rfl : j = L.length := by omega
        rw [List.take_of_length_le (by rw [HDL.out]; exact Nat.le_refl _)] at HO
        go_wp2_with fail
        go_ret
        exact ⟨_, rfl, GR.of_row HO.out, HB.out⟩
end Go.Proofs.YtidppalhjknlfaaGreatDoor
