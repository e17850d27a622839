/- quitrentlaw21: great, made. -/
import Derived.Test.YtidppalhjknlfaaDoorQGo21
import Derived.Test.YtidppalhjknlfaaDoorQIn21
namespace Go.Proofs.YtidppalhjknlfaaDoor
open Go.RowKit
set_option maxRecDepth 100000
set_option maxHeartbeats 2000000
set_option linter.unusedVariables false
set_option linter.unusedSimpArgs false
theorem GR.at12 {w : World} {v : Value} {L : List A21} (h : GR shA w v L) {i : Nat} {x : A21} (hx : L[i]? = some x) : ∃ g off cap, v = .slice (some ⟨g, off, none⟩) L.length cap ∧
    w.cell? ⟨g, off + i * 12, none⟩ = some (.int .u8 x.doo) ∧ w.cell? ⟨g, off + i * 12 + 1, none⟩ = some (.int .u32 x.P.id) ∧ w.cell? ⟨g, off + i * 12 + 2, none⟩ = some (.int .i64 x.P.daily) ∧ w.cell? ⟨g, off + i * 12 + 3, none⟩ = some (.int .i64 x.P.monthly) ∧ w.cell? ⟨g, off + i * 12 + 4, none⟩ = some (.int .i64 x.P.over) ∧ w.cell? ⟨g, off + i * 12 + 5, none⟩ = some (.int .i64 x.P.roll) ∧ w.cell? ⟨g, off + i * 12 + 6, none⟩ = some (.int .i64 x.P.base) ∧ w.cell? ⟨g, off + i * 12 + 7, none⟩ = some (.slice x.ta x.P.tiers.length x.tc) ∧ w.cell? ⟨g, off + i * 12 + 8, none⟩ = some (.int .u32 x.ten) ∧ w.cell? ⟨g, off + i * 12 + 9, none⟩ = some (.int .u32 x.id) ∧ w.cell? ⟨g, off + i * 12 + 10, none⟩ = some (.int .i64 x.shift) ∧ w.cell? ⟨g, off + i * 12 + 11, none⟩ = some (.int .i64 x.n) := by
  obtain ⟨g, off, cap, he, hc⟩ := h.at_ hx
  exact ⟨g, off, cap, he, hc 0 _ rfl, hc 1 _ rfl, hc 2 _ rfl, hc 3 _ rfl, hc 4 _ rfl, hc 5 _ rfl, hc 6 _ rfl, hc 7 _ rfl, hc 8 _ rfl, hc 9 _ rfl, hc 10 _ rfl, hc 11 _ rfl⟩
def big21 (x : A21) : Bool := decide (10 < x.P.tiers.length)
def greatB (l : List A21) : Bool := decide (100 < l.length) || l.any big21
theorem greatB_no {l : List A21} (h : greatB l = false) : l.length ≤ 100 := by
  unfold greatB at h
  rw [Bool.or_eq_false_iff, decide_eq_false_iff_not] at h
  omega
theorem great21_any (v : Value) (l : List A21) (w : World) (hv : GR shA w v l) :
    Calls Tryd.prog 11 #[v] w fun e w' => e = .returned (.bool (greatB l)) ∧ w' = w := by
  obtain ⟨a, c, rfl, hlc, hcm, _⟩ := hv.shape
  have HV := Lib.hid hv
  obtain ⟨R, hR⟩ : ∃ R, R = greatB l := ⟨_, rfl⟩
  rw [← hR]
  have HR := Lib.hid hR
  clear hv hR
  go_enter Tryd.func11, Tryd.ntmps11
  go_wp2_with fail
  go_loop [3] (fun i => ∃ j : Nat, j ≤ l.length ∧ j ≤ 101 ∧ i = .int .i64 j ∧ Hid (∀ (i : Nat) x, i < j → l[i]? = some x → big21 x = false)) (fun i => 101 - (intOf i).toNat)
  case atStart => exact ⟨0, by omega, by omega, rfl, Lib.hid (by simp)⟩
  case round =>
    obtain ⟨j, hj, hj2, rfl, HA⟩ := hrel
    by_cases hlt : j < l.length
    · by_cases h101 : j < 101
      · obtain ⟨x, hx⟩ : ∃ x, l[j]? = some x := ⟨_, List.getElem?_eq_getElem hlt⟩
        obtain ⟨g, off, cap', he, c0, c1, c2, c3, c4, c5, c6, c7, c8, c9, c10, c11⟩ := HV.out.at12 hx
        injection he with he hx1 hx2
        subst he; subst hx2
        have i1 : (j : Int) < (l.length : Int) := by omega
        have i2 : (j : Int) < 101 := by omega
        have HX := Lib.hid hx
        obtain ⟨n, hn⟩ : ∃ n, n = x.P.tiers.length := ⟨_, rfl⟩
        rw [← hn] at c7
        have HN := Lib.hid hn
        clear hx1 hx c0 c1 c2 c3 c4 c5 c6 c8 c9 c10 c11 hn
        by_cases h10 : (n : Int) > 10
        · have hR2 : R = true := by
            rw [HR.out]; unfold greatB
            rw [Bool.or_eq_true]
            refine .inr (List.any_eq_true.2 ⟨x, List.mem_of_getElem? HX.out, ?_⟩)
            unfold big21; rw [← HN.out]; exact decide_eq_true (by omega)
          subst hR2
          go_wp2_with fail
          go_ret
          exact ⟨rfl, rfl⟩
        · have HS := Lib.hid (show big21 x = false by unfold big21; rw [← HN.out]; exact decide_eq_false (by omega))
          go_wp2_with fail
          go_round
          case rel =>
            refine ⟨j + 1, by omega, by omega, by go_num, Lib.hid (fun i' y a b => ?_)⟩
            by_cases hji : i' = j
            · subst hji; rw [HX.out] at b; cases b; exact HS.out
            · exact HA.out i' y (by omega) b
          case measure => simp [intOf]; omega
      · obtain rfl : j = 101 := by omega
        have i1 : (101 : Int) < (l.length : Int) := by omega
        have i2 : (l.length : Int) > 100 := by omega
        have hR2 : R = true := by rw [HR.out]; unfold greatB; rw [decide_eq_true (by omega)]; rfl
        subst hR2
        go_wp2_with fail
        go_ret
        exact ⟨rfl, rfl⟩
    · obtain rfl : j = l.length := by omega
      by_cases h1 : (l.length : Int) > 100
      · have hR2 : R = true := by rw [HR.out]; unfold greatB; rw [decide_eq_true (by omega)]; rfl
        subst hR2
        go_wp2_with fail
        go_ret
        exact ⟨rfl, rfl⟩
      · have hR2 : R = false := by
          rw [HR.out]; unfold greatB
          rw [decide_eq_false (by omega), Bool.false_or, List.any_eq_false]
          intro x hx
          obtain ⟨i, hi, he⟩ := List.mem_iff_getElem.1 hx
          have := HA.out i x hi (by rw [List.getElem?_eq_getElem hi, he])
          simp [this]
        subst hR2
        go_wp2_with fail
        go_ret
        exact ⟨rfl, rfl⟩
/-- what an act leaves -/
def stepB (b : List Pl × List Tn) (x : A21) : List Pl × List Tn :=
  if x.doo % 3 = 0 then (defP b.1 x.P, b.2) else if x.doo % 3 = 1 then (b.1, opnT b.1 b.2 x.ten x.shift x.id x.n) else (b.1, chgT b.1 b.2 x.ten x.id x.n)
def madeB (l : List A21) : List Pl × List Tn := l.foldl stepB (ps12, [])
theorem madeB_snoc (l : List A21) (x : A21) : madeB (l ++ [x]) = stepB (madeB l) x := by unfold madeB; rw [List.foldl_append]; rfl
theorem made21_any (v : Value) (l : List A21) (w : World) (hT : Tab w) (hv : AS21 w v l) (hl : l.length ≤ 100) :
    Calls Tryd.prog 12 #[v] w fun e w' => ∃ p b1 b2, e = .returned (.iface 60 (.pointer (some ⟨p, 0, none⟩))) ∧ w.heap.size ≤ b1 ∧ CB w' p b1 b2 (madeB l).1 (madeB l).2 (2 + 2 * l.length) ∧ Below w.heap.size w w' := by
  obtain ⟨a, c, rfl, hlc, hcm, _⟩ := hv.1.shape
  have HV := Lib.hid hv
  have HT := Lib.hid hT
  have D0 := Lib.hid defp_any
  have P0 := Lib.hid plan_any
  clear hv hT
  go_enter Tryd.func12, Tryd.ntmps12
  go_wp2_with fail
  refine (new_any (-1) _).mono ?_
  rintro e w1 ⟨p, b1, b2, rfl, hp, hb1, hb2, hm, hb⟩
  have H1 := Lib.hid (show CB w1 p b1 b2 [] [] 0 from ⟨[], hm, CS.nil, St.nil, by decide⟩)
  have HB1 := Lib.hid hb
  have HP := Lib.hid hb1
  clear hm hb hp hb1 hb2
  unfold pV
  go_wp2_with fail
  refine (P0.out 1 w1).mono ?_
  rintro e w2 ⟨a2, c2, rfl, hg, hb⟩
  have G2 := Lib.hid hg
  have HB2 := Lib.hid (HB1.out.trans (hb.mono HB1.out.size))
  have H2 := Lib.hid (H1.out.below hb)
  clear hg hb H1
  go_wp2_with fail
  refine (D0.out p b1 b2 0 [] [] 1 (by decide) rfl a2 c2 w2 H2.out (by decide) G2.out).mono ?_
  rintro e w3 ⟨rfl, h, hk⟩
  have H3 := Lib.hid h
  have HB3 := Lib.hid (HB2.out.trans (hk.below (B := w.heap.size) HB2.out.size (fun i hi => by subst hi; exact HP.out)))
  clear h hk H2 G2
  go_wp2_with fail
  refine (P0.out 2 w3).mono ?_
  rintro e w4 ⟨a4, c4, rfl, hg, hb⟩
  have G4 := Lib.hid hg
  have HB4 := Lib.hid (HB3.out.trans (hb.mono HB3.out.size))
  have H4 := Lib.hid (H3.out.below hb)
  clear hg hb H3
  go_wp2_with fail
  refine (D0.out p b1 b2 1 [planP 1] [] 2 (by decide) rfl a4 c4 w4 H4.out (by decide) G4.out).mono ?_
  rintro e w5 ⟨rfl, h, hk⟩
  have H5 := Lib.hid (show CB w5 p b1 b2 (madeB (l.take 0)).1 (madeB (l.take 0)).2 (2 + 2 * 0) from h)
  have HB5 := Lib.hid (HB4.out.trans (hk.below (B := w.heap.size) HB4.out.size (fun i hi => by subst hi; exact HP.out)))
  clear h hk H4 G4
  go_wp2_with fail
  go_loopw [4] (fun i wr => ∃ j : Nat, j ≤ l.length ∧ i = .int .i64 j ∧ Hid (CB wr p b1 b2 (madeB (l.take j)).1 (madeB (l.take j)).2 (2 + 2 * j)) ∧ Hid (Below w.heap.size w wr)) (fun i _ => l.length - (intOf i).toNat)
  case atStart => exact ⟨0, by omega, rfl, H5, HB5⟩
  case round =>
    clear H5 HB5
    obtain ⟨j, hj, rfl, HH, HB⟩ := hrel
    by_cases hlt : j < l.length
    · obtain ⟨x, hx⟩ : ∃ x, l[j]? = some x := ⟨_, List.getElem?_eq_getElem hlt⟩
      have hv := HV.out.below HB.out
      obtain ⟨g, off, cap', he, c0, c1, c2, c3, c4, c5, c6, c7, c8, c9, c10, c11⟩ := hv.1.at12 hx
      injection he with he hx1 hx2
      subst he; subst hx2
      have hok := hv.2 x (List.mem_of_getElem? hx)
      have hgl : g < w.heap.size := by
        obtain ⟨g0, off0, cap0, he0, hc0⟩ := HV.out.1.at_ hx
        injection he0 with he0 _ _
        injection he0 with he0
        injection he0 with e1 _
        subst e1
        exact World.block_lt_of_cell? w _ (hc0 0 _ rfl)
      have hgb : g ≠ b1 := by have := HP.out; omega
      have htk : l.take (j + 1) = l.take j ++ [x] := by rw [List.take_add_one, hx]; rfl
      have hsn := madeB_snoc (l.take j) x
      rw [← htk] at hsn
      have hdo := hok.doo
      obtain ⟨d, hd⟩ : ∃ d, d = x.doo % 3 := ⟨_, rfl⟩
      have hdd : d = 0 ∨ d = 1 ∨ d = 2 := by omega
      have hdm : x.doo.tmod 3 = d := by rw [Int.tmod_eq_emod_of_nonneg (by omega), hd]
      unfold stepB at hsn
      rw [← hd] at hsn
      obtain ⟨ps, hps⟩ : ∃ ps, ps = (madeB (l.take j)).1 := ⟨_, rfl⟩
      obtain ⟨ts, hts⟩ : ∃ ts, ts = (madeB (l.take j)).2 := ⟨_, rfl⟩
      rw [← hps, ← hts] at HH hsn
      have HOK := Lib.hid hok
      have hws := HB.out.size
      have HTW := Lib.hid (HT.out.below HB.out (Nat.le_refl _))
      clear hx1 hx htk hv hd hps hts hok hdo
      rcases hdd with rfl | rfl | rfl
      · rw [if_pos rfl] at hsn
        have HSN := Lib.hid hsn
        have hdef := cdef_any p b1 b2 (2 + 2 * j) ps ts x.P HOK.out.P (.slice x.ta x.P.tiers.length x.tc) wr HH.out (by omega) HOK.out.tiers
        unfold sV pV Pl.val at hdef
        have HDF := Lib.hid hdef
        clear hsn hdef
        go_wp2_with fail
        refine HDF.out.mono ?_
        rintro e w6 ⟨rfl, h, hk⟩
        have H6 := Lib.hid (h.mono (m' := 2 + 2 * (j + 1)) (by omega) (by omega))
        have HB6 := Lib.hid (HB.out.trans (hk.below (B := w.heap.size) hws (fun i hi => by subst hi; exact HP.out)))
        clear h hk
        go_wp2_with fail
        refine ⟨⟨j + 1, by omega, by go_num, by rw [HSN.out]; exact H6, HB6⟩, by simp [intOf]; omega⟩
      · rw [if_neg (by decide), if_pos rfl] at hsn
        have HSN := Lib.hid hsn
        have hop := fun (W : World) (hb : Below wr.heap.size wr W) => copn_any p b1 b2 (2 + 2 * j) ps ts x.ten x.shift x.id x.n HOK.out.ten HOK.out.id W (HH.out.below hb) (by omega) (HTW.out.below hb (Nat.le_refl _))
        unfold sV pV at hop
        have HOP := Lib.hid hop
        have C0 := Lib.hid (show wr.drew.cell? ⟨g, off + j * 12 + 8, none⟩ = some (.int .u32 x.ten) ∧ wr.drew.cell? ⟨g, off + j * 12 + 10, none⟩ = some (.int .i64 x.shift) ∧ wr.drew.cell? ⟨g, off + j * 12 + 9, none⟩ = some (.int .u32 x.id) ∧ wr.drew.cell? ⟨g, off + j * 12 + 11, none⟩ = some (.int .i64 x.n) from ⟨c8, c10, c9, c11⟩)
        clear hsn hop c1 c2 c3 c4 c5 c6 c7 c8 c9 c10 c11
        go_upto_region 11 with fail
        clear c0
        refine wp_region_held_drew (S := (fun w' => w'.cell? ⟨g, off + j * 12 + 8, none⟩ = some (.int .u32 x.ten) ∧ w'.cell? ⟨g, off + j * 12 + 10, none⟩ = some (.int .i64 x.shift) ∧ w'.cell? ⟨g, off + j * 12 + 9, none⟩ = some (.int .u32 x.id) ∧ w'.cell? ⟨g, off + j * 12 + 11, none⟩ = some (.int .i64 x.n))) (by kernel_rfl) ?_ (fun hHeld0 => ?_)
        · (try dsimp only)
          first | with_reducible exact C0.out | with_reducible exact C1.out
        refine takeN (v := ?_) 0 rfl (by kernel_rfl) (by kernel_rfl) (by kernel_rfl) (fun _ _ _ h => h) (by rfl) ?_ hHeld0 ?_
        rotate_left
        · intro w hSw; (try dsimp only at hSw); go_simp; with_reducible rfl
        try simp only [Act.put, List.setIfInBounds_toArray, List.set_cons_zero, List.set_cons_succ]
        refine takeN (v := ?_) 1 rfl (by kernel_rfl) (by kernel_rfl) (by kernel_rfl) (fun _ _ _ h => h) (by rfl) ?_ hHeld0 ?_
        rotate_left
        · intro w hSw; (try dsimp only at hSw); go_simp; with_reducible rfl
        try simp only [Act.put, List.setIfInBounds_toArray, List.set_cons_zero, List.set_cons_succ]
        refine takeN (v := ?_) 2 rfl (by kernel_rfl) (by kernel_rfl) (by kernel_rfl) (fun _ _ _ h => h) (by rfl) ?_ hHeld0 ?_
        rotate_left
        · intro w hSw; (try dsimp only at hSw); go_simp; with_reducible rfl
        try simp only [Act.put, List.setIfInBounds_toArray, List.set_cons_zero, List.set_cons_succ]
        refine takeN (v := ?_) 3 rfl (by kernel_rfl) (by kernel_rfl) (by kernel_rfl) (fun _ _ _ h => h) (by rfl) ?_ hHeld0 ?_
        rotate_left
        · intro w hSw; (try dsimp only at hSw); go_simp; with_reducible rfl
        try simp only [Act.put, List.setIfInBounds_toArray, List.set_cons_zero, List.set_cons_succ]
        refine takeN (v := ?_) 4 rfl (by kernel_rfl) (by kernel_rfl) (by kernel_rfl) (fun _ _ _ h => h) (by rfl) ?_ hHeld0 ?_
        rotate_left
        · intro w hSw; (try dsimp only at hSw); go_simp; with_reducible rfl
        try simp only [Act.put, List.setIfInBounds_toArray, List.set_cons_zero, List.set_cons_succ]
        refine takeN (v := ?_) 5 rfl (by kernel_rfl) (by kernel_rfl) (by kernel_rfl) (fun _ _ _ h => h) (by rfl) ?_ hHeld0 ?_
        rotate_left
        · intro w hSw; (try dsimp only at hSw); go_simp; with_reducible rfl
        try simp only [Act.put, List.setIfInBounds_toArray, List.set_cons_zero, List.set_cons_succ]
        refine takeN (v := ?_) 6 rfl (by kernel_rfl) (by kernel_rfl) (by kernel_rfl) (fun _ _ _ h => h) (by rfl) ?_ hHeld0 ?_
        rotate_left
        · intro w hSw; (try dsimp only at hSw); go_simp; with_reducible rfl
        try simp only [Act.put, List.setIfInBounds_toArray, List.set_cons_zero, List.set_cons_succ]
        refine takeN (v := ?_) 7 rfl (by kernel_rfl) (by kernel_rfl) (by kernel_rfl) (fun _ _ _ h => h) (by rfl) ?_ hHeld0 ?_
        rotate_left
        · intro w hSw; (try dsimp only at hSw); go_simp; with_reducible rfl
        try simp only [Act.put, List.setIfInBounds_toArray, List.set_cons_zero, List.set_cons_succ]
        refine takeN (v := ?_) 8 rfl (by kernel_rfl) (by kernel_rfl) (by kernel_rfl) (fun _ _ _ h => h) (by rfl) ?_ hHeld0 ?_
        rotate_left
        · intro w hSw; (try dsimp only at hSw); go_simp; with_reducible rfl
        try simp only [Act.put, List.setIfInBounds_toArray, List.set_cons_zero, List.set_cons_succ]
        refine takeN (v := ?_) 9 rfl (by kernel_rfl) (by kernel_rfl) (by kernel_rfl) (fun _ _ _ h => h) (by rfl) ?_ hHeld0 ?_
        rotate_left
        · intro w hSw; (try dsimp only at hSw); go_simp; with_reducible rfl
        try simp only [Act.put, List.setIfInBounds_toArray, List.set_cons_zero, List.set_cons_succ]
        refine takeN (v := ?_) 10 rfl (by kernel_rfl) (by kernel_rfl) (by kernel_rfl) (fun _ _ _ h => h) (by rfl) ?_ hHeld0 ?_
        rotate_left
        · intro w hSw; (try dsimp only at hSw); go_simp; with_reducible rfl
        try simp only [Act.put, List.setIfInBounds_toArray, List.set_cons_zero, List.set_cons_succ]
        refine takeN (v := ?_) 11 rfl (by kernel_rfl) (by kernel_rfl) (by kernel_rfl) (fun _ _ _ h => h) (by rfl) ?_ hHeld0 ?_
        rotate_left
        · intro w hSw; (try dsimp only at hSw); go_simp; with_reducible rfl
        try simp only [Act.put, List.setIfInBounds_toArray, List.set_cons_zero, List.set_cons_succ]
        refine takeN (v := ?_) 12 rfl (by kernel_rfl) (by kernel_rfl) (by kernel_rfl) (fun _ _ _ h => h) (by rfl) ?_ hHeld0 ?_
        rotate_left
        · intro w hSw; (try dsimp only at hSw); go_simp; with_reducible rfl
        try simp only [Act.put, List.setIfInBounds_toArray, List.set_cons_zero, List.set_cons_succ]
        refine takeN (v := ?_) 13 rfl (by kernel_rfl) (by kernel_rfl) (by kernel_rfl) (fun _ _ _ h => h) (by rfl) ?_ hHeld0 ?_
        rotate_left
        · intro w hSw; (try dsimp only at hSw); go_simp; with_reducible rfl
        try simp only [Act.put, List.setIfInBounds_toArray, List.set_cons_zero, List.set_cons_succ]
        refine takeN (v := ?_) 14 rfl (by kernel_rfl) (by kernel_rfl) (by kernel_rfl) (fun _ _ _ h => h) (by rfl) ?_ hHeld0 ?_
        rotate_left
        · intro w hSw; (try dsimp only at hSw); go_simp; with_reducible rfl
        try simp only [Act.put, List.setIfInBounds_toArray, List.set_cons_zero, List.set_cons_succ]
        refine takeN (v := ?_) 15 rfl (by kernel_rfl) (by kernel_rfl) (by kernel_rfl) (fun _ _ _ h => h) (by rfl) ?_ hHeld0 ?_
        rotate_left
        · intro w hSw; (try dsimp only at hSw); go_simp; with_reducible rfl
        try simp only [Act.put, List.setIfInBounds_toArray, List.set_cons_zero, List.set_cons_succ]
        refine takeN (v := ?_) 16 rfl (by kernel_rfl) (by kernel_rfl) (by kernel_rfl) (fun _ _ _ h => h) (by rfl) ?_ hHeld0 ?_
        rotate_left
        · intro w hSw; (try dsimp only at hSw); go_simp; with_reducible rfl
        try simp only [Act.put, List.setIfInBounds_toArray, List.set_cons_zero, List.set_cons_succ]
        refine takeN (v := ?_) 17 rfl (by kernel_rfl) (by kernel_rfl) (by kernel_rfl) (fun _ _ _ h => h) (by rfl) ?_ hHeld0 ?_
        rotate_left
        · intro w hSw; (try dsimp only at hSw); go_simp; with_reducible rfl
        try simp only [Act.put, List.setIfInBounds_toArray, List.set_cons_zero, List.set_cons_succ]
        refine takeN (v := ?_) 18 rfl (by kernel_rfl) (by kernel_rfl) (by kernel_rfl) (fun _ _ _ h => h) (by rfl) ?_ hHeld0 ?_
        rotate_left
        · intro w hSw; (try dsimp only at hSw); go_simp; with_reducible rfl
        try simp only [Act.put, List.setIfInBounds_toArray, List.set_cons_zero, List.set_cons_succ]
        refine takeN (v := ?_) 19 rfl (by kernel_rfl) (by kernel_rfl) (by kernel_rfl) (fun _ _ _ h => h) (by rfl) ?_ hHeld0 ?_
        rotate_left
        · intro w hSw; (try dsimp only at hSw); go_simp; with_reducible rfl
        try simp only [Act.put, List.setIfInBounds_toArray, List.set_cons_zero, List.set_cons_succ]
        refine takeN (v := ?_) 20 rfl (by kernel_rfl) (by kernel_rfl) (by kernel_rfl) (fun _ _ _ h => h) (by rfl) ?_ hHeld0 ?_
        rotate_left
        · intro w hSw; (try dsimp only at hSw); go_simp; with_reducible rfl
        try simp only [Act.put, List.setIfInBounds_toArray, List.set_cons_zero, List.set_cons_succ]
        refine takeN (v := ?_) 21 rfl (by kernel_rfl) (by kernel_rfl) (by kernel_rfl) (fun _ _ _ h => h) (by rfl) ?_ hHeld0 ?_
        rotate_left
        · intro w hSw; (try dsimp only at hSw); go_simp; with_reducible rfl
        try simp only [Act.put, List.setIfInBounds_toArray, List.set_cons_zero, List.set_cons_succ]
        refine wpAnyH_ready (rs := [22]) (by kernel_rfl) (by simp) ?_
        refine readyN rfl (fun K hK => ?_) ?_
        · -- operation 22
          go_simp
          (go_at_call 20; refine (HOP.out _ ((Below.refl _ _).drew)).mono ?_; rintro e w6 ⟨rfl, h, hk⟩
           have C1 := Lib.hid (show w6.cell? ⟨g, off + j * 12 + 8, none⟩ = some (.int .u32 x.ten) ∧ w6.cell? ⟨g, off + j * 12 + 10, none⟩ = some (.int .i64 x.shift) ∧ w6.cell? ⟨g, off + j * 12 + 9, none⟩ = some (.int .u32 x.id) ∧ w6.cell? ⟨g, off + j * 12 + 11, none⟩ = some (.int .i64 x.n) by
             exact ⟨hk.cell C0.out.1 hgb, hk.cell C0.out.2.1 hgb, hk.cell C0.out.2.2.1 hgb, hk.cell C0.out.2.2.2 hgb⟩)
           have H6 := Lib.hid (h.mono (m' := 2 + 2 * (j + 1)) (by omega) (by omega))
           have HB6 := Lib.hid ((HB.out.drew).trans (hk.below (B := w.heap.size) hws (fun i hi => by subst hi; exact HP.out)))
           clear h hk)
          go_wp2_with fail
          refine hK.out _ _ ?_ (fun hHeld1 => ?_)
          · (try dsimp only)
            first | with_reducible exact C0.out | with_reducible exact C1.out
          clear hK K hHeld0
          try simp only [Act.put, List.setIfInBounds_toArray, List.set_cons_zero, List.set_cons_succ]
          refine wpAnyH_done (by kernel_rfl) ?_ _
          go_wp2_with fail
          refine ⟨⟨j + 1, by omega, by go_num, by rw [HSN.out]; exact H6, HB6⟩, by simp [intOf]; omega⟩
        exact AllReadyH.nil
      · rw [if_neg (by decide), if_neg (by decide)] at hsn
        have HSN := Lib.hid hsn
        have hop := fun (W : World) (hb : Below wr.heap.size wr W) => cchg_any p b1 b2 (2 + 2 * j) ps ts x.ten x.id x.n HOK.out.ten HOK.out.id W (HH.out.below hb) (by omega) (HTW.out.below hb (Nat.le_refl _))
        unfold sV pV at hop
        have HOP := Lib.hid hop
        have C0 := Lib.hid (show wr.drew.cell? ⟨g, off + j * 12 + 8, none⟩ = some (.int .u32 x.ten) ∧ wr.drew.cell? ⟨g, off + j * 12 + 9, none⟩ = some (.int .u32 x.id) ∧ wr.drew.cell? ⟨g, off + j * 12 + 11, none⟩ = some (.int .i64 x.n) from ⟨c8, c9, c11⟩)
        clear hsn hop c1 c2 c3 c4 c5 c6 c7 c8 c9 c10 c11
        go_upto_region 13 with fail
        clear c0
        refine wp_region_held_drew (S := (fun w' => w'.cell? ⟨g, off + j * 12 + 8, none⟩ = some (.int .u32 x.ten) ∧ w'.cell? ⟨g, off + j * 12 + 9, none⟩ = some (.int .u32 x.id) ∧ w'.cell? ⟨g, off + j * 12 + 11, none⟩ = some (.int .i64 x.n))) (by kernel_rfl) ?_ (fun hHeld0 => ?_)
        · (try dsimp only)
          first | with_reducible exact C0.out | with_reducible exact C1.out
        refine takeN (v := ?_) 0 rfl (by kernel_rfl) (by kernel_rfl) (by kernel_rfl) (fun _ _ _ h => h) (by rfl) ?_ hHeld0 ?_
        rotate_left
        · intro w hSw; (try dsimp only at hSw); go_simp; with_reducible rfl
        try simp only [Act.put, List.setIfInBounds_toArray, List.set_cons_zero, List.set_cons_succ]
        refine takeN (v := ?_) 1 rfl (by kernel_rfl) (by kernel_rfl) (by kernel_rfl) (fun _ _ _ h => h) (by rfl) ?_ hHeld0 ?_
        rotate_left
        · intro w hSw; (try dsimp only at hSw); go_simp; with_reducible rfl
        try simp only [Act.put, List.setIfInBounds_toArray, List.set_cons_zero, List.set_cons_succ]
        refine takeN (v := ?_) 2 rfl (by kernel_rfl) (by kernel_rfl) (by kernel_rfl) (fun _ _ _ h => h) (by rfl) ?_ hHeld0 ?_
        rotate_left
        · intro w hSw; (try dsimp only at hSw); go_simp; with_reducible rfl
        try simp only [Act.put, List.setIfInBounds_toArray, List.set_cons_zero, List.set_cons_succ]
        refine takeN (v := ?_) 3 rfl (by kernel_rfl) (by kernel_rfl) (by kernel_rfl) (fun _ _ _ h => h) (by rfl) ?_ hHeld0 ?_
        rotate_left
        · intro w hSw; (try dsimp only at hSw); go_simp; with_reducible rfl
        try simp only [Act.put, List.setIfInBounds_toArray, List.set_cons_zero, List.set_cons_succ]
        refine takeN (v := ?_) 4 rfl (by kernel_rfl) (by kernel_rfl) (by kernel_rfl) (fun _ _ _ h => h) (by rfl) ?_ hHeld0 ?_
        rotate_left
        · intro w hSw; (try dsimp only at hSw); go_simp; with_reducible rfl
        try simp only [Act.put, List.setIfInBounds_toArray, List.set_cons_zero, List.set_cons_succ]
        refine takeN (v := ?_) 5 rfl (by kernel_rfl) (by kernel_rfl) (by kernel_rfl) (fun _ _ _ h => h) (by rfl) ?_ hHeld0 ?_
        rotate_left
        · intro w hSw; (try dsimp only at hSw); go_simp; with_reducible rfl
        try simp only [Act.put, List.setIfInBounds_toArray, List.set_cons_zero, List.set_cons_succ]
        refine takeN (v := ?_) 6 rfl (by kernel_rfl) (by kernel_rfl) (by kernel_rfl) (fun _ _ _ h => h) (by rfl) ?_ hHeld0 ?_
        rotate_left
        · intro w hSw; (try dsimp only at hSw); go_simp; with_reducible rfl
        try simp only [Act.put, List.setIfInBounds_toArray, List.set_cons_zero, List.set_cons_succ]
        refine takeN (v := ?_) 7 rfl (by kernel_rfl) (by kernel_rfl) (by kernel_rfl) (fun _ _ _ h => h) (by rfl) ?_ hHeld0 ?_
        rotate_left
        · intro w hSw; (try dsimp only at hSw); go_simp; with_reducible rfl
        try simp only [Act.put, List.setIfInBounds_toArray, List.set_cons_zero, List.set_cons_succ]
        refine takeN (v := ?_) 8 rfl (by kernel_rfl) (by kernel_rfl) (by kernel_rfl) (fun _ _ _ h => h) (by rfl) ?_ hHeld0 ?_
        rotate_left
        · intro w hSw; (try dsimp only at hSw); go_simp; with_reducible rfl
        try simp only [Act.put, List.setIfInBounds_toArray, List.set_cons_zero, List.set_cons_succ]
        refine takeN (v := ?_) 9 rfl (by kernel_rfl) (by kernel_rfl) (by kernel_rfl) (fun _ _ _ h => h) (by rfl) ?_ hHeld0 ?_
        rotate_left
        · intro w hSw; (try dsimp only at hSw); go_simp; with_reducible rfl
        try simp only [Act.put, List.setIfInBounds_toArray, List.set_cons_zero, List.set_cons_succ]
        refine takeN (v := ?_) 10 rfl (by kernel_rfl) (by kernel_rfl) (by kernel_rfl) (fun _ _ _ h => h) (by rfl) ?_ hHeld0 ?_
        rotate_left
        · intro w hSw; (try dsimp only at hSw); go_simp; with_reducible rfl
        try simp only [Act.put, List.setIfInBounds_toArray, List.set_cons_zero, List.set_cons_succ]
        refine takeN (v := ?_) 11 rfl (by kernel_rfl) (by kernel_rfl) (by kernel_rfl) (fun _ _ _ h => h) (by rfl) ?_ hHeld0 ?_
        rotate_left
        · intro w hSw; (try dsimp only at hSw); go_simp; with_reducible rfl
        try simp only [Act.put, List.setIfInBounds_toArray, List.set_cons_zero, List.set_cons_succ]
        refine takeN (v := ?_) 12 rfl (by kernel_rfl) (by kernel_rfl) (by kernel_rfl) (fun _ _ _ h => h) (by rfl) ?_ hHeld0 ?_
        rotate_left
        · intro w hSw; (try dsimp only at hSw); go_simp; with_reducible rfl
        try simp only [Act.put, List.setIfInBounds_toArray, List.set_cons_zero, List.set_cons_succ]
        refine takeN (v := ?_) 13 rfl (by kernel_rfl) (by kernel_rfl) (by kernel_rfl) (fun _ _ _ h => h) (by rfl) ?_ hHeld0 ?_
        rotate_left
        · intro w hSw; (try dsimp only at hSw); go_simp; with_reducible rfl
        try simp only [Act.put, List.setIfInBounds_toArray, List.set_cons_zero, List.set_cons_succ]
        refine takeN (v := ?_) 14 rfl (by kernel_rfl) (by kernel_rfl) (by kernel_rfl) (fun _ _ _ h => h) (by rfl) ?_ hHeld0 ?_
        rotate_left
        · intro w hSw; (try dsimp only at hSw); go_simp; with_reducible rfl
        try simp only [Act.put, List.setIfInBounds_toArray, List.set_cons_zero, List.set_cons_succ]
        refine takeN (v := ?_) 15 rfl (by kernel_rfl) (by kernel_rfl) (by kernel_rfl) (fun _ _ _ h => h) (by rfl) ?_ hHeld0 ?_
        rotate_left
        · intro w hSw; (try dsimp only at hSw); go_simp; with_reducible rfl
        try simp only [Act.put, List.setIfInBounds_toArray, List.set_cons_zero, List.set_cons_succ]
        refine takeN (v := ?_) 16 rfl (by kernel_rfl) (by kernel_rfl) (by kernel_rfl) (fun _ _ _ h => h) (by rfl) ?_ hHeld0 ?_
        rotate_left
        · intro w hSw; (try dsimp only at hSw); go_simp; with_reducible rfl
        try simp only [Act.put, List.setIfInBounds_toArray, List.set_cons_zero, List.set_cons_succ]
        refine wpAnyH_ready (rs := [17]) (by kernel_rfl) (by simp) ?_
        refine readyN rfl (fun K hK => ?_) ?_
        · -- operation 17
          go_simp
          (go_at_call 21; refine (HOP.out _ ((Below.refl _ _).drew)).mono ?_; rintro e w6 ⟨rfl, h, hk⟩
           have C1 := Lib.hid (show w6.cell? ⟨g, off + j * 12 + 8, none⟩ = some (.int .u32 x.ten) ∧ w6.cell? ⟨g, off + j * 12 + 9, none⟩ = some (.int .u32 x.id) ∧ w6.cell? ⟨g, off + j * 12 + 11, none⟩ = some (.int .i64 x.n) by
             exact ⟨hk.cell C0.out.1 hgb, hk.cell C0.out.2.1 hgb, hk.cell C0.out.2.2 hgb⟩)
           have H6 := Lib.hid (h.mono (m' := 2 + 2 * (j + 1)) (by omega) (by omega))
           have HB6 := Lib.hid ((HB.out.drew).trans (hk.below (B := w.heap.size) hws (fun i hi => by subst hi; exact HP.out)))
           clear h hk)
          go_wp2_with fail
          refine hK.out _ _ ?_ (fun hHeld1 => ?_)
          · (try dsimp only)
            first | with_reducible exact C0.out | with_reducible exact C1.out
          clear hK K hHeld0
          try simp only [Act.put, List.setIfInBounds_toArray, List.set_cons_zero, List.set_cons_succ]
          refine wpAnyH_done (by kernel_rfl) ?_ _
          go_wp2_with fail
          refine ⟨⟨j + 1, by omega, by go_num, by rw [HSN.out]; exact H6, HB6⟩, by simp [intOf]; omega⟩
        exact AllReadyH.nil
    · obtain rfl : j = l.length := by omega
      rw [List.take_length] at HH
      go_wp2_with fail
      go_ret
      exact ⟨p, b1, b2, rfl, HP.out, HH.out, HB.out⟩
end Go.Proofs.YtidppalhjknlfaaDoor
