/- quitrentlaw21.one: At. quitrentlaw21.one: Month. -/
import Derived.Test.YtidppalhjknlfaaGreatDoorQMBkOne1
namespace Go.Proofs.YtidppalhjknlfaaGreatDoor
open Go.RowKit
set_option maxRecDepth 100000
set_option maxHeartbeats 4000000
set_option linter.unusedVariables false
set_option linter.unusedSimpArgs false
theorem one_3 (base p b1 b2 q m : Nat) (w : World) (pv tv : Value) (ps : List PV) (ts : List TV) (x : A21) (h : OneH base p b1 b2 q m w pv tv ps ts x) (hd : x.doo % 7 = 3) :
    Calls Tryz.prog 6 #[sV p, .pointer (some ⟨q, 0, none⟩), .agg x.cells.toArray] w fun e w' => e = .returned (.bool true) ∧ oneQ base p b1 b2 q m w ps ts w' := by
  have hdo := h.ok.doo
  have hpl := h.pl
  have htl := h.tl
  obtain ⟨W, hW⟩ : ∃ W, W = w.alloc (.cells x.cells.toArray 37) := ⟨_, rfl⟩
  have hbW : Below w.heap.size w W := by rw [hW]; exact (Below.refl _ _).alloc (Nat.le_refl _) _
  have hq0 : W.heap[w.heap.size]? = some (.cells x.cells.toArray 37 (0, 0)) := by rw [hW]; exact blk_new _ _
  have HCB := Lib.hid (show CB W p b1 b2 (psOf ps) (tsOf ts) m from h.cb.below hbW)
  have HRB := Lib.hid (show RB base W q pv tv ps ts from h.rb.below hbW)
  have hTD : Tab W := h.tab.below hbW (Nat.le_refl _)
  have hts := HCB.out.tv HRB.out.ids
  have hCD := cat_any p b1 b2 m (psOf ps) (tsOf ts) x.ten x.n h.ok.ten W HCB.out
  have hRD := fun (w2 : World) (hb : Below W.heap.size W w2) => rat21_any base q pv tv ps ts x.ten x.n w2 (HRB.out.below hb) (by omega) hts.1
  obtain ⟨AV, hAV⟩ : ∃ AV, AV = atV (atP (tsOf ts) x.ten x.n) := ⟨_, rfl⟩
  obtain ⟨AE, hAE⟩ : ∃ AE, AE = atE (atP (tsOf ts) x.ten x.n) := ⟨_, rfl⟩
  rw [← hAV, ← hAE] at hCD hRD
  clear hAV hAE
  have FIN := Lib.hid fun (w3 : World) (hb : Below W.heap.size W w3) => show oneQ base p b1 b2 q m w ps ts w3 from by
    refine ⟨⟨pv, tv, ps, ts, (HCB.out.below hb).mono (by omega) h.m, HRB.out.below hb, by omega, by omega⟩, ?_⟩
    exact (hbW.mono h.size).trans (hb.mono (Nat.le_trans h.size hbW.size))
  unfold sV pV at *
  have CD := Lib.hid hCD
  have RD := Lib.hid hRD
  obtain ⟨doo, ⟨id, daily, monthly, over, roll, bs, tiers⟩, ta, tc, ten, pid, shift, n⟩ := x
  unfold A21.cells at *
  dsimp only at *
  have CC := Lib.hid fun (X : World) (hb : Below W.heap.size W X) => show X.cell? ⟨w.heap.size, 8, none⟩ = some (.int .u32 ten) ∧ X.cell? ⟨w.heap.size, 9, none⟩ = some (.int .u32 pid) ∧ X.cell? ⟨w.heap.size, 10, none⟩ = some (.int .i64 shift) ∧ X.cell? ⟨w.heap.size, 11, none⟩ = some (.int .i64 n) from
    have h1 := (Keep.ofBelow hb (fun _ => False)).blk hq0 (fun h => h)
    ⟨blk_cell h1 8, blk_cell h1 9, blk_cell h1 10, blk_cell h1 11⟩
  have k0 := blk_cell hq0 0
  have k8 := blk_cell hq0 8
  have k9 := blk_cell hq0 9
  have k11 := blk_cell hq0 11
  obtain ⟨hdo0, hdo1⟩ := hdo
  have hmod : doo.tmod 7 = 3 := by rw [Int.tmod_eq_emod_of_nonneg hdo0]; exact hd
  clear h hCD hRD hbW hts hTD hq0
  go_enter Tryz.func6, Tryz.ntmps6
  go_upto_region 1 with fail
  rw [← hW]
  clear hW
  go_wp2_with fail
  refine CD.out.mono ?_
  rintro e w2 ⟨rfl, hb⟩
  obtain ⟨m8, m9, m10, m11⟩ := CC.out w2 hb
  have HB := Lib.hid hb
  clear hb k0 k8 k9 k11
  go_wp2_with fail
  refine (RD.out w2 HB.out).mono ?_
  rintro e w3 ⟨rfl, hw⟩
  obtain rfl := hw.symm
  clear hw
  go_wp2_with fail
  go_ret
  exact ⟨rfl, FIN.out _ HB.out⟩
end Go.Proofs.YtidppalhjknlfaaGreatDoor
namespace Go.Proofs.YtidppalhjknlfaaGreatDoor
open Go.RowKit
set_option maxRecDepth 100000
set_option maxHeartbeats 4000000
set_option linter.unusedVariables false
set_option linter.unusedSimpArgs false
theorem monV_len {w : World} {p b1 b2 m : Nat} {ps : List Pl} {ts : List Tn} (h : CB w p b1 b2 ps ts m) (t M : Int) : (monV ts t M).length ≤ 1000000 := by
  unfold monV
  by_cases h0 : monE ts t M = 0
  · rw [if_pos h0]
    unfold tsegs
    cases hf : tfind ts t with
    | none => simp [monthL, upto]
    | some T =>
      obtain ⟨_, hl⟩ := ten_u h hf
      show (monthL T.L M).length ≤ 1000000
      have hu := upto_len T.L (Cal.first M + Cal.len M - 1)
      have hx : (monthL T.L M).length ≤ (upto T.L (Cal.first M + Cal.len M - 1)).length := by
        unfold monthL
        have hdl : ((upto T.L (Cal.first M + Cal.len M - 1)).drop ((upto T.L (Cal.first M)).length - 1)).length ≤ (upto T.L (Cal.first M + Cal.len M - 1)).length := by rw [List.length_drop]; omega
        generalize (upto T.L (Cal.first M + Cal.len M - 1)).drop ((upto T.L (Cal.first M)).length - 1) = D at *
        cases D with
        | nil => simp
        | cons g r => simpa using hdl
      omega
  · rw [if_neg h0]; simp
theorem one_4 (base p b1 b2 q m : Nat) (w : World) (pv tv : Value) (ps : List PV) (ts : List TV) (x : A21) (h : OneH base p b1 b2 q m w pv tv ps ts x) (hd : x.doo % 7 = 4) :
    Calls Tryz.prog 6 #[sV p, .pointer (some ⟨q, 0, none⟩), .agg x.cells.toArray] w fun e w' => e = .returned (.bool true) ∧ oneQ base p b1 b2 q m w ps ts w' := by
  have hdo := h.ok.doo
  have hpl := h.pl
  have htl := h.tl
  obtain ⟨W, hW⟩ : ∃ W, W = w.alloc (.cells x.cells.toArray 37) := ⟨_, rfl⟩
  have hbW : Below w.heap.size w W := by rw [hW]; exact (Below.refl _ _).alloc (Nat.le_refl _) _
  have hq0 : W.heap[w.heap.size]? = some (.cells x.cells.toArray 37 (0, 0)) := by rw [hW]; exact blk_new _ _
  have HCB := Lib.hid (show CB W p b1 b2 (psOf ps) (tsOf ts) m from h.cb.below hbW)
  have HRB := Lib.hid (show RB base W q pv tv ps ts from h.rb.below hbW)
  have hTD : Tab W := h.tab.below hbW (Nat.le_refl _)
  have hts := HCB.out.tv HRB.out.ids
  have hCD := cmon_any p b1 b2 m (psOf ps) (tsOf ts) x.ten x.n h.ok.ten W HCB.out hTD
  have hRD := fun (w2 : World) (hb : Below W.heap.size W w2) => rmon_any base q pv tv ps ts x.ten x.n w2 (HRB.out.below hb) (by omega) hts.1
  have hml := monV_len HCB.out x.ten x.n
  obtain ⟨AV, hAV⟩ : ∃ AV, AV = monV (tsOf ts) x.ten x.n := ⟨_, rfl⟩
  obtain ⟨AE, hAE⟩ : ∃ AE, AE = monE (tsOf ts) x.ten x.n := ⟨_, rfl⟩
  rw [← hAV, ← hAE] at hCD hRD
  rw [← hAV] at hml
  clear hAV hAE
  have FIN := Lib.hid fun (w3 : World) (hb : Below W.heap.size W w3) => show oneQ base p b1 b2 q m w ps ts w3 from by
    refine ⟨⟨pv, tv, ps, ts, (HCB.out.below hb).mono (by omega) h.m, HRB.out.below hb, by omega, by omega⟩, ?_⟩
    exact (hbW.mono h.size).trans (hb.mono (Nat.le_trans h.size hbW.size))
  unfold sV pV at *
  have CD := Lib.hid hCD
  have RD := Lib.hid hRD
  obtain ⟨doo, ⟨id, daily, monthly, over, roll, bs, tiers⟩, ta, tc, ten, pid, shift, n⟩ := x
  unfold A21.cells at *
  dsimp only at *
  have CC := Lib.hid fun (X : World) (hb : Below W.heap.size W X) => show X.cell? ⟨w.heap.size, 8, none⟩ = some (.int .u32 ten) ∧ X.cell? ⟨w.heap.size, 9, none⟩ = some (.int .u32 pid) ∧ X.cell? ⟨w.heap.size, 10, none⟩ = some (.int .i64 shift) ∧ X.cell? ⟨w.heap.size, 11, none⟩ = some (.int .i64 n) from
    have h1 := (Keep.ofBelow hb (fun _ => False)).blk hq0 (fun h => h)
    ⟨blk_cell h1 8, blk_cell h1 9, blk_cell h1 10, blk_cell h1 11⟩
  have k0 := blk_cell hq0 0
  have k8 := blk_cell hq0 8
  have k9 := blk_cell hq0 9
  have k11 := blk_cell hq0 11
  obtain ⟨hdo0, hdo1⟩ := hdo
  have hmod : doo.tmod 7 = 4 := by rw [Int.tmod_eq_emod_of_nonneg hdo0]; exact hd
  clear h hCD hRD hbW hts hTD hq0
  go_enter Tryz.func6, Tryz.ntmps6
  go_upto_region 1 with fail
  rw [← hW]
  clear hW
  go_wp2_with fail
  refine CD.out.mono ?_
  rintro e w2 ⟨v2, rfl, hg2, hb⟩
  obtain ⟨m8, m9, m10, m11⟩ := CC.out w2 hb
  have HB := Lib.hid hb
  have HG2 := Lib.hid hg2
  obtain ⟨va, vc, rfl, _, _, _⟩ := hg2.shape
  clear hb hg2 k0 k8 k9 k11
  go_wp2_with fail
  refine (RD.out w2 HB.out).mono ?_
  rintro e w3 ⟨v3, rfl, hg3, hb⟩
  have SG := Lib.hid (segs_same _ _ AV w3 (HG2.out.below hb) hg3 hml)
  have HB3 := Lib.hid (HB.out.trans (hb.mono HB.out.size))
  obtain ⟨vb, vd, rfl, _, _, _⟩ := hg3.shape
  clear hb hg3
  go_wp2_with (go_at_call 18; refine SG.out.mono ?_; rintro e w4 ⟨rfl, hb⟩; have HB4 := Lib.hid (HB3.out.trans (hb.mono HB3.out.size)); clear hb)
  go_ret
  exact ⟨rfl, FIN.out _ HB4.out⟩
end Go.Proofs.YtidppalhjknlfaaGreatDoor
