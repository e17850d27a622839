/- quitrentlaw21.one: Tenant. quitrentlaw21.one: Plan. -/
import Derived.Test.YtidppalhjknlfaaGreatDoorQMBkOne3
namespace Go.Proofs.YtidppalhjknlfaaGreatDoor
open Go.RowKit
set_option maxRecDepth 100000
set_option maxHeartbeats 4000000
set_option linter.unusedVariables false
set_option linter.unusedSimpArgs false
def tS5 (o : Option Tn) : Int := match o with | none => 0 | some T => T.shift
def tD5 (o : Option Tn) : Int := match o with | none => 0 | some T => T.day
def tE5 (o : Option Tn) : Int := match o with | none => 4 | some _ => 0
theorem one_5 (base p b1 b2 q m : Nat) (w : World) (pv tv : Value) (ps : List PV) (ts : List TV) (x : A21) (h : OneH base p b1 b2 q m w pv tv ps ts x) (hd : x.doo % 7 = 5) :
    Calls Tryz.prog 6 #[sV p, .pointer (some ⟨q, 0, none⟩), .agg x.cells.toArray] w fun e w' => e = .returned (.bool true) ∧ oneQ base p b1 b2 q m w ps ts w' := by
  have hdo := h.ok.doo
  have hpl := h.pl
  have htl := h.tl
  obtain ⟨W, hW⟩ : ∃ W, W = w.alloc (.cells x.cells.toArray 37) := ⟨_, rfl⟩
  have hbW : Below w.heap.size w W := by rw [hW]; exact (Below.refl _ _).alloc (Nat.le_refl _) _
  have hq0 : W.heap[w.heap.size]? = some (.cells x.cells.toArray 37 (0, 0)) := by rw [hW]; exact blk_new _ _
  have HCB := Lib.hid (show CB W p b1 b2 (psOf ps) (tsOf ts) m from h.cb.below hbW)
  have HRB := Lib.hid (show RB base W q pv tv ps ts from h.rb.below hbW)
  have hTD : Tab W := h.tab.below hbW (Nat.le_refl _)
  have hts := HCB.out.tv HRB.out.ids
  have hRD := fun (w2 : World) (hb : Below W.heap.size W w2) => rten_any base q pv tv ps ts x.ten w2 (HRB.out.below hb) (by omega)
  obtain ⟨TF, hTF⟩ : ∃ TF, TF = tfV ts x.ten := ⟨_, rfl⟩
  have htf : tfind (tsOf ts) x.ten = TF.map TV.T := by rw [tfV_eq, hTF]
  have hCD : Calls Tryz.prog 19 #[sV p, .int .u32 x.ten] W fun e w' => e = .returned (.tuple #[.int .i64 (tS5 (TF.map TV.T)), .int .i64 (tD5 (TF.map TV.T)), .int .i64 (tE5 (TF.map TV.T))]) ∧ Below W.heap.size W w' := by
    rw [← htf]
    cases hf : tfind (tsOf ts) x.ten with
    | none => exact cten_no p b1 b2 m (psOf ps) (tsOf ts) x.ten h.ok.ten W HCB.out hf
    | some T => exact cten_yes p b1 b2 m (psOf ps) (tsOf ts) x.ten h.ok.ten W HCB.out T hf
  rw [← hTF] at hRD
  have hY : ∀ y, TF = some y → y.Is base W ∧ y ∈ ts ∧ y.T.Ok := fun y hy => by
    have hm := tfV_mem (show tfV ts x.ten = some y from hTF.symm.trans hy)
    refine ⟨HRB.out.tis y hm.1, hm.1, ?_⟩
    have := (ten_u HCB.out (t := x.ten) (T := y.T) (by rw [htf, hy]; rfl)).1
    exact this
  have HY := Lib.hid hY
  clear htf hTF hY
  have FIN := Lib.hid fun (w3 : World) (hb : Below W.heap.size W w3) => show oneQ base p b1 b2 q m w ps ts w3 from by
    refine ⟨⟨pv, tv, ps, ts, (HCB.out.below hb).mono (by omega) h.m, HRB.out.below hb, by omega, by omega⟩, ?_⟩
    exact (hbW.mono h.size).trans (hb.mono (Nat.le_trans h.size hbW.size))
  unfold sV pV at *
  have CD := Lib.hid hCD
  have RD := Lib.hid hRD
  obtain ⟨doo, ⟨id, daily, monthly, over, roll, bs, tiers⟩, ta, tc, ten, pid, shift, n⟩ := x
  unfold A21.cells at *
  dsimp only at *
  have CC := Lib.hid fun (X : World) (hb : Below W.heap.size W X) => show X.cell? ⟨w.heap.size, 8, none⟩ = some (.int .u32 ten) ∧ X.cell? ⟨w.heap.size, 9, none⟩ = some (.int .u32 pid) ∧ X.cell? ⟨w.heap.size, 10, none⟩ = some (.int .i64 shift) ∧ X.cell? ⟨w.heap.size, 11, none⟩ = some (.int .i64 n) from
    have h1 := (Keep.ofBelow hb (fun _ => False)).blk hq0 (fun h => h)
    ⟨blk_cell h1 8, blk_cell h1 9, blk_cell h1 10, blk_cell h1 11⟩
  have k0 := blk_cell hq0 0
  have k8 := blk_cell hq0 8
  have k9 := blk_cell hq0 9
  have k11 := blk_cell hq0 11
  obtain ⟨hdo0, hdo1⟩ := hdo
  have hmod : doo.tmod 7 = 5 := by rw [Int.tmod_eq_emod_of_nonneg hdo0]; exact hd
  clear h hCD hRD hbW hts hTD hq0
  go_enter Tryz.func6, Tryz.ntmps6
  go_upto_region 1 with fail
  rw [← hW]
  clear hW
  cases TF with
  | none =>
    rw [show tS5 ((none : Option TV).map TV.T) = 0 from rfl, show tD5 ((none : Option TV).map TV.T) = 0 from rfl, show tE5 ((none : Option TV).map TV.T) = 4 from rfl] at CD
    rw [show Option.map (fun x : TV => (⟨x.b, 0, none⟩ : Addr)) none = none from rfl] at RD
    go_wp2_with fail
    refine CD.out.mono ?_
    rintro e w2 ⟨rfl, hb⟩
    obtain ⟨m8, m9, m10, m11⟩ := CC.out w2 hb
    have HB := Lib.hid hb
    clear hb k0 k8 k9 k11
    go_wp2_with fail
    refine (RD.out w2 HB.out).mono ?_
    rintro e w3 ⟨rfl, hw⟩
    obtain rfl := hw.symm
    clear hw
    go_wp2_with fail
    go_ret
    exact ⟨rfl, FIN.out _ HB.out⟩
  | some y =>
    obtain ⟨hyi, hym, hyo⟩ := HY.out y rfl
    obtain ⟨pp, rr, hhead⟩ := hyo.head
    rw [show tS5 ((some y).map TV.T) = y.T.shift from rfl, show tD5 ((some y).map TV.T) = y.T.day from rfl, show tE5 ((some y).map TV.T) = 0 from rfl] at CD
    rw [show Option.map (fun x : TV => (⟨x.b, 0, none⟩ : Addr)) (some y) = some ⟨y.b, 0, none⟩ from rfl] at RD
    have hpos : 0 < y.T.L.length := by rw [hhead]; simp
    have hy0 : y.T.L[0]? = some ⟨y.T.day, pp⟩ := by rw [hhead]; rfl
    have HYI := Lib.hid hyi
    have HY0 := Lib.hid hy0
    clear hyi hym hyo hhead hy0
    go_wp2_with fail
    refine CD.out.mono ?_
    rintro e w2 ⟨rfl, hb⟩
    obtain ⟨m8, m9, m10, m11⟩ := CC.out w2 hb
    have HB := Lib.hid hb
    have hblk := (Keep.ofBelow hb (fun _ => False)).blk HYI.out.blk (fun h => h)
    have d1 := blk_cell hblk 1
    have d2 : w2.cell? ⟨y.b, 2, none⟩ = some (.slice y.la y.T.L.length y.lc) := by rw [blk_cell hblk]; rfl
    obtain ⟨g', off, cap', he, c0, c1⟩ := (HYI.out.seg.below hb).at2s HY0.out
    injection he with he hx1 hx2
    rw [he] at d2
    rw [show off + 0 * 2 = off by omega] at c0
    have i0 : (0 : Int) < (y.T.L.length : Int) := by omega
    clear hb k0 k8 k9 k11 hblk hx1 hx2 c1 he
    go_wp2_with fail
    refine (RD.out w2 HB.out).mono ?_
    rintro e w3 ⟨rfl, hw⟩
    obtain rfl := hw.symm
    clear hw
    go_wp2_with fail
    go_ret
    exact ⟨rfl, FIN.out _ HB.out⟩
end Go.Proofs.YtidppalhjknlfaaGreatDoor
namespace Go.Proofs.YtidppalhjknlfaaGreatDoor
open Go.RowKit
set_option maxRecDepth 100000
set_option maxHeartbeats 4000000
set_option linter.unusedVariables false
set_option linter.unusedSimpArgs false
theorem one_6 (base p b1 b2 q m : Nat) (w : World) (pv tv : Value) (ps : List PV) (ts : List TV) (x : A21) (h : OneH base p b1 b2 q m w pv tv ps ts x) (hd : x.doo % 7 = 6) :
    Calls Tryz.prog 6 #[sV p, .pointer (some ⟨q, 0, none⟩), .agg x.cells.toArray] w fun e w' => e = .returned (.bool true) ∧ oneQ base p b1 b2 q m w ps ts w' := by
  have hdo := h.ok.doo
  have hpl := h.pl
  have htl := h.tl
  obtain ⟨W, hW⟩ : ∃ W, W = w.alloc (.cells x.cells.toArray 37) := ⟨_, rfl⟩
  have hbW : Below w.heap.size w W := by rw [hW]; exact (Below.refl _ _).alloc (Nat.le_refl _) _
  have hq0 : W.heap[w.heap.size]? = some (.cells x.cells.toArray 37 (0, 0)) := by rw [hW]; exact blk_new _ _
  have HCB := Lib.hid (show CB W p b1 b2 (psOf ps) (tsOf ts) m from h.cb.below hbW)
  have HRB := Lib.hid (show RB base W q pv tv ps ts from h.rb.below hbW)
  have hTD : Tab W := h.tab.below hbW (Nat.le_refl _)
  have hts := HCB.out.tv HRB.out.ids
  obtain ⟨PF, hPF⟩ : ∃ PF, PF = pfV ps x.id := ⟨_, rfl⟩
  have hpf : pfind (psOf ps) x.id = PF.map PV.P := by rw [pfV_eq, hPF]
  have hRD := fun (w2 : World) (hb : Below W.heap.size W w2) => rplan_any base q pv tv ps ts x.id w2 (HRB.out.below hb) (by omega)
  rw [← hPF] at hRD
  obtain ⟨y, hy⟩ : ∃ y, y = PF.getD PV.zero := ⟨_, rfl⟩
  obtain ⟨kk, hkk⟩ : ∃ kk, kk = PF.isSome := ⟨_, rfl⟩
  rw [← hy, ← hkk] at hRD
  have hyg : GR shT W (.slice y.ta y.P.tiers.length y.tc) y.P.tiers ∧ y.P.tiers.length ≤ 1000000 := by
    cases hh : PF with
    | none => rw [hy, hh]; exact ⟨GR.nil _, by decide⟩
    | some z =>
      have hz : z ∈ ps := List.mem_of_find?_eq_some (show List.find? _ _ = _ from hPF.symm.trans hh)
      rw [hy, hh]
      refine ⟨(HRB.out.pis z hz).gr, ?_⟩
      obtain ⟨now, _, hC, _⟩ := HCB.out
      have hck := (hC.pok z.P (List.mem_map.2 ⟨z, hz, rfl⟩)).2
      unfold plchk tchk at hck
      simp only [Bool.and_eq_true, decide_eq_true_eq] at hck
      have := hck.2.2.1.2
      show z.P.tiers.length ≤ 1000000
      omega
  have hCD : Calls Tryz.prog 21 #[sV p, .int .u32 x.id] W fun e w' => ∃ a c, e = .returned (.tuple #[y.P.val (.slice a y.P.tiers.length c), .int .i64 (if kk = true then 0 else 4)]) ∧ GR shT w' (.slice a y.P.tiers.length c) y.P.tiers ∧ Below W.heap.size W w' := by
    cases hh : PF with
    | none =>
      refine (cplan_no p b1 b2 m (psOf ps) (tsOf ts) x.id h.ok.id W HCB.out (by rw [hpf, hh]; rfl)).mono ?_
      rintro e w' ⟨rfl, hb⟩
      rw [hy, hkk, hh]
      exact ⟨none, 0, rfl, GR.nil _, hb⟩
    | some z =>
      refine (cplan_yes p b1 b2 m (psOf ps) (tsOf ts) x.id h.ok.id W HCB.out z.P (by rw [hpf, hh]; rfl)).mono ?_
      rintro e w' ⟨tv', rfl, hg, hb⟩
      obtain ⟨a, c, rfl, _, _, _⟩ := hg.shape
      rw [hy, hkk, hh]
      exact ⟨a, c, rfl, hg, hb⟩
  obtain ⟨hyg, hyl⟩ := hyg
  unfold PV.val at hRD
  unfold Pl.val at hCD
  obtain ⟨P, yta, ytc⟩ := y
  dsimp only at hyg hyl hCD hRD
  have HYG := Lib.hid hyg
  obtain ⟨EE, hEE⟩ : ∃ EE : Int, EE = if kk = true then 0 else 4 := ⟨_, rfl⟩
  rw [← hEE] at hCD
  have HEE := Lib.hid hEE
  clear hPF hpf hy hkk hyg hEE
  have FIN := Lib.hid fun (w3 : World) (hb : Below W.heap.size W w3) => show oneQ base p b1 b2 q m w ps ts w3 from by
    refine ⟨⟨pv, tv, ps, ts, (HCB.out.below hb).mono (by omega) h.m, HRB.out.below hb, by omega, by omega⟩, ?_⟩
    exact (hbW.mono h.size).trans (hb.mono (Nat.le_trans h.size hbW.size))
  unfold sV pV at *
  have CD := Lib.hid hCD
  have RD := Lib.hid hRD
  obtain ⟨doo, ⟨id, daily, monthly, over, roll, bs, tiers⟩, ta, tc, ten, pid, shift, n⟩ := x
  unfold A21.cells at *
  dsimp only at *
  have CC := Lib.hid fun (X : World) (hb : Below W.heap.size W X) => show X.cell? ⟨w.heap.size, 8, none⟩ = some (.int .u32 ten) ∧ X.cell? ⟨w.heap.size, 9, none⟩ = some (.int .u32 pid) ∧ X.cell? ⟨w.heap.size, 10, none⟩ = some (.int .i64 shift) ∧ X.cell? ⟨w.heap.size, 11, none⟩ = some (.int .i64 n) from
    have h1 := (Keep.ofBelow hb (fun _ => False)).blk hq0 (fun h => h)
    ⟨blk_cell h1 8, blk_cell h1 9, blk_cell h1 10, blk_cell h1 11⟩
  have k0 := blk_cell hq0 0
  have k8 := blk_cell hq0 8
  have k9 := blk_cell hq0 9
  have k11 := blk_cell hq0 11
  obtain ⟨hdo0, hdo1⟩ := hdo
  have hmod : doo.tmod 7 = 6 := by rw [Int.tmod_eq_emod_of_nonneg hdo0]; exact hd
  clear h hCD hRD hbW hts hTD hq0
  go_enter Tryz.func6, Tryz.ntmps6
  go_upto_region 1 with fail
  rw [← hW]
  clear hW
  go_wp2_with fail
  refine CD.out.mono ?_
  rintro e w2 ⟨a, c, rfl, hg2, hb⟩
  obtain ⟨w3, hw3⟩ : ∃ w3, w3 = w2.alloc (.cells #[.int .u32 P.id, .int .i64 P.daily, .int .i64 P.monthly, .int .i64 P.over, .int .i64 P.roll, .int .i64 P.base, .slice a P.tiers.length c] 35) := ⟨_, rfl⟩
  have hb3 : Below w2.heap.size w2 w3 := by rw [hw3]; exact (Below.refl _ _).alloc (Nat.le_refl _) _
  have hq3 : w3.heap[w2.heap.size]? = some (.cells #[.int .u32 P.id, .int .i64 P.daily, .int .i64 P.monthly, .int .i64 P.over, .int .i64 P.roll, .int .i64 P.base, .slice a P.tiers.length c] 35 (0, 0)) := by rw [hw3]; exact blk_new _ _
  have HB3 := Lib.hid (hb.trans (hb3.mono hb.size))
  have HG3 := Lib.hid (hg2.below hb3)
  have HQ3 := Lib.hid hq3
  obtain ⟨m8, m9, m10, m11⟩ := CC.out w3 HB3.out
  clear hb hg2 hb3 hq3 k0 k8 k9 k11
  go_upto_region 23 with fail
  rw [← hw3]
  clear hw3
  go_wp2_with fail
  refine (RD.out w3 HB3.out).mono ?_
  rintro e w4 ⟨rfl, hb⟩
  obtain ⟨w5, hw5⟩ : ∃ w5, w5 = w4.alloc (.cells #[.int .u32 P.id, .int .i64 P.daily, .int .i64 P.monthly, .int .i64 P.over, .int .i64 P.roll, .int .i64 P.base, .slice yta P.tiers.length ytc] 35) := ⟨_, rfl⟩
  have hb5 : Below w3.heap.size w3 w5 := by rw [hw5]; exact hb.alloc hb.size _
  have hq5 : w5.heap[w4.heap.size]? = some (.cells #[.int .u32 P.id, .int .i64 P.daily, .int .i64 P.monthly, .int .i64 P.over, .int .i64 P.roll, .int .i64 P.base, .slice yta P.tiers.length ytc] 35 (0, 0)) := by rw [hw5]; exact blk_new _ _
  have hq35 := (Keep.ofBelow hb5 (fun _ => False)).blk HQ3.out (fun h => h)
  have HB5 := Lib.hid (HB3.out.trans (hb5.mono HB3.out.size))
  have SM := Lib.hid (rsame_any P a yta c ytc w5 (HG3.out.below hb5) (HYG.out.below HB5.out) hyl)
  go_upto_region 24 with fail
  rw [← hw5]
  have a0 := blk_cell hq35 0
  have a1 := blk_cell hq35 1
  have a2 := blk_cell hq35 2
  have a3 := blk_cell hq35 3
  have a4 := blk_cell hq35 4
  have a5 := blk_cell hq35 5
  have a6 := blk_cell hq35 6
  have e0 := blk_cell hq5 0
  have e1 := blk_cell hq5 1
  have e2 := blk_cell hq5 2
  have e3 := blk_cell hq5 3
  have e4 := blk_cell hq5 4
  have e5 := blk_cell hq5 5
  have e6 := blk_cell hq5 6
  clear hw5 hb5 hq5 hq35 hb m8 m9 m10 m11
  cases kk with
  | true =>
    have h0 := HEE.out
    rw [if_pos rfl] at h0
    subst h0
    go_wp2_with (go_at_call 23; refine SM.out.mono ?_; rintro e w6 ⟨rfl, hb⟩; have HB6 := Lib.hid (HB5.out.trans (hb.mono HB5.out.size)); clear hb)
    go_ret
    exact ⟨rfl, FIN.out _ HB6.out⟩
  | false =>
    have h0 := HEE.out
    rw [if_neg (by decide)] at h0
    subst h0
    go_wp2_with (go_at_call 23; refine SM.out.mono ?_; rintro e w6 ⟨rfl, hb⟩; have HB6 := Lib.hid (HB5.out.trans (hb.mono HB5.out.size)); clear hb)
    go_ret
    exact ⟨rfl, FIN.out _ HB6.out⟩
end Go.Proofs.YtidppalhjknlfaaGreatDoor
