/- The document's book: Plan, Tenant. -/
import Derived.Test.YtidppalhjknlfaaGreatDoorQMCyLaw2
namespace Go.Proofs.YtidppalhjknlfaaGreatDoor
open Go.RowKit
set_option maxRecDepth 100000
set_option maxHeartbeats 2000000
set_option linter.unusedVariables false
set_option linter.unusedSimpArgs false
theorem find_at {α : Type} (f : α → Bool) : ∀ (l : List α) (j : Nat) (x : α), (∀ (i : Nat) y, i < j → l[i]? = some y → f y = false) → l[j]? = some x → f x = true → l.find? f = some x
  | [], j, x, _, h, _ => by simp at h
  | a :: l, 0, x, _, h, hx => by
    simp at h; subst h
    exact List.find?_cons_of_pos hx
  | a :: l, j + 1, x, hno, h, hx => by
    have h0 := hno 0 a (by omega) rfl
    rw [List.find?_cons_of_neg (by rw [h0]; decide)]
    exact find_at f l j x (fun i y hi hy => hno (i + 1) y (by omega) (by simpa using hy)) (by simpa using h) hx
theorem find_no {α : Type} (f : α → Bool) (l : List α) (h : ∀ (i : Nat) y, l[i]? = some y → f y = false) : l.find? f = none := by
  rw [List.find?_eq_none]
  intro x hx
  obtain ⟨i, hi, he⟩ := List.mem_iff_getElem.1 hx
  rw [h i x (by rw [List.getElem?_eq_getElem hi, he])]; decide
def pfV (ps : List PV) (i : Int) : Option PV := ps.find? fun x => decide (x.P.id = i)
def tfV (ts : List TV) (t : Int) : Option TV := ts.find? fun x => decide (x.T.id = t)
theorem pfV_eq (ps : List PV) (i : Int) : pfind (psOf ps) i = (pfV ps i).map PV.P := by
  unfold pfind psOf pfV
  rw [List.find?_map]; rfl
theorem tfV_eq (ts : List TV) (t : Int) : tfind (tsOf ts) t = (tfV ts t).map TV.T := by
  unfold tfind tsOf tfV
  rw [List.find?_map]; rfl
def PV.zero : PV := ⟨Pl.zero, none, 0⟩
def PV.val (x : PV) : Value := .agg #[.int .u32 x.P.id, .int .i64 x.P.daily, .int .i64 x.P.monthly, .int .i64 x.P.over, .int .i64 x.P.roll, .int .i64 x.P.base, .slice x.ta x.P.tiers.length x.tc]
theorem GR.at7 {w : World} {v : Value} {L : List PV} (h : GR shP w v L) {i : Nat} {x : PV} (hx : L[i]? = some x) : ∃ g off cap, v = .slice (some ⟨g, off, none⟩) L.length cap ∧
    w.cell? ⟨g, off + i * 7, none⟩ = some (.int .u32 x.P.id) ∧ w.cell? ⟨g, off + i * 7 + 1, none⟩ = some (.int .i64 x.P.daily) ∧ w.cell? ⟨g, off + i * 7 + 2, none⟩ = some (.int .i64 x.P.monthly) ∧ w.cell? ⟨g, off + i * 7 + 3, none⟩ = some (.int .i64 x.P.over) ∧ w.cell? ⟨g, off + i * 7 + 4, none⟩ = some (.int .i64 x.P.roll) ∧ w.cell? ⟨g, off + i * 7 + 5, none⟩ = some (.int .i64 x.P.base) ∧ w.cell? ⟨g, off + i * 7 + 6, none⟩ = some (.slice x.ta x.P.tiers.length x.tc) := by
  obtain ⟨g, off, cap, he, hc⟩ := h.at_ hx
  exact ⟨g, off, cap, he, hc 0 _ rfl, hc 1 _ rfl, hc 2 _ rfl, hc 3 _ rfl, hc 4 _ rfl, hc 5 _ rfl, hc 6 _ rfl⟩
theorem GR.atV {w : World} {v : Value} {L : List TV} (h : GR shV w v L) {i : Nat} {x : TV} (hx : L[i]? = some x) : ∃ g off cap, v = .slice (some ⟨g, off, none⟩) L.length cap ∧ w.cell? ⟨g, off + i, none⟩ = some (.pointer (some ⟨x.b, 0, none⟩)) := by
  obtain ⟨g, off, cap, he, hc⟩ := h.at_ hx
  refine ⟨g, off, cap, he, ?_⟩
  have := hc 0 _ rfl
  rwa [show off + i * shV.sz + 0 = off + i by show off + i * 1 + 0 = _; omega] at this
theorem rten_any (base q : Nat) (pv tv : Value) (ps : List PV) (ts : List TV) (t : Int) (w : World) (h : RB base w q pv tv ps ts) (hl : ts.length ≤ 1000000) :
    Calls Tryz.prog 20 #[.pointer (some ⟨q, 0, none⟩), .int .u32 t] w fun e w' => e = .returned (.pointer ((tfV ts t).map fun x => ⟨x.b, 0, none⟩)) ∧ w' = w := by
  have hgr := GR.of_row (S := shV) h.tr
  obtain ⟨ta, tc, rfl, _, _, _⟩ := hgr.shape
  have HG := Lib.hid hgr
  have HI := Lib.hid h.tis
  have k1 : w.cell? ⟨q, 1, none⟩ = some (.slice ta ts.length tc) := by rw [blk_cell h.blk]; rfl
  obtain ⟨R, hR⟩ : ∃ R, R = (tfV ts t).map fun x => (⟨x.b, 0, none⟩ : Addr) := ⟨_, rfl⟩
  rw [← hR]
  have HR := Lib.hid hR
  clear h hgr hR
  go_enter Tryz.func20, Tryz.ntmps20
  go_wp2_with fail
  go_loop [5] (fun i => ∃ j : Nat, j ≤ ts.length ∧ i = .int .i64 j ∧ Hid (∀ (i : Nat) x, i < j → ts[i]? = some x → decide (x.T.id = t) = false)) (fun i => ts.length - (intOf i).toNat)
  case atStart => exact ⟨0, by omega, rfl, Lib.hid (by simp)⟩
  case round =>
    obtain ⟨j, hj, rfl, HA⟩ := hrel
    by_cases hlt : j < ts.length
    · obtain ⟨x, hx⟩ : ∃ x, ts[j]? = some x := ⟨_, List.getElem?_eq_getElem hlt⟩
      obtain ⟨g, off, cap', he, c0⟩ := HG.out.atV hx
      injection he with he hx1 hx2
      subst he; subst hx2
      have hti := HI.out x (List.mem_of_getElem? hx)
      have d0 : w.cell? ⟨x.b, 0, none⟩ = some (.int .u32 x.T.id) := by rw [blk_cell hti.blk]; rfl
      have HX := Lib.hid hx
      have i1 : (j : Int) < (ts.length : Int) := by omega
      obtain ⟨b, hb⟩ : ∃ b, b = x.b := ⟨_, rfl⟩
      obtain ⟨d, hd⟩ : ∃ d, d = x.T.id := ⟨_, rfl⟩
      rw [← hb, ← hd] at d0
      rw [← hb] at c0
      have HBb := Lib.hid hb
      have HD := Lib.hid hd
      clear hx1 hx hti hb hd
      by_cases hdt : d = t
      · have hR2 : R = some ⟨b, 0, none⟩ := by
          rw [HR.out, show tfV ts t = some x from find_at _ ts j x HA.out HX.out (decide_eq_true (by rw [← HD.out]; exact hdt)), HBb.out]; rfl
        subst hdt
        obtain rfl := hR2
        go_wp2_with fail
        go_ret
        exact ⟨rfl, rfl⟩
      · have HN := Lib.hid (show decide (x.T.id = t) = false from decide_eq_false (by rw [← HD.out]; exact hdt))
        go_wp2_with fail
        go_round
        case rel =>
          refine ⟨j + 1, by omega, by go_num, Lib.hid (fun i' y a b => ?_)⟩
          by_cases hji : i' = j
          · subst hji; rw [HX.out] at b; cases b; exact HN.out
          · exact HA.out i' y (by omega) b
        case measure => simp [intOf]; omega
    · obtain rfl : j = ts.length := by omega
      have hR2 : R = none := by
        rw [HR.out, show tfV ts t = none from find_no _ ts (fun i y hy => HA.out i y (List.getElem?_eq_some_iff.1 hy).1 hy)]; rfl
      subst hR2
      go_wp2_with fail
      go_ret
      exact ⟨rfl, rfl⟩
theorem rplan_any (base q : Nat) (pv tv : Value) (ps : List PV) (ts : List TV) (i : Int) (w : World) (h : RB base w q pv tv ps ts) (hl : ps.length ≤ 1000000) :
    Calls Tryz.prog 22 #[.pointer (some ⟨q, 0, none⟩), .int .u32 i] w fun e w' => e = .returned (.tuple #[((pfV ps i).getD PV.zero).val, .bool (pfV ps i).isSome]) ∧ Below w.heap.size w w' := by
  obtain ⟨W, hW⟩ : ∃ W, W = w.alloc (.cells #[.int .u32 0, .int .i64 0, .int .i64 0, .int .i64 0, .int .i64 0, .int .i64 0, .slice none 0 0] 35) := ⟨_, rfl⟩
  have hbW : Below w.heap.size w W := by rw [hW]; exact (Below.refl _ _).alloc (Nat.le_refl _) _
  have hz : W.heap[w.heap.size]? = some (.cells #[.int .u32 0, .int .i64 0, .int .i64 0, .int .i64 0, .int .i64 0, .int .i64 0, .slice none 0 0] 35 (0, 0)) := by rw [hW]; exact blk_new _ _
  have hh := h.below hbW
  have hgr := GR.of_row (S := shP) hh.pr
  obtain ⟨pa, pc, rfl, _, _, _⟩ := hgr.shape
  have HG := Lib.hid hgr
  have k0 : W.cell? ⟨q, 0, none⟩ = some (.slice pa ps.length pc) := by rw [blk_cell hh.blk]; rfl
  obtain ⟨R, hR⟩ : ∃ R, R = (pfV ps i).getD PV.zero := ⟨_, rfl⟩
  obtain ⟨B, hB⟩ : ∃ B, B = (pfV ps i).isSome := ⟨_, rfl⟩
  rw [← hR, ← hB]
  have HR := Lib.hid hR
  have HB := Lib.hid hB
  have HZ := Lib.hid hz
  have HBW := Lib.hid hbW
  unfold PV.val
  clear h hh hgr hR hB hz hbW
  go_enter Tryz.func22, Tryz.ntmps22
  go_upto_region 1 with fail
  rw [← hW]
  clear hW
  go_wp2_with fail
  go_loop [6] (fun s => ∃ j : Nat, j ≤ ps.length ∧ s = .int .i64 j ∧ Hid (∀ (i' : Nat) x, i' < j → ps[i']? = some x → decide (x.P.id = i) = false)) (fun s => ps.length - (intOf s).toNat)
  case atStart => exact ⟨0, by omega, rfl, Lib.hid (by simp)⟩
  case round =>
    obtain ⟨j, hj, rfl, HA⟩ := hrel
    by_cases hlt : j < ps.length
    · obtain ⟨x, hx⟩ : ∃ x, ps[j]? = some x := ⟨_, List.getElem?_eq_getElem hlt⟩
      obtain ⟨g, off, cap', he, c0, c1, c2, c3, c4, c5, c6⟩ := HG.out.at7 hx
      injection he with he hx1 hx2
      subst he; subst hx2
      have HX := Lib.hid hx
      have i1 : (j : Int) < (ps.length : Int) := by omega
      obtain ⟨d, hd⟩ : ∃ d, d = x.P.id := ⟨_, rfl⟩
      rw [← hd] at c0
      have HD := Lib.hid hd
      clear hx1 hx hd
      by_cases hdt : d = i
      · have hf : pfV ps i = some x := find_at _ ps j x HA.out HX.out (decide_eq_true (by rw [← HD.out]; exact hdt))
        have hR2 : R = x := by rw [HR.out, hf]; rfl
        have hB2 : B = true := by rw [HB.out, hf]; rfl
        obtain rfl := hR2
        obtain rfl := hB2
        rw [HD.out] at c0
        have i2 : R.P.id = i := by rw [← HD.out]; exact hdt
        clear hf
        have z := HZ.out
        have f0 := blk_frozen z 0
        have f1 := blk_frozen z 1
        have f2 := blk_frozen z 2
        have f3 := blk_frozen z 3
        have f4 := blk_frozen z 4
        have f5 := blk_frozen z 5
        have f6 := blk_frozen z 6
        have z0 := blk_cell z 0
        have z1 := blk_cell z 1
        have z2 := blk_cell z 2
        have z3 := blk_cell z 3
        have z4 := blk_cell z 4
        have z5 := blk_cell z 5
        have z6 := blk_cell z 6
        clear z
        have I2 := Lib.hid i2
        subst hdt
        clear i2
        rw [I2.out] at c0
        go_wp2_with fail
        obtain ⟨h9, hk9⟩ := set7 (x0 := .int .u32 d) (x1 := .int .i64 R.P.daily) (x2 := .int .i64 R.P.monthly) (x3 := .int .i64 R.P.over) (x4 := .int .i64 R.P.roll) (x5 := .int .i64 R.P.base) (x6 := .slice R.ta R.P.tiers.length R.tc) HZ.out
        generalize (((((((W.setCell ⟨w.heap.size, 0, none⟩ (.int .u32 d)).setCell ⟨w.heap.size, 1, none⟩ (.int .i64 R.P.daily)).setCell ⟨w.heap.size, 2, none⟩ (.int .i64 R.P.monthly)).setCell ⟨w.heap.size, 3, none⟩ (.int .i64 R.P.over)).setCell ⟨w.heap.size, 4, none⟩ (.int .i64 R.P.roll)).setCell ⟨w.heap.size, 5, none⟩ (.int .i64 R.P.base)).setCell ⟨w.heap.size, 6, none⟩ (.slice R.ta R.P.tiers.length R.tc)) = W9 at h9 hk9 ⊢
        have x0 : W9.cell? ⟨w.heap.size, 0, none⟩ = some (.int .u32 d) := blk_cell h9 0
        have x1 : W9.cell? ⟨w.heap.size, 1, none⟩ = some (.int .i64 R.P.daily) := blk_cell h9 1
        have x2 : W9.cell? ⟨w.heap.size, 2, none⟩ = some (.int .i64 R.P.monthly) := blk_cell h9 2
        have x3 : W9.cell? ⟨w.heap.size, 3, none⟩ = some (.int .i64 R.P.over) := blk_cell h9 3
        have x4 : W9.cell? ⟨w.heap.size, 4, none⟩ = some (.int .i64 R.P.roll) := blk_cell h9 4
        have x5 : W9.cell? ⟨w.heap.size, 5, none⟩ = some (.int .i64 R.P.base) := blk_cell h9 5
        have x6 : W9.cell? ⟨w.heap.size, 6, none⟩ = some (.slice R.ta R.P.tiers.length R.tc) := blk_cell h9 6
        refine bodyPost_ret (by simp [results, Tryz.results22, go_sem, x0, x1, x2, x3, x4, x5, x6]; try rfl) rfl ?_
        exact ⟨by rw [I2.out], HBW.out.trans (hk9.below (B := w.heap.size) HBW.out.size (fun i hi => by omega))⟩
      · have HN := Lib.hid (show decide (x.P.id = i) = false from decide_eq_false (by rw [← HD.out]; exact hdt))
        go_wp2_with fail
        go_round
        case rel =>
          refine ⟨j + 1, by omega, by go_num, Lib.hid (fun i' y a b => ?_)⟩
          by_cases hji : i' = j
          · subst hji; rw [HX.out] at b; cases b; exact HN.out
          · exact HA.out i' y (by omega) b
        case measure => simp [intOf]; omega
    · obtain rfl : j = ps.length := by omega
      have hf : pfV ps i = none := find_no _ ps (fun i y hy => HA.out i y (List.getElem?_eq_some_iff.1 hy).1 hy)
      have hR2 : R = PV.zero := by rw [HR.out, hf]; rfl
      have hB2 : B = false := by rw [HB.out, hf]; rfl
      subst hR2
      subst hB2
      clear hf
      have z := HZ.out
      have f0 := blk_frozen z 0
      have z0 := blk_cell z 0
      have f1 := blk_frozen z 1
      have z1 := blk_cell z 1
      have f2 := blk_frozen z 2
      have z2 := blk_cell z 2
      have f3 := blk_frozen z 3
      have z3 := blk_cell z 3
      have f4 := blk_frozen z 4
      have z4 := blk_cell z 4
      have f5 := blk_frozen z 5
      have z5 := blk_cell z 5
      have f6 := blk_frozen z 6
      have z6 := blk_cell z 6
      clear z
      go_wp2_with fail
      obtain ⟨h9, hk9⟩ := set7 (x0 := .int .u32 0) (x1 := .int .i64 0) (x2 := .int .i64 0) (x3 := .int .i64 0) (x4 := .int .i64 0) (x5 := .int .i64 0) (x6 := .slice none 0 0) HZ.out
      generalize (((((((W.setCell ⟨w.heap.size, 0, none⟩ (.int .u32 0)).setCell ⟨w.heap.size, 1, none⟩ (.int .i64 0)).setCell ⟨w.heap.size, 2, none⟩ (.int .i64 0)).setCell ⟨w.heap.size, 3, none⟩ (.int .i64 0)).setCell ⟨w.heap.size, 4, none⟩ (.int .i64 0)).setCell ⟨w.heap.size, 5, none⟩ (.int .i64 0)).setCell ⟨w.heap.size, 6, none⟩ (.slice none 0 0)) = W9 at h9 hk9 ⊢
      have x0 : W9.cell? ⟨w.heap.size, 0, none⟩ = some (.int .u32 0) := blk_cell h9 0
      have x1 : W9.cell? ⟨w.heap.size, 1, none⟩ = some (.int .i64 0) := blk_cell h9 1
      have x2 : W9.cell? ⟨w.heap.size, 2, none⟩ = some (.int .i64 0) := blk_cell h9 2
      have x3 : W9.cell? ⟨w.heap.size, 3, none⟩ = some (.int .i64 0) := blk_cell h9 3
      have x4 : W9.cell? ⟨w.heap.size, 4, none⟩ = some (.int .i64 0) := blk_cell h9 4
      have x5 : W9.cell? ⟨w.heap.size, 5, none⟩ = some (.int .i64 0) := blk_cell h9 5
      have x6 : W9.cell? ⟨w.heap.size, 6, none⟩ = some (.slice none 0 0) := blk_cell h9 6
      refine bodyPost_ret (by simp [results, Tryz.results22, go_sem, x0, x1, x2, x3, x4, x5, x6]; try rfl) rfl ?_
      exact ⟨rfl, HBW.out.trans (hk9.below (B := w.heap.size) HBW.out.size (fun i hi => by omega))⟩
end Go.Proofs.YtidppalhjknlfaaGreatDoor
