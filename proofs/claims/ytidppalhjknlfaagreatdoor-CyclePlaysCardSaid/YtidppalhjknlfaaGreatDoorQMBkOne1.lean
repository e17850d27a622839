/- quitrentlaw21.one: Open. quitrentlaw21.one: Change. -/
import Derived.Test.YtidppalhjknlfaaGreatDoorQMBkAny
namespace Go.Proofs.YtidppalhjknlfaaGreatDoor
open Go.RowKit
set_option maxRecDepth 100000
set_option maxHeartbeats 4000000
set_option linter.unusedVariables false
set_option linter.unusedSimpArgs false
theorem one_1 (base p b1 b2 q m : Nat) (w : World) (pv tv : Value) (ps : List PV) (ts : List TV) (x : A21) (h : OneH base p b1 b2 q m w pv tv ps ts x) (hd : x.doo % 7 = 1) :
    Calls Tryz.prog 6 #[sV p, .pointer (some ⟨q, 0, none⟩), .agg x.cells.toArray] w fun e w' => e = .returned (.bool true) ∧ oneQ base p b1 b2 q m w ps ts w' := by
  have hdo := h.ok.doo
  have hpl := h.pl
  have htl := h.tl
  obtain ⟨W, hW⟩ : ∃ W, W = w.alloc (.cells x.cells.toArray 37) := ⟨_, rfl⟩
  have hbW : Below w.heap.size w W := by rw [hW]; exact (Below.refl _ _).alloc (Nat.le_refl _) _
  have hq0 : W.heap[w.heap.size]? = some (.cells x.cells.toArray 37 (0, 0)) := by rw [hW]; exact blk_new _ _
  have HCB := Lib.hid (show CB W.drew p b1 b2 (psOf ps) (tsOf ts) m from (h.cb.below hbW).below ((Below.refl _ _).drew))
  have HRB := Lib.hid (show RB base W.drew q pv tv ps ts from (h.rb.below hbW).below ((Below.refl _ _).drew))
  have hTD : Tab W.drew := (h.tab.below hbW (Nat.le_refl _)).below ((Below.refl _ _).drew) (Nat.le_refl _)
  have hts := HCB.out.tv HRB.out.ids
  have hCD := copn_any p b1 b2 m (psOf ps) (tsOf ts) x.ten x.shift x.id x.n h.ok.ten h.ok.id W.drew HCB.out h.m hTD
  have hRD := fun (w2 : World) (hk : Keep (fun i => i = b1) W.drew w2) => ropn_any base q pv tv ps ts x.ten x.shift x.id x.n (by have := h.ok.shift; unfold W64 at this; omega) w2 (HRB.out.cb HCB.out hk) (Nat.le_trans (Nat.le_trans h.size hbW.size) hk.size) (by omega) (by omega)
  have hQ2 := fun (w2 : World) (hk : Keep (fun i => i = b1) W.drew w2) => blk_cb (show W.drew.heap[w.heap.size]? = _ from hq0) HCB.out hk
  have FIN := Lib.hid fun (w2 w3 : World) (hc : CB w2 p b1 b2 (psOf ps) (opnT (psOf ps) (tsOf ts) x.ten x.shift x.id x.n) (m + 2)) (hk : Keep (fun i => i = b1) W.drew w2) (hr : ∃ tv' ts', tsOf ts' = opnT (psOf ps) (tsOf ts) x.ten x.shift x.id x.n ∧ ts'.length ≤ ts.length + 1 ∧ RB base w3 q pv tv' ps ts') (hk3 : Keep (RF base w2) w2 w3) => show oneQ base p b1 b2 q m w ps ts w3 from by
    obtain ⟨tv', ts', h1, h2, h3⟩ := hr
    refine ⟨⟨pv, tv', ps, ts', by rw [h1]; exact (hc.rf hk3).mono (by omega) h.m, h3, by omega, by omega⟩, ?_⟩
    have b0 : Below base w W.drew := (hbW.mono h.size).trans ((Below.refl _ _).drew.mono (Nat.le_trans h.size hbW.size))
    have b2 : Below base W.drew w2 := hk.below (Nat.le_trans h.size hbW.size) (fun i hi => by subst hi; exact h.lo)
    exact (b0.trans b2).trans (hk3.rf_below (Nat.le_trans (Nat.le_trans h.size b0.size) b2.size))
  unfold sV pV at *
  have CD := Lib.hid hCD
  have RD := Lib.hid hRD
  have Q2 := Lib.hid hQ2
  obtain ⟨doo, ⟨id, daily, monthly, over, roll, bs, tiers⟩, ta, tc, ten, pid, shift, n⟩ := x
  unfold A21.cells at *
  dsimp only at *
  have QQ := Lib.hid hq0
  have k0 := blk_cell hq0 0
  obtain ⟨hdo0, hdo1⟩ := hdo
  have hmod : doo.tmod 7 = 1 := by rw [Int.tmod_eq_emod_of_nonneg hdo0]; exact hd
  clear h hCD hRD hQ2 hbW hts hTD
  go_enter Tryz.func6, Tryz.ntmps6
  go_upto_region 1 with fail
  rw [← hW]
  clear hW
  go_upto_region 5 with fail
  have CC := Lib.hid fun (X : World) (h1 : X.heap[w.heap.size]? = some (.cells #[.int .u8 doo, .int .u32 id, .int .i64 daily, .int .i64 monthly, .int .i64 over, .int .i64 roll, .int .i64 bs, .slice ta tiers.length tc, .int .u32 ten, .int .u32 pid, .int .i64 shift, .int .i64 n] 37 (0, 0))) => show X.cell? ⟨w.heap.size, 8, none⟩ = some (.int .u32 ten) ∧ X.cell? ⟨w.heap.size, 9, none⟩ = some (.int .u32 pid) ∧ X.cell? ⟨w.heap.size, 10, none⟩ = some (.int .i64 shift) ∧ X.cell? ⟨w.heap.size, 11, none⟩ = some (.int .i64 n) from ⟨blk_cell h1 8, blk_cell h1 9, blk_cell h1 10, blk_cell h1 11⟩
  have QQd := Lib.hid (show W.drew.heap[w.heap.size]? = _ from QQ.out)
  clear k0 hq0
  refine wp_region_held_drew (S := (fun w' => w'.cell? ⟨w.heap.size, 8, none⟩ = some (.int .u32 ten) ∧ w'.cell? ⟨w.heap.size, 9, none⟩ = some (.int .u32 pid) ∧ w'.cell? ⟨w.heap.size, 10, none⟩ = some (.int .i64 shift) ∧ w'.cell? ⟨w.heap.size, 11, none⟩ = some (.int .i64 n))) (by kernel_rfl) ?_ (fun hHeld0 => ?_)
  · (try dsimp only)
    first | with_reducible exact CC.out _ QQd.out | with_reducible exact CC.out _ QQ2.out | with_reducible exact CC.out _ QQ3.out
  refine takeN (v := ?_) 0 rfl (by kernel_rfl) (by kernel_rfl) (by kernel_rfl) (fun _ _ _ h => h) (by rfl) ?_ hHeld0 ?_
  rotate_left
  · intro w hSw; (try dsimp only at hSw); go_simp; with_reducible rfl
  try simp only [Act.put, List.setIfInBounds_toArray, List.set_cons_zero, List.set_cons_succ]
  refine takeN (v := ?_) 1 rfl (by kernel_rfl) (by kernel_rfl) (by kernel_rfl) (fun _ _ _ h => h) (by rfl) ?_ hHeld0 ?_
  rotate_left
  · intro w hSw; (try dsimp only at hSw); go_simp; with_reducible rfl
  try simp only [Act.put, List.setIfInBounds_toArray, List.set_cons_zero, List.set_cons_succ]
  refine takeN (v := ?_) 2 rfl (by kernel_rfl) (by kernel_rfl) (by kernel_rfl) (fun _ _ _ h => h) (by rfl) ?_ hHeld0 ?_
  rotate_left
  · intro w hSw; (try dsimp only at hSw); go_simp; with_reducible rfl
  try simp only [Act.put, List.setIfInBounds_toArray, List.set_cons_zero, List.set_cons_succ]
  refine takeN (v := ?_) 3 rfl (by kernel_rfl) (by kernel_rfl) (by kernel_rfl) (fun _ _ _ h => h) (by rfl) ?_ hHeld0 ?_
  rotate_left
  · intro w hSw; (try dsimp only at hSw); go_simp; with_reducible rfl
  try simp only [Act.put, List.setIfInBounds_toArray, List.set_cons_zero, List.set_cons_succ]
  refine takeN (v := ?_) 4 rfl (by kernel_rfl) (by kernel_rfl) (by kernel_rfl) (fun _ _ _ h => h) (by rfl) ?_ hHeld0 ?_
  rotate_left
  · intro w hSw; (try dsimp only at hSw); go_simp; with_reducible rfl
  try simp only [Act.put, List.setIfInBounds_toArray, List.set_cons_zero, List.set_cons_succ]
  refine takeN (v := ?_) 5 rfl (by kernel_rfl) (by kernel_rfl) (by kernel_rfl) (fun _ _ _ h => h) (by rfl) ?_ hHeld0 ?_
  rotate_left
  · intro w hSw; (try dsimp only at hSw); go_simp; with_reducible rfl
  try simp only [Act.put, List.setIfInBounds_toArray, List.set_cons_zero, List.set_cons_succ]
  refine takeN (v := ?_) 6 rfl (by kernel_rfl) (by kernel_rfl) (by kernel_rfl) (fun _ _ _ h => h) (by rfl) ?_ hHeld0 ?_
  rotate_left
  · intro w hSw; (try dsimp only at hSw); go_simp; with_reducible rfl
  try simp only [Act.put, List.setIfInBounds_toArray, List.set_cons_zero, List.set_cons_succ]
  refine takeN (v := ?_) 7 rfl (by kernel_rfl) (by kernel_rfl) (by kernel_rfl) (fun _ _ _ h => h) (by rfl) ?_ hHeld0 ?_
  rotate_left
  · intro w hSw; (try dsimp only at hSw); go_simp; with_reducible rfl
  try simp only [Act.put, List.setIfInBounds_toArray, List.set_cons_zero, List.set_cons_succ]
  refine takeN (v := ?_) 8 rfl (by kernel_rfl) (by kernel_rfl) (by kernel_rfl) (fun _ _ _ h => h) (by rfl) ?_ hHeld0 ?_
  rotate_left
  · intro w hSw; (try dsimp only at hSw); go_simp; with_reducible rfl
  try simp only [Act.put, List.setIfInBounds_toArray, List.set_cons_zero, List.set_cons_succ]
  refine takeN (v := ?_) 10 rfl (by kernel_rfl) (by kernel_rfl) (by kernel_rfl) (fun _ _ _ h => h) (by rfl) ?_ hHeld0 ?_
  rotate_left
  · intro w hSw; (try dsimp only at hSw); go_simp; with_reducible rfl
  try simp only [Act.put, List.setIfInBounds_toArray, List.set_cons_zero, List.set_cons_succ]
  refine takeN (v := ?_) 11 rfl (by kernel_rfl) (by kernel_rfl) (by kernel_rfl) (fun _ _ _ h => h) (by rfl) ?_ hHeld0 ?_
  rotate_left
  · intro w hSw; (try dsimp only at hSw); go_simp; with_reducible rfl
  try simp only [Act.put, List.setIfInBounds_toArray, List.set_cons_zero, List.set_cons_succ]
  refine takeN (v := ?_) 12 rfl (by kernel_rfl) (by kernel_rfl) (by kernel_rfl) (fun _ _ _ h => h) (by rfl) ?_ hHeld0 ?_
  rotate_left
  · intro w hSw; (try dsimp only at hSw); go_simp; with_reducible rfl
  try simp only [Act.put, List.setIfInBounds_toArray, List.set_cons_zero, List.set_cons_succ]
  refine takeN (v := ?_) 13 rfl (by kernel_rfl) (by kernel_rfl) (by kernel_rfl) (fun _ _ _ h => h) (by rfl) ?_ hHeld0 ?_
  rotate_left
  · intro w hSw; (try dsimp only at hSw); go_simp; with_reducible rfl
  try simp only [Act.put, List.setIfInBounds_toArray, List.set_cons_zero, List.set_cons_succ]
  refine takeN (v := ?_) 14 rfl (by kernel_rfl) (by kernel_rfl) (by kernel_rfl) (fun _ _ _ h => h) (by rfl) ?_ hHeld0 ?_
  rotate_left
  · intro w hSw; (try dsimp only at hSw); go_simp; with_reducible rfl
  try simp only [Act.put, List.setIfInBounds_toArray, List.set_cons_zero, List.set_cons_succ]
  refine takeN (v := ?_) 15 rfl (by kernel_rfl) (by kernel_rfl) (by kernel_rfl) (fun _ _ _ h => h) (by rfl) ?_ hHeld0 ?_
  rotate_left
  · intro w hSw; (try dsimp only at hSw); go_simp; with_reducible rfl
  try simp only [Act.put, List.setIfInBounds_toArray, List.set_cons_zero, List.set_cons_succ]
  refine takeN (v := ?_) 16 rfl (by kernel_rfl) (by kernel_rfl) (by kernel_rfl) (fun _ _ _ h => h) (by rfl) ?_ hHeld0 ?_
  rotate_left
  · intro w hSw; (try dsimp only at hSw); go_simp; with_reducible rfl
  try simp only [Act.put, List.setIfInBounds_toArray, List.set_cons_zero, List.set_cons_succ]
  refine takeN (v := ?_) 17 rfl (by kernel_rfl) (by kernel_rfl) (by kernel_rfl) (fun _ _ _ h => h) (by rfl) ?_ hHeld0 ?_
  rotate_left
  · intro w hSw; (try dsimp only at hSw); go_simp; with_reducible rfl
  try simp only [Act.put, List.setIfInBounds_toArray, List.set_cons_zero, List.set_cons_succ]
  refine takeN (v := ?_) 18 rfl (by kernel_rfl) (by kernel_rfl) (by kernel_rfl) (fun _ _ _ h => h) (by rfl) ?_ hHeld0 ?_
  rotate_left
  · intro w hSw; (try dsimp only at hSw); go_simp; with_reducible rfl
  try simp only [Act.put, List.setIfInBounds_toArray, List.set_cons_zero, List.set_cons_succ]
  refine wpAnyH_ready (rs := [9]) (by kernel_rfl) (by simp) ?_
  refine readyN rfl (fun K hK => ?_) ?_
  · -- operation 9
    go_simp
    first
      | (go_at_call 10; refine CD.out.mono ?_; rintro e w2 ⟨rfl, hc2, hk2⟩
         have QQ2 := Lib.hid (Q2.out w2 hk2)
         have HC2 := Lib.hid hc2
         have HK2 := Lib.hid hk2
         clear hc2 hk2)
      | (go_at_call 11; refine (RD.out w2 HK2.out).mono ?_; rintro e w3 ⟨rfl, hr3, hk3⟩
         have QQ3 := Lib.hid (hk3.blk QQ2.out (fun ⟨_, c', e', z', hx1, hx2⟩ => by rw [QQ2.out] at hx1; simp at hx1; rcases hx2 with hx2 | hx2 | hx2 | hx2 <;> exact absurd (hx1.2.1.trans hx2) (by decide)))
         have HR3 := Lib.hid hr3
         have HK3 := Lib.hid hk3
         clear hr3 hk3)
    go_wp2_with fail
    refine hK.out _ _ ?_ (fun hHeld1 => ?_)
    · (try dsimp only)
      first | with_reducible exact CC.out _ QQd.out | with_reducible exact CC.out _ QQ2.out | with_reducible exact CC.out _ QQ3.out
    clear hK K hHeld0
    try simp only [Act.put, List.setIfInBounds_toArray, List.set_cons_zero, List.set_cons_succ]
    refine wpAnyH_ready (rs := [19]) (by kernel_rfl) (by simp) ?_
    refine readyN rfl (fun K hK => ?_) ?_
    · -- operation 19
      go_simp
      first
        | (go_at_call 10; refine CD.out.mono ?_; rintro e w2 ⟨rfl, hc2, hk2⟩
           have QQ2 := Lib.hid (Q2.out w2 hk2)
           have HC2 := Lib.hid hc2
           have HK2 := Lib.hid hk2
           clear hc2 hk2)
        | (go_at_call 11; refine (RD.out w2 HK2.out).mono ?_; rintro e w3 ⟨rfl, hr3, hk3⟩
           have QQ3 := Lib.hid (hk3.blk QQ2.out (fun ⟨_, c', e', z', hx1, hx2⟩ => by rw [QQ2.out] at hx1; simp at hx1; rcases hx2 with hx2 | hx2 | hx2 | hx2 <;> exact absurd (hx1.2.1.trans hx2) (by decide)))
           have HR3 := Lib.hid hr3
           have HK3 := Lib.hid hk3
           clear hr3 hk3)
      go_wp2_with fail
      refine hK.out _ _ ?_ (fun hHeld2 => ?_)
      · (try dsimp only)
        first | with_reducible exact CC.out _ QQd.out | with_reducible exact CC.out _ QQ2.out | with_reducible exact CC.out _ QQ3.out
      clear hK K hHeld1
      try simp only [Act.put, List.setIfInBounds_toArray, List.set_cons_zero, List.set_cons_succ]
      refine takeN (v := ?_) 20 rfl (by kernel_rfl) (by kernel_rfl) (by kernel_rfl) (fun _ _ _ h => h) (by rfl) ?_ hHeld2 ?_
      rotate_left
      · intro w hSw; (try dsimp only at hSw); go_simp; with_reducible rfl
      try simp only [Act.put, List.setIfInBounds_toArray, List.set_cons_zero, List.set_cons_succ]
      refine takeN (v := ?_) 21 rfl (by kernel_rfl) (by kernel_rfl) (by kernel_rfl) (fun _ _ _ h => h) (by rfl) ?_ hHeld2 ?_
      rotate_left
      · intro w hSw; (try dsimp only at hSw); go_simp; with_reducible rfl
      try simp only [Act.put, List.setIfInBounds_toArray, List.set_cons_zero, List.set_cons_succ]
      refine wpAnyH_done (by kernel_rfl) ?_ _
      go_wp2
      go_ret
      exact ⟨rfl, FIN.out _ _ HC2.out HK2.out HR3.out HK3.out⟩
    exact AllReadyH.nil
  exact AllReadyH.nil
end Go.Proofs.YtidppalhjknlfaaGreatDoor
namespace Go.Proofs.YtidppalhjknlfaaGreatDoor
open Go.RowKit
set_option maxRecDepth 100000
set_option maxHeartbeats 4000000
set_option linter.unusedVariables false
set_option linter.unusedSimpArgs false
theorem one_2 (base p b1 b2 q m : Nat) (w : World) (pv tv : Value) (ps : List PV) (ts : List TV) (x : A21) (h : OneH base p b1 b2 q m w pv tv ps ts x) (hd : x.doo % 7 = 2) :
    Calls Tryz.prog 6 #[sV p, .pointer (some ⟨q, 0, none⟩), .agg x.cells.toArray] w fun e w' => e = .returned (.bool true) ∧ oneQ base p b1 b2 q m w ps ts w' := by
  have hdo := h.ok.doo
  have hpl := h.pl
  have htl := h.tl
  obtain ⟨W, hW⟩ : ∃ W, W = w.alloc (.cells x.cells.toArray 37) := ⟨_, rfl⟩
  have hbW : Below w.heap.size w W := by rw [hW]; exact (Below.refl _ _).alloc (Nat.le_refl _) _
  have hq0 : W.heap[w.heap.size]? = some (.cells x.cells.toArray 37 (0, 0)) := by rw [hW]; exact blk_new _ _
  have HCB := Lib.hid (show CB W.drew p b1 b2 (psOf ps) (tsOf ts) m from (h.cb.below hbW).below ((Below.refl _ _).drew))
  have HRB := Lib.hid (show RB base W.drew q pv tv ps ts from (h.rb.below hbW).below ((Below.refl _ _).drew))
  have hTD : Tab W.drew := (h.tab.below hbW (Nat.le_refl _)).below ((Below.refl _ _).drew) (Nat.le_refl _)
  have hts := HCB.out.tv HRB.out.ids
  have hCD := cchg_any p b1 b2 m (psOf ps) (tsOf ts) x.ten x.id x.n h.ok.ten h.ok.id W.drew HCB.out (by have := h.m; omega) hTD
  have hRD := fun (w2 : World) (hk : Keep (fun i => i = b1) W.drew w2) => rchg_any base q pv tv ps ts x.ten x.id x.n w2 (HRB.out.cb HCB.out hk) (Nat.le_trans (Nat.le_trans h.size hbW.size) hk.size) (by omega) (by omega) hts.1 hts.2
  have hQ2 := fun (w2 : World) (hk : Keep (fun i => i = b1) W.drew w2) => blk_cb (show W.drew.heap[w.heap.size]? = _ from hq0) HCB.out hk
  have FIN := Lib.hid fun (w2 w3 : World) (hc : CB w2 p b1 b2 (psOf ps) (chgT (psOf ps) (tsOf ts) x.ten x.id x.n) (m + 1)) (hk : Keep (fun i => i = b1) W.drew w2) (hr : ∃ ts', tsOf ts' = chgT (psOf ps) (tsOf ts) x.ten x.id x.n ∧ ts'.length = ts.length ∧ RB base w3 q pv tv ps ts') (hk3 : Keep (RF base w2) w2 w3) => show oneQ base p b1 b2 q m w ps ts w3 from by
    obtain ⟨ts', h1, h2, h3⟩ := hr
    refine ⟨⟨pv, tv, ps, ts', by rw [h1]; exact (hc.rf hk3).mono (by omega) h.m, h3, by omega, by omega⟩, ?_⟩
    have b0 : Below base w W.drew := (hbW.mono h.size).trans ((Below.refl _ _).drew.mono (Nat.le_trans h.size hbW.size))
    have b2 : Below base W.drew w2 := hk.below (Nat.le_trans h.size hbW.size) (fun i hi => by subst hi; exact h.lo)
    exact (b0.trans b2).trans (hk3.rf_below (Nat.le_trans (Nat.le_trans h.size b0.size) b2.size))
  unfold sV pV at *
  have CD := Lib.hid hCD
  have RD := Lib.hid hRD
  have Q2 := Lib.hid hQ2
  obtain ⟨doo, ⟨id, daily, monthly, over, roll, bs, tiers⟩, ta, tc, ten, pid, shift, n⟩ := x
  unfold A21.cells at *
  dsimp only at *
  have QQ := Lib.hid hq0
  have k0 := blk_cell hq0 0
  obtain ⟨hdo0, hdo1⟩ := hdo
  have hmod : doo.tmod 7 = 2 := by rw [Int.tmod_eq_emod_of_nonneg hdo0]; exact hd
  clear h hCD hRD hQ2 hbW hts hTD
  go_enter Tryz.func6, Tryz.ntmps6
  go_upto_region 1 with fail
  rw [← hW]
  clear hW
  go_upto_region 7 with fail
  have CC := Lib.hid fun (X : World) (h1 : X.heap[w.heap.size]? = some (.cells #[.int .u8 doo, .int .u32 id, .int .i64 daily, .int .i64 monthly, .int .i64 over, .int .i64 roll, .int .i64 bs, .slice ta tiers.length tc, .int .u32 ten, .int .u32 pid, .int .i64 shift, .int .i64 n] 37 (0, 0))) => show X.cell? ⟨w.heap.size, 8, none⟩ = some (.int .u32 ten) ∧ X.cell? ⟨w.heap.size, 9, none⟩ = some (.int .u32 pid) ∧ X.cell? ⟨w.heap.size, 10, none⟩ = some (.int .i64 shift) ∧ X.cell? ⟨w.heap.size, 11, none⟩ = some (.int .i64 n) from ⟨blk_cell h1 8, blk_cell h1 9, blk_cell h1 10, blk_cell h1 11⟩
  have QQd := Lib.hid (show W.drew.heap[w.heap.size]? = _ from QQ.out)
  clear k0 hq0
  refine wp_region_held_drew (S := (fun w' => w'.cell? ⟨w.heap.size, 8, none⟩ = some (.int .u32 ten) ∧ w'.cell? ⟨w.heap.size, 9, none⟩ = some (.int .u32 pid) ∧ w'.cell? ⟨w.heap.size, 10, none⟩ = some (.int .i64 shift) ∧ w'.cell? ⟨w.heap.size, 11, none⟩ = some (.int .i64 n))) (by kernel_rfl) ?_ (fun hHeld0 => ?_)
  · (try dsimp only)
    first | with_reducible exact CC.out _ QQd.out | with_reducible exact CC.out _ QQ2.out | with_reducible exact CC.out _ QQ3.out
  refine takeN (v := ?_) 0 rfl (by kernel_rfl) (by kernel_rfl) (by kernel_rfl) (fun _ _ _ h => h) (by rfl) ?_ hHeld0 ?_
  rotate_left
  · intro w hSw; (try dsimp only at hSw); go_simp; with_reducible rfl
  try simp only [Act.put, List.setIfInBounds_toArray, List.set_cons_zero, List.set_cons_succ]
  refine takeN (v := ?_) 1 rfl (by kernel_rfl) (by kernel_rfl) (by kernel_rfl) (fun _ _ _ h => h) (by rfl) ?_ hHeld0 ?_
  rotate_left
  · intro w hSw; (try dsimp only at hSw); go_simp; with_reducible rfl
  try simp only [Act.put, List.setIfInBounds_toArray, List.set_cons_zero, List.set_cons_succ]
  refine takeN (v := ?_) 2 rfl (by kernel_rfl) (by kernel_rfl) (by kernel_rfl) (fun _ _ _ h => h) (by rfl) ?_ hHeld0 ?_
  rotate_left
  · intro w hSw; (try dsimp only at hSw); go_simp; with_reducible rfl
  try simp only [Act.put, List.setIfInBounds_toArray, List.set_cons_zero, List.set_cons_succ]
  refine takeN (v := ?_) 3 rfl (by kernel_rfl) (by kernel_rfl) (by kernel_rfl) (fun _ _ _ h => h) (by rfl) ?_ hHeld0 ?_
  rotate_left
  · intro w hSw; (try dsimp only at hSw); go_simp; with_reducible rfl
  try simp only [Act.put, List.setIfInBounds_toArray, List.set_cons_zero, List.set_cons_succ]
  refine takeN (v := ?_) 4 rfl (by kernel_rfl) (by kernel_rfl) (by kernel_rfl) (fun _ _ _ h => h) (by rfl) ?_ hHeld0 ?_
  rotate_left
  · intro w hSw; (try dsimp only at hSw); go_simp; with_reducible rfl
  try simp only [Act.put, List.setIfInBounds_toArray, List.set_cons_zero, List.set_cons_succ]
  refine takeN (v := ?_) 5 rfl (by kernel_rfl) (by kernel_rfl) (by kernel_rfl) (fun _ _ _ h => h) (by rfl) ?_ hHeld0 ?_
  rotate_left
  · intro w hSw; (try dsimp only at hSw); go_simp; with_reducible rfl
  try simp only [Act.put, List.setIfInBounds_toArray, List.set_cons_zero, List.set_cons_succ]
  refine takeN (v := ?_) 6 rfl (by kernel_rfl) (by kernel_rfl) (by kernel_rfl) (fun _ _ _ h => h) (by rfl) ?_ hHeld0 ?_
  rotate_left
  · intro w hSw; (try dsimp only at hSw); go_simp; with_reducible rfl
  try simp only [Act.put, List.setIfInBounds_toArray, List.set_cons_zero, List.set_cons_succ]
  refine takeN (v := ?_) 8 rfl (by kernel_rfl) (by kernel_rfl) (by kernel_rfl) (fun _ _ _ h => h) (by rfl) ?_ hHeld0 ?_
  rotate_left
  · intro w hSw; (try dsimp only at hSw); go_simp; with_reducible rfl
  try simp only [Act.put, List.setIfInBounds_toArray, List.set_cons_zero, List.set_cons_succ]
  refine takeN (v := ?_) 9 rfl (by kernel_rfl) (by kernel_rfl) (by kernel_rfl) (fun _ _ _ h => h) (by rfl) ?_ hHeld0 ?_
  rotate_left
  · intro w hSw; (try dsimp only at hSw); go_simp; with_reducible rfl
  try simp only [Act.put, List.setIfInBounds_toArray, List.set_cons_zero, List.set_cons_succ]
  refine takeN (v := ?_) 10 rfl (by kernel_rfl) (by kernel_rfl) (by kernel_rfl) (fun _ _ _ h => h) (by rfl) ?_ hHeld0 ?_
  rotate_left
  · intro w hSw; (try dsimp only at hSw); go_simp; with_reducible rfl
  try simp only [Act.put, List.setIfInBounds_toArray, List.set_cons_zero, List.set_cons_succ]
  refine takeN (v := ?_) 11 rfl (by kernel_rfl) (by kernel_rfl) (by kernel_rfl) (fun _ _ _ h => h) (by rfl) ?_ hHeld0 ?_
  rotate_left
  · intro w hSw; (try dsimp only at hSw); go_simp; with_reducible rfl
  try simp only [Act.put, List.setIfInBounds_toArray, List.set_cons_zero, List.set_cons_succ]
  refine takeN (v := ?_) 12 rfl (by kernel_rfl) (by kernel_rfl) (by kernel_rfl) (fun _ _ _ h => h) (by rfl) ?_ hHeld0 ?_
  rotate_left
  · intro w hSw; (try dsimp only at hSw); go_simp; with_reducible rfl
  try simp only [Act.put, List.setIfInBounds_toArray, List.set_cons_zero, List.set_cons_succ]
  refine takeN (v := ?_) 13 rfl (by kernel_rfl) (by kernel_rfl) (by kernel_rfl) (fun _ _ _ h => h) (by rfl) ?_ hHeld0 ?_
  rotate_left
  · intro w hSw; (try dsimp only at hSw); go_simp; with_reducible rfl
  try simp only [Act.put, List.setIfInBounds_toArray, List.set_cons_zero, List.set_cons_succ]
  refine takeN (v := ?_) 14 rfl (by kernel_rfl) (by kernel_rfl) (by kernel_rfl) (fun _ _ _ h => h) (by rfl) ?_ hHeld0 ?_
  rotate_left
  · intro w hSw; (try dsimp only at hSw); go_simp; with_reducible rfl
  try simp only [Act.put, List.setIfInBounds_toArray, List.set_cons_zero, List.set_cons_succ]
  refine wpAnyH_ready (rs := [7]) (by kernel_rfl) (by simp) ?_
  refine readyN rfl (fun K hK => ?_) ?_
  · -- operation 7
    go_simp
    first
      | (go_at_call 12; refine CD.out.mono ?_; rintro e w2 ⟨rfl, hc2, hk2⟩
         have QQ2 := Lib.hid (Q2.out w2 hk2)
         have HC2 := Lib.hid hc2
         have HK2 := Lib.hid hk2
         clear hc2 hk2)
      | (go_at_call 13; refine (RD.out w2 HK2.out).mono ?_; rintro e w3 ⟨rfl, hr3, hk3⟩
         have QQ3 := Lib.hid (hk3.blk QQ2.out (fun ⟨_, c', e', z', hx1, hx2⟩ => by rw [QQ2.out] at hx1; simp at hx1; rcases hx2 with hx2 | hx2 | hx2 | hx2 <;> exact absurd (hx1.2.1.trans hx2) (by decide)))
         have HR3 := Lib.hid hr3
         have HK3 := Lib.hid hk3
         clear hr3 hk3)
    go_wp2_with fail
    refine hK.out _ _ ?_ (fun hHeld1 => ?_)
    · (try dsimp only)
      first | with_reducible exact CC.out _ QQd.out | with_reducible exact CC.out _ QQ2.out | with_reducible exact CC.out _ QQ3.out
    clear hK K hHeld0
    try simp only [Act.put, List.setIfInBounds_toArray, List.set_cons_zero, List.set_cons_succ]
    refine wpAnyH_ready (rs := [15]) (by kernel_rfl) (by simp) ?_
    refine readyN rfl (fun K hK => ?_) ?_
    · -- operation 15
      go_simp
      first
        | (go_at_call 12; refine CD.out.mono ?_; rintro e w2 ⟨rfl, hc2, hk2⟩
           have QQ2 := Lib.hid (Q2.out w2 hk2)
           have HC2 := Lib.hid hc2
           have HK2 := Lib.hid hk2
           clear hc2 hk2)
        | (go_at_call 13; refine (RD.out w2 HK2.out).mono ?_; rintro e w3 ⟨rfl, hr3, hk3⟩
           have QQ3 := Lib.hid (hk3.blk QQ2.out (fun ⟨_, c', e', z', hx1, hx2⟩ => by rw [QQ2.out] at hx1; simp at hx1; rcases hx2 with hx2 | hx2 | hx2 | hx2 <;> exact absurd (hx1.2.1.trans hx2) (by decide)))
           have HR3 := Lib.hid hr3
           have HK3 := Lib.hid hk3
           clear hr3 hk3)
      go_wp2_with fail
      refine hK.out _ _ ?_ (fun hHeld2 => ?_)
      · (try dsimp only)
        first | with_reducible exact CC.out _ QQd.out | with_reducible exact CC.out _ QQ2.out | with_reducible exact CC.out _ QQ3.out
      clear hK K hHeld1
      try simp only [Act.put, List.setIfInBounds_toArray, List.set_cons_zero, List.set_cons_succ]
      refine takeN (v := ?_) 16 rfl (by kernel_rfl) (by kernel_rfl) (by kernel_rfl) (fun _ _ _ h => h) (by rfl) ?_ hHeld2 ?_
      rotate_left
      · intro w hSw; (try dsimp only at hSw); go_simp; with_reducible rfl
      try simp only [Act.put, List.setIfInBounds_toArray, List.set_cons_zero, List.set_cons_succ]
      refine takeN (v := ?_) 17 rfl (by kernel_rfl) (by kernel_rfl) (by kernel_rfl) (fun _ _ _ h => h) (by rfl) ?_ hHeld2 ?_
      rotate_left
      · intro w hSw; (try dsimp only at hSw); go_simp; with_reducible rfl
      try simp only [Act.put, List.setIfInBounds_toArray, List.set_cons_zero, List.set_cons_succ]
      refine wpAnyH_done (by kernel_rfl) ?_ _
      go_wp2
      go_ret
      exact ⟨rfl, FIN.out _ _ HC2.out HK2.out HR3.out HK3.out⟩
    exact AllReadyH.nil
  exact AllReadyH.nil
end Go.Proofs.YtidppalhjknlfaaGreatDoor
