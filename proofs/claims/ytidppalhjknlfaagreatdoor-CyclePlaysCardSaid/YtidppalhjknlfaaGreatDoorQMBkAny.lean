/- The document's book: each act in one. quitrentlaw21.one: Define. quitrentlaw21: great. -/
import Derived.Test.YtidppalhjknlfaaGreatDoorQBkSeg
import Derived.Test.YtidppalhjknlfaaGreatDoorQGo21
import Derived.Test.YtidppalhjknlfaaGreatDoorQMRow
namespace Go.Proofs.YtidppalhjknlfaaGreatDoor
open Go.RowKit
set_option maxRecDepth 100000
set_option maxHeartbeats 2000000
set_option linter.unusedVariables false
set_option linter.unusedSimpArgs false
theorem rdef_any (base q : Nat) (pv tv : Value) (ps : List PV) (ts : List TV) (P : Pl) (hid : 0 ≤ P.id ∧ P.id ≤ 4294967295) (a : Option Addr) (c : Nat) (w : World) (h : RB base w q pv tv ps ts) (hbw : base ≤ w.heap.size) (hl : ps.length ≤ 1000) (hv : GR shT w (.slice a P.tiers.length c) P.tiers) (hl2 : P.tiers.length ≤ 1000000) :
    Calls Tryz.prog 9 #[.pointer (some ⟨q, 0, none⟩), .agg #[.int .u32 P.id, .int .i64 P.daily, .int .i64 P.monthly, .int .i64 P.over, .int .i64 P.roll, .int .i64 P.base, .slice a P.tiers.length c]] w fun e w' => e = .returned (.int .i64 (defE (psOf ps) P)) ∧ (∃ pv' ps', psOf ps' = defP (psOf ps) P ∧ ps'.length ≤ ps.length + 1 ∧ RB base w' q pv' tv ps' ts) ∧ Keep (RF base w) w w' := by
  by_cases hE : defE (psOf ps) P = 0
  · refine (rdef_yes base q pv tv ps ts P hid a c w h hbw hl hv hE).mono ?_
    rintro e w' ⟨rfl, ⟨pv', x, hx, hr⟩, hk⟩
    exact ⟨by rw [hE], ⟨pv', ps ++ [x], by unfold defP; rw [if_pos hE]; unfold psOf; rw [List.map_append, List.map_singleton, hx], by simp, hr⟩, hk⟩
  · refine (rdef_no base q pv tv ps ts P hid a c w h (by omega) hv hl2 hE).mono ?_
    rintro e w' ⟨rfl, hb⟩
    exact ⟨rfl, ⟨pv, ps, by unfold defP; rw [if_neg hE], by omega, h.below hb⟩, Keep.ofBelow hb _⟩
theorem rchg_any (base q : Nat) (pv tv : Value) (ps : List PV) (ts : List TV) (t i d : Int) (w : World) (h : RB base w q pv tv ps ts) (hbw : base ≤ w.heap.size) (hl : ts.length ≤ 1000000) (hlp : ps.length ≤ 1000000) (hok : TVok ts) (htd : TVd ts) :
    Calls Tryz.prog 13 #[.pointer (some ⟨q, 0, none⟩), .int .u32 t, .int .u32 i, .int .i64 d] w fun e w' => e = .returned (.int .i64 (chgE (psOf ps) (tsOf ts) t i d)) ∧ (∃ ts', tsOf ts' = chgT (psOf ps) (tsOf ts) t i d ∧ ts'.length = ts.length ∧ RB base w' q pv tv ps ts') ∧ Keep (RF base w) w w' := by
  by_cases hE : tfV ts t = none ∨ pfV ps i = none
  · have e1 : chgE (psOf ps) (tsOf ts) t i d = 4 := by
      unfold chgE
      rw [tfV_eq, pfV_eq]
      rcases hE with h1 | h1
      · rw [h1]; rfl
      · rw [h1]; cases tfV ts t <;> rfl
    have e2 : chgT (psOf ps) (tsOf ts) t i d = tsOf ts := by unfold chgT; rw [e1, if_neg (by decide)]
    rw [e1, e2]
    refine (rchg_no base q pv tv ps ts t i d w h hl hlp hE).mono ?_
    rintro e w' ⟨rfl, hb⟩
    exact ⟨rfl, ⟨ts, rfl, rfl, h.below hb⟩, Keep.ofBelow hb _⟩
  · cases hf : tfV ts t with
    | none => exact absurd (.inl hf) hE
    | some x =>
      cases hg : pfV ps i with
      | none => exact absurd (.inr hg) hE
      | some P => exact rchg_yes base q pv tv ps ts t i d w h hbw hl hlp hok htd x hf P hg
theorem CB.tv {w : World} {p b1 b2 m : Nat} {ps : List Pl} {ts : List TV} (h : CB w p b1 b2 ps (tsOf ts) m) (hid : ts.Pairwise fun a b => a.T.id ≠ b.T.id) : TVok ts ∧ TVd ts := by
  have hf : ∀ x ∈ ts, tfind (tsOf ts) x.T.id = some x.T := fun x hx => by
    rw [tfV_eq]
    cases hh : tfV ts x.T.id with
    | none =>
      have := List.find?_eq_none.1 (show List.find? _ _ = _ from hh) x hx
      exact absurd (decide_eq_true rfl) this
    | some y =>
      obtain ⟨hy, he⟩ := tfV_mem hh
      obtain ⟨i, hi, hyi⟩ := List.mem_iff_getElem.1 hy
      obtain ⟨j, hj, hxj⟩ := List.mem_iff_getElem.1 hx
      rcases Nat.lt_trichotomy i j with hij | hij | hij
      · have := (List.pairwise_iff_getElem.1 hid) i j hi hj hij
        rw [hyi, hxj] at this; exact absurd he this
      · subst hij; rw [hyi] at hxj; rw [hxj]; rfl
      · have := (List.pairwise_iff_getElem.1 hid) j i hj hi hij
        rw [hyi, hxj] at this; exact absurd he.symm this
  refine ⟨fun x hx => ?_, fun x hx g hg => ?_⟩
  · obtain ⟨hok, hll⟩ := ten_u h (hf x hx)
    obtain ⟨p, r, hh⟩ := hok.head
    exact ⟨hok.up, by rw [hh]; simp, hll⟩
  · obtain ⟨hok, _⟩ := ten_u h (hf x hx)
    exact (hok.seg g hg).day
end Go.Proofs.YtidppalhjknlfaaGreatDoor
namespace Go.Proofs.YtidppalhjknlfaaGreatDoor
open Go.RowKit
set_option maxRecDepth 100000
set_option maxHeartbeats 4000000
set_option linter.unusedVariables false
set_option linter.unusedSimpArgs false
theorem RB.cb {base : Nat} {w w' : World} {q : Nat} {pv tv : Value} {ps : List PV} {ts : List TV} {p b1 b2 m : Nat} {ps' : List Pl} {ts' : List Tn} (h : RB base w q pv tv ps ts) (hc : CB w p b1 b2 ps' ts' m) (hk : Keep (fun i => i = b1) w w') : RB base w' q pv tv ps ts := by
  obtain ⟨now, hM, _⟩ := hc
  exact h.mem hM.now hk
theorem gr_cb {w w' : World} {p b1 b2 m : Nat} {ps' : List Pl} {ts' : List Tn} {α : Type} {S : Sh α} {v : Value} {L : List α} (h : GR S w v L) (hc : CB w p b1 b2 ps' ts' m) (hk : Keep (fun i => i = b1) w w') : GR S w' v L := by
  obtain ⟨now, hM, _⟩ := hc
  exact h.mem hM.now hk
theorem blk_cb {w w' : World} {p b1 b2 m : Nat} {ps' : List Pl} {ts' : List Tn} {b : Nat} {c : Array Value} {e : TypeId} {z : Nat × Nat} (h : w.heap[b]? = some (.cells c e z)) (hc : CB w p b1 b2 ps' ts' m) (hk : Keep (fun i => i = b1) w w') : w'.heap[b]? = some (.cells c e z) := by
  obtain ⟨now, hM, _⟩ := hc
  exact hk.blk h (fun e => by subst e; exact notmap hM.now h)
/-- what one act leaves -/
def oneQ (base p b1 b2 q m : Nat) (w : World) (ps : List PV) (ts : List TV) (w' : World) : Prop :=
  (∃ pv' tv' ps' ts', CB w' p b1 b2 (psOf ps') (tsOf ts') (m + 2) ∧ RB base w' q pv' tv' ps' ts' ∧ ps'.length ≤ ps.length + 1 ∧ ts'.length ≤ ts.length + 1) ∧ Below base w w'
/-- what is known ahead of one act -/
structure OneH (base p b1 b2 q m : Nat) (w : World) (pv tv : Value) (ps : List PV) (ts : List TV) (x : A21) : Prop where
  cb : CB w p b1 b2 (psOf ps) (tsOf ts) m
  rb : RB base w q pv tv ps ts
  lo : base ≤ b1
  size : base ≤ w.heap.size
  m : m + 2 ≤ 1000000
  pl : ps.length ≤ 1000
  tl : ts.length ≤ 1000
  ok : x.Ok w
  ti : x.P.tiers.length ≤ 10
  tab : Tab w
theorem one_0 (base p b1 b2 q m : Nat) (w : World) (pv tv : Value) (ps : List PV) (ts : List TV) (x : A21) (h : OneH base p b1 b2 q m w pv tv ps ts x) (hd : x.doo % 7 = 0) :
    Calls Tryz.prog 6 #[sV p, .pointer (some ⟨q, 0, none⟩), .agg x.cells.toArray] w fun e w' => e = .returned (.bool true) ∧ oneQ base p b1 b2 q m w ps ts w' := by
  have hdo := h.ok.doo
  have hti := h.ti
  have hpl := h.pl
  obtain ⟨W, hW⟩ : ∃ W, W = w.alloc (.cells x.cells.toArray 37) := ⟨_, rfl⟩
  have hbW : Below w.heap.size w W := by rw [hW]; exact (Below.refl _ _).alloc (Nat.le_refl _) _
  have hq0 : W.heap[w.heap.size]? = some (.cells x.cells.toArray 37 (0, 0)) := by rw [hW]; exact blk_new _ _
  have HCB := Lib.hid (show CB W.drew p b1 b2 (psOf ps) (tsOf ts) m from (h.cb.below hbW).below ((Below.refl _ _).drew))
  have HRB := Lib.hid (show RB base W.drew q pv tv ps ts from (h.rb.below hbW).below ((Below.refl _ _).drew))
  have HTI := Lib.hid (show GR shT W.drew (.slice x.ta x.P.tiers.length x.tc) x.P.tiers from (h.ok.tiers.below hbW).below ((Below.refl _ _).drew))
  have hCD := cdef_any p b1 b2 m (psOf ps) (tsOf ts) x.P h.ok.P (.slice x.ta x.P.tiers.length x.tc) W.drew HCB.out (by have := h.m; omega) HTI.out
  have hRD := fun (w2 : World) (hk : Keep (fun i => i = b1) W.drew w2) => rdef_any base q pv tv ps ts x.P h.ok.P.1 x.ta x.tc w2 (HRB.out.cb HCB.out hk) (by have := h.size; have := hbW.size; have := hk.size; exact Nat.le_trans (Nat.le_trans h.size hbW.size) hk.size) hpl (gr_cb HTI.out HCB.out hk) (by omega)
  have hQ2 := fun (w2 : World) (hk : Keep (fun i => i = b1) W.drew w2) => blk_cb (show W.drew.heap[w.heap.size]? = _ from hq0) HCB.out hk
  have FIN := Lib.hid fun (w2 w3 : World) (hc : CB w2 p b1 b2 (defP (psOf ps) x.P) (tsOf ts) (m + 1)) (hk : Keep (fun i => i = b1) W.drew w2) (hr : ∃ pv' ps', psOf ps' = defP (psOf ps) x.P ∧ ps'.length ≤ ps.length + 1 ∧ RB base w3 q pv' tv ps' ts) (hk3 : Keep (RF base w2) w2 w3) => show oneQ base p b1 b2 q m w ps ts w3 from by
    obtain ⟨pv', ps', h1, h2, h3⟩ := hr
    refine ⟨⟨pv', tv, ps', ts, by rw [h1]; exact (hc.rf hk3).mono (by omega) h.m, h3, h2, by omega⟩, ?_⟩
    have b0 : Below base w W.drew := (hbW.mono h.size).trans ((Below.refl _ _).drew.mono (Nat.le_trans h.size hbW.size))
    have b2 : Below base W.drew w2 := hk.below (Nat.le_trans h.size hbW.size) (fun i hi => by subst hi; exact h.lo)
    exact (b0.trans b2).trans (hk3.rf_below (Nat.le_trans (Nat.le_trans h.size b0.size) b2.size))
  unfold sV pV Pl.val at *
  have CD := Lib.hid hCD
  have RD := Lib.hid hRD
  have Q2 := Lib.hid hQ2
  obtain ⟨doo, ⟨id, daily, monthly, over, roll, bs, tiers⟩, ta, tc, ten, pid, shift, n⟩ := x
  unfold A21.cells at *
  dsimp only at *
  have QQ := Lib.hid hq0
  have k0 := blk_cell hq0 0
  obtain ⟨hdo0, hdo1⟩ := hdo
  have hmod : doo.tmod 7 = 0 := by rw [Int.tmod_eq_emod_of_nonneg hdo0]; exact hd
  clear h hCD hRD hQ2 hbW
  go_enter Tryz.func6, Tryz.ntmps6
  go_upto_region 1 with fail
  rw [← hW]
  clear hW
  go_upto_region 3 with fail
  have CC := Lib.hid fun (X : World) (h1 : X.heap[w.heap.size]? = some (.cells #[.int .u8 doo, .int .u32 id, .int .i64 daily, .int .i64 monthly, .int .i64 over, .int .i64 roll, .int .i64 bs, .slice ta tiers.length tc, .int .u32 ten, .int .u32 pid, .int .i64 shift, .int .i64 n] 37 (0, 0))) => show X.cell? ⟨w.heap.size, 1, none⟩ = some (.int .u32 id) ∧ X.cell? ⟨w.heap.size, 2, none⟩ = some (.int .i64 daily) ∧ X.cell? ⟨w.heap.size, 3, none⟩ = some (.int .i64 monthly) ∧ X.cell? ⟨w.heap.size, 4, none⟩ = some (.int .i64 over) ∧ X.cell? ⟨w.heap.size, 5, none⟩ = some (.int .i64 roll) ∧ X.cell? ⟨w.heap.size, 6, none⟩ = some (.int .i64 bs) ∧ X.cell? ⟨w.heap.size, 7, none⟩ = some (.slice ta tiers.length tc) from ⟨blk_cell h1 1, blk_cell h1 2, blk_cell h1 3, blk_cell h1 4, blk_cell h1 5, blk_cell h1 6, blk_cell h1 7⟩
  have QQd := Lib.hid (show W.drew.heap[w.heap.size]? = _ from QQ.out)
  clear k0 hq0
  refine wp_region_held_drew (S := (fun w' => w'.cell? ⟨w.heap.size, 1, none⟩ = some (.int .u32 id) ∧ w'.cell? ⟨w.heap.size, 2, none⟩ = some (.int .i64 daily) ∧ w'.cell? ⟨w.heap.size, 3, none⟩ = some (.int .i64 monthly) ∧ w'.cell? ⟨w.heap.size, 4, none⟩ = some (.int .i64 over) ∧ w'.cell? ⟨w.heap.size, 5, none⟩ = some (.int .i64 roll) ∧ w'.cell? ⟨w.heap.size, 6, none⟩ = some (.int .i64 bs) ∧ w'.cell? ⟨w.heap.size, 7, none⟩ = some (.slice ta tiers.length tc))) (by kernel_rfl) ?_ (fun hHeld0 => ?_)
  · (try dsimp only)
    first | with_reducible exact CC.out _ QQd.out | with_reducible exact CC.out _ QQ2.out | with_reducible exact CC.out _ QQ3.out
  refine takeN (v := ?_) 0 rfl (by kernel_rfl) (by kernel_rfl) (by kernel_rfl) (fun _ _ _ h => h) (by rfl) ?_ hHeld0 ?_
  rotate_left
  · intro w hSw; (try dsimp only at hSw); go_simp; with_reducible rfl
  try simp only [Act.put, List.setIfInBounds_toArray, List.set_cons_zero, List.set_cons_succ]
  refine takeN (v := ?_) 1 rfl (by kernel_rfl) (by kernel_rfl) (by kernel_rfl) (fun _ _ _ h => h) (by rfl) ?_ hHeld0 ?_
  rotate_left
  · intro w hSw; (try dsimp only at hSw); go_simp; with_reducible rfl
  try simp only [Act.put, List.setIfInBounds_toArray, List.set_cons_zero, List.set_cons_succ]
  refine takeN (v := ?_) 2 rfl (by kernel_rfl) (by kernel_rfl) (by kernel_rfl) (fun _ _ _ h => h) (by rfl) ?_ hHeld0 ?_
  rotate_left
  · intro w hSw; (try dsimp only at hSw); go_simp; with_reducible rfl
  try simp only [Act.put, List.setIfInBounds_toArray, List.set_cons_zero, List.set_cons_succ]
  refine takeN (v := ?_) 4 rfl (by kernel_rfl) (by kernel_rfl) (by kernel_rfl) (fun _ _ _ h => h) (by rfl) ?_ hHeld0 ?_
  rotate_left
  · intro w hSw; (try dsimp only at hSw); go_simp; with_reducible rfl
  try simp only [Act.put, List.setIfInBounds_toArray, List.set_cons_zero, List.set_cons_succ]
  refine takeN (v := ?_) 5 rfl (by kernel_rfl) (by kernel_rfl) (by kernel_rfl) (fun _ _ _ h => h) (by rfl) ?_ hHeld0 ?_
  rotate_left
  · intro w hSw; (try dsimp only at hSw); go_simp; with_reducible rfl
  try simp only [Act.put, List.setIfInBounds_toArray, List.set_cons_zero, List.set_cons_succ]
  refine takeN (v := ?_) 6 rfl (by kernel_rfl) (by kernel_rfl) (by kernel_rfl) (fun _ _ _ h => h) (by rfl) ?_ hHeld0 ?_
  rotate_left
  · intro w hSw; (try dsimp only at hSw); go_simp; with_reducible rfl
  try simp only [Act.put, List.setIfInBounds_toArray, List.set_cons_zero, List.set_cons_succ]
  refine wpAnyH_ready (rs := [3]) (by kernel_rfl) (by simp) ?_
  refine readyN rfl (fun K hK => ?_) ?_
  · -- operation 3
    go_simp
    first
      | (go_at_call 8; refine CD.out.mono ?_; rintro e w2 ⟨rfl, hc2, hk2⟩
         have QQ2 := Lib.hid (Q2.out w2 hk2)
         have HC2 := Lib.hid hc2
         have HK2 := Lib.hid hk2
         clear hc2 hk2)
      | (go_at_call 9; refine (RD.out w2 HK2.out).mono ?_; rintro e w3 ⟨rfl, hr3, hk3⟩
         have QQ3 := Lib.hid (hk3.blk QQ2.out (fun ⟨_, c', e', z', hx1, hx2⟩ => by rw [QQ2.out] at hx1; simp at hx1; rcases hx2 with hx2 | hx2 | hx2 | hx2 <;> exact absurd (hx1.2.1.trans hx2) (by decide)))
         have HR3 := Lib.hid hr3
         have HK3 := Lib.hid hk3
         clear hr3 hk3)
    go_wp2_with fail
    refine hK.out _ _ ?_ (fun hHeld1 => ?_)
    · (try dsimp only)
      first | with_reducible exact CC.out _ QQd.out | with_reducible exact CC.out _ QQ2.out | with_reducible exact CC.out _ QQ3.out
    clear hK K hHeld0
    try simp only [Act.put, List.setIfInBounds_toArray, List.set_cons_zero, List.set_cons_succ]
    refine wpAnyH_ready (rs := [7]) (by kernel_rfl) (by simp) ?_
    refine readyN rfl (fun K hK => ?_) ?_
    · -- operation 7
      go_simp
      first
        | (go_at_call 8; refine CD.out.mono ?_; rintro e w2 ⟨rfl, hc2, hk2⟩
           have QQ2 := Lib.hid (Q2.out w2 hk2)
           have HC2 := Lib.hid hc2
           have HK2 := Lib.hid hk2
           clear hc2 hk2)
        | (go_at_call 9; refine (RD.out w2 HK2.out).mono ?_; rintro e w3 ⟨rfl, hr3, hk3⟩
           have QQ3 := Lib.hid (hk3.blk QQ2.out (fun ⟨_, c', e', z', hx1, hx2⟩ => by rw [QQ2.out] at hx1; simp at hx1; rcases hx2 with hx2 | hx2 | hx2 | hx2 <;> exact absurd (hx1.2.1.trans hx2) (by decide)))
           have HR3 := Lib.hid hr3
           have HK3 := Lib.hid hk3
           clear hr3 hk3)
      go_wp2_with fail
      refine hK.out _ _ ?_ (fun hHeld2 => ?_)
      · (try dsimp only)
        first | with_reducible exact CC.out _ QQd.out | with_reducible exact CC.out _ QQ2.out | with_reducible exact CC.out _ QQ3.out
      clear hK K hHeld1
      try simp only [Act.put, List.setIfInBounds_toArray, List.set_cons_zero, List.set_cons_succ]
      refine takeN (v := ?_) 8 rfl (by kernel_rfl) (by kernel_rfl) (by kernel_rfl) (fun _ _ _ h => h) (by rfl) ?_ hHeld2 ?_
      rotate_left
      · intro w hSw; (try dsimp only at hSw); go_simp; with_reducible rfl
      try simp only [Act.put, List.setIfInBounds_toArray, List.set_cons_zero, List.set_cons_succ]
      refine takeN (v := ?_) 9 rfl (by kernel_rfl) (by kernel_rfl) (by kernel_rfl) (fun _ _ _ h => h) (by rfl) ?_ hHeld2 ?_
      rotate_left
      · intro w hSw; (try dsimp only at hSw); go_simp; with_reducible rfl
      try simp only [Act.put, List.setIfInBounds_toArray, List.set_cons_zero, List.set_cons_succ]
      refine wpAnyH_done (by kernel_rfl) ?_ _
      go_wp2
      go_ret
      exact ⟨rfl, FIN.out _ _ HC2.out HK2.out HR3.out HK3.out⟩
    exact AllReadyH.nil
  exact AllReadyH.nil
end Go.Proofs.YtidppalhjknlfaaGreatDoor
namespace Go.Proofs.YtidppalhjknlfaaGreatDoor
open Go.RowKit
set_option maxRecDepth 100000
set_option maxHeartbeats 2000000
set_option linter.unusedVariables false
set_option linter.unusedSimpArgs false
theorem GR.at12 {w : World} {v : Value} {L : List A21} (h : GR shA w v L) {i : Nat} {x : A21} (hx : L[i]? = some x) : ∃ g off cap, v = .slice (some ⟨g, off, none⟩) L.length cap ∧
    w.cell? ⟨g, off + i * 12, none⟩ = some (.int .u8 x.doo) ∧ w.cell? ⟨g, off + i * 12 + 1, none⟩ = some (.int .u32 x.P.id) ∧ w.cell? ⟨g, off + i * 12 + 2, none⟩ = some (.int .i64 x.P.daily) ∧ w.cell? ⟨g, off + i * 12 + 3, none⟩ = some (.int .i64 x.P.monthly) ∧ w.cell? ⟨g, off + i * 12 + 4, none⟩ = some (.int .i64 x.P.over) ∧ w.cell? ⟨g, off + i * 12 + 5, none⟩ = some (.int .i64 x.P.roll) ∧ w.cell? ⟨g, off + i * 12 + 6, none⟩ = some (.int .i64 x.P.base) ∧ w.cell? ⟨g, off + i * 12 + 7, none⟩ = some (.slice x.ta x.P.tiers.length x.tc) ∧ w.cell? ⟨g, off + i * 12 + 8, none⟩ = some (.int .u32 x.ten) ∧ w.cell? ⟨g, off + i * 12 + 9, none⟩ = some (.int .u32 x.id) ∧ w.cell? ⟨g, off + i * 12 + 10, none⟩ = some (.int .i64 x.shift) ∧ w.cell? ⟨g, off + i * 12 + 11, none⟩ = some (.int .i64 x.n) := by
  obtain ⟨g, off, cap, he, hc⟩ := h.at_ hx
  exact ⟨g, off, cap, he, hc 0 _ rfl, hc 1 _ rfl, hc 2 _ rfl, hc 3 _ rfl, hc 4 _ rfl, hc 5 _ rfl, hc 6 _ rfl, hc 7 _ rfl, hc 8 _ rfl, hc 9 _ rfl, hc 10 _ rfl, hc 11 _ rfl⟩
def big21 (x : A21) : Bool := decide (10 < x.P.tiers.length)
def greatB (l : List A21) : Bool := decide (100 < l.length) || l.any big21
theorem greatB_no {l : List A21} (h : greatB l = false) : l.length ≤ 100 := by
  unfold greatB at h
  rw [Bool.or_eq_false_iff, decide_eq_false_iff_not] at h
  omega
theorem great21_any (v : Value) (l : List A21) (w : World) (hv : GR shA w v l) :
    Calls Tryz.prog 4 #[v] w fun e w' => e = .returned (.bool (greatB l)) ∧ w' = w := by
  obtain ⟨a, c, rfl, hlc, hcm, _⟩ := hv.shape
  have HV := Lib.hid hv
  obtain ⟨R, hR⟩ : ∃ R, R = greatB l := ⟨_, rfl⟩
  rw [← hR]
  have HR := Lib.hid hR
  clear hv hR
  go_enter Tryz.func4, Tryz.ntmps4
  go_wp2_with fail
  go_loop [3] (fun i => ∃ j : Nat, j ≤ l.length ∧ j ≤ 101 ∧ i = .int .i64 j ∧ Hid (∀ (i : Nat) x, i < j → l[i]? = some x → big21 x = false)) (fun i => 101 - (intOf i).toNat)
  case atStart => exact ⟨0, by omega, by omega, rfl, Lib.hid (by simp)⟩
  case round =>
    obtain ⟨j, hj, hj2, rfl, HA⟩ := hrel
    by_cases hlt : j < l.length
    · by_cases h101 : j < 101
      · obtain ⟨x, hx⟩ : ∃ x, l[j]? = some x := ⟨_, List.getElem?_eq_getElem hlt⟩
        obtain ⟨g, off, cap', he, c0, c1, c2, c3, c4, c5, c6, c7, c8, c9, c10, c11⟩ := HV.out.at12 hx
        injection he with he hx1 hx2
        subst he; subst hx2
        have i1 : (j : Int) < (l.length : Int) := by omega
        have i2 : (j : Int) < 101 := by omega
        have HX := Lib.hid hx
        obtain ⟨n, hn⟩ : ∃ n, n = x.P.tiers.length := ⟨_, rfl⟩
        rw [← hn] at c7
        have HN := Lib.hid hn
        clear hx1 hx c0 c1 c2 c3 c4 c5 c6 c8 c9 c10 c11 hn
        by_cases h10 : (n : Int) > 10
        · have hR2 : R = true := by
            rw [HR.out]; unfold greatB
            rw [Bool.or_eq_true]
            refine .inr (List.any_eq_true.2 ⟨x, List.mem_of_getElem? HX.out, ?_⟩)
            unfold big21; rw [← HN.out]; exact decide_eq_true (by omega)
          subst hR2
          go_wp2_with fail
          go_ret
          exact ⟨rfl, rfl⟩
        · have HS := Lib.hid (show big21 x = false by unfold big21; rw [← HN.out]; exact decide_eq_false (by omega))
          go_wp2_with fail
          go_round
          case rel =>
            refine ⟨j + 1, by omega, by omega, by go_num, Lib.hid (fun i' y a b => ?_)⟩
            by_cases hji : i' = j
            · subst hji; rw [HX.out] at b; cases b; exact HS.out
            · exact HA.out i' y (by omega) b
          case measure => simp [intOf]; omega
      · obtain rfl : j = 101 := by omega
        have i1 : (101 : Int) < (l.length : Int) := by omega
        have i2 : (l.length : Int) > 100 := by omega
        have hR2 : R = true := by rw [HR.out]; unfold greatB; rw [decide_eq_true (by omega)]; rfl
        subst hR2
        go_wp2_with fail
        go_ret
        exact ⟨rfl, rfl⟩
    · obtain rfl : j = l.length := by omega
      by_cases h1 : (l.length : Int) > 100
      · have hR2 : R = true := by rw [HR.out]; unfold greatB; rw [decide_eq_true (by omega)]; rfl
        subst hR2
        go_wp2_with fail
        go_ret
        exact ⟨rfl, rfl⟩
      · have hR2 : R = false := by
          rw [HR.out]; unfold greatB
          rw [decide_eq_false (by omega), Bool.false_or, List.any_eq_false]
          intro x hx
          obtain ⟨i, hi, he⟩ := List.mem_iff_getElem.1 hx
          have := HA.out i x hi (by rw [List.getElem?_eq_getElem hi, he])
          simp [this]
        subst hR2
        go_wp2_with fail
        go_ret
        exact ⟨rfl, rfl⟩
end Go.Proofs.YtidppalhjknlfaaGreatDoor
