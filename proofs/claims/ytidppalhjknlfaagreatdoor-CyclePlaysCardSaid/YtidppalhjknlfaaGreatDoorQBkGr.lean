/- The document's book: how it grows and changes. -/
import Derived.Test.YtidppalhjknlfaaGreatDoorQBkMo2
namespace Go.Proofs.YtidppalhjknlfaaGreatDoor
open Go.RowKit
set_option maxRecDepth 100000
set_option maxHeartbeats 4000000
set_option linter.unusedVariables false
set_option linter.unusedSimpArgs false
/-- the book's tenants grew -/
theorem RB.grownT {base : Nat} {X w8 : World} {q : Nat} {pv tv v' : Value} {ps : List PV} {ts : List TV} {x : TV} (h : RB base X q pv tv ps ts) (hk : Keep (fun k => tv.ownBlock = some k) X w8) (ho : w8.ownsRow base 61 shV.sz v' (ts.length + 1) (shV.cells (ts ++ [x]))) (hx : x.Is base X) (hid : ∀ y ∈ ts, y.T.id ≠ x.T.id) :
    RB base (w8.setCell ⟨q, 1, none⟩ v') q pv v' ps (ts ++ [x]) ∧ Keep (RF base X) X (w8.setCell ⟨q, 1, none⟩ v') := by
  have hbt := BT.of_row h.tr
  have k9 := (Keep.refl (fun i => i = q) w8).setCell (p := ⟨q, 1, none⟩) (.inl rfl) v'
  have kk : Keep (fun k => tv.ownBlock = some k ∨ k = q) X (w8.setCell ⟨q, 1, none⟩ v') := (hk.mono (fun i h => .inl h)).trans k9 (fun i h => .inl (.inr h))
  have hne : ∀ g, (tv.ownBlock = some g ∨ g = q) → ∀ c e z, X.heap[g]? = some (.cells c e z) → e = 61 ∨ e = 30 := fun g hg c e z hb' => by
    rcases hg with hg | rfl
    · obtain ⟨c', z', h'⟩ := hbt g hg
      rw [hb'] at h'; cases h'; exact .inl rfl
    · rw [h.blk] at hb'; cases hb'; exact .inr rfl
  have q8 := hk.blk h.blk (fun hg => by
    obtain ⟨c', z', h'⟩ := hbt q hg
    rw [h.blk] at h'; simp at h')
  refine ⟨⟨blk_setCell q8 1 v', h.low, row_ty h.pr kk (fun g hg c e z hb' => ?_), ?_, fun y hy => ?_, fun y hy => ?_, ?_⟩, kk.mono (fun i hi => ?_)⟩
  · rcases hne g hg c e z hb' with rfl | rfl <;> decide
  · rw [show (ts ++ [x]).length = ts.length + 1 from by simp]
    refine rowS_keep k9 ho (fun g hg e => ?_)
    subst e
    obtain ⟨c', z', h'⟩ := BT.of_row ho g hg
    rw [q8] at h'; simp at h'
  · exact (h.pis y hy).ty kk (fun g hg c e z hb' => by rcases hne g hg c e z hb' with rfl | rfl <;> decide)
  · have hy' : y.Is base X := by
      rcases List.mem_append.1 hy with hy | hy
      · exact h.tis y hy
      · rw [List.mem_singleton] at hy; subst hy; exact hx
    refine hy'.ty kk (fun g hg c e z hb' => by rcases hne g hg c e z hb' with rfl | rfl <;> decide) (fun hg => ?_)
    rcases hne y.b hg _ _ _ hy'.blk with e | e <;> exact absurd e (by decide)
  · rw [List.pairwise_append]
    refine ⟨h.ids, List.pairwise_singleton _ _, fun a ha b hb => ?_⟩
    rw [List.mem_singleton] at hb; subst hb; exact hid a ha
  · rcases hi with hi | rfl
    · obtain ⟨c', z', h'⟩ := hbt i hi
      exact ⟨(rowS_low h.tr i hi).1, _, _, _, h', .inr (.inr (.inl rfl))⟩
    · exact ⟨h.low, _, _, _, h.blk, .inl rfl⟩
def TV.with (x : TV) (L : List Sg) (la : Option Addr) (lc : Nat) : TV := ⟨{ x.T with L := L }, x.b, la, lc⟩
def tvset (ts : List TV) (t : Int) (L : List Sg) (la : Option Addr) (lc : Nat) : List TV := ts.map fun y => if y.T.id = t then y.with L la lc else y
theorem tvset_ts (ts : List TV) (t : Int) (L : List Sg) (la : Option Addr) (lc : Nat) : tsOf (tvset ts t L la lc) = tset (tsOf ts) t L := by
  unfold tsOf tvset tset
  rw [List.map_map, List.map_map]
  refine List.map_congr_left (fun y hy => ?_)
  show (if y.T.id = t then y.with L la lc else y).T = if y.T.id = t then _ else _
  by_cases hy : y.T.id = t
  · rw [if_pos hy, if_pos hy]; rfl
  · rw [if_neg hy, if_neg hy]
theorem tvset_cells (ts : List TV) (t : Int) (L : List Sg) (la : Option Addr) (lc : Nat) : shV.cells (tvset ts t L la lc) = shV.cells ts := by
  induction ts with
  | nil => rfl
  | cons y ts ih =>
    show shV.cf (if y.T.id = t then y.with L la lc else y) ++ shV.cells (tvset ts t L la lc) = shV.cf y ++ shV.cells ts
    rw [ih]
    by_cases hy : y.T.id = t
    · rw [if_pos hy]; rfl
    · rw [if_neg hy]
/-- a tenant's segments are others -/
theorem RB.changed {base : Nat} {X : World} {q : Nat} {pv tv : Value} {ps : List PV} {ts : List TV} {x : TV} {L : List Sg} {la : Option Addr} {lc : Nat} (h : RB base X q pv tv ps ts) (hx : x ∈ ts) (hg : GR shS X (.slice la L.length lc) L) (hbt : BT X (.slice la L.length lc) 66) :
    RB base (X.setCell ⟨x.b, 2, none⟩ (.slice la L.length lc)) q pv tv ps (tvset ts x.T.id L la lc) ∧ Keep (RF base X) X (X.setCell ⟨x.b, 2, none⟩ (.slice la L.length lc)) := by
  have hxi := h.tis x hx
  have kk := (Keep.refl (fun i => i = x.b) X).setCell (p := ⟨x.b, 2, none⟩) (.inl rfl) (.slice la L.length lc)
  have hne : ∀ g, g = x.b → ∀ c e z, X.heap[g]? = some (.cells c e z) → e = 64 := fun g hg c e z hb' => by
    subst hg; rw [hxi.blk] at hb'; cases hb'; rfl
  have hsame : ∀ y ∈ ts, y.T.id = x.T.id → y = x := fun y hy he => by
    obtain ⟨i, hi, hyi⟩ := List.mem_iff_getElem.1 hy
    obtain ⟨j, hj, hxj⟩ := List.mem_iff_getElem.1 hx
    rcases Nat.lt_trichotomy i j with hij | hij | hij
    · have := (List.pairwise_iff_getElem.1 h.ids) i j hi hj hij
      rw [hyi, hxj] at this; exact absurd he this
    · subst hij; rw [← hyi, hxj]
    · have := (List.pairwise_iff_getElem.1 h.ids) j i hj hi hij
      rw [hyi, hxj] at this; exact absurd he.symm this
  have hq8 : X.heap[q]? ≠ X.heap[x.b]? := by rw [h.blk, hxi.blk]; simp
  refine ⟨⟨kk.blk h.blk (fun e => hq8 (by rw [e])), h.low, row_ty h.pr kk (fun g hg c e z hb' => by rw [hne g hg c e z hb']; decide), ?_, fun y hy => ?_, fun y hy => ?_, ?_⟩, kk.mono (fun i hi => ?_)⟩
  · have := row_ty h.tr kk (fun g hg c e z hb' => by rw [hne g hg c e z hb']; decide)
    rw [tvset_cells, show (tvset ts x.T.id L la lc).length = ts.length from by unfold tvset; simp]
    exact this
  · exact (h.pis y hy).ty kk (fun g hg c e z hb' => by rw [hne g hg c e z hb']; decide)
  · unfold tvset at hy
    obtain ⟨y0, hy0, rfl⟩ := List.mem_map.1 hy
    by_cases he : y0.T.id = x.T.id
    · rw [if_pos he]
      obtain rfl := hsame y0 hy0 he
      have hn : ∀ g, (Value.slice la L.length lc).ownBlock = some g → ¬ g = y0.b := fun g hgv hf => by
        obtain ⟨c, z, hb'⟩ := hbt g hgv
        have := hne g hf _ _ _ hb'
        exact absurd this (by decide)
      refine ⟨?_, hxi.low, hg.keep kk (fun _ => hn), hbt.keep kk hn⟩
      have := blk_setCell hxi.blk 2 (.slice la L.length lc)
      exact this
    · rw [if_neg he]
      refine (h.tis y0 hy0).ty kk (fun g hg c e z hb' => by rw [hne g hg c e z hb']; decide) (fun hf => ?_)
      have h1 := (h.tis y0 hy0).blk
      rw [show y0.b = x.b from hf, hxi.blk] at h1
      simp at h1
      exact he h1.1.symm
  · unfold tvset
    rw [List.pairwise_map]
    refine h.ids.imp (fun {a b} hab => ?_)
    have e : ∀ y : TV, (if y.T.id = x.T.id then y.with L la lc else y).T.id = y.T.id := fun y => by
      by_cases hy : y.T.id = x.T.id
      · rw [if_pos hy]; rfl
      · rw [if_neg hy]
    rw [e a, e b]; exact hab
  · obtain rfl : i = x.b := hi
    exact ⟨hxi.low, _, _, _, hxi.blk, .inr (.inr (.inr rfl))⟩
end Go.Proofs.YtidppalhjknlfaaGreatDoor
