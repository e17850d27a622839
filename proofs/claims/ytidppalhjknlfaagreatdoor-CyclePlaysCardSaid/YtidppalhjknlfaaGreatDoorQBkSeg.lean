/- quitrentlaw21.segments, of equal rows. -/
import Derived.Test.YtidppalhjknlfaaGreatDoorQBkChg
namespace Go.Proofs.YtidppalhjknlfaaGreatDoor
open Go.RowKit
set_option maxRecDepth 100000
set_option maxHeartbeats 4000000
set_option linter.unusedVariables false
set_option linter.unusedSimpArgs false
theorem segs_same (v v' : Value) (L : List Sg) (w : World) (hv : GR shS w v L) (hv' : GR shS w v' L) (hl : L.length ≤ 1000000) :
    Calls Tryz.prog 18 #[v, v'] w fun e w' => e = .returned (.bool true) ∧ Below w.heap.size w w' := by
  obtain ⟨a, c, rfl, _, _, _⟩ := hv.shape
  obtain ⟨a', c', rfl, _, _, _⟩ := hv'.shape
  have HV := Lib.hid hv
  have HV' := Lib.hid hv'
  clear hv hv'
  go_enter Tryz.func18, Tryz.ntmps18
  go_wp2_with fail
  go_loopw [5] (fun i wr => ∃ j : Nat, j ≤ L.length ∧ i = .int .i64 j ∧ Hid (Below w.heap.size w wr)) (fun i _ => L.length - (intOf i).toNat)
  case atStart => exact ⟨0, by omega, rfl, Lib.hid (Below.refl _ _)⟩
  case round =>
    obtain ⟨j, hj, rfl, HB⟩ := hrel
    by_cases hlt : j < L.length
    · obtain ⟨x, hx⟩ : ∃ x, L[j]? = some x := ⟨_, List.getElem?_eq_getElem hlt⟩
      obtain ⟨g1, o1, cap1, he1, c0, c1⟩ := (HV.out.below HB.out).at2s hx
      obtain ⟨g2, o2, cap2, he2, d0, d1⟩ := (HV'.out.below HB.out).at2s hx
      injection he1 with he1 hx1 hx2
      injection he2 with he2 hx3 hx4
      subst he1; subst he2
      have i1 : (j : Int) < (L.length : Int) := by omega
      obtain ⟨dy, pl⟩ := x
      dsimp only at c0 c1 d0 d1
      clear hx hx1 hx2 hx3 hx4
      go_wp2_with fail
      go_quiet (fail)
      go_wp2_with fail
      refine ⟨⟨j + 1, by omega, by go_num, Lib.hid (below_drewN HB.out _)⟩, by simp [intOf]; omega⟩
    · obtain rfl : j = L.length := by omega
      go_wp2_with fail
      go_ret
      exact ⟨rfl, HB.out⟩
theorem rsame_any (P : Pl) (a a' : Option Addr) (c c' : Nat) (w : World) (hv : GR shT w (.slice a P.tiers.length c) P.tiers) (hv' : GR shT w (.slice a' P.tiers.length c') P.tiers) (hl : P.tiers.length ≤ 1000000) :
    Calls Tryz.prog 23 #[.agg #[.int .u32 P.id, .int .i64 P.daily, .int .i64 P.monthly, .int .i64 P.over, .int .i64 P.roll, .int .i64 P.base, .slice a P.tiers.length c], .agg #[.int .u32 P.id, .int .i64 P.daily, .int .i64 P.monthly, .int .i64 P.over, .int .i64 P.roll, .int .i64 P.base, .slice a' P.tiers.length c']] w fun e w' => e = .returned (.bool true) ∧ Below w.heap.size w w' := by
  obtain ⟨W1, hW1⟩ : ∃ W, W = w.alloc (.cells #[.int .u32 P.id, .int .i64 P.daily, .int .i64 P.monthly, .int .i64 P.over, .int .i64 P.roll, .int .i64 P.base, .slice a P.tiers.length c] 35) := ⟨_, rfl⟩
  obtain ⟨W, hW⟩ : ∃ W, W = W1.alloc (.cells #[.int .u32 P.id, .int .i64 P.daily, .int .i64 P.monthly, .int .i64 P.over, .int .i64 P.roll, .int .i64 P.base, .slice a' P.tiers.length c'] 35) := ⟨_, rfl⟩
  have s1 : W1.heap.size = w.heap.size + 1 := by rw [hW1]; exact Array.size_push _
  have b1 : Below w.heap.size w W1 := by rw [hW1]; exact (Below.refl _ _).alloc (Nat.le_refl _) _
  have b2 : Below w.heap.size w W := by rw [hW]; exact b1.alloc b1.size _
  have q1 : W.heap[w.heap.size]? = some (.cells #[.int .u32 P.id, .int .i64 P.daily, .int .i64 P.monthly, .int .i64 P.over, .int .i64 P.roll, .int .i64 P.base, .slice a P.tiers.length c] 35 (0, 0)) := by rw [hW, hW1]; exact blk_alloc (blk_new _ _) _
  have q2 : W.heap[w.heap.size + 1]? = some (.cells #[.int .u32 P.id, .int .i64 P.daily, .int .i64 P.monthly, .int .i64 P.over, .int .i64 P.roll, .int .i64 P.base, .slice a' P.tiers.length c'] 35 (0, 0)) := by rw [← s1, hW]; exact blk_new _ _
  have HBW := Lib.hid b2
  have HV := Lib.hid (hv.below b2)
  have HV' := Lib.hid (hv'.below b2)
  have CC := Lib.hid fun (X : World) (hb : Below W.heap.size W X) => show X.cell? ⟨w.heap.size, 6, none⟩ = some (.slice a P.tiers.length c) ∧ X.cell? ⟨w.heap.size + 1, 6, none⟩ = some (.slice a' P.tiers.length c') from
    ⟨blk_cell ((Keep.ofBelow hb (fun _ => False)).blk q1 (fun h => h)) 6, blk_cell ((Keep.ofBelow hb (fun _ => False)).blk q2 (fun h => h)) 6⟩
  have k0 := blk_cell q1 0
  have k1 := blk_cell q1 1
  have k2 := blk_cell q1 2
  have k3 := blk_cell q1 3
  have k4 := blk_cell q1 4
  have k5 := blk_cell q1 5
  have k6 := blk_cell q1 6
  have l0 := blk_cell q2 0
  have l1 := blk_cell q2 1
  have l2 := blk_cell q2 2
  have l3 := blk_cell q2 3
  have l4 := blk_cell q2 4
  have l5 := blk_cell q2 5
  have l6 := blk_cell q2 6
  have hsz := b2.size
  clear hv hv' s1 b1 b2 q1 q2
  go_enter Tryz.func23, Tryz.ntmps23
  go_upto_region 1 with fail
  rw [← hW1, ← hW]
  clear hW1 hW
  go_wp2_with fail
  go_loopw [5] (fun i wr => ∃ j : Nat, j ≤ P.tiers.length ∧ i = .int .i64 j ∧ Hid (Below W.heap.size W wr)) (fun i _ => P.tiers.length - (intOf i).toNat)
  case atStart => exact ⟨0, by omega, rfl, Lib.hid (Below.refl _ _)⟩
  case round =>
    obtain ⟨j, hj, rfl, HB⟩ := hrel
    obtain ⟨m6, n6⟩ := CC.out wr HB.out
    clear k0 k1 k2 k3 k4 k5 k6 l0 l1 l2 l3 l4 l5 l6
    by_cases hlt : j < P.tiers.length
    · obtain ⟨x, hx⟩ : ∃ x, P.tiers[j]? = some x := ⟨_, List.getElem?_eq_getElem hlt⟩
      obtain ⟨g1, o1, cap1, he1, hc⟩ := (HV.out.below HB.out).at_ hx
      obtain ⟨g2, o2, cap2, he2, hd⟩ := (HV'.out.below HB.out).at_ hx
      have c0 : wr.cell? ⟨g1, o1 + j * 2, none⟩ = some (.int .i64 x.upto) := hc 0 _ rfl
      have c1 : wr.cell? ⟨g1, o1 + j * 2 + 1, none⟩ = some (.int .i64 x.price) := hc 1 _ rfl
      have d0 : wr.cell? ⟨g2, o2 + j * 2, none⟩ = some (.int .i64 x.upto) := hd 0 _ rfl
      have d1 : wr.cell? ⟨g2, o2 + j * 2 + 1, none⟩ = some (.int .i64 x.price) := hd 1 _ rfl
      injection he1 with he1 hx1 hx2
      injection he2 with he2 hx3 hx4
      subst he1; subst he2
      have i1 : (j : Int) < (P.tiers.length : Int) := by omega
      clear hx hx1 hx2 hx3 hx4 hc hd
      go_wp2_with fail
      go_quiet (fail)
      go_wp2_with fail
      refine ⟨⟨j + 1, by omega, by go_num, Lib.hid (below_drewN HB.out _)⟩, by simp [intOf]; omega⟩
    · obtain rfl : j = P.tiers.length := by omega
      go_wp2_with fail
      go_ret
      exact ⟨rfl, HBW.out.trans (HB.out.mono hsz)⟩
end Go.Proofs.YtidppalhjknlfaaGreatDoor
