/- Plans: tiers.Check; the numbers of a plan. -/
import Derived.Test.YtidppalhjknlfaaGreatDoorQMScan
import Derived.Test.YtidppalhjknlfaaGreatDoorQMOrd3
import Derived.Test.YtidppalhjknlfaaGreatDoorQMMake
import Derived.Test.YtidppalhjknlfaaGreatDoorQMMem
import Derived.RangeFuncNested
import Derived.RangeFuncLeaves
import Derived.RangeFuncBox
import Derived.LoopNIn
import Derived.LoopIn
import Derived.LoopTactic
import Derived.Deep.RegionHeld3
import Derived.TacticsIn
import Derived.Shelf.Abstract
import Derived.WalkKit
import Derived.OwnWalkIn
import Derived.TacticsInMore
namespace Go.Proofs.YtidppalhjknlfaaGreatDoor
open Go.RowKit
set_option maxRecDepth 100000
set_option maxHeartbeats 1000000
set_option linter.unusedVariables false
set_option linter.unusedSimpArgs false
structure Tr where
  upto : Int
  price : Int
def Tr.cells (t : Tr) : List Value := [.int .i64 t.upto, .int .i64 t.price]
def shT : Sh Tr := ⟨2, Tr.cells, fun _ => rfl, by decide, fun x u hu => by
  simp only [Tr.cells, List.mem_cons, List.not_mem_nil, or_false] at hu
  rcases hu with rfl | rfl <;> rfl⟩
def Tr.Ok (t : Tr) : Prop := W64 t.upto ∧ W64 t.price
structure Pl where
  id : Int
  daily : Int
  monthly : Int
  over : Int
  roll : Int
  base : Int
  tiers : List Tr
structure Pl.Ok (p : Pl) : Prop where
  id : 0 ≤ p.id ∧ p.id ≤ 4294967295
  daily : W64 p.daily
  monthly : W64 p.monthly
  over : W64 p.over
  roll : W64 p.roll
  base : W64 p.base
  tiers : ∀ t ∈ p.tiers, t.Ok
def Pl.cells (p : Pl) (v : Value) : List Value := [.int .u32 p.id, .int .i64 p.daily, .int .i64 p.monthly, .int .i64 p.over, .int .i64 p.roll, .int .i64 p.base, v]
def Pl.val (p : Pl) (v : Value) : Value := .agg #[.int .u32 p.id, .int .i64 p.daily, .int .i64 p.monthly, .int .i64 p.over, .int .i64 p.roll, .int .i64 p.base, v]
/-- may tiers be? -/
def tckGo (was : Int) : List Tr → Bool
  | [] => true
  | t :: r => decide (0 ≤ t.price ∧ t.price ≤ 1125899906842624) && (if r.isEmpty = true then t.upto == 0 else decide (was < t.upto ∧ t.upto ≤ 1099511627776) && tckGo t.upto r)
def tchk (l : List Tr) : Bool := decide (1 ≤ l.length ∧ l.length ≤ 4) && tckGo 0 l
theorem GR.at2 {w : World} {v : Value} {L : List Tr} (h : GR shT w v L) {i : Nat} {t : Tr} (ht : L[i]? = some t) : ∃ g off cap, v = .slice (some ⟨g, off, none⟩) L.length cap ∧ w.cell? ⟨g, off + i * 2, none⟩ = some (.int .i64 t.upto) ∧ w.cell? ⟨g, off + i * 2 + 1, none⟩ = some (.int .i64 t.price) := by
  obtain ⟨g, off, cap, he, hc⟩ := h.at_ ht
  exact ⟨g, off, cap, he, hc 0 _ rfl, hc 1 _ rfl⟩
theorem tcheck_any (v : Value) (L : List Tr) (w : World) (hv : GR shT w v L) :
    Calls Tryz.prog 72 #[v] w fun e w' => e = .returned (.bool (tchk L)) ∧ Below w.heap.size w w' := by
  obtain ⟨a, cap, rfl, h1, h2, h3⟩ := hv.shape
  unfold maxLen at h2
  have HV := Lib.hid hv
  obtain ⟨R, hR⟩ : ∃ R, R = tchk L := ⟨_, rfl⟩
  rw [← hR]
  clear hv h3
  by_cases hl : 1 ≤ L.length ∧ L.length ≤ 4
  · have hR2 : R = tckGo 0 L := by rw [hR]; unfold tchk; rw [decide_eq_true hl, Bool.true_and]
    have HR := Lib.hid hR2
    have i0 : ((L.length : Int) == 0) = false := beq_eq_false_iff_ne.2 (by omega)
    have i1 : ¬ ((L.length : Int) > 4) := by omega
    clear hR hR2
    go_enter Tryz.func72, Tryz.ntmps72
    go_wp2_with fail
    go_loopw [3, 16] (fun s i wr => ∃ (j : Nat) (was : Int), j < L.length ∧ i = .int .i64 j ∧ s = .int .i64 was ∧ Hid (R = tckGo was (L.drop j)) ∧ Hid (Below w.heap.size w wr)) (fun _ i _ => L.length - (intOf i).toNat)
    case atStart => exact ⟨0, 0, by omega, rfl, rfl, HR, Lib.hid (Below.refl _ _)⟩
    case round =>
      obtain ⟨j, was, hj, rfl, rfl, HG, HB⟩ := hrel
      obtain ⟨t, ht⟩ : ∃ t, L[j]? = some t := ⟨_, List.getElem?_eq_getElem hj⟩
      obtain ⟨g, off, cap', he, c0, c1⟩ := (HV.out.below HB.out).at2 ht
      injection he with he n1 n2
      subst he; subst n2
      clear n1
      have hd : L.drop j = t :: L.drop (j + 1) := by
        rw [List.drop_eq_getElem_cons hj, (List.getElem?_eq_some_iff.1 ht).2]
      have hg := HG.out
      rw [hd] at hg
      unfold tckGo at hg
      have hsz := HB.out.size
      have i2 : (j : Int) < (L.length : Int) := by omega
      clear ht hd
      by_cases hp : 0 ≤ t.price ∧ t.price ≤ 1125899906842624
      · rw [decide_eq_true hp, Bool.true_and] at hg
        have i3 : ¬ t.price < 0 := by omega
        have i4 : ¬ t.price > 1125899906842624 := by omega
        by_cases hlast : j + 1 = L.length
        · have hem : (L.drop (j + 1)).isEmpty = true := by rw [List.drop_eq_nil_of_le (by omega)]; rfl
          rw [if_pos hem] at hg
          have i5 : (L.length : Int) = (j : Int) + 1 := by omega
          have i6 : wrap64 (j : Int) = (j : Int) := by unfold wrap64; omega
          have i7 : wrap64 ((j : Int) + 1 - 1) = (j : Int) := by unfold wrap64; omega
          subst hg
          clear hem HG hlast hp
          go_wp2_with fail
          go_ret
          exact ⟨by first | rfl | simp, HB.out.alloc hsz _⟩
        · have hem : ¬ (L.drop (j + 1)).isEmpty = true := by
            rw [List.isEmpty_iff]; intro h; have := congrArg List.length h; rw [List.length_drop] at this; simp at this; omega
          rw [if_neg hem] at hg
          have i5 : ((j : Int) == wrap64 ((L.length : Int) - 1)) = false := beq_eq_false_iff_ne.2 (by unfold wrap64; omega)
          by_cases hu : was < t.upto ∧ t.upto ≤ 1099511627776
          · rw [decide_eq_true hu, Bool.true_and] at hg
            have i7 : ¬ t.upto ≤ was := by omega
            have i8 : ¬ t.upto > 1099511627776 := by omega
            have HG2 := Lib.hid hg
            clear hem HG hp hu hg
            go_wp2_with fail
            refine ⟨⟨j + 1, t.upto, by omega, by go_num, rfl, HG2, Lib.hid (HB.out.alloc hsz _)⟩, by simp [intOf]; omega⟩
          · rw [decide_eq_false hu, Bool.false_and] at hg
            subst hg
            have huu : t.upto ≤ was ∨ (¬ t.upto ≤ was ∧ t.upto > 1099511627776) := by omega
            clear hem HG hp hu
            rcases huu with i7 | ⟨i7, i8⟩
            all_goals
              go_wp2_with fail
              go_ret
              exact ⟨rfl, HB.out.alloc hsz _⟩
      · rw [decide_eq_false hp, Bool.false_and] at hg
        subst hg
        have hpp : t.price < 0 ∨ (¬ t.price < 0 ∧ t.price > 1125899906842624) := by omega
        clear HG hp
        rcases hpp with i7 | ⟨i7, i8⟩
        all_goals
          go_wp2_with fail
          go_ret
          exact ⟨rfl, HB.out.alloc hsz _⟩
  · have hR2 : R = false := by rw [hR]; unfold tchk; rw [decide_eq_false hl, Bool.false_and]
    subst hR2
    have hll : (L.length : Int) = 0 ∨ (¬ (L.length : Int) = 0 ∧ (L.length : Int) > 4) := by omega
    clear hR hl
    rcases hll with i0 | ⟨i0, i1⟩
    · have i2 : ((L.length : Int) == 0) = true := beq_iff_eq.2 i0
      go_enter Tryz.func72, Tryz.ntmps72
      go_wp2_with fail
      go_ret
      exact ⟨rfl, Below.refl _ _⟩
    · have i2 : ((L.length : Int) == 0) = false := beq_eq_false_iff_ne.2 i0
      go_enter Tryz.func72, Tryz.ntmps72
      go_wp2_with fail
      go_ret
      exact ⟨rfl, Below.refl _ _⟩
end Go.Proofs.YtidppalhjknlfaaGreatDoor
