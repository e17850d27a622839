/- quitrentlaw21.CyclePlays. -/
import Derived.Test.YtidppalhjknlfaaGreatDoorQMBkOne5
import Derived.Test.YtidppalhjknlfaaGreatDoorQMBkAny
namespace Go.Proofs.YtidppalhjknlfaaGreatDoor
open Go.RowKit
set_option maxRecDepth 100000
set_option maxHeartbeats 4000000
set_option linter.unusedVariables false
set_option linter.unusedSimpArgs false
theorem one_any (base p b1 b2 q m : Nat) (w : World) (pv tv : Value) (ps : List PV) (ts : List TV) (x : A21) (h : OneH base p b1 b2 q m w pv tv ps ts x) :
    Calls Tryz.prog 6 #[sV p, .pointer (some ⟨q, 0, none⟩), .agg x.cells.toArray] w fun e w' => e = .returned (.bool true) ∧ oneQ base p b1 b2 q m w ps ts w' := by
  have hd : x.doo % 7 = 0 ∨ x.doo % 7 = 1 ∨ x.doo % 7 = 2 ∨ x.doo % 7 = 3 ∨ x.doo % 7 = 4 ∨ x.doo % 7 = 5 ∨ x.doo % 7 = 6 := by omega
  rcases hd with hd | hd | hd | hd | hd | hd | hd
  · exact one_0 base p b1 b2 q m w pv tv ps ts x h hd
  · exact one_1 base p b1 b2 q m w pv tv ps ts x h hd
  · exact one_2 base p b1 b2 q m w pv tv ps ts x h hd
  · exact one_3 base p b1 b2 q m w pv tv ps ts x h hd
  · exact one_4 base p b1 b2 q m w pv tv ps ts x h hd
  · exact one_5 base p b1 b2 q m w pv tv ps ts x h hd
  · exact one_6 base p b1 b2 q m w pv tv ps ts x h hd
theorem greatB_ti {l : List A21} (h : greatB l = false) : ∀ x ∈ l, x.P.tiers.length ≤ 10 := fun x hx => by
  unfold greatB at h
  rw [Bool.or_eq_false_iff] at h
  have := List.any_eq_false.1 h.2 x hx
  unfold big21 at this
  simpa using this
theorem law_any (v : Value) (l : List A21) (w : World) (hT : Tab w) (hv : AS21 w v l) :
    Calls Tryz.prog 3 #[v] w fun e w' => e = .returned (.bool true) ∧ Below w.heap.size w w' := by
  obtain ⟨a, c, rfl, hlc, hcm, _⟩ := hv.1.shape
  have HG := Lib.hid (great21_any _ l w hv.1)
  have HV := Lib.hid hv
  have HT := Lib.hid hT
  cases hb : greatB l with
  | true =>
    rw [hb] at HG
    clear hv hT hb
    go_enter Tryz.func3, Tryz.ntmps3
    go_wp2_with fail
    refine HG.out.mono ?_
    rintro e w1 ⟨rfl, hw⟩
    obtain rfl := hw.symm
    clear hw
    go_wp2_with fail
    go_ret
    exact ⟨rfl, Below.refl _ _⟩
  | false =>
    rw [hb] at HG
    have hl := greatB_no hb
    have HTI := Lib.hid (greatB_ti hb)
    clear hv hT hb
    go_enter Tryz.func3, Tryz.ntmps3
    go_wp2_with fail
    refine HG.out.mono ?_
    rintro e w1 ⟨rfl, hw⟩
    obtain rfl := hw.symm
    clear hw
    go_wp2_with fail
    refine (new_any (-1) _).mono ?_
    rintro e w1 ⟨p, b1, b2, rfl, hp, hb1, hb2, hm, hb⟩
    have HC1 := Lib.hid (show CB w1 p b1 b2 [] [] 0 from ⟨[], hm, CS.nil, St.nil, by decide⟩)
    have HB1 := Lib.hid hb
    have HLO := Lib.hid hb1
    clear hm hb hp hb1 hb2
    unfold pV
    go_wp2_with fail
    go_loopw [5] (fun i wr => ∃ j : Nat, j ≤ l.length ∧ i = .int .i64 j ∧ Hid (∃ pv tv ps ts, CB wr p b1 b2 (psOf ps) (tsOf ts) (2 * j) ∧ RB w.heap.size wr w1.heap.size pv tv ps ts ∧ ps.length ≤ j ∧ ts.length ≤ j) ∧ Hid (Below w.heap.size w wr)) (fun i _ => l.length - (intOf i).toNat)
    case atStart =>
      have hb2 : Below w1.heap.size w1 (w1.alloc (.cells #[.slice none 0 0, .slice none 0 0] 30)) := (Below.refl _ _).alloc (Nat.le_refl _) _
      refine ⟨0, by omega, rfl, Lib.hid ⟨.slice none 0 0, .slice none 0 0, [], [], HC1.out.below hb2, ?_, Nat.le_refl _, Nat.le_refl _⟩, Lib.hid (HB1.out.trans (hb2.mono HB1.out.size))⟩
      exact ⟨blk_new _ _, HB1.out.size, World.ownsRow_nil _ _ _ _, World.ownsRow_nil _ _ _ _, by simp, by simp, List.Pairwise.nil⟩
    case round =>
      obtain ⟨j, hj, rfl, HS, HB⟩ := hrel
      by_cases hlt : j < l.length
      · obtain ⟨x, hx⟩ : ∃ x, l[j]? = some x := ⟨_, List.getElem?_eq_getElem hlt⟩
        have hvr := HV.out.below HB.out
        obtain ⟨g, off, cap', he, c0, c1, c2, c3, c4, c5, c6, c7, c8, c9, c10, c11⟩ := hvr.1.at12 hx
        injection he with he hx1 hx2
        subst he; subst hx2
        have i1 : (j : Int) < (l.length : Int) := by omega
        obtain ⟨pv, tv, ps, ts, h1, h2, h3, h4⟩ := HS.out
        have hmem := List.mem_of_getElem? hx
        have hone := one_any w.heap.size p b1 b2 w1.heap.size (2 * j) wr pv tv ps ts x ⟨h1, h2, HLO.out, HB.out.size, by omega, by omega, by omega, hvr.2 x hmem, HTI.out x hmem, HT.out.below HB.out (Nat.le_refl _)⟩
        unfold A21.cells at hone
        unfold sV pV at hone
        have ONE := Lib.hid hone
        have FIN := Lib.hid fun (w' : World) (hq : oneQ w.heap.size p b1 b2 w1.heap.size (2 * j) wr ps ts w') => show Hid (∃ pv tv ps ts, CB w' p b1 b2 (psOf ps) (tsOf ts) (2 * (j + 1)) ∧ RB w.heap.size w' w1.heap.size pv tv ps ts ∧ ps.length ≤ j + 1 ∧ ts.length ≤ j + 1) ∧ Hid (Below w.heap.size w w') from by
          obtain ⟨⟨pv', tv', ps', ts', e1, e2, e3, e4⟩, e5⟩ := hq
          exact ⟨Lib.hid ⟨pv', tv', ps', ts', by rw [show 2 * (j + 1) = 2 * j + 2 by omega]; exact e1, e2, by omega, by omega⟩, Lib.hid (HB.out.trans e5)⟩
        obtain ⟨doo, ⟨id, daily, monthly, over, roll, bs, tiers⟩, ta, tc, ten, pid, shift, n⟩ := x
        dsimp only at c0 c1 c2 c3 c4 c5 c6 c7 c8 c9 c10 c11 ONE
        clear hx1 hx hvr h1 h2 h3 h4 hone hmem
        go_wp2_with fail
        refine ONE.out.mono ?_
        rintro e w2 ⟨rfl, hq⟩
        obtain ⟨f1, f2⟩ := FIN.out _ hq
        clear hq c0 c1 c2 c3 c4 c5 c6 c7 c8 c9 c10 c11
        go_wp2_with fail
        refine ⟨⟨j + 1, by omega, by go_num, f1, f2⟩, by simp [intOf]; omega⟩
      · obtain rfl : j = l.length := by omega
        have i1 : ¬ (l.length : Int) < (l.length : Int) := by omega
        have GO := Lib.hid (goes21 wr (HT.out.below HB.out (Nat.le_refl _)))
        clear HS
        go_wp2_with fail
        refine GO.out.mono ?_
        rintro e w2 ⟨rfl, hb⟩
        have HB2 := Lib.hid (HB.out.trans (hb.mono HB.out.size))
        clear hb
        go_wp2_with fail
        go_ret
        exact ⟨rfl, HB2.out⟩
end Go.Proofs.YtidppalhjknlfaaGreatDoor
