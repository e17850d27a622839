/- The walk of the law's goes (chapter 3). -/
import Derived.Test.YtpclfnamknioaaaDisk9
namespace Go.Proofs.Ytpclfnamknioaaa
open Go.RowKit
set_option maxRecDepth 100000
set_option linter.unusedVariables false
set_option linter.unusedSimpArgs false
theorem ge0 : fuseS (newS 2) 1 = ⟨[none, none], [], 1, false, 0⟩ := rfl
theorem ge1 (u : ByteArray) (hu : u.size = 4096) : writeE ⟨[none, none], [], 1, false, 0⟩ 0 u = 0 ∧ writeR ⟨[none, none], [], 1, false, 0⟩ 0 u = ⟨[none, none], [(0, u)], 0, false, 0⟩ := by
  unfold writeE writeR writeS burnS sureE wput
  simp [hu]
theorem ge2 (u u' : ByteArray) (hu' : u'.size = 4096) : writeE ⟨[none, none], [(0, u)], 0, false, 0⟩ 1 u' = 9 ∧ writeR ⟨[none, none], [(0, u)], 0, false, 0⟩ 1 u' = ⟨[none, none], [(0, u), (1, u')], 0, true, 0⟩ := by
  unfold writeE writeR writeS burnS sureE
  simp [hu', wput]
theorem ge3 (u u' : ByteArray) (hu' : u'.size = 4096) : restartS ⟨[none, none], [(0, u), (1, u')], 0, true, 0⟩ [0, 255] = ⟨[some (zp 4096), some u'], [], -1, false, 0⟩ := by
  unfold restartS
  have e : setl (fateF [0, 255]) [(0, u), (1, u')] [none, none] 2 = [some (mix 0 (zp 4096) u 8), some (mix 255 (zp 4096) u' 8)] := rfl
  show DS.mk (setl (fateF [0, 255]) [(0, u), (1, u')] [none, none] 2) [] (-1) false 0 = _
  rw [e, mix_zero, mix_all _ _ (zp_size 4096) hu']
theorem ge4 (u' : ByteArray) : readP ⟨[some (zp 4096), some u'], [], -1, false, 0⟩ 0 = zp 4096 ∧ readP ⟨[some (zp 4096), some u'], [], -1, false, 0⟩ 1 = u' := ⟨rfl, rfl⟩
theorem goes_any (w : World) : Calls Try.prog 15 #[] w fun e w' => e = .returned (.bool true) ∧ Below w.heap.size w w' := by
  have hnew := x_new 2 w w (Below.refl _ _) (by decide) (by decide)
  rw [show ((2 : Nat) : Int) = 2 from rfl] at hnew
  have HN := Lib.hid hnew
  clear hnew
  unfold dV at HN
  go_enter Try.func15, Try.ntmps15
  go_wp2_with fail
  refine HN.out.mono ?_
  rintro e w1 ⟨p, bl, bw, rfl, hx, _⟩
  have HX1 := Lib.hid hx
  clear hx HN
  go_wp2_with fail
  refine (x_fuse 1 (by decide) HX1.out).mono ?_
  rintro e w2 ⟨rfl, hx⟩
  rw [ge0] at hx
  have HX2 := Lib.hid hx
  clear hx HX1
  go_wp2_with fail
  refine (page_law 97 97 0 (by decide) (by decide) (by decide) (by decide) (by decide) (by decide) w2).mono ?_
  rintro e w3 ⟨v3, rfl, ho, hb⟩
  obtain ⟨g3, c3, rfl, _⟩ := ho.byte (pgB_size _ _ _)
  have HO3 := Lib.hid ho
  have HX3 := Lib.hid (HX2.out.below hb)
  clear ho hb HX2
  go_wp2_with fail
  refine (x_write 0 _ _ _ HX3.out HO3.out).mono ?_
  rintro e w4 ⟨rfl, hx⟩
  rw [(ge1 _ (pgB_size _ _ _)).1]
  rw [(ge1 _ (pgB_size _ _ _)).2] at hx
  have HX4 := Lib.hid hx
  clear hx HX3 HO3
  go_wp2_with fail
  refine (page_law 98 98 0 (by decide) (by decide) (by decide) (by decide) (by decide) (by decide) w4).mono ?_
  rintro e w5 ⟨v5, rfl, ho, hb⟩
  obtain ⟨g5, c5, rfl, _⟩ := ho.byte (pgB_size _ _ _)
  have HO5 := Lib.hid ho
  have HX5 := Lib.hid (HX4.out.below hb)
  clear ho hb HX4
  go_wp2_with fail
  refine (x_write 1 _ _ _ HX5.out HO5.out).mono ?_
  rintro e w6 ⟨rfl, hx⟩
  rw [(ge2 _ _ (pgB_size _ _ _)).1]
  rw [(ge2 _ _ (pgB_size _ _ _)).2] at hx
  have HX6 := Lib.hid hx
  clear hx HX5 HO5
  go_wp2_with fail
  refine (x_dead HX6.out).mono ?_
  rintro e w7 ⟨rfl, rfl⟩
  go_wp2_with fail
  refine (x_restart_new [0, 255] _ rfl 2 rfl _ rfl (by decide) HX6.out (by decide)).mono ?_
  rintro e w8 ⟨rfl, hx⟩
  rw [ge3 _ _ (pgB_size _ _ _)] at hx
  have HX8 := Lib.hid hx
  clear hx HX6
  go_wp2_with fail
  refine (x_read 0 HX8.out).mono ?_
  rintro e w9 ⟨v9, rfl, ho, _, _, hx⟩
  obtain ⟨g9, c9, rfl, hg9, hc9, hm9, hcel⟩ := (ho rfl).byte (zp_size 4096)
  have hy0 := hcel 0 _ (zp_get 0 (by decide))
  have HX9 := Lib.hid hx
  clear ho hx HX8 hcel
  go_wp2_with fail
  refine (x_read 1 HX9.out).mono ?_
  rintro e w10 ⟨v10, rfl, ho, _, hb, hx⟩
  obtain ⟨g10, c10, rfl, _, hc10, hm10, hcel⟩ := (ho rfl).byte (pgB_size 98 98 0)
  have hy1 := hcel 4095 _ (pgB_get (by decide) (by decide) (by decide) (by decide) 4095 (by decide))
  rw [show pgN 98 98 0 4095 = 98 from rfl] at hy1
  have hy2 := (Keep.ofBelow hb (fun _ => False)).cell hy0 (fun h => h)
  have HX10 := Lib.hid hx
  clear ho hx HX9 hcel hb
  go_wp2_with fail
  go_ret
  exact ⟨rfl, HX10.out.low⟩
end Go.Proofs.Ytpclfnamknioaaa
