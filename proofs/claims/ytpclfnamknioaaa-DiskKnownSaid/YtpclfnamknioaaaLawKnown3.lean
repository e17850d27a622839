/- The walk of DiskKnown. -/
import Derived.Test.YtpclfnamknioaaaGoes3
namespace Go.Proofs.Ytpclfnamknioaaa
open Go.RowKit
set_option maxRecDepth 100000
set_option linter.unusedVariables false
set_option linter.unusedSimpArgs false
theorem kn1 (u : ByteArray) (hu : u.size = 4096) : writeE (newS 2) 2 u = 1 ∧ writeR (newS 2) 2 u = newS 2 := by
  unfold writeE writeR sureE newS
  simp [hu]
theorem kn2 (u : ByteArray) (hu : u.size = 512) : writeE (newS 2) 0 u = 1 ∧ writeR (newS 2) 0 u = newS 2 := by
  unfold writeE writeR sureE newS
  simp [hu]
theorem kn3 (u : ByteArray) (hu : u.size = 4096) : writeE (newS 2) 1 u = 0 ∧ writeR (newS 2) 1 u = ⟨[none, none], [(1, u)], -1, false⟩ := by
  unfold writeE writeR writeS burnS sureE newS wput
  simp [hu]
theorem kn4 (u : ByteArray) : restartS ⟨[none, none], [(1, u)], -1, false⟩ [3] = ⟨[none, some (mix 3 (zp 4096) u 8)], [], -1, false⟩ := rfl
theorem kn5 (u : ByteArray) (hu : u.size = 4096) (i : Nat) (hi : i < 4096) : (Lib.strCells (mix 3 (zp 4096) u 8))[i]? = if i < 1024 then (Lib.strCells u)[i]? else some (.int .u8 0) := by
  have hb : ∀ j : Fin 8, bitv 3 j = decide (j.val < 2) := by decide
  rw [mix_get 3 _ _ (zp_size 4096) hu i hi 8 (Nat.le_refl _), zp_get i hi, hb ⟨i / 512, by omega⟩]
  by_cases h : i < 1024
  · rw [if_pos h, if_pos ⟨by omega, by simp; omega⟩]
  · rw [if_neg h, if_neg (by simp; omega)]
theorem known_any (w : World) : Calls Try.prog 3 #[] w fun e w' => e = .returned (.bool true) ∧ Below w.heap.size w w' := by
  have HN := Lib.hid (fun w1 (hb : Below w.heap.size w w1) => x_new 2 w w1 hb (by decide) (by decide))
  unfold dV at HN
  have hmk := run_make_row' (P := Try.prog) 27 5 (.int .u8 0) 1 uBytes iByte rfl .i64 .i64 512 (by decide) (by decide)
  rw [show ((512 : Nat) : Int) = 512 from rfl] at hmk
  have HZ := Lib.hid (fun W => Own.zeros 5 W 512 (by decide))
  obtain ⟨mc, hmc⟩ : ∃ mc, mc = madeCells #[Value.int .u8 0] 512 := ⟨_, rfl⟩
  rw [← hmc] at hmk HZ
  clear hmc
  go_enter Try.func3, Try.ntmps3
  go_wp2_with fail
  refine (new_no 0 _ (by decide)).mono ?_
  rintro e w1 ⟨rfl, rfl⟩
  go_wp2_with fail
  refine (new_no 4097 _ (by decide)).mono ?_
  rintro e w2 ⟨rfl, rfl⟩
  go_wp2_with fail
  refine (HN.out _ (Below.refl _ _)).mono ?_
  rintro e w3 ⟨p, bl, bw, rfl, hx, _⟩
  have HX1 := Lib.hid hx
  clear hx HN
  go_wp2_with fail
  refine (page_law 1 1 0 (by decide) (by decide) (by decide) (by decide) (by decide) (by decide) _).mono ?_
  rintro e w4 ⟨v4, rfl, ho, hb⟩
  obtain ⟨g4, c4, rfl, _⟩ := ho.byte (pgB_size _ _ _)
  have HO4 := Lib.hid ho
  have HX4 := Lib.hid (HX1.out.below hb)
  clear ho hb HX1
  go_wp2_with fail
  refine (x_write 2 _ _ _ HX4.out HO4.out).mono ?_
  rintro e w5 ⟨rfl, hx⟩
  rw [(kn1 _ (pgB_size _ _ _)).1]
  rw [(kn1 _ (pgB_size _ _ _)).2] at hx
  have HX5 := Lib.hid hx
  clear hx HX4 HO4
  go_wp2_with fail
  refine (x_write 0 _ _ _ (HX5.out.alloc _) (HZ.out w5)).mono ?_
  rintro e w6 ⟨rfl, hx⟩
  rw [(kn2 _ (zp_size _)).1]
  rw [(kn2 _ (zp_size _)).2] at hx
  have HX6 := Lib.hid hx
  clear hx HX5 HZ
  go_wp2_with fail
  refine (page_law 97 97 0 (by decide) (by decide) (by decide) (by decide) (by decide) (by decide) _).mono ?_
  rintro e w7 ⟨v7, rfl, ho, hb⟩
  obtain ⟨g7, c7, rfl, _⟩ := ho.byte (pgB_size _ _ _)
  have HO7 := Lib.hid ho
  have HX7 := Lib.hid (HX6.out.below hb)
  clear ho hb HX6
  go_wp2_with fail
  refine (x_write 1 _ _ _ HX7.out HO7.out).mono ?_
  rintro e w8 ⟨rfl, hx⟩
  rw [(kn3 _ (pgB_size _ _ _)).1]
  rw [(kn3 _ (pgB_size _ _ _)).2] at hx
  have HX8 := Lib.hid hx
  clear hx HX7 HO7
  go_wp2_with fail
  refine (x_waits HX8.out).mono ?_
  rintro e w9 ⟨v9, rfl, ho, _, hx⟩
  obtain ⟨a9, c9, rfl⟩ : ∃ a c, v9 = .slice a 1 c := by
    rcases ho.2 with ⟨_, h0⟩ | ⟨g, cap, cur, he, _⟩
    · cases h0
    · exact ⟨_, _, he⟩
  have HX9 := Lib.hid hx
  clear ho hx HX8
  go_wp2_with fail
  refine (x_restart_new [3] _ rfl 1 rfl _ rfl (by decide) HX9.out (by decide)).mono ?_
  rintro e w10 ⟨rfl, hx⟩
  rw [kn4] at hx
  have HX10 := Lib.hid hx
  clear hx HX9
  go_wp2_with fail
  refine (x_read 1 HX10.out).mono ?_
  rintro e w11 ⟨v11, rfl, ho, _, _, hx⟩
  have hsz := mix_size 3 (zp 4096) (pgB 97 97 0) (zp_size _) (pgB_size _ _ _) 8 (Nat.le_refl _)
  obtain ⟨g11, c11, rfl, hg11, hc11, hm11, hcel⟩ := (ho rfl).byte hsz
  have hy : ∀ i, i < 4096 → w11.cell? ⟨g11, i, none⟩ = some (.int .u8 (if i < 1024 then 97 else 0)) := fun i hi => hcel i _ (by
    show (Lib.strCells (mix 3 (zp 4096) (pgB 97 97 0) 8))[i]? = _
    rw [kn5 _ (pgB_size _ _ _) i hi, pgB_get (by decide) (by decide) (by decide) (by decide) i hi]
    have e : pgN 97 97 0 i = 97 := by unfold pgN; split <;> rfl
    rw [e]
    split <;> rfl)
  have hy0 := hy 0 (by decide)
  have hy1 := hy 1023 (by decide)
  have hy2 := hy 1024 (by decide)
  have hy3 := hy 4095 (by decide)
  rw [if_pos (by decide)] at hy0 hy1
  rw [if_neg (by decide)] at hy2 hy3
  have HX11 := Lib.hid hx
  clear ho hx HX10 hcel hsz hy
  go_wp2_with fail
  refine (goes_any _).mono ?_
  rintro e w12 ⟨rfl, hb⟩
  have HB := Lib.hid (HX11.out.below hb).low
  clear hb HX11
  go_wp2_with fail
  go_ret
  exact ⟨rfl, HB.out⟩
end Go.Proofs.Ytpclfnamknioaaa
