/- The walk of DiskBurns. -/
import Derived.Test.YtpclfnamknioaaaGoes3
namespace Go.Proofs.Ytpclfnamknioaaa
open Go.RowKit
set_option maxRecDepth 100000
set_option maxHeartbeats 1000000
set_option linter.unusedVariables false
set_option linter.unusedSimpArgs false
/-- what waits after i writes to page 1 -/
def BW (i : Nat) (W : Wt) : Prop := (i = 0 ∧ W = []) ∨ (0 < i ∧ ∃ u, W = [(1, u)] ∧ u.size = 4096)
abbrev L3 : List Pg := [none, none, none]
theorem BW.len {i : Nat} {W : Wt} (h : BW i W) : W.length ≤ 1 := by
  rcases h with ⟨_, rfl⟩ | ⟨_, u, rfl, _⟩ <;> simp
theorem bu1 (i : Nat) (W : Wt) (f : Int) (u : ByteArray) (hu : u.size = 4096) (h : BW i W) (hf : 0 < f) : writeE ⟨L3, W, f, false⟩ 1 u = 0 ∧ ∃ W', writeR ⟨L3, W, f, false⟩ 1 u = ⟨L3, W', f - 1, false⟩ ∧ BW (i + 1) W' := by
  have h0 : (f == 0) = false := beq_eq_false_iff_ne.2 (by omega)
  refine ⟨by unfold writeE writeS burnS sureE; simp [hu, h0], wput 1 u W, by unfold writeR writeS burnS sureE; simp [hu, h0, hf], .inr ⟨by omega, u, ?_, hu⟩⟩
  rcases h with ⟨_, rfl⟩ | ⟨_, x, rfl, _⟩ <;> rfl
theorem bu2 (i : Nat) (W : Wt) (u : ByteArray) (hu : u.size = 4096) (h : BW i W) : writeE ⟨L3, W, 0, false⟩ 2 u = 9 ∧ writeR ⟨L3, W, 0, false⟩ 2 u = ⟨L3, W ++ [(2, u)], 0, true⟩ := by
  have e : wput 2 u W = W ++ [(2, u)] := by
    rcases h with ⟨_, rfl⟩ | ⟨_, x, rfl, _⟩
    · rfl
    · simp [wput]
  unfold writeE writeR writeS burnS sureE
  simp [hu, e]
theorem bu3 (S : DS) (hd : S.dead = true) (at_ : Int) (u : ByteArray) : writeE S at_ u = 9 ∧ writeR S at_ u = S ∧ flushE S = 9 ∧ flushR S = S := by
  have h1 : sureE S.dead S.L.length at_ u.size = 9 := by rw [hd]; rfl
  refine ⟨?_, ?_, ?_, ?_⟩
  · unfold writeE; rw [h1]; rfl
  · unfold writeR; rw [h1]; rfl
  · unfold flushE; rw [hd]; rfl
  · unfold flushR; rw [hd]; rfl
theorem bu4 (i : Nat) (W : Wt) (u : ByteArray) (hu : u.size = 4096) (h : BW i W) (fate : Int) : ∃ a, restartS ⟨L3, W ++ [(2, u)], 0, true⟩ (if 0 < i then [0, fate] else [fate]) = ⟨[none, a, some (mix fate (zp 4096) u 8)], [], -1, false⟩ := by
  rcases h with ⟨rfl, rfl⟩ | ⟨hi, x, rfl, _⟩
  · exact ⟨none, rfl⟩
  · rw [if_pos hi]
    exact ⟨_, rfl⟩
theorem bits8 (x : Int) (h0 : 0 ≤ x) (h1 : x < 256) : bits BinOp.and IntKind.u8 x 1 = bits BinOp.and IntKind.i64 x 1 := by
  have : ∀ k : Fin 256, bits BinOp.and IntKind.u8 (k.val : Int) 1 = bits BinOp.and IntKind.i64 (k.val : Int) 1 := by decide +kernel
  have e := this ⟨x.toNat, by omega⟩
  have hx : ((x.toNat : Nat) : Int) = x := by omega
  simp only [hx] at e
  exact e
theorem div_lt (x : Int) (h0 : 0 ≤ x) (h1 : x < 256) (j : Nat) : 0 ≤ x / 2 ^ j ∧ x / 2 ^ j < 256 := by
  have hp : (0 : Int) < 2 ^ j := Int.pow_pos (by decide)
  refine ⟨Int.ediv_nonneg h0 (Int.le_of_lt hp), Int.lt_of_le_of_lt ?_ h1⟩
  exact Int.ediv_le_self _ h0
theorem burns_law (n fate : Int) (hn0 : 0 ≤ n) (hn1 : n < 256) (hf0 : 0 ≤ fate) (hf1 : fate < 256) (w : World) : Calls Try.prog 4 #[.int .u8 n, .int .u8 fate] w fun e w' => e = .returned (.bool true) ∧ Below w.heap.size w w' := by
  have HN := Lib.hid (x_new 3 w w (Below.refl _ _) (by decide) (by decide))
  rw [show ((3 : Nat) : Int) = 3 from rfl] at HN
  unfold dV at HN
  obtain ⟨k, hk⟩ : ∃ k : Nat, n % 30 = (k : Int) := ⟨(n % 30).toNat, by omega⟩
  have hk30 : k < 30 := by omega
  go_enter Try.func4, Try.ntmps4
  go_wp2_with fail
  refine HN.out.mono ?_
  rintro e w1 ⟨p, bl, bw, rfl, hx, _⟩
  have HX1 := Lib.hid hx
  clear hx HN
  go_wp2_with fail
  rw [hk]
  refine (x_fuse k (by omega) HX1.out).mono ?_
  rintro e w2 ⟨rfl, hx⟩
  rw [show fuseS (newS 3) k = ⟨L3, [], k, false⟩ by
    show DS.mk L3 [] (max (k : Int) (-1)) false = _
    rw [show max (k : Int) (-1) = k by omega]] at hx
  have HX2 := Lib.hid hx
  clear hx HX1 hk
  go_wp2_with fail
  go_loopw [8] (fun s wr => ∃ (i : Nat) (W : Wt), i ≤ k ∧ s = .int .i64 i ∧ Hid (BW i W) ∧ Hid (DX w wr p bl bw ⟨L3, W, (k : Int) - i, false⟩)) (fun s _ => k - (intOf s).toNat)
  case atStart => exact ⟨0, [], by omega, rfl, Lib.hid (.inl ⟨rfl, rfl⟩), by simpa using HX2⟩
  case round =>
    obtain ⟨i, W, hi, rfl, HW, HX⟩ := hrel
    by_cases hlt : i < k
    · have hwr : IntKind.u8.wrap (i : Int) = (i : Int) := by rw [IntKind.wrap_u8]; omega
      go_wp2_with fail
      refine (x_dead HX.out).mono ?_
      rintro e w3 ⟨rfl, rfl⟩
      go_wp2_with fail
      refine (page_law i i 0 (by omega) (by omega) (by omega) (by omega) (by decide) (by decide) _).mono ?_
      rintro e w4 ⟨v4, rfl, ho, hb⟩
      obtain ⟨g4, c4, rfl, _⟩ := ho.byte (pgB_size _ _ _)
      have HO4 := Lib.hid ho
      have HX4 := Lib.hid (HX.out.below hb)
      clear ho hb HX
      go_wp2_with fail
      refine (x_write 1 _ _ _ HX4.out HO4.out).mono ?_
      rintro e w5 ⟨rfl, hx⟩
      obtain ⟨b1, W', b2, b3⟩ := bu1 i W ((k : Int) - i) _ (pgB_size i i 0) HW.out (by omega)
      rw [b1]
      rw [b2] at hx
      have HX5 := Lib.hid hx
      have HW' := Lib.hid b3
      clear hx HX4 HO4 b1 b2 b3
      go_wp2_with fail
      refine ⟨⟨i + 1, W', by omega, rfl, HW', ?_⟩, by simp [intOf]; omega⟩
      have e : ((k : Int) - i - 1) = (k : Int) - ((i + 1 : Nat) : Int) := by omega
      rw [← e]; exact HX5
    · obtain rfl : i = k := by omega
      have HXE : Hid (DX w wr p bl bw ⟨L3, W, 0, false⟩) := by
        have e : ((i : Int) - i) = 0 := by omega
        rw [e] at HX; exact HX
      clear HX HX2
      go_wp2_with fail
      refine (x_dead HXE.out).mono ?_
      rintro e w3 ⟨rfl, rfl⟩
      go_wp2_with fail
      refine (page_law 200 200 0 (by decide) (by decide) (by decide) (by decide) (by decide) (by decide) _).mono ?_
      rintro e w4 ⟨v4, rfl, ho, hb⟩
      obtain ⟨g4, c4, rfl, _⟩ := ho.byte (pgB_size _ _ _)
      have HO4 := Lib.hid ho
      have HX4 := Lib.hid (HXE.out.below hb)
      clear ho hb HXE
      go_wp2_with fail
      refine (x_write 2 _ _ _ HX4.out HO4.out).mono ?_
      rintro e w5 ⟨rfl, hx⟩
      rw [(bu2 i W _ (pgB_size 200 200 0) HW.out).1]
      rw [(bu2 i W _ (pgB_size 200 200 0) HW.out).2] at hx
      have HX5 := Lib.hid hx
      clear hx HX4 HO4
      go_wp2_with fail
      refine (x_dead HX5.out).mono ?_
      rintro e w6 ⟨rfl, rfl⟩
      go_wp2_with fail
      refine (x_read 0 HX5.out).mono ?_
      rintro e w7 ⟨v7, rfl, _, hv, _, hx⟩
      rw [show sureE true L3.length 0 4096 = 9 from rfl] at hv ⊢
      obtain rfl := hv (by decide)
      have HX7 := Lib.hid hx
      clear hx HX5 hv
      go_wp2_with fail
      refine (page_law 1 1 0 (by decide) (by decide) (by decide) (by decide) (by decide) (by decide) _).mono ?_
      rintro e w8 ⟨v8, rfl, ho, hb⟩
      obtain ⟨g8, c8, rfl, _⟩ := ho.byte (pgB_size _ _ _)
      have HO8 := Lib.hid ho
      have HX8 := Lib.hid (HX7.out.below hb)
      clear ho hb HX7
      go_wp2_with fail
      refine (x_write 0 _ _ _ HX8.out HO8.out).mono ?_
      rintro e w9 ⟨rfl, hx⟩
      obtain ⟨d1, d2, d3, d4⟩ := bu3 ⟨L3, W ++ [(2, pgB 200 200 0)], 0, true⟩ rfl 0 (pgB 1 1 0)
      rw [d1]
      rw [d2] at hx
      have HX9 := Lib.hid hx
      clear hx HX8 HO8
      go_wp2_with fail
      refine (x_flush HX9.out (by show 0 < L3.length; decide)).mono ?_
      rintro e w10 ⟨rfl, hx⟩
      rw [d3]
      rw [d4] at hx
      have HX10 := Lib.hid hx
      clear hx HX9 d1 d2 d3 d4
      obtain ⟨a, hre⟩ := bu4 i W _ (pgB_size 200 200 0) HW.out fate
      have HRE := Lib.hid hre
      clear hre
      by_cases hi0 : 0 < i
      · have i1 : decide ((i : Int) > 0) = true := decide_eq_true (by omega)
        go_wp2_with fail
        refine (x_restart_new [0, fate] _ rfl 2 rfl _ (by simp) (by show 2 ≤ 1000000; decide) (HX10.out.alloc _) (by intro x hx; simp at hx; omega)).mono ?_
        rintro e w11 ⟨rfl, hx⟩
        have hre := HRE.out
        rw [if_pos hi0] at hre
        rw [hre] at hx
        have HX11 := Lib.hid hx
        clear hx HX10 hre
        go_wp2_with fail
        refine (x_read 2 HX11.out).mono ?_
        rintro e w12 ⟨v12, rfl, ho, _, _, hx⟩
        have hsz := mix_size fate (zp 4096) (pgB 200 200 0) (zp_size _) (pgB_size _ _ _) 8 (Nat.le_refl _)
        obtain ⟨g12, c12, rfl, hg12, hc12, hm12, hcel⟩ := (ho rfl).byte hsz
        have hy : ∀ i, i < 4096 → w12.cell? ⟨g12, i, none⟩ = some (.int .u8 (if bitv fate (i / 512) = true then 200 else 0)) := fun i hi => hcel i _ (by
          show (Lib.strCells (mix fate (zp 4096) (pgB 200 200 0) 8))[i]? = _
          rw [mix_get fate _ _ (zp_size 4096) (pgB_size _ _ _) i hi 8 (Nat.le_refl _), pgB_get (by decide) (by decide) (by decide) (by decide) i hi, zp_get i hi]
          have e : pgN 200 200 0 i = 200 := by unfold pgN; split <;> rfl
          rw [e]
          by_cases hb : bitv fate (i / 512) = true
          · rw [if_pos ⟨by omega, hb⟩, if_pos hb]
          · rw [if_neg (fun h => hb h.2), if_neg hb])
        have HY := Lib.hid hy
        have HX12 := Lib.hid hx
        clear ho hx HX11 hcel hsz hy HRE
        go_wp2_with fail
        go_loopw [14] (fun s wr => ∃ j : Nat, j ≤ 8 ∧ s = .int .i64 j ∧ Hid (wr = w12)) (fun s _ => 8 - (intOf s).toNat)
        case atStart => exact ⟨0, by omega, rfl, Lib.hid rfl⟩
        case round =>
          obtain ⟨j, hj, rfl, HWE⟩ := hrel
          obtain rfl := HWE.out
          by_cases hj8 : j < 8
          · have hd := div_lt fate hf0 hf1 j
            have hbv : (bits BinOp.and IntKind.u8 (fate / 2 ^ j) 1 == 1) = bitv fate j := by unfold bitv; rw [bits8 _ hd.1 hd.2]
            have hc1 := HY.out (512 * j) (by omega)
            have hc2 := HY.out (512 * j + 511) (by omega)
            rw [show 512 * j / 512 = j by omega] at hc1
            rw [show (512 * j + 511) / 512 = j by omega] at hc2
            cases hbb : bitv fate j with
            | true =>
              rw [hbb] at hbv hc1 hc2
              rw [if_pos rfl] at hc1 hc2
              go_wp2_with fail
              refine ⟨⟨j + 1, by omega, rfl, Lib.hid (by trivial)⟩, by simp [intOf]; omega⟩
            | false =>
              rw [hbb] at hbv hc1 hc2
              rw [if_neg (by decide)] at hc1 hc2
              go_wp2_with fail
              refine ⟨⟨j + 1, by omega, rfl, Lib.hid (by trivial)⟩, by simp [intOf]; omega⟩
          · obtain rfl : j = 8 := by omega
            go_wp2_with fail
            refine (x_flush HX12.out (by show 0 < 3; decide)).mono ?_
            rintro e w13 ⟨rfl, hx⟩
            rw [show flushE ⟨[none, a, some (mix fate (zp 4096) (pgB 200 200 0) 8)], [], -1, false⟩ = 0 from rfl]
            have HX13 := Lib.hid hx
            clear hx HX12
            go_wp2_with fail
            refine (goes_any _).mono ?_
            rintro e w14 ⟨rfl, hb⟩
            have HB := Lib.hid (HX13.out.below hb).low
            clear hb HX13
            go_wp2_with fail
            go_ret
            exact ⟨rfl, HB.out⟩
      · have i1 : decide ((i : Int) > 0) = false := decide_eq_false (by omega)
        go_wp2_with fail
        refine (x_restart_new [fate] _ rfl 1 rfl _ rfl (by show 1 ≤ 1000000; decide) HX10.out (by intro x hx; simp at hx; omega)).mono ?_
        rintro e w11 ⟨rfl, hx⟩
        have hre := HRE.out
        rw [if_neg hi0] at hre
        rw [hre] at hx
        have HX11 := Lib.hid hx
        clear hx HX10 hre
        go_wp2_with fail
        refine (x_read 2 HX11.out).mono ?_
        rintro e w12 ⟨v12, rfl, ho, _, _, hx⟩
        have hsz := mix_size fate (zp 4096) (pgB 200 200 0) (zp_size _) (pgB_size _ _ _) 8 (Nat.le_refl _)
        obtain ⟨g12, c12, rfl, hg12, hc12, hm12, hcel⟩ := (ho rfl).byte hsz
        have hy : ∀ i, i < 4096 → w12.cell? ⟨g12, i, none⟩ = some (.int .u8 (if bitv fate (i / 512) = true then 200 else 0)) := fun i hi => hcel i _ (by
          show (Lib.strCells (mix fate (zp 4096) (pgB 200 200 0) 8))[i]? = _
          rw [mix_get fate _ _ (zp_size 4096) (pgB_size _ _ _) i hi 8 (Nat.le_refl _), pgB_get (by decide) (by decide) (by decide) (by decide) i hi, zp_get i hi]
          have e : pgN 200 200 0 i = 200 := by unfold pgN; split <;> rfl
          rw [e]
          by_cases hb : bitv fate (i / 512) = true
          · rw [if_pos ⟨by omega, hb⟩, if_pos hb]
          · rw [if_neg (fun h => hb h.2), if_neg hb])
        have HY := Lib.hid hy
        have HX12 := Lib.hid hx
        clear ho hx HX11 hcel hsz hy HRE
        go_wp2_with fail
        go_loopw [14] (fun s wr => ∃ j : Nat, j ≤ 8 ∧ s = .int .i64 j ∧ Hid (wr = w12)) (fun s _ => 8 - (intOf s).toNat)
        case atStart => exact ⟨0, by omega, rfl, Lib.hid rfl⟩
        case round =>
          obtain ⟨j, hj, rfl, HWE⟩ := hrel
          obtain rfl := HWE.out
          by_cases hj8 : j < 8
          · have hd := div_lt fate hf0 hf1 j
            have hbv : (bits BinOp.and IntKind.u8 (fate / 2 ^ j) 1 == 1) = bitv fate j := by unfold bitv; rw [bits8 _ hd.1 hd.2]
            have hc1 := HY.out (512 * j) (by omega)
            have hc2 := HY.out (512 * j + 511) (by omega)
            rw [show 512 * j / 512 = j by omega] at hc1
            rw [show (512 * j + 511) / 512 = j by omega] at hc2
            cases hbb : bitv fate j with
            | true =>
              rw [hbb] at hbv hc1 hc2
              rw [if_pos rfl] at hc1 hc2
              go_wp2_with fail
              refine ⟨⟨j + 1, by omega, rfl, Lib.hid (by trivial)⟩, by simp [intOf]; omega⟩
            | false =>
              rw [hbb] at hbv hc1 hc2
              rw [if_neg (by decide)] at hc1 hc2
              go_wp2_with fail
              refine ⟨⟨j + 1, by omega, rfl, Lib.hid (by trivial)⟩, by simp [intOf]; omega⟩
          · obtain rfl : j = 8 := by omega
            go_wp2_with fail
            refine (x_flush HX12.out (by show 0 < 3; decide)).mono ?_
            rintro e w13 ⟨rfl, hx⟩
            rw [show flushE ⟨[none, a, some (mix fate (zp 4096) (pgB 200 200 0) 8)], [], -1, false⟩ = 0 from rfl]
            have HX13 := Lib.hid hx
            clear hx HX12
            go_wp2_with fail
            refine (goes_any _).mono ?_
            rintro e w14 ⟨rfl, hb⟩
            have HB := Lib.hid (HX13.out.below hb).low
            clear hb HX13
            go_wp2_with fail
            go_ret
            exact ⟨rfl, HB.out⟩
end Go.Proofs.Ytpclfnamknioaaa
