/- The document's disk (chapter 3): the walks of its end, Flush, Restart. -/
import Derived.Test.YtpclfnamknioaaaRef3c
namespace Go.Proofs.Ytpclfnamknioaaa
open Go.RowKit
set_option maxRecDepth 100000
set_option maxHeartbeats 1000000
set_option linter.unusedVariables false
set_option linter.unusedSimpArgs false
/-- the disk that it stands for -/
def R3.ds (R : R3) : DS := ⟨R.L, wOf R.N, max R.left (-1), R.dead, 0⟩
def fK (l : List Int) (m : Int) (k : Nat) : Int := if k < l.length then l.getD k 0 else m
theorem fK_zero (l : List Int) : fK l 0 = fateF l := by
  funext k
  unfold fK fateF
  split
  · rfl
  · rw [List.getD_eq_getElem?_getD, List.getElem?_eq_none (by omega)]; rfl
theorem fK_nil (m : Int) : fK [] m = fun _ => m := by funext k; unfold fK; rw [if_neg (by simp)]
theorem R3Is.setL {w : World} {B p : Nat} {vL vN : Value} {R : R3} (h : R3Is w B p vL vN R) (i : Nat) (hi : i < R.L.length) (s : ByteArray) (g cap : Nat) (hv : vL = .slice (some ⟨g, 0, none⟩) R.L.length cap) :
    R3Is (w.setCell ⟨g, i, none⟩ (.string s)) B p vL vN { R with L := R.L.set i (some s) } ∧ Keep (RF p vL vN) w (w.setCell ⟨g, i, none⟩ (.string s)) ∧ w.frozen? ⟨g, i, none⟩ = false := by
  have hg : RF p vL vN g := .inr (.inl (by rw [hv]; rfl))
  have hk : Keep (fun k => k = g) w (w.setCell ⟨g, i, none⟩ (.string s)) := (Keep.refl (fun k => k = g) w).setCell (p := ⟨g, i, none⟩) (.inl rfl) _
  have hgp : p ≠ g := fun e => h.neL (by rw [hv, e]; rfl)
  refine ⟨⟨hk.blk h.blk hgp, ?_, rowk_keep hk h.rowN (fun k hk' e => h.neLN (i := g) (by rw [hv]; rfl) (by rw [← e]; exact hk')), h.low, h.lft⟩, hk.mono (fun k hk => by rw [hk]; exact hg), ?_⟩
  · have hr := h.rowL
    show World.ownsRow _ B _ 1 vL (R.L.set i (some s)).length ((R.L.set i (some s)).map fun o => .string (pgOf o))
    rw [List.length_set, List.map_set]
    refine ⟨by rw [List.length_set]; exact hr.1, ?_⟩
    rcases hr.2 with ⟨_, h0⟩ | ⟨g', cap', cur, he, hb, hgb, hn, hm, hs, ht⟩
    · omega
    · rw [hv] at he
      injection he with he _ hec
      injection he with he
      injection he with he
      subst he; subst hec
      refine .inr ⟨g, cap, cur.setIfInBounds i (.string s), hv, hb, blk_setCell hgb i _, hn, hm, by simpa using hs, ?_⟩
      rw [Array.toList_setIfInBounds, ← ht, List.take_set]
      rfl
  · obtain ⟨_, _, c, hc⟩ := rowk_blk h.rowL (i := g) (by rw [hv]; rfl)
    exact blk_frozen hc i
theorem mix_cut (M : ByteArray) (j : Nat) (hM : M.size = 4096) (hj : j < 8) : M.extract 0 (512 * j) ++ M.extract (512 * j) (512 * j + 512) = M.extract 0 (512 * (j + 1)) := by
  apply ba_of_cells
  rw [strCells_append, strCells_ext, strCells_ext, strCells_ext]
  rw [List.drop_zero, Nat.sub_zero, Nat.sub_zero]
  rw [show 512 * j + 512 - 512 * j = 512 by omega, show 512 * (j + 1) = 512 * j + 512 by omega, List.take_add]
theorem mix_full (M : ByteArray) (hM : M.size = 4096) : M.extract 0 (512 * 8) = M := by
  apply ba_of_cells
  rw [strCells_ext, List.drop_zero, List.take_of_length_le (by rw [Lib.strCells_length]; omega)]
section
variable {w0 w : World} {p : Nat} {R : R3}
theorem rend_any (fv : Value) (l : List Int) (m : Int) (hX : RX w0 w p R) (hN : R.N.length ≤ 1000) (hL : R.L.length ≤ 4096) (hOk : R.ds.Ok) (hI : IS w fv l) (hlt : l ≠ [] → ∀ k, fv.ownBlock = some k → k < w0.heap.size)
    (hf : ∀ k, -9223372036854775808 ≤ fK l m k ∧ fK l m k ≤ 9223372036854775807) :
    Calls Try.prog 47 #[rV p, fv, .int .i64 m] w fun e w' => e = .returned (.tuple #[]) ∧ RX w0 w' p { R with L := setl (fK l m) (wOf R.N) R.L (wOf R.N).length, N := [] } ∧ KR w0 w w' := by
  obtain ⟨vL, vN, hX⟩ := hX
  obtain ⟨fa, fc, rfl, hfr⟩ := hI
  have HI : Hid (IS w (.slice fa l.length fc) l) := Lib.hid ⟨fa, fc, rfl, hfr⟩
  have hfm : l.length ≤ maxLen := Nat.le_trans hfr.1 hfr.2.1
  have hfm' : l.length ≤ 9223372036854775807 := by unfold maxLen at hfm; omega
  have HLT := Lib.hid hlt
  have HX := Lib.hid hX
  have HOK := Lib.hid hOk
  have HF := Lib.hid hf
  have HW := Lib.hid (rwaits_any hX hN)
  have hB : w0.heap.size ≤ w.heap.size := Nat.le_trans hX.low (Nat.le_of_lt (blk_lt hX.blk))
  have hWl : (wOf R.N).length ≤ 1000 := by have := wOf_keys_len _ R.N rfl; rw [List.length_map] at this; omega
  obtain ⟨ks, hks⟩ : ∃ ks, ks = (wOf R.N).map (·.1) := ⟨_, rfl⟩
  have HKS := Lib.hid hks
  have hkl : ks.length = (wOf R.N).length := by rw [hks, List.length_map]
  have HKL := Lib.hid hkl
  have hk1000 : ks.length ≤ 1000 := by omega
  rw [← hks] at HW
  unfold rV at *
  clear hfr hlt hX hOk hf hks hkl hfm
  go_enter Try.func47, Try.ntmps47
  go_wp2_with fail
  refine HW.out.mono ?_
  rintro e w1 ⟨wv, rfl, hrow, hb⟩
  obtain ⟨wa, wc, rfl⟩ := rowk_shape hrow
  have HR1 := Lib.hid hrow
  have HX1 := Lib.hid (HX.out.below hb)
  have HK1 := Lib.hid (Keep.ofBelow hb (RF p vL vN))
  have hw1 : w.heap.size ≤ w1.heap.size := hb.size
  clear hrow hb
  go_wp2_with fail
  go_loopw [7] (fun s wr => ∃ k : Nat, k ≤ ks.length ∧ s = .int .i64 k ∧ Hid (R3Is wr w0.heap.size p vL vN { R with L := setl (fK l m) (wOf R.N) R.L k }) ∧ Hid (wr.ownsRow w.heap.size 3 1 (.slice wa ks.length wc) ks.length (ks.map (Value.int .i64))) ∧ Hid (Keep (RF p vL vN) w wr)) (fun s _ => ks.length - (intOf s).toNat)
  case atStart => exact ⟨0, by omega, rfl, HX1, HR1, HK1⟩
  case round =>
    clear HX1 HR1 HK1
    obtain ⟨k, hk, rfl, HXR, HRR, HKR⟩ := hrel
    have HIR := Lib.hid (HI.out.keep HKR.out (fun hl i hi hf => by have := HLT.out hl i hi; have := (HX.out.own hf).1; omega))
    by_cases hkl : k < ks.length
    · have i1 : decide ((k : Int) < (ks.length : Int)) = true := decide_eq_true (by omega)
      obtain ⟨q, hq⟩ : ∃ q, (wOf R.N)[k]? = some q := ⟨_, List.getElem?_eq_getElem (by have := HKL.out; omega)⟩
      obtain ⟨a, qs⟩ := q
      have hrg := HOK.out.rng _ (List.mem_of_getElem? hq)
      have hqs := HOK.out.wsz _ (List.mem_of_getElem? hq)
      simp only [R3.ds] at hrg hqs
      obtain ⟨key, rfl⟩ : ∃ key : Nat, a = key := ⟨a.toNat, by omega⟩
      have hkey : key < R.L.length := by omega
      have hsl : (setl (fK l m) (wOf R.N) R.L k).length = R.L.length := setl_length _ _ _ _
      obtain ⟨o, ho⟩ : ∃ o, (setl (fK l m) (wOf R.N) R.L k)[key]? = some o := ⟨_, List.getElem?_eq_getElem (by omega)⟩
      have hst := setl_step (fK l m) (wOf R.N) R.L k key qs o hq ho
      have hwg := wget_at (wOf R.N) k key qs HOK.out.nd hq
      have hpo : (pgOf o).size = 4096 := by
        rcases setl_get (fK l m) (wOf R.N) R.L HOK.out.nd HOK.out.rng key k (by have := HKL.out; omega) with ⟨j, u, hj, hu, hs⟩ | ⟨_, hs⟩
        · rw [ho] at hs
          cases hs
          exact mix_size _ _ _ (HOK.out.lsz key) (HOK.out.wsz _ (List.mem_of_getElem? hu)) 8 (Nat.le_refl _)
        · have := HOK.out.lsz key
          simp only [R3.ds] at this
          rw [List.getD_eq_getElem?_getD, ← hs, ho] at this
          exact this
      have hfk := HF.out k
      have HAT := Lib.hid (fun n => rat_any key (HXR.out.below (below_drewN_of wr n)) hN (by show (setl _ _ _ _).length ≤ _; omega) (by show key < (setl _ _ _ _).length; omega))
      have hrd : readR { R with L := setl (fK l m) (wOf R.N) R.L k } key = qs := by unfold readR; rw [hwg]; rfl
      rw [hrd] at HAT
      obtain ⟨gL, cL, hvL, hcL⟩ := rowk_cell HXR.out.rowL (by show 0 < (setl _ _ _ _).length; omega)
      simp only [hsl] at hvL
      obtain ⟨gw, cw, he, hcw⟩ := rowk_cell HRR.out (by omega)
      injection he with he _ hec
      subst he; subst hec
      have hkk : ks[k]? = some (key : Int) := by rw [HKS.out, List.getElem?_map, hq]; rfl
      have qw : ∀ n, (wr.drewN n).cell? ⟨gw, k, none⟩ = some (.int .i64 key) := fun n => hcw k _ (by rw [List.getElem?_map, hkk]; rfl)
      have qL : ∀ n, (wr.drewN n).cell? ⟨gL, key, none⟩ = some (.string (pgOf o)) := fun n => hcL key _ (by show ((setl (fK l m) (wOf R.N) R.L k).map _)[key]? = _; rw [List.getElem?_map, ho]; rfl)
      have q0 : ∀ n, (wr.drewN n).cell? ⟨p, 0, none⟩ = some (.slice (some ⟨gL, 0, none⟩) R.L.length cL) := fun n => by
        have := HXR.out.c0
        rw [hvL] at this
        exact this
      have hkL : (key : Int) < (R.L.length : Int) := by omega
      obtain ⟨M, hM⟩ : ∃ M, M = mix (fK l m k) (pgOf o) qs 8 := ⟨_, rfl⟩
      have hMs : M.size = 4096 := by rw [hM]; exact mix_size _ _ _ hpo hqs 8 (Nat.le_refl _)
      have hMj : ∀ j, j < 8 → M.extract (512 * j) (512 * j + 512) = if bitv (fK l m k) j = true then qs.extract (512 * j) (512 * j + 512) else (pgOf o).extract (512 * j) (512 * j + 512) := fun j hj => by rw [hM]; exact mix_sec _ _ _ hpo hqs j hj
      rw [← hM] at hst
      obtain ⟨was, hwas⟩ : ∃ was, was = pgOf o := ⟨_, rfl⟩
      rw [← hwas] at qL hMj hpo
      obtain ⟨f, hf⟩ : ∃ f, f = fK l m k := ⟨_, rfl⟩
      have HFE := Lib.hid hf
      rw [← hf] at hfk hMj
      have HMJ := Lib.hid hMj
      have HST := Lib.hid hst
      have HMS := Lib.hid hMs
      have HPO := Lib.hid hpo
      have HQS := Lib.hid hqs
      have hfk0 := hfk.1
      have hfk1 := hfk.2
      have HVL := Lib.hid hvL
      have hkey2 : key < (setl (fK l m) (wOf R.N) R.L k).length := by omega
      have HSL := Lib.hid hsl
      clear hq hrg hqs ho hst hwg hpo hrd hcL hcw hkk hM hMs hMj hwas hf hvL hsl
      go_upto_if 25 with fail
      go_cut [8] (fun s8 wx => s8 = .int .i64 f ∧ Hid (wx = wr))
      case first =>
        by_cases hkf : k < l.length
        · have i2 : decide ((k : Int) < (l.length : Int)) = true := decide_eq_true (by omega)
          obtain ⟨x, hx⟩ : ∃ x, l[k]? = some x := ⟨_, List.getElem?_eq_getElem hkf⟩
          obtain ⟨fa', fc', he, _, _, h0 | ⟨bf, of, hfa, hcf⟩⟩ := HIR.out
          · rw [h0] at hkf; simp at hkf
          · injection he with he _ hec
            rw [hfa] at he
            subst he; subst hec
            have hcx := hcf k x hx
            have hfx : f = x := by rw [HFE.out]; unfold fK; rw [if_pos hkf, List.getD_eq_getElem?_getD, hx]; rfl
            subst hfx
            clear hcf hx
            go_wp2_with fail
            go_meet
            exact ⟨rfl, Lib.hid rfl⟩
        · have i2 : decide ((k : Int) < (l.length : Int)) = false := decide_eq_false (by omega)
          have hfx : f = m := by rw [HFE.out]; unfold fK; rw [if_neg hkf]
          subst hfx
          go_wp2_with fail
          go_meet
          exact ⟨rfl, Lib.hid rfl⟩
      case rest =>
        obtain ⟨rfl, hwc⟩ := hcut
        obtain rfl := hwc.out
        go_wp2_with fail
        go_quiet (first | (go_at_call 45; refine (HAT.out _).mono ?_; rintro e w' ⟨rfl, rfl⟩; exact ⟨rfl, _, rfl⟩))
        have hbd : Below wc.heap.size wc (wc.drewN nq) := below_drewN_of _ _
        have HXD := Lib.hid (HXR.out.below hbd)
        have HRD := Lib.hid (rowk_keep (Keep.ofBelow hbd (fun _ => False)) HRR.out (fun _ _ h => h))
        have HKD := Lib.hid (HKR.out.trans (Keep.ofBelow hbd (RF p vL vN)) (fun i hi => .inl hi))
        have q0d := q0 nq
        have qLd := qL nq
        have qwd := qw nq
        have hfz : (wc.drewN nq).frozen? ⟨gL, key, none⟩ = false := (HXD.out.setL key hkey2 was gL cL (by have := HVL.out; simp only [HSL.out]; exact this)).2.2
        clear q0 qw qL hbd HXR HRR HKR HAT HIR
        generalize wc.drewN nq = wd at *
        go_wp2_with fail
        go_loopw [11, 12] (fun v s wr => ∃ j : Nat, j ≤ 8 ∧ s = .int .i64 j ∧ v = .string (M.extract 0 (512 * j)) ∧ Hid (wr = wd)) (fun _ s _ => 8 - (intOf s).toNat)
        case atStart => exact ⟨0, by omega, rfl, by simp; rfl, Lib.hid rfl⟩
        case round =>
          obtain ⟨j, hj, rfl, rfl, HWE⟩ := hrel
          obtain rfl := HWE.out.symm
          by_cases hj8 : j < 8
          · have j1 : decide ((j : Int) < 8) = true := decide_eq_true (by omega)
            have hw1 : IntKind.i64.wrap (512 * (j : Int)) = 512 * j := by rw [IntKind.wrap_i64]; omega
            have hw2 : IntKind.i64.wrap (512 * (j : Int) + 512) = 512 * j + 512 := by rw [IntKind.wrap_i64]; omega
            have hs1 : ∀ (s : ByteArray), s.size = 4096 → ∀ W, (Instr.slice 9 (.string s) (some (.int .i64 (512 * (j : Int)))) (some (.int .i64 (512 * (j : Int) + 512))) none).run Try.prog W = .ok (.string (s.extract (512 * j) (512 * j + 512))) W := fun s hs W => by
              rw [run_slice_string (P := Try.prog) W 9 s .i64 .i64 (512 * (j : Int)) (512 * (j : Int) + 512) uStr3 (by omega) (by omega) (by omega)]
              rw [show (512 * (j : Int)).toNat = 512 * j by omega, show (512 * (j : Int) + 512).toNat = 512 * j + 512 by omega]
            have hs2 := hs1 qs HQS.out
            have hs3 := hs1 was HPO.out
            have hcut := mix_cut M j HMS.out hj8
            have hmj := HMJ.out j hj8
            obtain ⟨P, hP⟩ : ∃ P, P = M.extract (512 * j) (512 * j + 512) := ⟨_, rfl⟩
            obtain ⟨X, hX⟩ : ∃ X, X = M.extract 0 (512 * j) := ⟨_, rfl⟩
            obtain ⟨Y, hY⟩ : ∃ Y, Y = M.extract 0 (512 * (j + 1)) := ⟨_, rfl⟩
            rw [← hP, ← hX, ← hY] at hcut
            rw [← hP] at hmj
            rw [← hX]
            have hxs : ¬ 9223372036854775807 < X.size + P.size := by
              rw [hX, hP, ByteArray.size_extract, ByteArray.size_extract, HMS.out]; omega
            have HCUT := Lib.hid hcut
            have HY := Lib.hid hY
            obtain ⟨bt, hbt⟩ : ∃ bt, (bits BinOp.and IntKind.i64 (f / 2 ^ j) 1 == 1) = bt := ⟨_, rfl⟩
            rw [show bitv f j = bt from hbt] at hmj
            clear hs1 hcut hP hX hY
            cases bt with
            | true =>
              rw [if_pos rfl] at hmj
              rw [← hmj] at hs2
              clear hmj hs3
              go_wp2_with fail
              exact ⟨⟨j + 1, by omega, rfl, by rw [← HY.out, ← HCUT.out], Lib.hid (by trivial)⟩, by simp [intOf]; omega⟩
            | false =>
              rw [if_neg (by decide)] at hmj
              rw [← hmj] at hs3
              clear hmj hs2
              go_wp2_with fail
              exact ⟨⟨j + 1, by omega, rfl, by rw [← HY.out, ← HCUT.out], Lib.hid (by trivial)⟩, by simp [intOf]; omega⟩
          · obtain rfl : j = 8 := by omega
            have j1 : decide (((8 : Nat) : Int) < 8) = false := by decide
            rw [mix_full M HMS.out]
            have hbe : Below wd.heap.size wd wd.drew := (Below.refl _ _).drew
            have hxe := HXD.out.below hbe
            obtain ⟨hs4, hs5, hfz2⟩ := hxe.setL key hkey2 M gL cL (by have := HVL.out; simp only [HSL.out]; exact this)
            have hgw : gw ≠ gL := fun e => by
              obtain ⟨_, _, c1, h1⟩ := rowk_blk HRD.out (i := gw) rfl
              obtain ⟨_, _, c2, h2⟩ := rowk_blk HXD.out.rowL (i := gL) (by rw [HVL.out]; rfl)
              rw [e, h2] at h1
              simp only [Option.some.injEq, Obj.cells.injEq] at h1
              exact absurd h1.2.1 (by decide)
            have hgp : p ≠ gL := fun e => HXD.out.neL (by rw [HVL.out, e]; rfl)
            have hkg : Keep (fun i => i = gL) wd.drew (wd.drew.setCell ⟨gL, key, none⟩ (.string M)) := (Keep.refl (fun i => i = gL) wd.drew).setCell (p := ⟨gL, key, none⟩) (.inl rfl) (.string M)
            have HS4 := Lib.hid hs4
            have HKF := Lib.hid ((HKD.out.trans (Keep.ofBelow hbe (RF p vL vN)) (fun i hi => .inl hi)).trans hs5 (fun i hi => .inl hi))
            have HRS := Lib.hid (rowk_keep hkg (rowk_keep (Keep.ofBelow hbe (fun _ => False)) HRD.out (fun _ _ h => h)) (fun i hi e => hgw (by cases hi; exact e)))
            have q0e : wd.drew.cell? ⟨p, 0, none⟩ = some (.slice (some ⟨gL, 0, none⟩) R.L.length cL) := q0d
            have qwe : wd.drew.cell? ⟨gw, k, none⟩ = some (.int .i64 key) := qwd
            have Q1 := Lib.hid (And.intro q0e qwe)
            have Q2 := Lib.hid (And.intro (hkg.cell q0e hgp) (hkg.cell qwe hgw))
            have hcE : wd.drew.cell? ⟨gL, key, none⟩ = some (.string was) := qLd
            clear hs4 hs5 hxe hbe hkg hgw hgp q0e qwe
            go_wp2_with fail
            refine wp_region_held_drew (S := (fun w' => w'.cell? ⟨p, 0, none⟩ = some (.slice (some ⟨gL, 0, none⟩) R.L.length cL) ∧ w'.cell? ⟨gw, k, none⟩ = some (.int .i64 key))) (by kernel_rfl) ?_ (fun hHeld0 => ?_)
            · (try dsimp only)
              first | exact Q1.out | exact Q2.out
            refine takeN (v := ?_) 0 rfl (by kernel_rfl) (by kernel_rfl) (by kernel_rfl) (fun _ _ _ h => h) (by rfl) ?_ hHeld0 ?_
            rotate_left
            · intro w hSw; (try dsimp only at hSw); go_simp; with_reducible rfl
            try simp only [Act.put, List.setIfInBounds_toArray, List.set_cons_zero, List.set_cons_succ]
            refine takeN (v := ?_) 1 rfl (by kernel_rfl) (by kernel_rfl) (by kernel_rfl) (fun _ _ _ h => h) (by rfl) ?_ hHeld0 ?_
            rotate_left
            · intro w hSw; (try dsimp only at hSw); go_simp; with_reducible rfl
            try simp only [Act.put, List.setIfInBounds_toArray, List.set_cons_zero, List.set_cons_succ]
            refine takeN (v := ?_) 2 rfl (by kernel_rfl) (by kernel_rfl) (by kernel_rfl) (fun _ _ _ h => h) (by rfl) ?_ hHeld0 ?_
            rotate_left
            · intro w hSw; (try dsimp only at hSw); go_simp; with_reducible rfl
            try simp only [Act.put, List.setIfInBounds_toArray, List.set_cons_zero, List.set_cons_succ]
            refine takeN (v := ?_) 3 rfl (by kernel_rfl) (by kernel_rfl) (by kernel_rfl) (fun _ _ _ h => h) (by rfl) ?_ hHeld0 ?_
            rotate_left
            · intro w hSw; (try dsimp only at hSw); go_simp; with_reducible rfl
            try simp only [Act.put, List.setIfInBounds_toArray, List.set_cons_zero, List.set_cons_succ]
            refine takeN (v := ?_) 4 rfl (by kernel_rfl) (by kernel_rfl) (by kernel_rfl) (fun _ _ _ h => h) (by rfl) ?_ hHeld0 ?_
            rotate_left
            · intro w hSw; (try dsimp only at hSw); go_simp; with_reducible rfl
            try simp only [Act.put, List.setIfInBounds_toArray, List.set_cons_zero, List.set_cons_succ]
            refine takeN (v := ?_) 5 rfl (by kernel_rfl) (by kernel_rfl) (by kernel_rfl) (fun _ _ _ h => h) (by rfl) ?_ hHeld0 ?_
            rotate_left
            · intro w hSw; (try dsimp only at hSw); go_simp; with_reducible rfl
            try simp only [Act.put, List.setIfInBounds_toArray, List.set_cons_zero, List.set_cons_succ]
            refine takeN (v := ?_) 6 rfl (by kernel_rfl) (by kernel_rfl) (by kernel_rfl) (fun _ _ _ h => h) (by rfl) ?_ hHeld0 ?_
            rotate_left
            · intro w hSw; (try dsimp only at hSw); go_simp; with_reducible rfl
            try simp only [Act.put, List.setIfInBounds_toArray, List.set_cons_zero, List.set_cons_succ]
            refine takeN (v := ?_) 7 rfl (by kernel_rfl) (by kernel_rfl) (by kernel_rfl) (fun _ _ _ h => h) (by rfl) ?_ hHeld0 ?_
            rotate_left
            · intro w hSw; (try dsimp only at hSw); go_simp; with_reducible rfl
            try simp only [Act.put, List.setIfInBounds_toArray, List.set_cons_zero, List.set_cons_succ]
            refine takeN (v := ?_) 8 rfl (by kernel_rfl) (by kernel_rfl) (by kernel_rfl) (fun _ _ _ h => h) (by rfl) ?_ hHeld0 ?_
            rotate_left
            · intro w hSw; (try dsimp only at hSw); go_simp; with_reducible rfl
            try simp only [Act.put, List.setIfInBounds_toArray, List.set_cons_zero, List.set_cons_succ]
            refine takeN (v := ?_) 9 rfl (by kernel_rfl) (by kernel_rfl) (by kernel_rfl) (fun _ _ _ h => h) (by rfl) ?_ hHeld0 ?_
            rotate_left
            · intro w hSw; (try dsimp only at hSw); go_simp; with_reducible rfl
            try simp only [Act.put, List.setIfInBounds_toArray, List.set_cons_zero, List.set_cons_succ]
            refine wpAnyH_ready (rs := [10]) (by kernel_rfl) (by simp) ?_
            refine readyN rfl (fun K hK => ?_) ?_
            · -- operation 10
              go_simp
              refine hK.out _ _ ?_ (fun hHeld1 => ?_)
              · (try dsimp only)
                first | exact Q1.out | exact Q2.out
              clear hK K hHeld0
              try simp only [Act.put, List.setIfInBounds_toArray, List.set_cons_zero, List.set_cons_succ]
              refine wpAnyH_done (by kernel_rfl) ?_ _
              go_wp2_with fail
              refine ⟨⟨k + 1, by omega, rfl, Lib.hid ?_, HRS, HKF⟩, by simp [intOf]; omega⟩
              rw [HST.out]
              exact HS4.out
            exact AllReadyH.nil
    · obtain rfl : k = ks.length := by omega
      have i1 : decide ((ks.length : Int) < (ks.length : Int)) = false := decide_eq_false (by omega)
      have hc1 := HXR.out.c1
      have hf1 := HXR.out.fz 1
      obtain ⟨na, nc, hvn⟩ := rowk_shape HXR.out.rowN
      rw [hvn] at hc1
      obtain ⟨wx, rfl⟩ : ∃ wx : World, wx = wr := ⟨_, rfl⟩
      have hk2 : Keep (fun i => i = p) wx (wx.setCell ⟨p, 1, none⟩ (.slice none 0 0)) := (Keep.refl (fun i => i = p) wx).setCell (p := ⟨p, 1, none⟩) (.inl rfl) _
      have hx2 : R3Is (wx.setCell ⟨p, 1, none⟩ (.slice none 0 0)) w0.heap.size p vL (.slice none 0 0) { R with L := setl (fK l m) (wOf R.N) R.L ks.length, N := [] } :=
        ⟨blk_setCell HXR.out.blk 1 _, rowk_keep hk2 HXR.out.rowL (fun i hi e => HXR.out.neL (by rw [← e]; exact hi)), World.ownsRow_nil _ _ _ _, HXR.out.low, HXR.out.lft⟩
      have HX2 := Lib.hid hx2
      have HK2 := Lib.hid (HX.out.kr (HKR.out.trans hk2 (fun i hi => .inl (.inl hi))))
      clear hk2 hx2 hvn
      go_wp2_with fail
      go_end0
      refine ⟨rfl, ⟨vL, .slice none 0 0, ?_⟩, HK2.out⟩
      rw [← HKL.out]
      exact HX2.out
def rendS (R : R3) (l : List Int) (m : Int) : R3 := { R with L := setl (fK l m) (wOf R.N) R.L (wOf R.N).length, N := [] }
def rrestS (R : R3) (l : List Int) : R3 := { rendS R l 0 with dead := false, left := -1 }
theorem rrest_any (fv : Value) (l : List Int) (hX : RX w0 w p R) (hN : R.N.length ≤ 1000) (hL : R.L.length ≤ 4096) (hOk : R.ds.Ok) (hI : IS w fv l) (hlt : l ≠ [] → ∀ k, fv.ownBlock = some k → k < w0.heap.size)
    (hf : ∀ x ∈ l, -9223372036854775808 ≤ x ∧ x ≤ 9223372036854775807) :
    Calls Try.prog 44 #[rV p, fv] w fun e w' => e = .returned (.tuple #[]) ∧ RX w0 w' p (rrestS R l) ∧ KR w0 w w' := by
  have hfk : ∀ k, -9223372036854775808 ≤ fK l 0 k ∧ fK l 0 k ≤ 9223372036854775807 := fun k => by
    unfold fK
    split
    · rename_i h
      rw [List.getD_eq_getElem?_getD, List.getElem?_eq_getElem h]
      exact hf _ (List.getElem_mem h)
    · decide
  have HE := Lib.hid (rend_any fv l 0 hX hN hL hOk hI hlt hfk)
  obtain ⟨fa, fc, rfl, _⟩ := hI
  unfold rV at *
  clear hX hOk hlt hf hfk
  go_enter Try.func44, Try.ntmps44
  go_wp2_with fail
  refine HE.out.mono ?_
  rintro e w1 ⟨rfl, ⟨vL, vN, hx⟩, hk⟩
  have hc3 := hx.c3
  have hf3 := hx.fz 3
  have hc2 := hx.c2
  have hb3 := blk_setCell hx.blk 3 (.bool false)
  have hc2' : (w1.setCell ⟨p, 3, none⟩ (.bool false)).cell? ⟨p, 2, none⟩ = some (.int .i64 R.left) := by rw [blk_cell hb3]; rfl
  have hf2' := blk_frozen hb3 2
  have hk2 : Keep (fun i => i = p) w1 ((w1.setCell ⟨p, 3, none⟩ (.bool false)).setCell ⟨p, 2, none⟩ (.int .i64 (-1))) := ((Keep.refl (fun i => i = p) w1).setCell (p := ⟨p, 3, none⟩) (.inl rfl) _).setCell (p := ⟨p, 2, none⟩) (.inl rfl) _
  have hx2 := hx.set (rrestS R l) rfl rfl (by show (-1 : Int) ≤ _; decide) hk2 (blk_setCell hb3 2 _)
  have HX2 := Lib.hid hx2
  have HK2 := Lib.hid (hk.trans (hx.kr (hk2.mono (fun i hi => .inl hi))))
  clear hx hk hb3 hk2 hx2 HE
  go_wp2_with fail
  go_end0
  exact ⟨rfl, ⟨vL, vN, HX2.out⟩, HK2.out⟩
def rflushE (R : R3) : Int := if R.dead = true then 9 else if R.left = 0 then 9 else 0
def rflushS (R : R3) : R3 := if R.dead = true then R else if R.left = 0 then countS R else rendS (countS R) [] 255
theorem rflush_any (hX : RX w0 w p R) (hN : R.N.length ≤ 1000) (hL : R.L.length ≤ 4096) (hOk : R.ds.Ok) :
    Calls Try.prog 42 #[rV p] w fun e w' => e = .returned (.int .i64 (rflushE R)) ∧ RX w0 w' p (rflushS R) ∧ KR w0 w w' := by
  obtain ⟨vL, vN, hX⟩ := hX
  have hc3 := hX.c3
  have HX := Lib.hid hX
  unfold rV
  cases hd : R.dead with
  | true =>
    have E1 := Lib.hid (show rflushE R = 9 by unfold rflushE; rw [if_pos hd])
    have E2 := Lib.hid (show rflushS R = R by unfold rflushS; rw [if_pos hd])
    rw [E1.out, E2.out]
    rw [hd] at hc3
    clear hX
    go_enter Try.func42, Try.ntmps42
    go_wp2
    go_ret
    exact ⟨rfl, ⟨_, _, HX.out⟩, KR.refl _ _⟩
  | false =>
    rw [hd] at hc3
    have HC := Lib.hid (counts_any hX)
    unfold rV at HC
    by_cases h0 : R.left = 0
    · have E1 := Lib.hid (show rflushE R = 9 by unfold rflushE; rw [if_neg (by rw [hd]; decide), if_pos h0])
      have E2 := Lib.hid (show rflushS R = countS R by unfold rflushS; rw [if_neg (by rw [hd]; decide), if_pos h0])
      rw [E1.out, E2.out]
      rw [show decide (R.left ≠ 0) = false from decide_eq_false (by simp [h0])] at HC
      clear hX h0
      go_enter Try.func42, Try.ntmps42
      go_wp2_with fail
      refine HC.out.mono ?_
      rintro e w1 ⟨rfl, hx, hk⟩
      have HX1 := Lib.hid hx
      have HK1 := Lib.hid (HX.out.kr (hk.mono (fun i hi => .inl hi)))
      clear hx hk HC
      go_wp2_with fail
      go_ret
      exact ⟨rfl, ⟨_, _, HX1.out⟩, HK1.out⟩
    · have E1 := Lib.hid (show rflushE R = 0 by unfold rflushE; rw [if_neg (by rw [hd]; decide), if_neg h0])
      have E2 := Lib.hid (show rflushS R = rendS (countS R) [] 255 by unfold rflushS; rw [if_neg (by rw [hd]; decide), if_neg h0])
      rw [E1.out, E2.out]
      rw [show decide (R.left ≠ 0) = true from decide_eq_true h0] at HC
      have HCL := Lib.hid (countS_L (R := R))
      have HOK := Lib.hid (show (countS R).ds.Ok from ⟨by have := hOk.nd; simp only [R3.ds, countS_L.2, countS_L.1] at this ⊢; exact this, by have := hOk.rng; simp only [R3.ds, countS_L.2, countS_L.1] at this ⊢; exact this, by have := hOk.wsz; simp only [R3.ds, countS_L.2, countS_L.1] at this ⊢; exact this, by have := hOk.lsz; simp only [R3.ds, countS_L.2, countS_L.1] at this ⊢; exact this⟩)
      clear hX h0 hOk
      go_enter Try.func42, Try.ntmps42
      go_wp2_with fail
      refine HC.out.mono ?_
      rintro e w1 ⟨rfl, hx, hk⟩
      have HX1 := Lib.hid (show RX w0 w1 p (countS R) from ⟨_, _, hx⟩)
      have HK1 := Lib.hid (HX.out.kr (hk.mono (fun i hi => .inl hi)))
      clear hx hk HC
      go_wp2_with fail
      refine (rend_any (.slice none 0 0) [] 255 HX1.out (by rw [HCL.out.2]; exact hN) (by rw [HCL.out.1]; exact hL) HOK.out ⟨none, 0, rfl, Nat.le_refl _, by decide, .inl rfl⟩ (fun h => absurd rfl h) (fun k => by rw [fK_nil]; show (-9223372036854775808 : Int) ≤ 255 ∧ (255 : Int) ≤ 9223372036854775807; decide)).mono ?_
      rintro e w2 ⟨rfl, hx, hk⟩
      have HX2 := Lib.hid hx
      have HK2 := Lib.hid (HK1.out.trans hk)
      clear hx hk HX1
      go_wp2_with fail
      go_ret
      exact ⟨rfl, HX2.out, HK2.out⟩
end
end Go.Proofs.Ytpclfnamknioaaa
