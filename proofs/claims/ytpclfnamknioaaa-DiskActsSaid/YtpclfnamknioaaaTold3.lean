/- The walk of the law's told (chapter 3). -/
import Derived.Test.YtpclfnamknioaaaRef3e
namespace Go.Proofs.Ytpclfnamknioaaa
open Go.RowKit
set_option maxRecDepth 100000
set_option maxHeartbeats 2000000
set_option linter.unusedVariables false
set_option linter.unusedSimpArgs false
theorem KR.blk {w0 w w' : World} (h : KR w0 w w') {i : Nat} {c : Array Value} {e : TypeId} {z : Nat × Nat} (hc : w.heap[i]? = some (.cells c e z)) (he : ¬ (e = 50 ∨ e = 9 ∨ e = 73)) : w'.heap[i]? = some (.cells c e z) := by
  obtain ⟨F, h1, h2⟩ := h
  refine h1.blk hc (fun hf => ?_)
  obtain ⟨_, c', e', he', hc'⟩ := h2 i hf
  rw [hc] at hc'
  simp only [Option.some.injEq, Obj.cells.injEq] at hc'
  exact he (hc'.2.1 ▸ he')
def toldE (R : R3) (a : A3) : Int :=
  if a.doo % 7 = 0 then rwriteE R a.at_ (pgB a.b a.c a.s) else if a.doo % 7 = 1 then rflushE R else if a.doo % 7 = 5 then rwriteE R a.at_ (zp a.b.toNat) else if a.doo % 7 = 6 then sureE R.dead R.L.length a.at_ 4096 else 0
def toldR (R : R3) (a : A3) : R3 :=
  if a.doo % 7 = 0 then rwriteS R a.at_ (pgB a.b a.c a.s) else if a.doo % 7 = 1 then rflushS R else if a.doo % 7 = 2 then rfuseS R a.at_ else if a.doo % 7 = 3 then { R with dead := true } else if a.doo % 7 = 4 then rrestS R a.fates
  else if a.doo % 7 = 5 then rwriteS R a.at_ (zp a.b.toNat) else R
section
variable {w0 w : World} {p : Nat} {R : R3}
theorem told_any (a : A3) (ha : a.Ok w0) (hX : RX w0 w p R) (hBw : Below w0.heap.size w0 w) (hN : R.N.length ≤ 1000) (hL : R.L.length ≤ 4096) (hOk : R.ds.Ok) :
    Calls Try.prog 23 #[rV p, .agg a.cells.toArray] w fun e w' => e = .returned (.int .i64 (toldE R a)) ∧ RX w0 w' p (toldR R a) ∧ KR w0 w w' := by
  obtain ⟨doo, at_, b, c, s, fv, fates⟩ := a
  obtain ⟨⟨hd0, hd1⟩, ⟨ha0, ha1⟩, ⟨hb0, hb1⟩, ⟨hc0, hc1⟩, ⟨hs0, hs1⟩, his, hrng, hlt⟩ := ha
  simp only at hd0 hd1 ha0 ha1 hb0 hb1 hc0 hc1 hs0 hs1 his hrng hlt
  obtain ⟨fa, fc, rfl, hfr⟩ := his
  have HIS : Hid (IS w0 (.slice fa fates.length fc) fates) := Lib.hid ⟨fa, fc, rfl, hfr⟩
  have HR := Lib.hid hrng
  have HLT := Lib.hid hlt
  have HBW := Lib.hid hBw
  have HOK := Lib.hid hOk
  obtain ⟨AO, hAO⟩ : ∃ AO, AO = Obj.cells #[.int .u8 doo, .int .i64 at_, .int .u8 b, .int .u8 c, .int .u8 s, .slice fa fates.length fc] 45 (0, 0) := ⟨_, rfl⟩
  have hal : Below w.heap.size w (w.alloc AO) := (Below.refl _ _).alloc (Nat.le_refl _) _
  have HX := Lib.hid (hX.below hal)
  have HAL := Lib.hid (KR.ofBelow (w0 := w0) hal)
  have HBA := Lib.hid (hBw.trans (hal.mono hBw.size))
  rw [hAO] at HX HAL HBA
  clear hfr hrng hlt hX hBw hOk hal hAO
  obtain ⟨m, hm⟩ : ∃ m, doo % 7 = m := ⟨_, rfl⟩
  have hm7 : m = 0 ∨ m = 1 ∨ m = 2 ∨ m = 3 ∨ m = 4 ∨ m = 5 ∨ m = 6 := by omega
  unfold rV A3.cells toldE toldR
  simp only
  rw [hm]
  rcases hm7 with rfl | rfl | rfl | rfl | rfl | rfl | rfl
  · go_enter Try.func23, Try.ntmps23
    have hbx : (w.alloc (.cells #[.int .u8 doo, .int .i64 at_, .int .u8 b, .int .u8 c, .int .u8 s, .slice fa fates.length fc] 45)).heap[w.heap.size]? = some (.cells #[.int .u8 doo, .int .i64 at_, .int .u8 b, .int .u8 c, .int .u8 s, .slice fa fates.length fc] 45 (0, 0)) := blk_new w _
    have hfc : ∀ w', KR w0 (w.alloc (.cells #[.int .u8 doo, .int .i64 at_, .int .u8 b, .int .u8 c, .int .u8 s, .slice fa fates.length fc] 45)) w' → w'.cell? ⟨w.heap.size, 1, none⟩ = some (.int .i64 at_) ∧ w'.cell? ⟨w.heap.size, 2, none⟩ = some (.int .u8 b) ∧ w'.cell? ⟨w.heap.size, 3, none⟩ = some (.int .u8 c) ∧ w'.cell? ⟨w.heap.size, 4, none⟩ = some (.int .u8 s) := fun w' hk => by
      have h := hk.blk hbx (by decide)
      exact ⟨by rw [blk_cell h]; rfl, by rw [blk_cell h]; rfl, by rw [blk_cell h]; rfl, by rw [blk_cell h]; rfl⟩
    have HFC := Lib.hid hfc
    have HXA := Lib.hid (HX.out.below ((Below.refl _ _).drew))
    have HFD : Hid (KR w0 (w.alloc (.cells #[.int .u8 doo, .int .i64 at_, .int .u8 b, .int .u8 c, .int .u8 s, .slice fa fates.length fc] 45)) (w.alloc (.cells #[.int .u8 doo, .int .i64 at_, .int .u8 b, .int .u8 c, .int .u8 s, .slice fa fates.length fc] 45)).drew) := Lib.hid (KR.ofBelow ((Below.refl _ _).drew))
    clear hbx hfc HX
    go_wp2_with fail
    refine wp_region_held_drew (S := (fun w' => w'.cell? ⟨w.heap.size, 1, none⟩ = some (.int .i64 at_) ∧ w'.cell? ⟨w.heap.size, 2, none⟩ = some (.int .u8 b) ∧ w'.cell? ⟨w.heap.size, 3, none⟩ = some (.int .u8 c) ∧ w'.cell? ⟨w.heap.size, 4, none⟩ = some (.int .u8 s))) (by kernel_rfl) ?_ (fun hHeld0 => ?_)
    · (try dsimp only)
      first | exact HFC.out _ HFD.out | exact HFC.out _ HF2.out | exact HFC.out _ HF3.out
    refine takeN (v := ?_) 0 rfl (by kernel_rfl) (by kernel_rfl) (by kernel_rfl) (fun _ _ _ h => h) (by rfl) ?_ hHeld0 ?_
    rotate_left
    · intro w hSw; (try dsimp only at hSw); go_simp; with_reducible rfl
    try simp only [Act.put, List.setIfInBounds_toArray, List.set_cons_zero, List.set_cons_succ]
    refine takeN (v := ?_) 1 rfl (by kernel_rfl) (by kernel_rfl) (by kernel_rfl) (fun _ _ _ h => h) (by rfl) ?_ hHeld0 ?_
    rotate_left
    · intro w hSw; (try dsimp only at hSw); go_simp; with_reducible rfl
    try simp only [Act.put, List.setIfInBounds_toArray, List.set_cons_zero, List.set_cons_succ]
    refine takeN (v := ?_) 2 rfl (by kernel_rfl) (by kernel_rfl) (by kernel_rfl) (fun _ _ _ h => h) (by rfl) ?_ hHeld0 ?_
    rotate_left
    · intro w hSw; (try dsimp only at hSw); go_simp; with_reducible rfl
    try simp only [Act.put, List.setIfInBounds_toArray, List.set_cons_zero, List.set_cons_succ]
    refine takeN (v := ?_) 3 rfl (by kernel_rfl) (by kernel_rfl) (by kernel_rfl) (fun _ _ _ h => h) (by rfl) ?_ hHeld0 ?_
    rotate_left
    · intro w hSw; (try dsimp only at hSw); go_simp; with_reducible rfl
    try simp only [Act.put, List.setIfInBounds_toArray, List.set_cons_zero, List.set_cons_succ]
    refine takeN (v := ?_) 4 rfl (by kernel_rfl) (by kernel_rfl) (by kernel_rfl) (fun _ _ _ h => h) (by rfl) ?_ hHeld0 ?_
    rotate_left
    · intro w hSw; (try dsimp only at hSw); go_simp; with_reducible rfl
    try simp only [Act.put, List.setIfInBounds_toArray, List.set_cons_zero, List.set_cons_succ]
    refine takeN (v := ?_) 5 rfl (by kernel_rfl) (by kernel_rfl) (by kernel_rfl) (fun _ _ _ h => h) (by rfl) ?_ hHeld0 ?_
    rotate_left
    · intro w hSw; (try dsimp only at hSw); go_simp; with_reducible rfl
    try simp only [Act.put, List.setIfInBounds_toArray, List.set_cons_zero, List.set_cons_succ]
    refine takeN (v := ?_) 6 rfl (by kernel_rfl) (by kernel_rfl) (by kernel_rfl) (fun _ _ _ h => h) (by rfl) ?_ hHeld0 ?_
    rotate_left
    · intro w hSw; (try dsimp only at hSw); go_simp; with_reducible rfl
    try simp only [Act.put, List.setIfInBounds_toArray, List.set_cons_zero, List.set_cons_succ]
    refine takeN (v := ?_) 7 rfl (by kernel_rfl) (by kernel_rfl) (by kernel_rfl) (fun _ _ _ h => h) (by rfl) ?_ hHeld0 ?_
    rotate_left
    · intro w hSw; (try dsimp only at hSw); go_simp; with_reducible rfl
    try simp only [Act.put, List.setIfInBounds_toArray, List.set_cons_zero, List.set_cons_succ]
    refine takeN (v := ?_) 8 rfl (by kernel_rfl) (by kernel_rfl) (by kernel_rfl) (fun _ _ _ h => h) (by rfl) ?_ hHeld0 ?_
    rotate_left
    · intro w hSw; (try dsimp only at hSw); go_simp; with_reducible rfl
    try simp only [Act.put, List.setIfInBounds_toArray, List.set_cons_zero, List.set_cons_succ]
    refine wpAnyH_ready (rs := [9]) (by kernel_rfl) (by simp) ?_
    refine readyN rfl (fun K hK => ?_) ?_
    · -- operation 9
      go_simp
      first
        | (go_at_call 11; refine (page_law b c s hb0 hb1 hc0 hc1 hs0 hs1 _).mono ?_; rintro e w2 ⟨v2, rfl, ho, hb⟩; obtain ⟨g2, c2, rfl, _⟩ := ho.byte (pgB_size _ _ _)
           have hv2 := ho.bs.string (P := Try.prog) 27 5 9 uBytes uByte uStr3
           have HX2 := Lib.hid (HXA.out.below hb)
           have HF2 := Lib.hid (HFD.out.trans (KR.ofBelow hb))
           clear ho hb)
        | (go_at_call 41; refine (rwrite_any at_ _ HX2.out hN (by rw [pgB_size]; decide)).mono ?_; rintro e w3 ⟨rfl, hx, hfr⟩
           have HX3 := Lib.hid hx
           have HF3 := Lib.hid (HF2.out.trans hfr)
           clear hx hfr)
      go_wp2_with fail
      refine hK.out _ _ ?_ (fun hHeld1 => ?_)
      · (try dsimp only)
        first | exact HFC.out _ HFD.out | exact HFC.out _ HF2.out | exact HFC.out _ HF3.out
      clear hK K hHeld0
      try simp only [Act.put, List.setIfInBounds_toArray, List.set_cons_zero, List.set_cons_succ]
      refine wpAnyH_ready (rs := [10]) (by kernel_rfl) (by simp) ?_
      refine readyN rfl (fun K hK => ?_) ?_
      · -- operation 10
        go_simp
        refine hK.out _ _ ?_ (fun hHeld2 => ?_)
        · (try dsimp only)
          first | exact HFC.out _ HFD.out | exact HFC.out _ HF2.out | exact HFC.out _ HF3.out
        clear hK K hHeld1
        try simp only [Act.put, List.setIfInBounds_toArray, List.set_cons_zero, List.set_cons_succ]
        refine wpAnyH_ready (rs := [11]) (by kernel_rfl) (by simp) ?_
        refine readyN rfl (fun K hK => ?_) ?_
        · -- operation 11
          go_simp
          first
            | (go_at_call 11; refine (page_law b c s hb0 hb1 hc0 hc1 hs0 hs1 _).mono ?_; rintro e w2 ⟨v2, rfl, ho, hb⟩; obtain ⟨g2, c2, rfl, _⟩ := ho.byte (pgB_size _ _ _)
               have hv2 := ho.bs.string (P := Try.prog) 27 5 9 uBytes uByte uStr3
               have HX2 := Lib.hid (HXA.out.below hb)
               have HF2 := Lib.hid (HFD.out.trans (KR.ofBelow hb))
               clear ho hb)
            | (go_at_call 41; refine (rwrite_any at_ _ HX2.out hN (by rw [pgB_size]; decide)).mono ?_; rintro e w3 ⟨rfl, hx, hfr⟩
               have HX3 := Lib.hid hx
               have HF3 := Lib.hid (HF2.out.trans hfr)
               clear hx hfr)
          go_wp2_with fail
          refine hK.out _ _ ?_ (fun hHeld3 => ?_)
          · (try dsimp only)
            first | exact HFC.out _ HFD.out | exact HFC.out _ HF2.out | exact HFC.out _ HF3.out
          clear hK K hHeld2
          try simp only [Act.put, List.setIfInBounds_toArray, List.set_cons_zero, List.set_cons_succ]
          refine takeN (v := ?_) 12 rfl (by kernel_rfl) (by kernel_rfl) (by kernel_rfl) (fun _ _ _ h => h) (by rfl) ?_ hHeld3 ?_
          rotate_left
          · intro w hSw; (try dsimp only at hSw); go_simp; with_reducible rfl
          try simp only [Act.put, List.setIfInBounds_toArray, List.set_cons_zero, List.set_cons_succ]
          refine wpAnyH_done (by kernel_rfl) ?_ _
          go_wp2_with fail
          go_ret
          exact ⟨rfl, HX3.out, HAL.out.trans HF3.out⟩
        exact AllReadyH.nil
      exact AllReadyH.nil
    exact AllReadyH.nil
  · go_enter Try.func23, Try.ntmps23
    go_wp2_with fail
    refine (rflush_any HX.out hN hL HOK.out).mono ?_
    rintro e w1 ⟨rfl, hx, hfr⟩
    have HFR := Lib.hid (HAL.out.trans hfr)
    have HX1 := Lib.hid hx
    clear hx HX
    go_wp2_with fail
    go_ret
    exact ⟨rfl, HX1.out, HFR.out⟩
  · go_enter Try.func23, Try.ntmps23
    go_wp2_with fail
    obtain ⟨vL, vN, hx0⟩ := HX.out
    refine (rfuse_any at_ ha1 hx0).mono ?_
    rintro e w1 ⟨rfl, hx, hfr⟩
    have HFR := Lib.hid (HAL.out.trans (hx0.kr (hfr.mono (fun i hi => .inl hi))))
    have HX1 := Lib.hid (show RX w0 w1 p (rfuseS R at_) from ⟨_, _, hx⟩)
    clear hx HX hx0 hfr
    go_wp2_with fail
    go_ret
    exact ⟨rfl, HX1.out, HFR.out⟩
  · obtain ⟨vL, vN, hx0⟩ := HX.out
    have hc3 := hx0.c3
    have hf3 := hx0.fz 3
    have hk2 := (Keep.refl (fun i => i = p) (w.alloc (.cells #[.int .u8 doo, .int .i64 at_, .int .u8 b, .int .u8 c, .int .u8 s, .slice fa fates.length fc] 45))).setCell (p := ⟨p, 3, none⟩) (.inl rfl) (.bool true)
    have hx2 := hx0.set { R with dead := true } rfl rfl hx0.lft hk2 (blk_setCell hx0.blk 3 _)
    have HX1 := Lib.hid (show RX w0 _ p { R with dead := true } from ⟨_, _, hx2⟩)
    have HFR := Lib.hid (HAL.out.trans (hx0.kr (hk2.mono (fun i hi => .inl hi))))
    clear hx2 hk2 hx0 HX
    go_enter Try.func23, Try.ntmps23
    go_wp2_with fail
    go_ret
    exact ⟨rfl, HX1.out, HFR.out⟩
  · go_enter Try.func23, Try.ntmps23
    go_wp2_with fail
    refine (rrest_any _ fates HX.out hN hL HOK.out (HIS.out.below HBA.out) HLT.out HR.out).mono ?_
    rintro e w1 ⟨rfl, hx, hfr⟩
    have HFR := Lib.hid (HAL.out.trans hfr)
    have HX1 := Lib.hid hx
    clear hx HX
    go_wp2_with fail
    go_ret
    exact ⟨rfl, HX1.out, HFR.out⟩
  · obtain ⟨bn, rfl⟩ : ∃ bn : Nat, b = bn := ⟨b.toNat, by omega⟩
    have hmk := run_make_row' (P := Try.prog) 27 5 (.int .u8 0) 1 uBytes iByte rfl .u8 .u8 bn (by omega) (by omega)
    have hz1 := zstr (w.alloc (.cells #[.int .u8 doo, .int .i64 at_, .int .u8 bn, .int .u8 c, .int .u8 s, .slice fa fates.length fc] 45)).drew bn (by unfold maxLen; omega)
    rw [show (w.alloc (.cells #[.int .u8 doo, .int .i64 at_, .int .u8 bn, .int .u8 c, .int .u8 s, .slice fa fates.length fc] 45)).drew.heap.size = w.heap.size + 1 by simp [World.drew]] at hz1
    have hzz : (zp bn).size ≤ maxLen := by rw [zp_size]; unfold maxLen; omega
    obtain ⟨mc, hmc⟩ : ∃ mc, mc = madeCells #[Value.int .u8 0] bn := ⟨_, rfl⟩
    rw [← hmc] at hmk hz1
    clear hmc
    simp only [Int.toNat_natCast]
    obtain ⟨Z, hZ⟩ : ∃ Z, Z = zp bn := ⟨_, rfl⟩
    rw [← hZ] at hz1 hzz ⊢
    have hz2 : (convert 27 9 (.slice (some ⟨w.heap.size + 1, 0, none⟩) bn bn)).run Try.prog (((w.alloc (.cells #[.int .u8 doo, .int .i64 at_, .int .u8 bn, .int .u8 c, .int .u8 s, .slice fa fates.length fc] 45)).alloc (.cells mc 5)).drew) = .ok (.string Z) (((w.alloc (.cells #[.int .u8 doo, .int .i64 at_, .int .u8 bn, .int .u8 c, .int .u8 s, .slice fa fates.length fc] 45)).alloc (.cells mc 5)).drew) := hz1
    have HXB := Lib.hid (HX.out.below ((((Below.refl _ _).alloc (Nat.le_refl _) (.cells mc 5)).drew)))
    have HFB := Lib.hid (KR.ofBelow (w0 := w0) (((Below.refl (w.alloc (.cells #[.int .u8 doo, .int .i64 at_, .int .u8 bn, .int .u8 c, .int .u8 s, .slice fa fates.length fc] 45)).heap.size (w.alloc (.cells #[.int .u8 doo, .int .i64 at_, .int .u8 bn, .int .u8 c, .int .u8 s, .slice fa fates.length fc] 45))).alloc (Nat.le_refl _) (.cells mc 5)).drew))
    clear hZ hz1
    go_enter Try.func23, Try.ntmps23
    have hbx : (w.alloc (.cells #[.int .u8 doo, .int .i64 at_, .int .u8 bn, .int .u8 c, .int .u8 s, .slice fa fates.length fc] 45)).heap[w.heap.size]? = some (.cells #[.int .u8 doo, .int .i64 at_, .int .u8 bn, .int .u8 c, .int .u8 s, .slice fa fates.length fc] 45 (0, 0)) := blk_new w _
    have hfc : ∀ w', KR w0 (w.alloc (.cells #[.int .u8 doo, .int .i64 at_, .int .u8 bn, .int .u8 c, .int .u8 s, .slice fa fates.length fc] 45)) w' → w'.cell? ⟨w.heap.size, 1, none⟩ = some (.int .i64 at_) ∧ w'.cell? ⟨w.heap.size, 2, none⟩ = some (.int .u8 bn) := fun w' hk => by
      have h := hk.blk hbx (by decide)
      exact ⟨by rw [blk_cell h]; rfl, by rw [blk_cell h]; rfl⟩
    have HFC := Lib.hid hfc
    have HXA := Lib.hid (HX.out.below ((Below.refl _ _).drew))
    have HFD : Hid (KR w0 (w.alloc (.cells #[.int .u8 doo, .int .i64 at_, .int .u8 bn, .int .u8 c, .int .u8 s, .slice fa fates.length fc] 45)) (w.alloc (.cells #[.int .u8 doo, .int .i64 at_, .int .u8 bn, .int .u8 c, .int .u8 s, .slice fa fates.length fc] 45)).drew) := Lib.hid (KR.ofBelow ((Below.refl _ _).drew))
    clear hbx hfc HX
    go_wp2_with fail
    refine wp_region_held_drew (S := (fun w' => w'.cell? ⟨w.heap.size, 1, none⟩ = some (.int .i64 at_) ∧ w'.cell? ⟨w.heap.size, 2, none⟩ = some (.int .u8 bn))) (by kernel_rfl) ?_ (fun hHeld0 => ?_)
    · (try dsimp only)
      first | exact HFC.out _ HFD.out | exact HFC.out _ HFB.out | exact HFC.out _ HF3.out
    refine takeN (v := ?_) 0 rfl (by kernel_rfl) (by kernel_rfl) (by kernel_rfl) (fun _ _ _ h => h) (by rfl) ?_ hHeld0 ?_
    rotate_left
    · intro w hSw; (try dsimp only at hSw); go_simp; with_reducible rfl
    try simp only [Act.put, List.setIfInBounds_toArray, List.set_cons_zero, List.set_cons_succ]
    refine takeN (v := ?_) 1 rfl (by kernel_rfl) (by kernel_rfl) (by kernel_rfl) (fun _ _ _ h => h) (by rfl) ?_ hHeld0 ?_
    rotate_left
    · intro w hSw; (try dsimp only at hSw); go_simp; with_reducible rfl
    try simp only [Act.put, List.setIfInBounds_toArray, List.set_cons_zero, List.set_cons_succ]
    refine takeN (v := ?_) 2 rfl (by kernel_rfl) (by kernel_rfl) (by kernel_rfl) (fun _ _ _ h => h) (by rfl) ?_ hHeld0 ?_
    rotate_left
    · intro w hSw; (try dsimp only at hSw); go_simp; with_reducible rfl
    try simp only [Act.put, List.setIfInBounds_toArray, List.set_cons_zero, List.set_cons_succ]
    refine takeN (v := ?_) 3 rfl (by kernel_rfl) (by kernel_rfl) (by kernel_rfl) (fun _ _ _ h => h) (by rfl) ?_ hHeld0 ?_
    rotate_left
    · intro w hSw; (try dsimp only at hSw); go_simp; with_reducible rfl
    try simp only [Act.put, List.setIfInBounds_toArray, List.set_cons_zero, List.set_cons_succ]
    refine takeN (v := ?_) 4 rfl (by kernel_rfl) (by kernel_rfl) (by kernel_rfl) (fun _ _ _ h => h) (by rfl) ?_ hHeld0 ?_
    rotate_left
    · intro w hSw; (try dsimp only at hSw); go_simp; with_reducible rfl
    try simp only [Act.put, List.setIfInBounds_toArray, List.set_cons_zero, List.set_cons_succ]
    refine wpAnyH_ready (rs := [5]) (by kernel_rfl) (by simp) ?_
    refine readyN rfl (fun K hK => ?_) ?_
    · -- operation 5
      go_simp
      refine hK.out _ _ ?_ (fun hHeld1 => ?_)
      · (try dsimp only)
        first | exact HFC.out _ HFD.out | exact HFC.out _ HFB.out | exact HFC.out _ HF3.out
      clear hK K hHeld0
      try simp only [Act.put, List.setIfInBounds_toArray, List.set_cons_zero, List.set_cons_succ]
      refine wpAnyH_ready (rs := [6]) (by kernel_rfl) (by simp) ?_
      refine readyN rfl (fun K hK => ?_) ?_
      · -- operation 6
        go_simp
        refine hK.out _ _ ?_ (fun hHeld2 => ?_)
        · (try dsimp only)
          first | exact HFC.out _ HFD.out | exact HFC.out _ HFB.out | exact HFC.out _ HF3.out
        clear hK K hHeld1
        try simp only [Act.put, List.setIfInBounds_toArray, List.set_cons_zero, List.set_cons_succ]
        refine wpAnyH_ready (rs := [7]) (by kernel_rfl) (by simp) ?_
        refine readyN rfl (fun K hK => ?_) ?_
        · -- operation 7
          go_simp
          first
            | (go_at_call 41; refine (rwrite_any at_ _ HXB.out hN hzz).mono ?_; rintro e w3 ⟨rfl, hx, hfr⟩
               have HX3 := Lib.hid hx
               have HF3 := Lib.hid (HFB.out.trans hfr)
               clear hx hfr)
          go_wp2_with fail
          refine hK.out _ _ ?_ (fun hHeld3 => ?_)
          · (try dsimp only)
            first | exact HFC.out _ HFD.out | exact HFC.out _ HFB.out | exact HFC.out _ HF3.out
          clear hK K hHeld2
          try simp only [Act.put, List.setIfInBounds_toArray, List.set_cons_zero, List.set_cons_succ]
          refine takeN (v := ?_) 8 rfl (by kernel_rfl) (by kernel_rfl) (by kernel_rfl) (fun _ _ _ h => h) (by rfl) ?_ hHeld3 ?_
          rotate_left
          · intro w hSw; (try dsimp only at hSw); go_simp; with_reducible rfl
          try simp only [Act.put, List.setIfInBounds_toArray, List.set_cons_zero, List.set_cons_succ]
          refine wpAnyH_done (by kernel_rfl) ?_ _
          go_wp2_with fail
          go_ret
          exact ⟨rfl, HX3.out, HAL.out.trans HF3.out⟩
        exact AllReadyH.nil
      exact AllReadyH.nil
    exact AllReadyH.nil
  · obtain ⟨vL, vN, hx0⟩ := HX.out
    have hrd := rread_any at_ hx0 hN hL
    obtain ⟨rs, hrs⟩ : ∃ rs, rs = (if sureE R.dead R.L.length at_ 4096 = 0 then readR R at_.toNat else ByteArray.empty) := ⟨_, rfl⟩
    rw [← hrs] at hrd
    obtain ⟨re, hre⟩ : ∃ re, re = sureE R.dead R.L.length at_ 4096 := ⟨_, rfl⟩
    rw [← hre] at hrd ⊢
    unfold rV at hrd
    have HRD := Lib.hid hrd
    clear hx0 hrd hrs hre
    go_enter Try.func23, Try.ntmps23
    go_wp2_with fail
    refine HRD.out.mono ?_
    rintro e w1 ⟨rfl, hw⟩
    obtain rfl := hw.symm
    clear HRD
    go_wp2_with fail
    go_ret
    exact ⟨rfl, HX.out, HAL.out⟩
end
end Go.Proofs.Ytpclfnamknioaaa
