/- The walks of the law's does, all, same (chapter 3). -/
import Derived.Test.YtpclfnamknioaaaGoes3
namespace Go.Proofs.Ytpclfnamknioaaa
open Go.RowKit
set_option maxRecDepth 100000
set_option maxHeartbeats 1000000
set_option linter.unusedVariables false
set_option linter.unusedSimpArgs false
/-- an act -/
structure A3 where
  doo : Int
  at_ : Int
  b : Int
  c : Int
  s : Int
  fv : Value
  fates : List Int
def A3.cells (a : A3) : List Value := [.int .u8 a.doo, .int .i64 a.at_, .int .u8 a.b, .int .u8 a.c, .int .u8 a.s, a.fv]
structure A3.Ok (w : World) (a : A3) : Prop where
  doo : 0 ≤ a.doo ∧ a.doo < 256
  at_ : -9223372036854775808 ≤ a.at_ ∧ a.at_ ≤ 9223372036854775807
  b : 0 ≤ a.b ∧ a.b < 256
  c : 0 ≤ a.c ∧ a.c < 256
  s : 0 ≤ a.s ∧ a.s < 256
  is : IS w a.fv a.fates
  rng : ∀ x ∈ a.fates, -9223372036854775808 ≤ x ∧ x ≤ 9223372036854775807
  lt : a.fates ≠ [] → ∀ k, a.fv.ownBlock = some k → k < w.heap.size
theorem A3.Ok.below {w w' : World} {a : A3} (h : a.Ok w) (hb : Below w.heap.size w w') : a.Ok w' :=
  ⟨h.doo, h.at_, h.b, h.c, h.s, h.is.below hb, h.rng, fun hl k hk => Nat.lt_of_lt_of_le (h.lt hl k hk) hb.size⟩
def doesE (S : DS) (a : A3) : Int :=
  if a.doo % 7 = 0 then writeE S a.at_ (pgB a.b a.c a.s) else if a.doo % 7 = 1 then flushE S else if a.doo % 7 = 5 then writeE S a.at_ (zp a.b.toNat) else if a.doo % 7 = 6 then sureE S.dead S.L.length a.at_ 4096 else 0
def doesR (S : DS) (a : A3) : DS :=
  if a.doo % 7 = 0 then writeR S a.at_ (pgB a.b a.c a.s) else if a.doo % 7 = 1 then flushR S else if a.doo % 7 = 2 then fuseS S a.at_ else if a.doo % 7 = 3 then { S with dead := true } else if a.doo % 7 = 4 then restartS S a.fates
  else if a.doo % 7 = 5 then writeR S a.at_ (zp a.b.toNat) else S
/-- rows but those of ints, and the disk's own, stand -/
def FR (p bl : Nat) (w w' : World) : Prop := ∀ k c e z, e ≠ 3 → k ≠ p → k ≠ bl → w.heap[k]? = some (.cells c e z) → w'.heap[k]? = some (.cells c e z)
theorem FR.refl (p bl : Nat) (w : World) : FR p bl w w := fun _ _ _ _ _ _ _ h => h
theorem FR.trans {p bl : Nat} {a b c : World} (h : FR p bl a b) (k : FR p bl b c) : FR p bl a c := fun i cs e z h1 h2 h3 h4 => k i cs e z h1 h2 h3 (h i cs e z h1 h2 h3 h4)
theorem FR.ofBelow {p bl : Nat} {w w' : World} (h : Below w.heap.size w w') : FR p bl w w' := fun k c e z _ _ _ hk => (Keep.ofBelow h (fun _ => False)).blk hk (fun h => h)
theorem DiskIs.fr {w w' : World} {p bl bw : Nat} {ov : Value} {S : DS} (h : DiskIs w p bl bw ov S) (hk : Keep (DF p bl bw ov) w w') : FR p bl w w' := by
  intro k c e z h1 h2 h3 h4
  refine hk.blk h4 ?_
  rintro (rfl | rfl | rfl | hf)
  · exact h2 rfl
  · exact h3 rfl
  · obtain ⟨vs, ⟨es, c', g1, _⟩, _⟩ := h.waits; rw [g1] at h4; simp at h4
  · obtain ⟨c', g1⟩ := h.order_blk hf; rw [g1] at h4; simp only [Option.some.injEq, Obj.cells.injEq] at h4; exact h1 h4.2.1.symm
section
variable {w0 w : World} {p bl bw : Nat} {S : DS}
theorem y_write (at_ : Int) (bv : Value) (u : ByteArray) (B : Nat) (hX : DX w0 w p bl bw S) (hB : Own 5 w B bv u) :
    Calls Try.prog 10 #[dV p, .int .i64 at_, bv] w fun e w' => e = .returned (.int .i64 (writeE S at_ u)) ∧ DX w0 w' p bl bw (writeR S at_ u) ∧ FR p bl w w' := by
  obtain ⟨ov, h1, h2, h3⟩ := hX
  refine (write_any at_ bv u w h1 hB.bs (h1.nb hB)).mono ?_
  rintro e w' ⟨c, rfl, rfl, hn⟩
  have hn' := hn
  obtain ⟨_, _, hk, _⟩ := hn'
  exact ⟨rfl, DX.of h2 h3 hn, h1.fr hk⟩
theorem y_flush (hX : DX w0 w p bl bw S) (hpos : 0 < S.L.length) : Calls Try.prog 18 #[dV p] w fun e w' => e = .returned (.int .i64 (flushE S)) ∧ DX w0 w' p bl bw (flushR S) ∧ FR p bl w w' := by
  obtain ⟨ov, h1, h2, h3⟩ := hX
  refine (flush_any w h1 hpos).mono ?_
  rintro e w' ⟨c, rfl, rfl, hn⟩
  have hn' := hn
  obtain ⟨_, _, hk, _⟩ := hn'
  exact ⟨rfl, DX.of h2 h3 hn, h1.fr hk⟩
/-- fates that came in -/
theorem y_restart (fv : Value) (l : List Int) (hX : DX w0 w p bl bw S) (hI : IS w fv l) (hr : ∀ x ∈ l, -9223372036854775808 ≤ x ∧ x ≤ 9223372036854775807) (nb : l ≠ [] → ∀ k, fv.ownBlock = some k → k < w0.heap.size) :
    Calls Try.prog 13 #[dV p, fv] w fun e w' => e = .returned (.tuple #[]) ∧ DX w0 w' p bl bw (restartS S l) ∧ FR p bl w w' := by
  obtain ⟨ov, h1, h2, h3⟩ := hX
  refine (restart_any fv l w h1 hI hr (fun hl k hk hf => by have := nb hl k hk; have := h3 k hf; omega)).mono ?_
  rintro e w' ⟨rfl, hn⟩
  have hn' := hn
  obtain ⟨_, _, hk, _⟩ := hn'
  exact ⟨rfl, DX.of h2 h3 hn, h1.fr hk⟩
theorem y_fuse (n : Int) (hn : n ≤ 9223372036854775807) (hX : DX w0 w p bl bw S) : Calls Try.prog 16 #[dV p, .int .i64 n] w fun e w' => e = .returned (.tuple #[]) ∧ DX w0 w' p bl bw (fuseS S n) ∧ FR p bl w w' := by
  obtain ⟨ov, h1, h2, h3⟩ := hX
  refine (fuse_any n w hn h1).mono ?_
  rintro e w' ⟨rfl, h, hk⟩
  exact ⟨rfl, DX.keepP h2 h3 h hk, h1.fr (hk.mono (fun i hi => .inl hi))⟩
theorem y_kill (hX : DX w0 w p bl bw S) : Calls Try.prog 28 #[dV p] w fun e w' => e = .returned (.tuple #[]) ∧ DX w0 w' p bl bw { S with dead := true } ∧ FR p bl w w' := by
  obtain ⟨ov, h1, h2, h3⟩ := hX
  refine (kill_any w h1).mono ?_
  rintro e w' ⟨rfl, h, hk⟩
  exact ⟨rfl, DX.keepP h2 h3 h hk, h1.fr (hk.mono (fun i hi => .inl hi))⟩
theorem does_any (a : A3) (ha : a.Ok w0) (hX : DX w0 w p bl bw S) (hpos : 0 < S.L.length) :
    Calls Try.prog 22 #[dV p, .agg a.cells.toArray] w fun e w' => e = .returned (.int .i64 (doesE S a)) ∧ DX w0 w' p bl bw (doesR S a) ∧ FR p bl w w' := by
  obtain ⟨doo, at_, b, c, s, fv, fates⟩ := a
  obtain ⟨⟨hd0, hd1⟩, ⟨ha0, ha1⟩, ⟨hb0, hb1⟩, ⟨hc0, hc1⟩, ⟨hs0, hs1⟩, his, hrng, hlt⟩ := ha
  simp only at hd0 hd1 ha0 ha1 hb0 hb1 hc0 hc1 hs0 hs1 his hrng hlt
  obtain ⟨fa, fc, rfl, hfr⟩ := his
  have HIS : Hid (IS w0 (.slice fa fates.length fc) fates) := Lib.hid ⟨fa, fc, rfl, hfr⟩
  have HR := Lib.hid hrng
  have HLT := Lib.hid hlt
  have HX := Lib.hid hX
  have HPOS := Lib.hid hpos
  clear hfr hrng hlt hX hpos
  obtain ⟨m, hm⟩ : ∃ m, doo % 7 = m := ⟨_, rfl⟩
  have hm7 : m = 0 ∨ m = 1 ∨ m = 2 ∨ m = 3 ∨ m = 4 ∨ m = 5 ∨ m = 6 := by omega
  have HAL := Lib.hid (FR.ofBelow (p := p) (bl := bl) ((Below.refl w.heap.size w).alloc (Nat.le_refl _) (.cells #[.int .u8 doo, .int .i64 at_, .int .u8 b, .int .u8 c, .int .u8 s, .slice fa fates.length fc] 45)))
  unfold dV A3.cells doesE doesR
  simp only
  rw [hm]
  rcases hm7 with rfl | rfl | rfl | rfl | rfl | rfl | rfl
  · go_enter Try.func22, Try.ntmps22
    go_wp2_with fail
    have hbx : (w.alloc (.cells #[.int .u8 doo, .int .i64 at_, .int .u8 b, .int .u8 c, .int .u8 s, .slice fa fates.length fc] 45)).heap[w.heap.size]? = some (.cells #[.int .u8 doo, .int .i64 at_, .int .u8 b, .int .u8 c, .int .u8 s, .slice fa fates.length fc] 45 (0, 0)) := blk_new w _
    have hnp : w.heap.size ≠ p ∧ w.heap.size ≠ bl := by
      obtain ⟨ov, h1, _⟩ := HX.out
      have h2 := h1.lt p (.inl rfl)
      have h3 := h1.lt bl (.inr (.inl rfl))
      omega
    have hfc : ∀ w', FR p bl (w.alloc (.cells #[.int .u8 doo, .int .i64 at_, .int .u8 b, .int .u8 c, .int .u8 s, .slice fa fates.length fc] 45)) w' → w'.cell? ⟨w.heap.size, 1, none⟩ = some (.int .i64 at_) ∧ w'.cell? ⟨w.heap.size, 2, none⟩ = some (.int .u8 b) ∧ w'.cell? ⟨w.heap.size, 3, none⟩ = some (.int .u8 c) ∧ w'.cell? ⟨w.heap.size, 4, none⟩ = some (.int .u8 s) := fun w' hfr => by
      have h := hfr _ _ _ _ (by decide) hnp.1 hnp.2 hbx
      exact ⟨by rw [blk_cell h]; rfl, by rw [blk_cell h]; rfl, by rw [blk_cell h]; rfl, by rw [blk_cell h]; rfl⟩
    have HFC := Lib.hid hfc
    have HXA := Lib.hid ((HX.out.alloc (.cells #[.int .u8 doo, .int .i64 at_, .int .u8 b, .int .u8 c, .int .u8 s, .slice fa fates.length fc] 45)).drew)
    have HFD : Hid (FR p bl (w.alloc (.cells #[.int .u8 doo, .int .i64 at_, .int .u8 b, .int .u8 c, .int .u8 s, .slice fa fates.length fc] 45)) (w.alloc (.cells #[.int .u8 doo, .int .i64 at_, .int .u8 b, .int .u8 c, .int .u8 s, .slice fa fates.length fc] 45)).drew) := Lib.hid (FR.ofBelow ((Below.refl _ _).drew))
    clear hbx hfc HX
    refine wp_region_held_drew (S := (fun w' => w'.cell? ⟨w.heap.size, 1, none⟩ = some (.int .i64 at_) ∧ w'.cell? ⟨w.heap.size, 2, none⟩ = some (.int .u8 b) ∧ w'.cell? ⟨w.heap.size, 3, none⟩ = some (.int .u8 c) ∧ w'.cell? ⟨w.heap.size, 4, none⟩ = some (.int .u8 s))) (by kernel_rfl) ?_ (fun hHeld0 => ?_)
    · (try dsimp only)
      first | exact HFC.out _ HFD.out | exact HFC.out _ HF2.out | exact HFC.out _ HF3.out
    refine takeN (v := ?_) 0 rfl (by kernel_rfl) (by kernel_rfl) (by kernel_rfl) (fun _ _ _ h => h) (by rfl) ?_ hHeld0 ?_
    rotate_left
    · intro w hSw; (try dsimp only at hSw); go_simp; with_reducible rfl
    try simp only [Act.put, List.setIfInBounds_toArray, List.set_cons_zero, List.set_cons_succ]
    refine takeN (v := ?_) 1 rfl (by kernel_rfl) (by kernel_rfl) (by kernel_rfl) (fun _ _ _ h => h) (by rfl) ?_ hHeld0 ?_
    rotate_left
    · intro w hSw; (try dsimp only at hSw); go_simp; with_reducible rfl
    try simp only [Act.put, List.setIfInBounds_toArray, List.set_cons_zero, List.set_cons_succ]
    refine takeN (v := ?_) 2 rfl (by kernel_rfl) (by kernel_rfl) (by kernel_rfl) (fun _ _ _ h => h) (by rfl) ?_ hHeld0 ?_
    rotate_left
    · intro w hSw; (try dsimp only at hSw); go_simp; with_reducible rfl
    try simp only [Act.put, List.setIfInBounds_toArray, List.set_cons_zero, List.set_cons_succ]
    refine takeN (v := ?_) 3 rfl (by kernel_rfl) (by kernel_rfl) (by kernel_rfl) (fun _ _ _ h => h) (by rfl) ?_ hHeld0 ?_
    rotate_left
    · intro w hSw; (try dsimp only at hSw); go_simp; with_reducible rfl
    try simp only [Act.put, List.setIfInBounds_toArray, List.set_cons_zero, List.set_cons_succ]
    refine takeN (v := ?_) 4 rfl (by kernel_rfl) (by kernel_rfl) (by kernel_rfl) (fun _ _ _ h => h) (by rfl) ?_ hHeld0 ?_
    rotate_left
    · intro w hSw; (try dsimp only at hSw); go_simp; with_reducible rfl
    try simp only [Act.put, List.setIfInBounds_toArray, List.set_cons_zero, List.set_cons_succ]
    refine takeN (v := ?_) 5 rfl (by kernel_rfl) (by kernel_rfl) (by kernel_rfl) (fun _ _ _ h => h) (by rfl) ?_ hHeld0 ?_
    rotate_left
    · intro w hSw; (try dsimp only at hSw); go_simp; with_reducible rfl
    try simp only [Act.put, List.setIfInBounds_toArray, List.set_cons_zero, List.set_cons_succ]
    refine takeN (v := ?_) 6 rfl (by kernel_rfl) (by kernel_rfl) (by kernel_rfl) (fun _ _ _ h => h) (by rfl) ?_ hHeld0 ?_
    rotate_left
    · intro w hSw; (try dsimp only at hSw); go_simp; with_reducible rfl
    try simp only [Act.put, List.setIfInBounds_toArray, List.set_cons_zero, List.set_cons_succ]
    refine takeN (v := ?_) 7 rfl (by kernel_rfl) (by kernel_rfl) (by kernel_rfl) (fun _ _ _ h => h) (by rfl) ?_ hHeld0 ?_
    rotate_left
    · intro w hSw; (try dsimp only at hSw); go_simp; with_reducible rfl
    try simp only [Act.put, List.setIfInBounds_toArray, List.set_cons_zero, List.set_cons_succ]
    refine takeN (v := ?_) 8 rfl (by kernel_rfl) (by kernel_rfl) (by kernel_rfl) (fun _ _ _ h => h) (by rfl) ?_ hHeld0 ?_
    rotate_left
    · intro w hSw; (try dsimp only at hSw); go_simp; with_reducible rfl
    try simp only [Act.put, List.setIfInBounds_toArray, List.set_cons_zero, List.set_cons_succ]
    refine wpAnyH_ready (rs := [9]) (by kernel_rfl) (by simp) ?_
    refine readyN rfl (fun K hK => ?_) ?_
    · -- operation 9
      go_simp
      first
        | (go_at_call 11; refine (page_law b c s hb0 hb1 hc0 hc1 hs0 hs1 _).mono ?_; rintro e w2 ⟨v2, rfl, ho, hb⟩; obtain ⟨g2, c2, rfl, _⟩ := ho.byte (pgB_size _ _ _)
           have HO2 := Lib.hid ho
           have HX2 := Lib.hid (HXA.out.below hb)
           have HF2 := Lib.hid (HFD.out.trans (FR.ofBelow hb))
           clear ho hb)
        | (go_at_call 10; refine (y_write at_ _ _ _ HX2.out HO2.out).mono ?_; rintro e w3 ⟨rfl, hx, hfr⟩
           have HX3 := Lib.hid hx
           have HF3 := Lib.hid (HF2.out.trans hfr)
           clear hx hfr)
      go_wp2_with fail
      refine hK.out _ _ ?_ (fun hHeld1 => ?_)
      · (try dsimp only)
        first | exact HFC.out _ HFD.out | exact HFC.out _ HF2.out | exact HFC.out _ HF3.out
      clear hK K hHeld0
      try simp only [Act.put, List.setIfInBounds_toArray, List.set_cons_zero, List.set_cons_succ]
      refine wpAnyH_ready (rs := [10]) (by kernel_rfl) (by simp) ?_
      refine readyN rfl (fun K hK => ?_) ?_
      · -- operation 10
        go_simp
        first
          | (go_at_call 11; refine (page_law b c s hb0 hb1 hc0 hc1 hs0 hs1 _).mono ?_; rintro e w2 ⟨v2, rfl, ho, hb⟩; obtain ⟨g2, c2, rfl, _⟩ := ho.byte (pgB_size _ _ _)
             have HO2 := Lib.hid ho
             have HX2 := Lib.hid (HXA.out.below hb)
             have HF2 := Lib.hid (HFD.out.trans (FR.ofBelow hb))
             clear ho hb)
          | (go_at_call 10; refine (y_write at_ _ _ _ HX2.out HO2.out).mono ?_; rintro e w3 ⟨rfl, hx, hfr⟩
             have HX3 := Lib.hid hx
             have HF3 := Lib.hid (HF2.out.trans hfr)
             clear hx hfr)
        go_wp2_with fail
        refine hK.out _ _ ?_ (fun hHeld2 => ?_)
        · (try dsimp only)
          first | exact HFC.out _ HFD.out | exact HFC.out _ HF2.out | exact HFC.out _ HF3.out
        clear hK K hHeld1
        try simp only [Act.put, List.setIfInBounds_toArray, List.set_cons_zero, List.set_cons_succ]
        refine takeN (v := ?_) 11 rfl (by kernel_rfl) (by kernel_rfl) (by kernel_rfl) (fun _ _ _ h => h) (by rfl) ?_ hHeld2 ?_
        rotate_left
        · intro w hSw; (try dsimp only at hSw); go_simp; with_reducible rfl
        try simp only [Act.put, List.setIfInBounds_toArray, List.set_cons_zero, List.set_cons_succ]
        refine wpAnyH_done (by kernel_rfl) ?_ _
        go_wp2_with fail
        go_ret
        exact ⟨rfl, HX3.out, HAL.out.trans HF3.out⟩
      exact AllReadyH.nil
    exact AllReadyH.nil
  · go_enter Try.func22, Try.ntmps22
    go_wp2_with fail
    refine (y_flush (HX.out.alloc _) HPOS.out).mono ?_
    rintro e w1 ⟨rfl, hx, hfr⟩
    have HFR := Lib.hid (HAL.out.trans hfr)
    have HX1 := Lib.hid hx
    clear hx HX
    go_wp2_with fail
    go_ret
    exact ⟨rfl, HX1.out, HFR.out⟩
  · go_enter Try.func22, Try.ntmps22
    go_wp2_with fail
    refine (y_fuse at_ ha1 (HX.out.alloc _)).mono ?_
    rintro e w1 ⟨rfl, hx, hfr⟩
    have HFR := Lib.hid (HAL.out.trans hfr)
    have HX1 := Lib.hid hx
    clear hx HX
    go_wp2_with fail
    go_ret
    exact ⟨rfl, HX1.out, HFR.out⟩
  · go_enter Try.func22, Try.ntmps22
    go_wp2_with fail
    refine (y_kill (HX.out.alloc _)).mono ?_
    rintro e w1 ⟨rfl, hx, hfr⟩
    have HFR := Lib.hid (HAL.out.trans hfr)
    have HX1 := Lib.hid hx
    clear hx HX
    go_wp2_with fail
    go_ret
    exact ⟨rfl, HX1.out, HFR.out⟩
  · go_enter Try.func22, Try.ntmps22
    go_wp2_with fail
    have hX1 := HX.out.alloc (.cells #[.int .u8 doo, .int .i64 at_, .int .u8 b, .int .u8 c, .int .u8 s, .slice fa fates.length fc] 45)
    refine (y_restart _ fates hX1 (HIS.out.below hX1.low) HR.out HLT.out).mono ?_
    rintro e w1 ⟨rfl, hx, hfr⟩
    have HFR := Lib.hid (HAL.out.trans hfr)
    have HX1 := Lib.hid hx
    clear hx HX hX1
    go_wp2_with fail
    go_ret
    exact ⟨rfl, HX1.out, HFR.out⟩
  · obtain ⟨bn, rfl⟩ : ∃ bn : Nat, b = bn := ⟨b.toNat, by omega⟩
    have hmk := run_make_row' (P := Try.prog) 27 5 (.int .u8 0) 1 uBytes iByte rfl .u8 .u8 bn (by omega) (by omega)
    have HZ := Lib.hid (fun W => Own.zeros 5 W bn (by unfold maxLen; omega))
    obtain ⟨mc, hmc⟩ : ∃ mc, mc = madeCells #[Value.int .u8 0] bn := ⟨_, rfl⟩
    rw [← hmc] at hmk HZ
    clear hmc
    simp only [Int.toNat_natCast]
    obtain ⟨AO, hAO⟩ : ∃ AO, AO = Obj.cells #[.int .u8 doo, .int .i64 at_, .int .u8 (bn : Int), .int .u8 c, .int .u8 s, .slice fa fates.length fc] 45 := ⟨_, rfl⟩
    have hz1 : Own 5 (((w.alloc AO).drew).alloc (.cells mc 5)) (w.heap.size + 1) (.slice (some ⟨w.heap.size + 1, 0, none⟩) bn bn) (zp bn) := by
      have h := HZ.out (w.alloc AO).drew
      have e : (w.alloc AO).drew.heap.size = w.heap.size + 1 := by simp [World.drew]
      rw [e] at h
      exact h
    rw [hAO] at hz1
    have HZ1 := Lib.hid hz1
    clear hz1 hAO
    go_enter Try.func22, Try.ntmps22
    go_wp2_with fail
    have hbx : (w.alloc (.cells #[.int .u8 doo, .int .i64 at_, .int .u8 bn, .int .u8 c, .int .u8 s, .slice fa fates.length fc] 45)).heap[w.heap.size]? = some (.cells #[.int .u8 doo, .int .i64 at_, .int .u8 bn, .int .u8 c, .int .u8 s, .slice fa fates.length fc] 45 (0, 0)) := blk_new w _
    have hnp : w.heap.size ≠ p ∧ w.heap.size ≠ bl := by
      obtain ⟨ov, h1, _⟩ := HX.out
      have h2 := h1.lt p (.inl rfl)
      have h3 := h1.lt bl (.inr (.inl rfl))
      omega
    have hfc : ∀ w', FR p bl (w.alloc (.cells #[.int .u8 doo, .int .i64 at_, .int .u8 bn, .int .u8 c, .int .u8 s, .slice fa fates.length fc] 45)) w' → w'.cell? ⟨w.heap.size, 1, none⟩ = some (.int .i64 at_) ∧ w'.cell? ⟨w.heap.size, 2, none⟩ = some (.int .u8 bn) ∧ w'.cell? ⟨w.heap.size, 3, none⟩ = some (.int .u8 c) ∧ w'.cell? ⟨w.heap.size, 4, none⟩ = some (.int .u8 s) := fun w' hfr => by
      have h := hfr _ _ _ _ (by decide) hnp.1 hnp.2 hbx
      exact ⟨by rw [blk_cell h]; rfl, by rw [blk_cell h]; rfl, by rw [blk_cell h]; rfl, by rw [blk_cell h]; rfl⟩
    have HFC := Lib.hid hfc
    have HXA := Lib.hid ((HX.out.alloc (.cells #[.int .u8 doo, .int .i64 at_, .int .u8 bn, .int .u8 c, .int .u8 s, .slice fa fates.length fc] 45)).drew)
    have HFD : Hid (FR p bl (w.alloc (.cells #[.int .u8 doo, .int .i64 at_, .int .u8 bn, .int .u8 c, .int .u8 s, .slice fa fates.length fc] 45)) (w.alloc (.cells #[.int .u8 doo, .int .i64 at_, .int .u8 bn, .int .u8 c, .int .u8 s, .slice fa fates.length fc] 45)).drew) := Lib.hid (FR.ofBelow ((Below.refl _ _).drew))
    clear hbx hfc HX
    refine wp_region_held_drew (S := (fun w' => w'.cell? ⟨w.heap.size, 1, none⟩ = some (.int .i64 at_) ∧ w'.cell? ⟨w.heap.size, 2, none⟩ = some (.int .u8 bn) ∧ w'.cell? ⟨w.heap.size, 3, none⟩ = some (.int .u8 c) ∧ w'.cell? ⟨w.heap.size, 4, none⟩ = some (.int .u8 s))) (by kernel_rfl) ?_ (fun hHeld0 => ?_)
    · (try dsimp only)
      first | exact HFC.out _ HFD.out | exact HFC.out _ (HFD.out.trans (FR.ofBelow ((Below.refl _ _).alloc (Nat.le_refl _) _))) | exact HFC.out _ HF3.out
    refine takeN (v := ?_) 0 rfl (by kernel_rfl) (by kernel_rfl) (by kernel_rfl) (fun _ _ _ h => h) (by rfl) ?_ hHeld0 ?_
    rotate_left
    · intro w hSw; (try dsimp only at hSw); go_simp; with_reducible rfl
    try simp only [Act.put, List.setIfInBounds_toArray, List.set_cons_zero, List.set_cons_succ]
    refine takeN (v := ?_) 1 rfl (by kernel_rfl) (by kernel_rfl) (by kernel_rfl) (fun _ _ _ h => h) (by rfl) ?_ hHeld0 ?_
    rotate_left
    · intro w hSw; (try dsimp only at hSw); go_simp; with_reducible rfl
    try simp only [Act.put, List.setIfInBounds_toArray, List.set_cons_zero, List.set_cons_succ]
    refine takeN (v := ?_) 2 rfl (by kernel_rfl) (by kernel_rfl) (by kernel_rfl) (fun _ _ _ h => h) (by rfl) ?_ hHeld0 ?_
    rotate_left
    · intro w hSw; (try dsimp only at hSw); go_simp; with_reducible rfl
    try simp only [Act.put, List.setIfInBounds_toArray, List.set_cons_zero, List.set_cons_succ]
    refine takeN (v := ?_) 3 rfl (by kernel_rfl) (by kernel_rfl) (by kernel_rfl) (fun _ _ _ h => h) (by rfl) ?_ hHeld0 ?_
    rotate_left
    · intro w hSw; (try dsimp only at hSw); go_simp; with_reducible rfl
    try simp only [Act.put, List.setIfInBounds_toArray, List.set_cons_zero, List.set_cons_succ]
    refine takeN (v := ?_) 4 rfl (by kernel_rfl) (by kernel_rfl) (by kernel_rfl) (fun _ _ _ h => h) (by rfl) ?_ hHeld0 ?_
    rotate_left
    · intro w hSw; (try dsimp only at hSw); go_simp; with_reducible rfl
    try simp only [Act.put, List.setIfInBounds_toArray, List.set_cons_zero, List.set_cons_succ]
    refine wpAnyH_ready (rs := [5]) (by kernel_rfl) (by simp) ?_
    refine readyN rfl (fun K hK => ?_) ?_
    · -- operation 5
      go_simp
      refine hK.out _ _ ?_ (fun hHeld1 => ?_)
      · (try dsimp only)
        first | exact HFC.out _ HFD.out | exact HFC.out _ (HFD.out.trans (FR.ofBelow ((Below.refl _ _).alloc (Nat.le_refl _) _))) | exact HFC.out _ HF3.out
      clear hK K hHeld0
      try simp only [Act.put, List.setIfInBounds_toArray, List.set_cons_zero, List.set_cons_succ]
      refine wpAnyH_ready (rs := [6]) (by kernel_rfl) (by simp) ?_
      refine readyN rfl (fun K hK => ?_) ?_
      · -- operation 6
        go_simp
        first
          | (go_at_call 10; refine (y_write at_ _ _ _ (HXA.out.alloc _) HZ1.out).mono ?_; rintro e w3 ⟨rfl, hx, hfr⟩
             have HX3 := Lib.hid hx
             have HF3 := Lib.hid ((HFD.out.trans (FR.ofBelow ((Below.refl _ _).alloc (Nat.le_refl _) _))).trans hfr)
             clear hx hfr)
        go_wp2_with fail
        refine hK.out _ _ ?_ (fun hHeld2 => ?_)
        · (try dsimp only)
          first | exact HFC.out _ HFD.out | exact HFC.out _ (HFD.out.trans (FR.ofBelow ((Below.refl _ _).alloc (Nat.le_refl _) _))) | exact HFC.out _ HF3.out
        clear hK K hHeld1
        try simp only [Act.put, List.setIfInBounds_toArray, List.set_cons_zero, List.set_cons_succ]
        refine takeN (v := ?_) 7 rfl (by kernel_rfl) (by kernel_rfl) (by kernel_rfl) (fun _ _ _ h => h) (by rfl) ?_ hHeld2 ?_
        rotate_left
        · intro w hSw; (try dsimp only at hSw); go_simp; with_reducible rfl
        try simp only [Act.put, List.setIfInBounds_toArray, List.set_cons_zero, List.set_cons_succ]
        refine wpAnyH_done (by kernel_rfl) ?_ _
        go_wp2_with fail
        go_ret
        exact ⟨rfl, HX3.out, HAL.out.trans HF3.out⟩
      exact AllReadyH.nil
    exact AllReadyH.nil
  · go_enter Try.func22, Try.ntmps22
    go_wp2_with fail
    refine (x_read at_ (HX.out.alloc _)).mono ?_
    rintro e w1 ⟨v, rfl, _, _, hbl, hx⟩
    have HFR := Lib.hid (HAL.out.trans (FR.ofBelow hbl))
    have HX1 := Lib.hid hx
    clear hx HX
    go_wp2_with fail
    go_ret
    exact ⟨rfl, HX1.out, HFR.out⟩
end
end Go.Proofs.Ytpclfnamknioaaa
