/- The document's disk (chapter 3): the walk of its New. -/
import Derived.Test.YtpclfnamknioaaaRef3d
namespace Go.Proofs.Ytpclfnamknioaaa
open Go.RowKit
set_option maxRecDepth 100000
set_option maxHeartbeats 2000000
set_option linter.unusedVariables false
set_option linter.unusedSimpArgs false
theorem uStrs : Try.prog.underlying 47 = some (.slice 9) := by kernel_rfl
theorem iStrs : (Try.prog.info? 9).map (fun i => (i.zero, i.size, i.bytes)) = some (some (.string ByteArray.empty), 1, 16) := by kernel_rfl
def rnewS (n : Nat) : R3 := ⟨List.replicate n none, [], -1, false⟩
theorem rnew_any (n : Nat) (hn : n ≤ 4096) (w : World) : Calls Try.prog 20 #[.int .i64 n] w fun e w' => ∃ p, e = .returned (rV p) ∧ RX w w' p (rnewS n) ∧ Below w.heap.size w w' := by
  have hX0 : R3Is (w.alloc (.cells #[.slice none 0 0, .slice none 0 0, .int .i64 (-1), .bool false] 50)) w.heap.size w.heap.size (.slice none 0 0) (.slice none 0 0) (rnewS 0) :=
    ⟨blk_new w _, World.ownsRow_nil _ _ _ _, World.ownsRow_nil _ _ _ _, Nat.le_refl _, by show (-1 : Int) ≤ _; decide⟩
  have HX0 := Lib.hid hX0
  have HB0 := Lib.hid ((Below.refl w.heap.size w).alloc (Nat.le_refl _) (.cells #[.slice none 0 0, .slice none 0 0, .int .i64 (-1), .bool false] 50))
  obtain ⟨i0, hi, hzz⟩ := Option.map_eq_some_iff.1 iStrs
  simp only [Prod.mk.injEq] at hzz
  obtain ⟨hz0, hz1, hz2⟩ := hzz
  have HI := Lib.hid (And.intro hi (And.intro hz0 (And.intro hz1 hz2)))
  obtain ⟨z, hz⟩ : ∃ z, z = zp 4096 := ⟨_, rfl⟩
  have HZ := Lib.hid hz
  have HZC := Lib.hid zeros_any
  rw [← hz] at HZC
  unfold rV
  clear hX0 hi hz0 hz1 hz2 hz
  go_enter Try.func20, Try.ntmps20
  go_wp2_with fail
  go_loopw [4] (fun s wr => ∃ (i : Nat) (vL : Value), i ≤ n ∧ s = .int .i64 i ∧ Hid (R3Is wr w.heap.size w.heap.size vL (.slice none 0 0) (rnewS i)) ∧ Hid (Below w.heap.size w wr)) (fun s _ => n - (intOf s).toNat)
  case atStart => exact ⟨0, _, by omega, rfl, HX0, HB0⟩
  case round =>
    clear HX0 HB0
    obtain ⟨i, vL, hi, rfl, HX, HB⟩ := hrel
    by_cases hlt : i < n
    · have j1 : decide ((i : Int) < (n : Int)) = true := decide_eq_true (by omega)
      have hli : (rnewS i).L.length = i := by simp [rnewS]
      have hrow := HX.out.rowL
      rw [hli] at hrow
      obtain ⟨la, lc, rfl⟩ := rowk_shape hrow
      have hp1 : wr.drew.cell? ⟨w.heap.size, 0, none⟩ = some (.slice la i lc) := HX.out.c0
      have hws : w.heap.size < wr.heap.size := blk_lt HX.out.blk
      have HROW := Lib.hid hrow
      have HXD := Lib.hid (HX.out.below ((Below.refl _ _).drew))
      have HBD := Lib.hid (HB.out.drew)
      clear hrow hli
      go_wp2_with fail
      refine wp_region_held_drew (S := (fun w' => True)) (by kernel_rfl) ?_ (fun hHeld0 => ?_)
      · dsimp only
      refine takeN (v := ?_) 0 rfl (by kernel_rfl) (by kernel_rfl) (by kernel_rfl) (fun _ _ _ h => h) (by rfl) ?_ hHeld0 ?_
      rotate_left
      · intro w hSw; (try dsimp only at hSw); go_simp; with_reducible rfl
      try simp only [Act.put, List.setIfInBounds_toArray, List.set_cons_zero, List.set_cons_succ]
      refine takeN (v := ?_) 1 rfl (by kernel_rfl) (by kernel_rfl) (by kernel_rfl) (fun _ _ _ h => h) (by rfl) ?_ hHeld0 ?_
      rotate_left
      · intro w hSw; (try dsimp only at hSw); go_simp; with_reducible rfl
      try simp only [Act.put, List.setIfInBounds_toArray, List.set_cons_zero, List.set_cons_succ]
      refine takeN (v := ?_) 2 rfl (by kernel_rfl) (by kernel_rfl) (by kernel_rfl) (fun _ _ _ h => h) (by rfl) ?_ hHeld0 ?_
      rotate_left
      · intro w hSw; (try dsimp only at hSw); go_simp; with_reducible rfl
      try simp only [Act.put, List.setIfInBounds_toArray, List.set_cons_zero, List.set_cons_succ]
      refine takeN (v := ?_) 3 rfl (by kernel_rfl) (by kernel_rfl) (by kernel_rfl) (fun _ _ _ h => h) (by rfl) ?_ hHeld0 ?_
      rotate_left
      · intro w hSw; (try dsimp only at hSw); go_simp; with_reducible rfl
      try simp only [Act.put, List.setIfInBounds_toArray, List.set_cons_zero, List.set_cons_succ]
      refine wpAnyH_ready (rs := [4, 5]) (by kernel_rfl) (by simp) ?_
      refine readyN rfl (fun K hK => ?_) ?_
      · -- operation 4
        go_simp
        refine hK.out _ _ ?_ (fun hHeld1 => ?_)
        · dsimp only
        clear hK K hHeld0
        try simp only [Act.put, List.setIfInBounds_toArray, List.set_cons_zero, List.set_cons_succ]
        refine wpAnyH_ready (rs := [5]) (by kernel_rfl) (by simp) ?_
        refine readyN rfl (fun K hK => ?_) ?_
        · -- operation 5
          go_simp
          first
            | (go_at_call 40
               refine (HZC.out _).mono ?_
               rintro e w2 ⟨rfl, hb⟩
               have hx2 := HXD.out.below hb
               have hbe : Below w2.heap.size w2 (w2.alloc (.cells #[.string z] 9)) := (Below.refl _ _).alloc (Nat.le_refl _) _
               have hx3 := hx2.below hbe
               have hp2 : w2.cell? ⟨w.heap.size, 0, none⟩ = some (.slice la i lc) := hx2.c0
               have hp3 : (w2.alloc (.cells #[.string z] 9)).cell? ⟨w.heap.size, 0, none⟩ = some (.slice la i lc) := hx3.c0
               have hrow3 := hx3.rowL
               rw [show (rnewS i).L.length = i by simp [rnewS]] at hrow3
               have hsz2 : wr.heap.size ≤ w2.heap.size := hb.size
               obtain ⟨v3, w3, hap, ho3, hg3, _, hat3⟩ := run_append_own_at (P := Try.prog) (w2.alloc (.cells #[.string z] 9)) w.heap.size 47 47 9 i0 _ 1 16 uStrs HI.out.1 HI.out.2.1 HI.out.2.2.1 HI.out.2.2.2 (by rfl) (by decide) (.slice la i lc) i _ hrow3 ⟨w2.heap.size, 0, none⟩ 1 1 [.string z] rfl
                 (World.news_of_block (cs := #[.string z]) (t := 9) (fr := (0, 0)) (blk_newAt rfl _)) (by simp [Value.oneCell']) (by unfold maxLen; omega) (by omega) (by simp; omega)
               obtain ⟨g3, c3, rfl⟩ : ∃ g3 c3, v3 = .slice (some ⟨g3, 0, none⟩) (i + 1) c3 := by
                 rcases ho3.2 with ⟨_, h0⟩ | ⟨g, cap, cur, he, _⟩
                 · omega
                 · exact ⟨g, cap, he⟩
               have hkg := keep_grown hg3
               have hb3 := hkg.blk hx3.blk (fun e => hx3.neL e)
               have hc3 : w3.cell? ⟨w.heap.size, 0, none⟩ = some (.slice la i lc) := by rw [blk_cell hb3]; rfl
               have hf3 := blk_frozen hb3 0
               have hk4 : Keep (fun i => i = w.heap.size) w3 (w3.setCell ⟨w.heap.size, 0, none⟩ (.slice (some ⟨g3, 0, none⟩) (i + 1) c3)) := (Keep.refl (fun i => i = w.heap.size) w3).setCell (p := ⟨w.heap.size, 0, none⟩) (.inl rfl) _
               have hg3p : g3 ≠ w.heap.size := fun e => by
                 rcases hat3 with h | h
                 · exact hx3.neL (by rw [← h, e]; rfl)
                 · simp [Value.ownBlock] at h; omega
               have hx4 : R3Is (w3.setCell ⟨w.heap.size, 0, none⟩ (.slice (some ⟨g3, 0, none⟩) (i + 1) c3)) w.heap.size w.heap.size (.slice (some ⟨g3, 0, none⟩) (i + 1) c3) (.slice none 0 0) (rnewS (i + 1)) := by
                 refine ⟨blk_setCell hb3 0 _, rowk_keep hk4 ?_ (fun j hj e => hg3p (by cases hj; exact e)), World.ownsRow_nil _ _ _ _, Nat.le_refl _, by show (-1 : Int) ≤ _; decide⟩
                 show World.ownsRow _ _ _ 1 _ (List.replicate (i + 1) none).length ((List.replicate (i + 1) (none : Pg)).map fun o => .string (pgOf o))
                 rw [List.length_replicate, List.replicate_succ', List.map_append]
                 have : [Value.string z] = [(none : Pg)].map fun o => .string (pgOf o) := by rw [HZ.out]; rfl
                 rw [← this]
                 exact ho3
               have HX4 := Lib.hid hx4
               have HB4 := Lib.hid (((HBD.out.trans (hb.mono HBD.out.size)).trans (hbe.mono (Nat.le_trans HBD.out.size hb.size))).trans (((hkg.mono (G := fun j => (Value.slice la i lc).ownBlock = some j ∨ j = w.heap.size) (fun j hj => .inl hj)).trans hk4 (fun j hj => .inl (.inr hj))).below (B := w.heap.size) (by simp; omega) (fun j hj => by rcases hj with hj | hj; exact (rowk_blk hx3.rowL hj).1; omega)))
               clear hb hx2 hbe hx3 hrow3 ho3 hg3 hat3 hkg hb3 hk4 hg3p hx4)
            | (refine wp_append_run _ _ 47 (v := .slice la i lc) (y := .slice (some ⟨w2.heap.size, 0, none⟩) 1 1) rfl rfl rfl (by first | with_reducible exact hap | exact hap) ?_)
          go_wp2_with fail
          refine hK.out _ _ ?_ (fun hHeld2 => ?_)
          · dsimp only
          clear hK K hHeld1
          try simp only [Act.put, List.setIfInBounds_toArray, List.set_cons_zero, List.set_cons_succ]
          refine wpAnyH_ready (rs := [6]) (by kernel_rfl) (by simp) ?_
          refine readyN rfl (fun K hK => ?_) ?_
          · -- operation 6
            go_simp
            refine hK.out _ _ ?_ (fun hHeld3 => ?_)
            · dsimp only
            clear hK K hHeld2
            try simp only [Act.put, List.setIfInBounds_toArray, List.set_cons_zero, List.set_cons_succ]
            refine wpAnyH_ready (rs := [7]) (by kernel_rfl) (by simp) ?_
            refine readyN rfl (fun K hK => ?_) ?_
            · -- operation 7
              first
                | (go_at_call 40
                   refine (HZC.out _).mono ?_
                   rintro e w2 ⟨rfl, hb⟩
                   have hx2 := HXD.out.below hb
                   have hbe : Below w2.heap.size w2 (w2.alloc (.cells #[.string z] 9)) := (Below.refl _ _).alloc (Nat.le_refl _) _
                   have hx3 := hx2.below hbe
                   have hp2 : w2.cell? ⟨w.heap.size, 0, none⟩ = some (.slice la i lc) := hx2.c0
                   have hp3 : (w2.alloc (.cells #[.string z] 9)).cell? ⟨w.heap.size, 0, none⟩ = some (.slice la i lc) := hx3.c0
                   have hrow3 := hx3.rowL
                   rw [show (rnewS i).L.length = i by simp [rnewS]] at hrow3
                   have hsz2 : wr.heap.size ≤ w2.heap.size := hb.size
                   obtain ⟨v3, w3, hap, ho3, hg3, _, hat3⟩ := run_append_own_at (P := Try.prog) (w2.alloc (.cells #[.string z] 9)) w.heap.size 47 47 9 i0 _ 1 16 uStrs HI.out.1 HI.out.2.1 HI.out.2.2.1 HI.out.2.2.2 (by rfl) (by decide) (.slice la i lc) i _ hrow3 ⟨w2.heap.size, 0, none⟩ 1 1 [.string z] rfl
                     (World.news_of_block (cs := #[.string z]) (t := 9) (fr := (0, 0)) (blk_newAt rfl _)) (by simp [Value.oneCell']) (by unfold maxLen; omega) (by omega) (by simp; omega)
                   obtain ⟨g3, c3, rfl⟩ : ∃ g3 c3, v3 = .slice (some ⟨g3, 0, none⟩) (i + 1) c3 := by
                     rcases ho3.2 with ⟨_, h0⟩ | ⟨g, cap, cur, he, _⟩
                     · omega
                     · exact ⟨g, cap, he⟩
                   have hkg := keep_grown hg3
                   have hb3 := hkg.blk hx3.blk (fun e => hx3.neL e)
                   have hc3 : w3.cell? ⟨w.heap.size, 0, none⟩ = some (.slice la i lc) := by rw [blk_cell hb3]; rfl
                   have hf3 := blk_frozen hb3 0
                   have hk4 : Keep (fun i => i = w.heap.size) w3 (w3.setCell ⟨w.heap.size, 0, none⟩ (.slice (some ⟨g3, 0, none⟩) (i + 1) c3)) := (Keep.refl (fun i => i = w.heap.size) w3).setCell (p := ⟨w.heap.size, 0, none⟩) (.inl rfl) _
                   have hg3p : g3 ≠ w.heap.size := fun e => by
                     rcases hat3 with h | h
                     · exact hx3.neL (by rw [← h, e]; rfl)
                     · simp [Value.ownBlock] at h; omega
                   have hx4 : R3Is (w3.setCell ⟨w.heap.size, 0, none⟩ (.slice (some ⟨g3, 0, none⟩) (i + 1) c3)) w.heap.size w.heap.size (.slice (some ⟨g3, 0, none⟩) (i + 1) c3) (.slice none 0 0) (rnewS (i + 1)) := by
                     refine ⟨blk_setCell hb3 0 _, rowk_keep hk4 ?_ (fun j hj e => hg3p (by cases hj; exact e)), World.ownsRow_nil _ _ _ _, Nat.le_refl _, by show (-1 : Int) ≤ _; decide⟩
                     show World.ownsRow _ _ _ 1 _ (List.replicate (i + 1) none).length ((List.replicate (i + 1) (none : Pg)).map fun o => .string (pgOf o))
                     rw [List.length_replicate, List.replicate_succ', List.map_append]
                     have : [Value.string z] = [(none : Pg)].map fun o => .string (pgOf o) := by rw [HZ.out]; rfl
                     rw [← this]
                     exact ho3
                   have HX4 := Lib.hid hx4
                   have HB4 := Lib.hid (((HBD.out.trans (hb.mono HBD.out.size)).trans (hbe.mono (Nat.le_trans HBD.out.size hb.size))).trans (((hkg.mono (G := fun j => (Value.slice la i lc).ownBlock = some j ∨ j = w.heap.size) (fun j hj => .inl hj)).trans hk4 (fun j hj => .inl (.inr hj))).below (B := w.heap.size) (by simp; omega) (fun j hj => by rcases hj with hj | hj; exact (rowk_blk hx3.rowL hj).1; omega)))
                   clear hb hx2 hbe hx3 hrow3 ho3 hg3 hat3 hkg hb3 hk4 hg3p hx4)
                | (refine wp_append_run _ _ 47 (v := .slice la i lc) (y := .slice (some ⟨w2.heap.size, 0, none⟩) 1 1) rfl rfl rfl (by first | with_reducible exact hap | exact hap) ?_)
              refine hK.out _ _ ?_ (fun hHeld4 => ?_)
              · dsimp only
              clear hK K hHeld3
              try simp only [Act.put, List.setIfInBounds_toArray, List.set_cons_zero, List.set_cons_succ]
              refine takeN (v := ?_) 8 rfl (by kernel_rfl) (by kernel_rfl) (by kernel_rfl) (fun _ _ _ h => h) (by rfl) ?_ hHeld4 ?_
              rotate_left
              · intro w hSw; (try dsimp only at hSw); go_simp; with_reducible rfl
              try simp only [Act.put, List.setIfInBounds_toArray, List.set_cons_zero, List.set_cons_succ]
              refine takeN (v := ?_) 9 rfl (by kernel_rfl) (by kernel_rfl) (by kernel_rfl) (fun _ _ _ h => h) (by rfl) ?_ hHeld4 ?_
              rotate_left
              · intro w hSw; (try dsimp only at hSw); go_simp; with_reducible rfl
              try simp only [Act.put, List.setIfInBounds_toArray, List.set_cons_zero, List.set_cons_succ]
              refine wpAnyH_ready (rs := [10]) (by kernel_rfl) (by simp) ?_
              refine readyN rfl (fun K hK => ?_) ?_
              · -- operation 10
                go_simp
                refine hK.out _ _ ?_ (fun hHeld5 => ?_)
                · dsimp only
                clear hK K hHeld4
                try simp only [Act.put, List.setIfInBounds_toArray, List.set_cons_zero, List.set_cons_succ]
                refine wpAnyH_done (by kernel_rfl) ?_ _
                go_wp2_with fail
                exact ⟨⟨i + 1, _, by omega, rfl, HX4, HB4⟩, by simp [intOf]; omega⟩
              exact AllReadyH.nil
            exact AllReadyH.nil
          exact AllReadyH.nil
        exact AllReadyH.nil
      refine readyN rfl (fun K hK => ?_) ?_
      · -- operation 5
        go_simp
        first
          | (go_at_call 40
             refine (HZC.out _).mono ?_
             rintro e w2 ⟨rfl, hb⟩
             have hx2 := HXD.out.below hb
             have hbe : Below w2.heap.size w2 (w2.alloc (.cells #[.string z] 9)) := (Below.refl _ _).alloc (Nat.le_refl _) _
             have hx3 := hx2.below hbe
             have hp2 : w2.cell? ⟨w.heap.size, 0, none⟩ = some (.slice la i lc) := hx2.c0
             have hp3 : (w2.alloc (.cells #[.string z] 9)).cell? ⟨w.heap.size, 0, none⟩ = some (.slice la i lc) := hx3.c0
             have hrow3 := hx3.rowL
             rw [show (rnewS i).L.length = i by simp [rnewS]] at hrow3
             have hsz2 : wr.heap.size ≤ w2.heap.size := hb.size
             obtain ⟨v3, w3, hap, ho3, hg3, _, hat3⟩ := run_append_own_at (P := Try.prog) (w2.alloc (.cells #[.string z] 9)) w.heap.size 47 47 9 i0 _ 1 16 uStrs HI.out.1 HI.out.2.1 HI.out.2.2.1 HI.out.2.2.2 (by rfl) (by decide) (.slice la i lc) i _ hrow3 ⟨w2.heap.size, 0, none⟩ 1 1 [.string z] rfl
               (World.news_of_block (cs := #[.string z]) (t := 9) (fr := (0, 0)) (blk_newAt rfl _)) (by simp [Value.oneCell']) (by unfold maxLen; omega) (by omega) (by simp; omega)
             obtain ⟨g3, c3, rfl⟩ : ∃ g3 c3, v3 = .slice (some ⟨g3, 0, none⟩) (i + 1) c3 := by
               rcases ho3.2 with ⟨_, h0⟩ | ⟨g, cap, cur, he, _⟩
               · omega
               · exact ⟨g, cap, he⟩
             have hkg := keep_grown hg3
             have hb3 := hkg.blk hx3.blk (fun e => hx3.neL e)
             have hc3 : w3.cell? ⟨w.heap.size, 0, none⟩ = some (.slice la i lc) := by rw [blk_cell hb3]; rfl
             have hf3 := blk_frozen hb3 0
             have hk4 : Keep (fun i => i = w.heap.size) w3 (w3.setCell ⟨w.heap.size, 0, none⟩ (.slice (some ⟨g3, 0, none⟩) (i + 1) c3)) := (Keep.refl (fun i => i = w.heap.size) w3).setCell (p := ⟨w.heap.size, 0, none⟩) (.inl rfl) _
             have hg3p : g3 ≠ w.heap.size := fun e => by
               rcases hat3 with h | h
               · exact hx3.neL (by rw [← h, e]; rfl)
               · simp [Value.ownBlock] at h; omega
             have hx4 : R3Is (w3.setCell ⟨w.heap.size, 0, none⟩ (.slice (some ⟨g3, 0, none⟩) (i + 1) c3)) w.heap.size w.heap.size (.slice (some ⟨g3, 0, none⟩) (i + 1) c3) (.slice none 0 0) (rnewS (i + 1)) := by
               refine ⟨blk_setCell hb3 0 _, rowk_keep hk4 ?_ (fun j hj e => hg3p (by cases hj; exact e)), World.ownsRow_nil _ _ _ _, Nat.le_refl _, by show (-1 : Int) ≤ _; decide⟩
               show World.ownsRow _ _ _ 1 _ (List.replicate (i + 1) none).length ((List.replicate (i + 1) (none : Pg)).map fun o => .string (pgOf o))
               rw [List.length_replicate, List.replicate_succ', List.map_append]
               have : [Value.string z] = [(none : Pg)].map fun o => .string (pgOf o) := by rw [HZ.out]; rfl
               rw [← this]
               exact ho3
             have HX4 := Lib.hid hx4
             have HB4 := Lib.hid (((HBD.out.trans (hb.mono HBD.out.size)).trans (hbe.mono (Nat.le_trans HBD.out.size hb.size))).trans (((hkg.mono (G := fun j => (Value.slice la i lc).ownBlock = some j ∨ j = w.heap.size) (fun j hj => .inl hj)).trans hk4 (fun j hj => .inl (.inr hj))).below (B := w.heap.size) (by simp; omega) (fun j hj => by rcases hj with hj | hj; exact (rowk_blk hx3.rowL hj).1; omega)))
             clear hb hx2 hbe hx3 hrow3 ho3 hg3 hat3 hkg hb3 hk4 hg3p hx4)
          | (refine wp_append_run _ _ 47 (v := .slice la i lc) (y := .slice (some ⟨w2.heap.size, 0, none⟩) 1 1) rfl rfl rfl (by first | with_reducible exact hap | exact hap) ?_)
        go_wp2_with fail
        refine hK.out _ _ ?_ (fun hHeld1 => ?_)
        · dsimp only
        clear hK K hHeld0
        try simp only [Act.put, List.setIfInBounds_toArray, List.set_cons_zero, List.set_cons_succ]
        refine wpAnyH_ready (rs := [4, 6]) (by kernel_rfl) (by simp) ?_
        refine readyN rfl (fun K hK => ?_) ?_
        · -- operation 4
          go_simp
          refine hK.out _ _ ?_ (fun hHeld2 => ?_)
          · dsimp only
          clear hK K hHeld1
          try simp only [Act.put, List.setIfInBounds_toArray, List.set_cons_zero, List.set_cons_succ]
          refine wpAnyH_ready (rs := [6]) (by kernel_rfl) (by simp) ?_
          refine readyN rfl (fun K hK => ?_) ?_
          · -- operation 6
            go_simp
            refine hK.out _ _ ?_ (fun hHeld3 => ?_)
            · dsimp only
            clear hK K hHeld2
            try simp only [Act.put, List.setIfInBounds_toArray, List.set_cons_zero, List.set_cons_succ]
            refine wpAnyH_ready (rs := [7]) (by kernel_rfl) (by simp) ?_
            refine readyN rfl (fun K hK => ?_) ?_
            · -- operation 7
              first
                | (go_at_call 40
                   refine (HZC.out _).mono ?_
                   rintro e w2 ⟨rfl, hb⟩
                   have hx2 := HXD.out.below hb
                   have hbe : Below w2.heap.size w2 (w2.alloc (.cells #[.string z] 9)) := (Below.refl _ _).alloc (Nat.le_refl _) _
                   have hx3 := hx2.below hbe
                   have hp2 : w2.cell? ⟨w.heap.size, 0, none⟩ = some (.slice la i lc) := hx2.c0
                   have hp3 : (w2.alloc (.cells #[.string z] 9)).cell? ⟨w.heap.size, 0, none⟩ = some (.slice la i lc) := hx3.c0
                   have hrow3 := hx3.rowL
                   rw [show (rnewS i).L.length = i by simp [rnewS]] at hrow3
                   have hsz2 : wr.heap.size ≤ w2.heap.size := hb.size
                   obtain ⟨v3, w3, hap, ho3, hg3, _, hat3⟩ := run_append_own_at (P := Try.prog) (w2.alloc (.cells #[.string z] 9)) w.heap.size 47 47 9 i0 _ 1 16 uStrs HI.out.1 HI.out.2.1 HI.out.2.2.1 HI.out.2.2.2 (by rfl) (by decide) (.slice la i lc) i _ hrow3 ⟨w2.heap.size, 0, none⟩ 1 1 [.string z] rfl
                     (World.news_of_block (cs := #[.string z]) (t := 9) (fr := (0, 0)) (blk_newAt rfl _)) (by simp [Value.oneCell']) (by unfold maxLen; omega) (by omega) (by simp; omega)
                   obtain ⟨g3, c3, rfl⟩ : ∃ g3 c3, v3 = .slice (some ⟨g3, 0, none⟩) (i + 1) c3 := by
                     rcases ho3.2 with ⟨_, h0⟩ | ⟨g, cap, cur, he, _⟩
                     · omega
                     · exact ⟨g, cap, he⟩
                   have hkg := keep_grown hg3
                   have hb3 := hkg.blk hx3.blk (fun e => hx3.neL e)
                   have hc3 : w3.cell? ⟨w.heap.size, 0, none⟩ = some (.slice la i lc) := by rw [blk_cell hb3]; rfl
                   have hf3 := blk_frozen hb3 0
                   have hk4 : Keep (fun i => i = w.heap.size) w3 (w3.setCell ⟨w.heap.size, 0, none⟩ (.slice (some ⟨g3, 0, none⟩) (i + 1) c3)) := (Keep.refl (fun i => i = w.heap.size) w3).setCell (p := ⟨w.heap.size, 0, none⟩) (.inl rfl) _
                   have hg3p : g3 ≠ w.heap.size := fun e => by
                     rcases hat3 with h | h
                     · exact hx3.neL (by rw [← h, e]; rfl)
                     · simp [Value.ownBlock] at h; omega
                   have hx4 : R3Is (w3.setCell ⟨w.heap.size, 0, none⟩ (.slice (some ⟨g3, 0, none⟩) (i + 1) c3)) w.heap.size w.heap.size (.slice (some ⟨g3, 0, none⟩) (i + 1) c3) (.slice none 0 0) (rnewS (i + 1)) := by
                     refine ⟨blk_setCell hb3 0 _, rowk_keep hk4 ?_ (fun j hj e => hg3p (by cases hj; exact e)), World.ownsRow_nil _ _ _ _, Nat.le_refl _, by show (-1 : Int) ≤ _; decide⟩
                     show World.ownsRow _ _ _ 1 _ (List.replicate (i + 1) none).length ((List.replicate (i + 1) (none : Pg)).map fun o => .string (pgOf o))
                     rw [List.length_replicate, List.replicate_succ', List.map_append]
                     have : [Value.string z] = [(none : Pg)].map fun o => .string (pgOf o) := by rw [HZ.out]; rfl
                     rw [← this]
                     exact ho3
                   have HX4 := Lib.hid hx4
                   have HB4 := Lib.hid (((HBD.out.trans (hb.mono HBD.out.size)).trans (hbe.mono (Nat.le_trans HBD.out.size hb.size))).trans (((hkg.mono (G := fun j => (Value.slice la i lc).ownBlock = some j ∨ j = w.heap.size) (fun j hj => .inl hj)).trans hk4 (fun j hj => .inl (.inr hj))).below (B := w.heap.size) (by simp; omega) (fun j hj => by rcases hj with hj | hj; exact (rowk_blk hx3.rowL hj).1; omega)))
                   clear hb hx2 hbe hx3 hrow3 ho3 hg3 hat3 hkg hb3 hk4 hg3p hx4)
                | (refine wp_append_run _ _ 47 (v := .slice la i lc) (y := .slice (some ⟨w2.heap.size, 0, none⟩) 1 1) rfl rfl rfl (by first | with_reducible exact hap | exact hap) ?_)
              refine hK.out _ _ ?_ (fun hHeld4 => ?_)
              · dsimp only
              clear hK K hHeld3
              try simp only [Act.put, List.setIfInBounds_toArray, List.set_cons_zero, List.set_cons_succ]
              refine takeN (v := ?_) 8 rfl (by kernel_rfl) (by kernel_rfl) (by kernel_rfl) (fun _ _ _ h => h) (by rfl) ?_ hHeld4 ?_
              rotate_left
              · intro w hSw; (try dsimp only at hSw); go_simp; with_reducible rfl
              try simp only [Act.put, List.setIfInBounds_toArray, List.set_cons_zero, List.set_cons_succ]
              refine takeN (v := ?_) 9 rfl (by kernel_rfl) (by kernel_rfl) (by kernel_rfl) (fun _ _ _ h => h) (by rfl) ?_ hHeld4 ?_
              rotate_left
              · intro w hSw; (try dsimp only at hSw); go_simp; with_reducible rfl
              try simp only [Act.put, List.setIfInBounds_toArray, List.set_cons_zero, List.set_cons_succ]
              refine wpAnyH_ready (rs := [10]) (by kernel_rfl) (by simp) ?_
              refine readyN rfl (fun K hK => ?_) ?_
              · -- operation 10
                go_simp
                refine hK.out _ _ ?_ (fun hHeld5 => ?_)
                · dsimp only
                clear hK K hHeld4
                try simp only [Act.put, List.setIfInBounds_toArray, List.set_cons_zero, List.set_cons_succ]
                refine wpAnyH_done (by kernel_rfl) ?_ _
                go_wp2_with fail
                exact ⟨⟨i + 1, _, by omega, rfl, HX4, HB4⟩, by simp [intOf]; omega⟩
              exact AllReadyH.nil
            exact AllReadyH.nil
          exact AllReadyH.nil
        refine readyN rfl (fun K hK => ?_) ?_
        · -- operation 6
          go_simp
          refine hK.out _ _ ?_ (fun hHeld2 => ?_)
          · dsimp only
          clear hK K hHeld1
          try simp only [Act.put, List.setIfInBounds_toArray, List.set_cons_zero, List.set_cons_succ]
          refine wpAnyH_ready (rs := [4]) (by kernel_rfl) (by simp) ?_
          refine readyN rfl (fun K hK => ?_) ?_
          · -- operation 4
            go_simp
            refine hK.out _ _ ?_ (fun hHeld3 => ?_)
            · dsimp only
            clear hK K hHeld2
            try simp only [Act.put, List.setIfInBounds_toArray, List.set_cons_zero, List.set_cons_succ]
            refine wpAnyH_ready (rs := [7]) (by kernel_rfl) (by simp) ?_
            refine readyN rfl (fun K hK => ?_) ?_
            · -- operation 7
              first
                | (go_at_call 40
                   refine (HZC.out _).mono ?_
                   rintro e w2 ⟨rfl, hb⟩
                   have hx2 := HXD.out.below hb
                   have hbe : Below w2.heap.size w2 (w2.alloc (.cells #[.string z] 9)) := (Below.refl _ _).alloc (Nat.le_refl _) _
                   have hx3 := hx2.below hbe
                   have hp2 : w2.cell? ⟨w.heap.size, 0, none⟩ = some (.slice la i lc) := hx2.c0
                   have hp3 : (w2.alloc (.cells #[.string z] 9)).cell? ⟨w.heap.size, 0, none⟩ = some (.slice la i lc) := hx3.c0
                   have hrow3 := hx3.rowL
                   rw [show (rnewS i).L.length = i by simp [rnewS]] at hrow3
                   have hsz2 : wr.heap.size ≤ w2.heap.size := hb.size
                   obtain ⟨v3, w3, hap, ho3, hg3, _, hat3⟩ := run_append_own_at (P := Try.prog) (w2.alloc (.cells #[.string z] 9)) w.heap.size 47 47 9 i0 _ 1 16 uStrs HI.out.1 HI.out.2.1 HI.out.2.2.1 HI.out.2.2.2 (by rfl) (by decide) (.slice la i lc) i _ hrow3 ⟨w2.heap.size, 0, none⟩ 1 1 [.string z] rfl
                     (World.news_of_block (cs := #[.string z]) (t := 9) (fr := (0, 0)) (blk_newAt rfl _)) (by simp [Value.oneCell']) (by unfold maxLen; omega) (by omega) (by simp; omega)
                   obtain ⟨g3, c3, rfl⟩ : ∃ g3 c3, v3 = .slice (some ⟨g3, 0, none⟩) (i + 1) c3 := by
                     rcases ho3.2 with ⟨_, h0⟩ | ⟨g, cap, cur, he, _⟩
                     · omega
                     · exact ⟨g, cap, he⟩
                   have hkg := keep_grown hg3
                   have hb3 := hkg.blk hx3.blk (fun e => hx3.neL e)
                   have hc3 : w3.cell? ⟨w.heap.size, 0, none⟩ = some (.slice la i lc) := by rw [blk_cell hb3]; rfl
                   have hf3 := blk_frozen hb3 0
                   have hk4 : Keep (fun i => i = w.heap.size) w3 (w3.setCell ⟨w.heap.size, 0, none⟩ (.slice (some ⟨g3, 0, none⟩) (i + 1) c3)) := (Keep.refl (fun i => i = w.heap.size) w3).setCell (p := ⟨w.heap.size, 0, none⟩) (.inl rfl) _
                   have hg3p : g3 ≠ w.heap.size := fun e => by
                     rcases hat3 with h | h
                     · exact hx3.neL (by rw [← h, e]; rfl)
                     · simp [Value.ownBlock] at h; omega
                   have hx4 : R3Is (w3.setCell ⟨w.heap.size, 0, none⟩ (.slice (some ⟨g3, 0, none⟩) (i + 1) c3)) w.heap.size w.heap.size (.slice (some ⟨g3, 0, none⟩) (i + 1) c3) (.slice none 0 0) (rnewS (i + 1)) := by
                     refine ⟨blk_setCell hb3 0 _, rowk_keep hk4 ?_ (fun j hj e => hg3p (by cases hj; exact e)), World.ownsRow_nil _ _ _ _, Nat.le_refl _, by show (-1 : Int) ≤ _; decide⟩
                     show World.ownsRow _ _ _ 1 _ (List.replicate (i + 1) none).length ((List.replicate (i + 1) (none : Pg)).map fun o => .string (pgOf o))
                     rw [List.length_replicate, List.replicate_succ', List.map_append]
                     have : [Value.string z] = [(none : Pg)].map fun o => .string (pgOf o) := by rw [HZ.out]; rfl
                     rw [← this]
                     exact ho3
                   have HX4 := Lib.hid hx4
                   have HB4 := Lib.hid (((HBD.out.trans (hb.mono HBD.out.size)).trans (hbe.mono (Nat.le_trans HBD.out.size hb.size))).trans (((hkg.mono (G := fun j => (Value.slice la i lc).ownBlock = some j ∨ j = w.heap.size) (fun j hj => .inl hj)).trans hk4 (fun j hj => .inl (.inr hj))).below (B := w.heap.size) (by simp; omega) (fun j hj => by rcases hj with hj | hj; exact (rowk_blk hx3.rowL hj).1; omega)))
                   clear hb hx2 hbe hx3 hrow3 ho3 hg3 hat3 hkg hb3 hk4 hg3p hx4)
                | (refine wp_append_run _ _ 47 (v := .slice la i lc) (y := .slice (some ⟨w2.heap.size, 0, none⟩) 1 1) rfl rfl rfl (by first | with_reducible exact hap | exact hap) ?_)
              refine hK.out _ _ ?_ (fun hHeld4 => ?_)
              · dsimp only
              clear hK K hHeld3
              try simp only [Act.put, List.setIfInBounds_toArray, List.set_cons_zero, List.set_cons_succ]
              refine takeN (v := ?_) 8 rfl (by kernel_rfl) (by kernel_rfl) (by kernel_rfl) (fun _ _ _ h => h) (by rfl) ?_ hHeld4 ?_
              rotate_left
              · intro w hSw; (try dsimp only at hSw); go_simp; with_reducible rfl
              try simp only [Act.put, List.setIfInBounds_toArray, List.set_cons_zero, List.set_cons_succ]
              refine takeN (v := ?_) 9 rfl (by kernel_rfl) (by kernel_rfl) (by kernel_rfl) (fun _ _ _ h => h) (by rfl) ?_ hHeld4 ?_
              rotate_left
              · intro w hSw; (try dsimp only at hSw); go_simp; with_reducible rfl
              try simp only [Act.put, List.setIfInBounds_toArray, List.set_cons_zero, List.set_cons_succ]
              refine wpAnyH_ready (rs := [10]) (by kernel_rfl) (by simp) ?_
              refine readyN rfl (fun K hK => ?_) ?_
              · -- operation 10
                go_simp
                refine hK.out _ _ ?_ (fun hHeld5 => ?_)
                · dsimp only
                clear hK K hHeld4
                try simp only [Act.put, List.setIfInBounds_toArray, List.set_cons_zero, List.set_cons_succ]
                refine wpAnyH_done (by kernel_rfl) ?_ _
                go_wp2_with fail
                exact ⟨⟨i + 1, _, by omega, rfl, HX4, HB4⟩, by simp [intOf]; omega⟩
              exact AllReadyH.nil
            exact AllReadyH.nil
          exact AllReadyH.nil
        exact AllReadyH.nil
      exact AllReadyH.nil
    · obtain rfl : i = n := by omega
      have j1 : decide ((i : Int) < (i : Int)) = false := decide_eq_false (by omega)
      go_wp2_with fail
      go_ret
      exact ⟨_, rfl, ⟨_, _, HX.out⟩, HB.out⟩
end Go.Proofs.Ytpclfnamknioaaa
