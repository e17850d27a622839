/- The walk of a store's Mark. -/
import Derived.Test.YtlmngghkhnnaeaaQMSetR2
namespace Go.Proofs.Ytlmngghkhnnaeaa
open Go.RowKit
set_option maxRecDepth 100000
set_option maxHeartbeats 1000000
set_option linter.unusedVariables false
set_option linter.unusedSimpArgs false
def markS (S : SS) : SS := { S with marks := S.marks ++ [S.st] }
def markF (S : SS) : Int × SS := if S.dd = true then (0, S) else ((S.marks.length : Int) + 1, markS S)
theorem mark_nil (w : World) : Calls Try.prog 23 #[.pointer none] w fun e w' => e = .returned (.int .i64 0) ∧ w = w' := by
  go_enter Try.func23, Try.ntmps23
  go_wp2
  go_ret
  exact ⟨rfl, rfl⟩
theorem mV_p {V : Nat → Prop} {w : World} {M : SM} {S : SS} (h : SIs w V M S) : ¬ M.mV.ownBlock = some M.p := (h.apart M.p (.inl rfl)).2.2.1
/-- a mark more, and its row -/
theorem SIs.mark {V : Nat → Prop} {w w5 : World} {M : SM} {S : SS} (h : SIs w V M S) (v' : Value) (m' : StM) (hk : Keep (fun i => i = M.p ∨ M.mV.ownBlock = some i) w w5) (hv : ∀ i, v'.ownBlock = some i → M.mV.ownBlock = some i ∨ w.heap.size ≤ i)
    (hp : w5.heap[M.p]? = some (.cells (sArr { M with mV := v' } S) 62 (0, 0))) (hr : w5.ownsRow 0 59 5 v' (S.marks.length + 1) (mkCells (M.mm ++ [m']) (S.marks ++ [S.st]))) (hm : StIs w5 V m' S.st) (hnew : ∀ i, m'.blk i → w.heap.size ≤ i) :
    SNext w w5 V V M { M with mV := v', mm := M.mm ++ [m'] } (markS S) := by
  have hrow : ∀ i, M.mV.ownBlock = some i → ∃ c z, w.heap[i]? = some (.cells c 59 z) := fun i hi => row_blk h.mrow i hi
  have hB : ∀ i c z, w.heap[i]? = some (.cells c 5 z) → ¬ (i = M.p ∨ M.mV.ownBlock = some i) := by
    rintro i c z hc (e | e)
    · exact h.nbytes i c z hc (.inl e)
    · obtain ⟨c', z', h'⟩ := hrow i e; rw [hc] at h'; cases h'
  have hst : ∀ (m : StM) (s : St), StIs w V m s → ∀ i, m.blk i → ¬ (i = M.p ∨ M.mV.ownBlock = some i) := by
    rintro m s hs i hi (e | e)
    · exact absurd (hs.kind i hi _ _ _ (e ▸ h.blk)) (by decide)
    · obtain ⟨c', z', h'⟩ := hrow i e
      exact absurd (hs.kind i hi _ _ _ h') (by decide)
  have hD : ∀ i, DF M.pd M.bl M.bw M.ov i → ¬ (i = M.p ∨ M.mV.ownBlock = some i) := by
    rintro i hi (e | e)
    · exact (h.apart i (.inl e)).2.2.2 hi
    · obtain ⟨c', z', h'⟩ := hrow i e
      rcases hi with rfl | rfl | rfl | hb
      · rw [h.disk.blk] at h'; simp only [Option.some.injEq, Obj.cells.injEq] at h'; exact absurd h'.2.1 (by decide)
      · obtain ⟨ls, h1, _⟩ := h.disk.lasts
        rw [h1] at h'; simp only [Option.some.injEq, Obj.cells.injEq] at h'; exact absurd h'.2.1 (by decide)
      · obtain ⟨vs, ⟨es, c1, h1, _⟩, _⟩ := h.disk.waits
        rw [h1] at h'; cases h'
      · obtain ⟨c1, h1⟩ := h.disk.order_blk hb
        rw [h1] at h'; simp only [Option.some.injEq, Obj.cells.injEq] at h'; exact absurd h'.2.1 (by decide)
  refine ⟨⟨hp, h.now.keepB hk (hst _ _ h.now) hB, h.was.keepB hk (hst _ _ h.was) hB, by simpa [markS] using hr, by simp [markS, h.mlen], ?_, h.disk.keep hk hD hB, h.nwas, h.ndisk, ?_, ?_, h.stamp, h.head⟩, rfl, rfl, ?_, ?_, fun i hi => .inl hi⟩
  · intro i m s h1 h2
    simp only [markS] at h2
    rw [List.getElem?_append] at h1 h2
    rw [← h.mlen] at h2
    by_cases hi : i < M.mm.length
    · rw [if_pos hi] at h1 h2
      obtain ⟨g1, g2⟩ := h.mks i m s h1 h2
      exact ⟨g1.keepB hk (hst _ _ g1) hB, g2⟩
    · rw [if_neg hi] at h1 h2
      by_cases h0 : i - M.mm.length = 0
      · rw [h0] at h1 h2
        simp only [List.getElem?_cons_zero, Option.some.injEq] at h1 h2
        subst h1; subst h2
        exact ⟨hm, rfl⟩
      · obtain ⟨k, hk⟩ : ∃ k, i - M.mm.length = k + 1 := ⟨i - M.mm.length - 1, by omega⟩
        rw [hk] at h1
        simp at h1
  · intro i hi
    have hs := h.sep i hi
    refine ⟨hs.1, fun m hm => ?_, hs.2.2⟩
    rcases List.mem_append.1 hm with hm | hm
    · exact hs.2.1 m hm
    · obtain rfl := List.mem_singleton.1 hm
      intro hb
      have := hnew i hb
      have := h.now.lt i hi
      omega
  · rintro i (hi | ⟨m, hm, hi⟩)
    · exact h.sepw i (.inl hi)
    · rcases List.mem_append.1 hm with hm | hm
      · exact h.sepw i (.inr ⟨m, hm, hi⟩)
      · obtain rfl := List.mem_singleton.1 hm
        have := hnew i hi
        have := h.lt M.bw (.inr (.inr (.inr (.inr (.inr (.inr (.inr (.inl rfl))))))))
        intro e
        have e' : i = M.bw := e
        omega
  · exact hk.mono (fun i hi => by rcases hi with e | e; exact .inl e; exact .inr (.inr (.inr (.inr (.inl e)))))
  · rintro i (e | e | e | ⟨m, hm, e⟩ | e | e)
    · exact .inl (.inl e)
    · exact .inl (.inr (.inl e))
    · exact .inl (.inr (.inr (.inl e)))
    · rcases List.mem_append.1 hm with hm | hm
      · exact .inl (.inr (.inr (.inr (.inl ⟨m, hm, e⟩))))
      · obtain rfl := List.mem_singleton.1 hm
        exact .inr (hnew i e)
    · rcases hv i e with e | e
      · exact .inl (.inr (.inr (.inr (.inr (.inl e)))))
      · exact .inr e
    · exact .inl (.inr (.inr (.inr (.inr (.inr e)))))
theorem mark_end {V : Nat → Prop} {w w1 w2 : World} {M : SM} {S : SS} (h : SIs w V M S) (m' : StM) (v2 : Value) (c : Obj) (hb : Below w.heap.size w w1) (hst : StIs w1 V m' S.st) (hnew : ∀ i, m'.blk i → w.heap.size ≤ i)
    (ho : w2.ownsRow 0 59 5 v2 (S.marks.length + 1) (mkCells (M.mm ++ [m']) (S.marks ++ [S.st]))) (hk : Keep (fun i => M.mV.ownBlock = some i) (w1.alloc c) w2) (hat : ∀ i, v2.ownBlock = some i → M.mV.ownBlock = some i ∨ (w1.alloc c).heap.size ≤ i) :
    SNext w (w2.setCell ⟨M.p, 11, none⟩ v2) V V M { M with mV := v2, mm := M.mm ++ [m'] } (markS S) := by
  have hpl : M.p < w.heap.size := blk_lt h.blk
  have ha : Below w.heap.size w (w1.alloc c) := hb.alloc hb.size c
  have hk2 : Keep (fun i => M.mV.ownBlock = some i) w w2 := (Keep.ofBelow ha _).trans hk (fun i hi => .inl hi)
  have hb2 : w2.heap[M.p]? = some (.cells (sArr M S) 62 (0, 0)) := hk2.blk h.blk (mV_p h)
  have hb3 := blk_setCell hb2 11 v2
  have k23 : Keep (fun i => i = M.p) w2 (w2.setCell ⟨M.p, 11, none⟩ v2) := (Keep.refl _ w2).setEq 11 v2
  have hvp : ∀ i, v2.ownBlock = some i → ¬ i = M.p := by
    rintro i hi rfl
    rcases hat _ hi with e | e
    · exact mV_p h e
    · have := ha.size; omega
  have hmv : ∀ i, M.mV.ownBlock = some i → i < w.heap.size := fun i hi => by obtain ⟨c', z', h'⟩ := row_blk h.mrow i hi; exact blk_lt h'
  refine h.mark v2 m' ((hk2.mono (fun i hi => .inr hi)).trans k23 (fun i hi => .inl (.inl hi))) (fun i hi => ?_) ?_ (row_kept ho k23 hvp) ?_ hnew
  · rcases hat i hi with e | e
    · exact .inl e
    · exact .inr (Nat.le_trans ha.size e)
  · show (w2.setCell ⟨M.p, 11, none⟩ v2).heap[M.p]? = _
    rw [hb3]; simp [sArr]
  · have hst1 : StIs (w1.alloc c) V m' S.st := hst.below ((Below.refl _ w1).alloc (Nat.le_refl _) c)
    have hst2 : StIs w2 V m' S.st := hst1.keepB hk (fun i hi e => by have := hnew i hi; have := hmv i e; omega) (fun i c' z hc e => by
      obtain ⟨c2, z2, h'⟩ := row_blk h.mrow i e
      have h2 := (Keep.ofBelow ha (fun _ => False)).blk h' (fun h => h)
      rw [h2] at hc; cases hc)
    exact hst2.keepB k23 (fun i hi e => by have := hnew i hi; omega) (fun i c' z hc e => by rw [e, hb2] at hc; cases hc)
theorem mark_any {V : Nat → Prop} {M : SM} {S : SS} (w : World) (h : SIs w V M S) (hm : S.marks.length ≤ 1000000) :
    Calls Try.prog 23 #[pS M.p] w fun e w' => e = .returned (.int .i64 (markF S).1) ∧ ∃ M', SNext w w' V V M M' (markF S).2 := by
  have HD := Lib.hid (sdead_any w h)
  obtain ⟨x, hx⟩ : ∃ x, x = S.dd := ⟨_, rfl⟩
  unfold markF
  rw [← hx] at HD ⊢
  unfold pS at HD ⊢
  have HH := Lib.hid h
  clear hx
  cases x with
  | true =>
    clear h
    go_enter Try.func23, Try.ntmps23
    go_wp2_with (go_at_call 24; refine HD.out.mono ?_; rintro e w1 ⟨rfl, rfl⟩)
    go_ret
    exact ⟨rfl, M, SNext.refl HH.out (Below.refl _ _)⟩
  | false =>
    obtain ⟨p, hp⟩ : ∃ p, p = M.p := ⟨_, rfl⟩
    have HB0 := Lib.hid (show w.drew.heap[M.p]? = some (.cells (sArr M S) 62 (0, 0)) from h.blk)
    have HCP : Hid (Calls Try.prog 32 #[.agg (stCells M.now S.st).toArray] w.drew fun e w' => ∃ bt ct bh ch bf, e = .returned (.agg #[.int .i64 S.st.root, .slice (some ⟨bt, 0, none⟩) S.st.taken.length ct, .slice (some ⟨bh, 0, none⟩) S.st.held.length ch, .map (some bf), .bool S.st.touched]) ∧ StIs w' V ⟨bt, ct, bh, ch, bf⟩ S.st ∧ (∀ i, StM.blk ⟨bt, ct, bh, ch, bf⟩ i → w.heap.size ≤ i) ∧ Below w.drew.heap.size w.drew w') :=
      Lib.hid ((copied_any V M.now S.st w.drew (h.now.below ((Below.refl _ w).drew))).mono (by rintro e w' ⟨⟨bt, ct, bh, ch, bf⟩, he, h1, h2, h3⟩; exact ⟨bt, ct, bh, ch, bf, he, h1, h2, h3⟩))
    have HCE := Lib.hid (show w.drew.cell? ⟨M.p, 11, none⟩ = some M.mV from blk_cell h.blk 11)
    have HKP := Lib.hid fun (X : World) (hX : Keep (fun i => M.mV.ownBlock = some i) w X) => hX.blk h.blk (mV_p h)
    clear h
    rw [← hp] at HD HB0 HCE HKP ⊢
    have HP := Lib.hid hp
    clear hp
    go_enter Try.func23, Try.ntmps23
    go_wp2_with (go_at_call 24; refine HD.out.mono ?_; rintro e w1 ⟨rfl, rfl⟩)
    have hce0 : w.drew.cell? ⟨p, 11, none⟩ = some M.mV := HCE.out
    refine wp_region_held_drew (S := (fun w' => True)) (by kernel_rfl) ?_ (fun hHeld0 => ?_)
    · dsimp only
    refine takeN (v := ?_) 0 rfl (by kernel_rfl) (by kernel_rfl) (by kernel_rfl) (fun _ _ _ h => h) (by rfl) ?_ hHeld0 ?_
    rotate_left
    · intro w hSw; (try dsimp only at hSw); go_simp; with_reducible rfl
    try simp only [Act.put, List.setIfInBounds_toArray, List.set_cons_zero, List.set_cons_succ]
    refine takeN (v := ?_) 1 rfl (by kernel_rfl) (by kernel_rfl) (by kernel_rfl) (fun _ _ _ h => h) (by rfl) ?_ hHeld0 ?_
    rotate_left
    · intro w hSw; (try dsimp only at hSw); go_simp; with_reducible rfl
    try simp only [Act.put, List.setIfInBounds_toArray, List.set_cons_zero, List.set_cons_succ]
    refine takeN (v := ?_) 2 rfl (by kernel_rfl) (by kernel_rfl) (by kernel_rfl) (fun _ _ _ h => h) (by rfl) ?_ hHeld0 ?_
    rotate_left
    · intro w hSw; (try dsimp only at hSw); go_simp; with_reducible rfl
    try simp only [Act.put, List.setIfInBounds_toArray, List.set_cons_zero, List.set_cons_succ]
    refine takeN (v := ?_) 3 rfl (by kernel_rfl) (by kernel_rfl) (by kernel_rfl) (fun _ _ _ h => h) (by rfl) ?_ hHeld0 ?_
    rotate_left
    · intro w hSw; (try dsimp only at hSw); go_simp; with_reducible rfl
    try simp only [Act.put, List.setIfInBounds_toArray, List.set_cons_zero, List.set_cons_succ]
    refine takeN (v := ?_) 5 rfl (by kernel_rfl) (by kernel_rfl) (by kernel_rfl) (fun _ _ _ h => h) (by rfl) ?_ hHeld0 ?_
    rotate_left
    · intro w hSw; (try dsimp only at hSw); go_simp; with_reducible rfl
    try simp only [Act.put, List.setIfInBounds_toArray, List.set_cons_zero, List.set_cons_succ]
    refine takeN (v := ?_) 6 rfl (by kernel_rfl) (by kernel_rfl) (by kernel_rfl) (fun _ _ _ h => h) (by rfl) ?_ hHeld0 ?_
    rotate_left
    · intro w hSw; (try dsimp only at hSw); go_simp; with_reducible rfl
    try simp only [Act.put, List.setIfInBounds_toArray, List.set_cons_zero, List.set_cons_succ]
    refine takeN (v := ?_) 7 rfl (by kernel_rfl) (by kernel_rfl) (by kernel_rfl) (fun _ _ _ h => h) (by rfl) ?_ hHeld0 ?_
    rotate_left
    · intro w hSw; (try dsimp only at hSw); go_simp; with_reducible rfl
    try simp only [Act.put, List.setIfInBounds_toArray, List.set_cons_zero, List.set_cons_succ]
    refine wpAnyH_ready (rs := [4, 8]) (by kernel_rfl) (by simp) ?_
    refine readyN rfl (fun K hK => ?_) ?_
    · -- operation 4
      go_simp
      refine hK.out _ _ ?_ (fun hHeld1 => ?_)
      · dsimp only
      clear hK K hHeld0
      try simp only [Act.put, List.setIfInBounds_toArray, List.set_cons_zero, List.set_cons_succ]
      refine wpAnyH_ready (rs := [8]) (by kernel_rfl) (by simp) ?_
      refine readyN rfl (fun K hK => ?_) ?_
      · -- operation 8
        first
          | (refine wp_load5 (.tmp 16) rfl p 0 rfl (stCells M.now S.st) rfl (by rw [HP.out]; exact sArr_nowC (HP.out ▸ HB0.out)) ?_)
          | (go_at_call 32; refine HCP.out.mono ?_; rintro e w1 ⟨bt, ct, bh, ch, bf, rfl, hst, hnew, hb⟩
             have HB1 := Lib.hid (show Below w.heap.size w w1 from ((Below.refl w.heap.size w).drew).trans hb)
             have HST := Lib.hid hst
             have HNEW := Lib.hid hnew
             have HAL := Lib.hid (show Below w.heap.size w (w1.alloc (.cells #[.int .i64 S.st.root, .slice (some ⟨bt, 0, none⟩) S.st.taken.length ct, .slice (some ⟨bh, 0, none⟩) S.st.held.length ch, .map (some bf), .bool S.st.touched] 59)) from HB1.out.alloc HB1.out.size _)
             obtain ⟨v2, w2, hap, ho2, hk2, hat2⟩ := app_st_ex (w1.alloc (.cells #[.int .i64 S.st.root, .slice (some ⟨bt, 0, none⟩) S.st.taken.length ct, .slice (some ⟨bh, 0, none⟩) S.st.held.length ch, .map (some bf), .bool S.st.touched] 59)) 0 M.mV M.mm S.marks HH.out.mlen (row_kept HH.out.mrow (Keep.ofBelow HAL.out (fun _ => False)) (fun _ _ h => h)) ⟨bt, ct, bh, ch, bf⟩ S.st w1.heap.size (blk_new w1 _) (Nat.zero_le _) hm 60
             obtain ⟨g2, cap2, rfl⟩ : ∃ g2 cap2, v2 = .slice (some ⟨g2, 0, none⟩) (S.marks.length + 1) cap2 := by
               rcases ho2.2 with ⟨_, h0⟩ | ⟨g, cap, cur, he, _⟩
               · omega
               · exact ⟨g, cap, he⟩
             have HAP := Lib.hid hap
             have HO2 := Lib.hid ho2
             have HAT2 := Lib.hid hat2
             have HK2 := Lib.hid (show Keep (fun i => M.mV.ownBlock = some i) w w2 from (Keep.ofBelow HAL.out _).trans hk2 (fun i hi => .inl hi))
             have HK12 := Lib.hid hk2
             have HP2 := Lib.hid (HKP.out _ HK2.out)
             have hce1 := (show w1.cell? ⟨p, 11, none⟩ = some M.mV from blk_cell (HKP.out _ (Keep.ofBelow HB1.out _)) 11)
             have hce2 := (show (w1.alloc (.cells #[.int .i64 S.st.root, .slice (some ⟨bt, 0, none⟩) S.st.taken.length ct, .slice (some ⟨bh, 0, none⟩) S.st.held.length ch, .map (some bf), .bool S.st.touched] 59)).cell? ⟨p, 11, none⟩ = some M.mV from blk_cell (HKP.out _ (Keep.ofBelow HAL.out _)) 11)
             have hce3 : w2.cell? ⟨p, 11, none⟩ = some M.mV := blk_cell HP2.out 11
             have hfz3 := blk_frozen HP2.out 11
             clear hst hnew hb hap ho2 hat2 hk2)
          | (refine wp_append_run _ _ 60 (v := M.mV) (y := .slice (some ⟨w1.heap.size, 0, none⟩) 1 1) (v' := .slice (some ⟨g2, 0, none⟩) (S.marks.length + 1) cap2) (w' := w2) rfl rfl rfl (by with_reducible exact HAP.out) ?_)
        refine hK.out _ _ ?_ (fun hHeld2 => ?_)
        · dsimp only
        clear hK K hHeld1
        try simp only [Act.put, List.setIfInBounds_toArray, List.set_cons_zero, List.set_cons_succ]
        refine wpAnyH_ready (rs := [9]) (by kernel_rfl) (by simp) ?_
        refine readyN rfl (fun K hK => ?_) ?_
        · -- operation 9
          go_simp
          first
            | (refine wp_load5 (.tmp 16) rfl p 0 rfl (stCells M.now S.st) rfl (by rw [HP.out]; exact sArr_nowC (HP.out ▸ HB0.out)) ?_)
            | (go_at_call 32; refine HCP.out.mono ?_; rintro e w1 ⟨bt, ct, bh, ch, bf, rfl, hst, hnew, hb⟩
               have HB1 := Lib.hid (show Below w.heap.size w w1 from ((Below.refl w.heap.size w).drew).trans hb)
               have HST := Lib.hid hst
               have HNEW := Lib.hid hnew
               have HAL := Lib.hid (show Below w.heap.size w (w1.alloc (.cells #[.int .i64 S.st.root, .slice (some ⟨bt, 0, none⟩) S.st.taken.length ct, .slice (some ⟨bh, 0, none⟩) S.st.held.length ch, .map (some bf), .bool S.st.touched] 59)) from HB1.out.alloc HB1.out.size _)
               obtain ⟨v2, w2, hap, ho2, hk2, hat2⟩ := app_st_ex (w1.alloc (.cells #[.int .i64 S.st.root, .slice (some ⟨bt, 0, none⟩) S.st.taken.length ct, .slice (some ⟨bh, 0, none⟩) S.st.held.length ch, .map (some bf), .bool S.st.touched] 59)) 0 M.mV M.mm S.marks HH.out.mlen (row_kept HH.out.mrow (Keep.ofBelow HAL.out (fun _ => False)) (fun _ _ h => h)) ⟨bt, ct, bh, ch, bf⟩ S.st w1.heap.size (blk_new w1 _) (Nat.zero_le _) hm 60
               obtain ⟨g2, cap2, rfl⟩ : ∃ g2 cap2, v2 = .slice (some ⟨g2, 0, none⟩) (S.marks.length + 1) cap2 := by
                 rcases ho2.2 with ⟨_, h0⟩ | ⟨g, cap, cur, he, _⟩
                 · omega
                 · exact ⟨g, cap, he⟩
               have HAP := Lib.hid hap
               have HO2 := Lib.hid ho2
               have HAT2 := Lib.hid hat2
               have HK2 := Lib.hid (show Keep (fun i => M.mV.ownBlock = some i) w w2 from (Keep.ofBelow HAL.out _).trans hk2 (fun i hi => .inl hi))
               have HK12 := Lib.hid hk2
               have HP2 := Lib.hid (HKP.out _ HK2.out)
               have hce1 := (show w1.cell? ⟨p, 11, none⟩ = some M.mV from blk_cell (HKP.out _ (Keep.ofBelow HB1.out _)) 11)
               have hce2 := (show (w1.alloc (.cells #[.int .i64 S.st.root, .slice (some ⟨bt, 0, none⟩) S.st.taken.length ct, .slice (some ⟨bh, 0, none⟩) S.st.held.length ch, .map (some bf), .bool S.st.touched] 59)).cell? ⟨p, 11, none⟩ = some M.mV from blk_cell (HKP.out _ (Keep.ofBelow HAL.out _)) 11)
               have hce3 : w2.cell? ⟨p, 11, none⟩ = some M.mV := blk_cell HP2.out 11
               have hfz3 := blk_frozen HP2.out 11
               clear hst hnew hb hap ho2 hat2 hk2)
            | (refine wp_append_run _ _ 60 (v := M.mV) (y := .slice (some ⟨w1.heap.size, 0, none⟩) 1 1) (v' := .slice (some ⟨g2, 0, none⟩) (S.marks.length + 1) cap2) (w' := w2) rfl rfl rfl (by with_reducible exact HAP.out) ?_)
          go_wp2_with fail
          refine hK.out _ _ ?_ (fun hHeld3 => ?_)
          · dsimp only
          clear hK K hHeld2
          try simp only [Act.put, List.setIfInBounds_toArray, List.set_cons_zero, List.set_cons_succ]
          refine wpAnyH_ready (rs := [10]) (by kernel_rfl) (by simp) ?_
          refine readyN rfl (fun K hK => ?_) ?_
          · -- operation 10
            go_simp
            refine hK.out _ _ ?_ (fun hHeld4 => ?_)
            · dsimp only
            clear hK K hHeld3
            try simp only [Act.put, List.setIfInBounds_toArray, List.set_cons_zero, List.set_cons_succ]
            refine wpAnyH_ready (rs := [11]) (by kernel_rfl) (by simp) ?_
            refine readyN rfl (fun K hK => ?_) ?_
            · -- operation 11
              first
                | (refine wp_load5 (.tmp 16) rfl p 0 rfl (stCells M.now S.st) rfl (by rw [HP.out]; exact sArr_nowC (HP.out ▸ HB0.out)) ?_)
                | (go_at_call 32; refine HCP.out.mono ?_; rintro e w1 ⟨bt, ct, bh, ch, bf, rfl, hst, hnew, hb⟩
                   have HB1 := Lib.hid (show Below w.heap.size w w1 from ((Below.refl w.heap.size w).drew).trans hb)
                   have HST := Lib.hid hst
                   have HNEW := Lib.hid hnew
                   have HAL := Lib.hid (show Below w.heap.size w (w1.alloc (.cells #[.int .i64 S.st.root, .slice (some ⟨bt, 0, none⟩) S.st.taken.length ct, .slice (some ⟨bh, 0, none⟩) S.st.held.length ch, .map (some bf), .bool S.st.touched] 59)) from HB1.out.alloc HB1.out.size _)
                   obtain ⟨v2, w2, hap, ho2, hk2, hat2⟩ := app_st_ex (w1.alloc (.cells #[.int .i64 S.st.root, .slice (some ⟨bt, 0, none⟩) S.st.taken.length ct, .slice (some ⟨bh, 0, none⟩) S.st.held.length ch, .map (some bf), .bool S.st.touched] 59)) 0 M.mV M.mm S.marks HH.out.mlen (row_kept HH.out.mrow (Keep.ofBelow HAL.out (fun _ => False)) (fun _ _ h => h)) ⟨bt, ct, bh, ch, bf⟩ S.st w1.heap.size (blk_new w1 _) (Nat.zero_le _) hm 60
                   obtain ⟨g2, cap2, rfl⟩ : ∃ g2 cap2, v2 = .slice (some ⟨g2, 0, none⟩) (S.marks.length + 1) cap2 := by
                     rcases ho2.2 with ⟨_, h0⟩ | ⟨g, cap, cur, he, _⟩
                     · omega
                     · exact ⟨g, cap, he⟩
                   have HAP := Lib.hid hap
                   have HO2 := Lib.hid ho2
                   have HAT2 := Lib.hid hat2
                   have HK2 := Lib.hid (show Keep (fun i => M.mV.ownBlock = some i) w w2 from (Keep.ofBelow HAL.out _).trans hk2 (fun i hi => .inl hi))
                   have HK12 := Lib.hid hk2
                   have HP2 := Lib.hid (HKP.out _ HK2.out)
                   have hce1 := (show w1.cell? ⟨p, 11, none⟩ = some M.mV from blk_cell (HKP.out _ (Keep.ofBelow HB1.out _)) 11)
                   have hce2 := (show (w1.alloc (.cells #[.int .i64 S.st.root, .slice (some ⟨bt, 0, none⟩) S.st.taken.length ct, .slice (some ⟨bh, 0, none⟩) S.st.held.length ch, .map (some bf), .bool S.st.touched] 59)).cell? ⟨p, 11, none⟩ = some M.mV from blk_cell (HKP.out _ (Keep.ofBelow HAL.out _)) 11)
                   have hce3 : w2.cell? ⟨p, 11, none⟩ = some M.mV := blk_cell HP2.out 11
                   have hfz3 := blk_frozen HP2.out 11
                   clear hst hnew hb hap ho2 hat2 hk2)
                | (refine wp_append_run _ _ 60 (v := M.mV) (y := .slice (some ⟨w1.heap.size, 0, none⟩) 1 1) (v' := .slice (some ⟨g2, 0, none⟩) (S.marks.length + 1) cap2) (w' := w2) rfl rfl rfl (by with_reducible exact HAP.out) ?_)
              refine hK.out _ _ ?_ (fun hHeld5 => ?_)
              · dsimp only
              clear hK K hHeld4
              try simp only [Act.put, List.setIfInBounds_toArray, List.set_cons_zero, List.set_cons_succ]
              refine takeN (v := ?_) 12 rfl (by kernel_rfl) (by kernel_rfl) (by kernel_rfl) (fun _ _ _ h => h) (by rfl) ?_ hHeld5 ?_
              rotate_left
              · intro w hSw; (try dsimp only at hSw); go_simp; with_reducible rfl
              try simp only [Act.put, List.setIfInBounds_toArray, List.set_cons_zero, List.set_cons_succ]
              refine takeN (v := ?_) 13 rfl (by kernel_rfl) (by kernel_rfl) (by kernel_rfl) (fun _ _ _ h => h) (by rfl) ?_ hHeld5 ?_
              rotate_left
              · intro w hSw; (try dsimp only at hSw); go_simp; with_reducible rfl
              try simp only [Act.put, List.setIfInBounds_toArray, List.set_cons_zero, List.set_cons_succ]
              refine wpAnyH_ready (rs := [14]) (by kernel_rfl) (by simp) ?_
              refine readyN rfl (fun K hK => ?_) ?_
              · -- operation 14
                go_simp
                refine hK.out _ _ ?_ (fun hHeld6 => ?_)
                · dsimp only
                clear hK K hHeld5
                try simp only [Act.put, List.setIfInBounds_toArray, List.set_cons_zero, List.set_cons_succ]
                refine wpAnyH_done (by kernel_rfl) ?_ _
                have hb3 := blk_setCell HP2.out 11 (.slice (some ⟨g2, 0, none⟩) (S.marks.length + 1) cap2)
                have hc4 : (w2.setCell ⟨p, 11, none⟩ (.slice (some ⟨g2, 0, none⟩) (S.marks.length + 1) cap2)).cell? ⟨p, 11, none⟩ = some (.slice (some ⟨g2, 0, none⟩) (S.marks.length + 1) cap2) := blk_cell hb3 11
                have HB3 := Lib.hid hb3
                clear hb3
                go_wp2
                go_ret
                have E := mark_end HH.out ⟨bt, ct, bh, ch, bf⟩ (.slice (some ⟨g2, 0, none⟩) (S.marks.length + 1) cap2) _ HB1.out HST.out HNEW.out HO2.out HK12.out HAT2.out
                rw [← HP.out] at E
                exact ⟨by simp, _, E⟩
              exact AllReadyH.nil
            exact AllReadyH.nil
          exact AllReadyH.nil
        exact AllReadyH.nil
      exact AllReadyH.nil
    refine readyN rfl (fun K hK => ?_) ?_
    · -- operation 8
      first
        | (refine wp_load5 (.tmp 16) rfl p 0 rfl (stCells M.now S.st) rfl (by rw [HP.out]; exact sArr_nowC (HP.out ▸ HB0.out)) ?_)
        | (go_at_call 32; refine HCP.out.mono ?_; rintro e w1 ⟨bt, ct, bh, ch, bf, rfl, hst, hnew, hb⟩
           have HB1 := Lib.hid (show Below w.heap.size w w1 from ((Below.refl w.heap.size w).drew).trans hb)
           have HST := Lib.hid hst
           have HNEW := Lib.hid hnew
           have HAL := Lib.hid (show Below w.heap.size w (w1.alloc (.cells #[.int .i64 S.st.root, .slice (some ⟨bt, 0, none⟩) S.st.taken.length ct, .slice (some ⟨bh, 0, none⟩) S.st.held.length ch, .map (some bf), .bool S.st.touched] 59)) from HB1.out.alloc HB1.out.size _)
           obtain ⟨v2, w2, hap, ho2, hk2, hat2⟩ := app_st_ex (w1.alloc (.cells #[.int .i64 S.st.root, .slice (some ⟨bt, 0, none⟩) S.st.taken.length ct, .slice (some ⟨bh, 0, none⟩) S.st.held.length ch, .map (some bf), .bool S.st.touched] 59)) 0 M.mV M.mm S.marks HH.out.mlen (row_kept HH.out.mrow (Keep.ofBelow HAL.out (fun _ => False)) (fun _ _ h => h)) ⟨bt, ct, bh, ch, bf⟩ S.st w1.heap.size (blk_new w1 _) (Nat.zero_le _) hm 60
           obtain ⟨g2, cap2, rfl⟩ : ∃ g2 cap2, v2 = .slice (some ⟨g2, 0, none⟩) (S.marks.length + 1) cap2 := by
             rcases ho2.2 with ⟨_, h0⟩ | ⟨g, cap, cur, he, _⟩
             · omega
             · exact ⟨g, cap, he⟩
           have HAP := Lib.hid hap
           have HO2 := Lib.hid ho2
           have HAT2 := Lib.hid hat2
           have HK2 := Lib.hid (show Keep (fun i => M.mV.ownBlock = some i) w w2 from (Keep.ofBelow HAL.out _).trans hk2 (fun i hi => .inl hi))
           have HK12 := Lib.hid hk2
           have HP2 := Lib.hid (HKP.out _ HK2.out)
           have hce1 := (show w1.cell? ⟨p, 11, none⟩ = some M.mV from blk_cell (HKP.out _ (Keep.ofBelow HB1.out _)) 11)
           have hce2 := (show (w1.alloc (.cells #[.int .i64 S.st.root, .slice (some ⟨bt, 0, none⟩) S.st.taken.length ct, .slice (some ⟨bh, 0, none⟩) S.st.held.length ch, .map (some bf), .bool S.st.touched] 59)).cell? ⟨p, 11, none⟩ = some M.mV from blk_cell (HKP.out _ (Keep.ofBelow HAL.out _)) 11)
           have hce3 : w2.cell? ⟨p, 11, none⟩ = some M.mV := blk_cell HP2.out 11
           have hfz3 := blk_frozen HP2.out 11
           clear hst hnew hb hap ho2 hat2 hk2)
        | (refine wp_append_run _ _ 60 (v := M.mV) (y := .slice (some ⟨w1.heap.size, 0, none⟩) 1 1) (v' := .slice (some ⟨g2, 0, none⟩) (S.marks.length + 1) cap2) (w' := w2) rfl rfl rfl (by with_reducible exact HAP.out) ?_)
      refine hK.out _ _ ?_ (fun hHeld1 => ?_)
      · dsimp only
      clear hK K hHeld0
      try simp only [Act.put, List.setIfInBounds_toArray, List.set_cons_zero, List.set_cons_succ]
      refine wpAnyH_ready (rs := [4, 9]) (by kernel_rfl) (by simp) ?_
      refine readyN rfl (fun K hK => ?_) ?_
      · -- operation 4
        go_simp
        refine hK.out _ _ ?_ (fun hHeld2 => ?_)
        · dsimp only
        clear hK K hHeld1
        try simp only [Act.put, List.setIfInBounds_toArray, List.set_cons_zero, List.set_cons_succ]
        refine wpAnyH_ready (rs := [9]) (by kernel_rfl) (by simp) ?_
        refine readyN rfl (fun K hK => ?_) ?_
        · -- operation 9
          go_simp
          first
            | (refine wp_load5 (.tmp 16) rfl p 0 rfl (stCells M.now S.st) rfl (by rw [HP.out]; exact sArr_nowC (HP.out ▸ HB0.out)) ?_)
            | (go_at_call 32; refine HCP.out.mono ?_; rintro e w1 ⟨bt, ct, bh, ch, bf, rfl, hst, hnew, hb⟩
               have HB1 := Lib.hid (show Below w.heap.size w w1 from ((Below.refl w.heap.size w).drew).trans hb)
               have HST := Lib.hid hst
               have HNEW := Lib.hid hnew
               have HAL := Lib.hid (show Below w.heap.size w (w1.alloc (.cells #[.int .i64 S.st.root, .slice (some ⟨bt, 0, none⟩) S.st.taken.length ct, .slice (some ⟨bh, 0, none⟩) S.st.held.length ch, .map (some bf), .bool S.st.touched] 59)) from HB1.out.alloc HB1.out.size _)
               obtain ⟨v2, w2, hap, ho2, hk2, hat2⟩ := app_st_ex (w1.alloc (.cells #[.int .i64 S.st.root, .slice (some ⟨bt, 0, none⟩) S.st.taken.length ct, .slice (some ⟨bh, 0, none⟩) S.st.held.length ch, .map (some bf), .bool S.st.touched] 59)) 0 M.mV M.mm S.marks HH.out.mlen (row_kept HH.out.mrow (Keep.ofBelow HAL.out (fun _ => False)) (fun _ _ h => h)) ⟨bt, ct, bh, ch, bf⟩ S.st w1.heap.size (blk_new w1 _) (Nat.zero_le _) hm 60
               obtain ⟨g2, cap2, rfl⟩ : ∃ g2 cap2, v2 = .slice (some ⟨g2, 0, none⟩) (S.marks.length + 1) cap2 := by
                 rcases ho2.2 with ⟨_, h0⟩ | ⟨g, cap, cur, he, _⟩
                 · omega
                 · exact ⟨g, cap, he⟩
               have HAP := Lib.hid hap
               have HO2 := Lib.hid ho2
               have HAT2 := Lib.hid hat2
               have HK2 := Lib.hid (show Keep (fun i => M.mV.ownBlock = some i) w w2 from (Keep.ofBelow HAL.out _).trans hk2 (fun i hi => .inl hi))
               have HK12 := Lib.hid hk2
               have HP2 := Lib.hid (HKP.out _ HK2.out)
               have hce1 := (show w1.cell? ⟨p, 11, none⟩ = some M.mV from blk_cell (HKP.out _ (Keep.ofBelow HB1.out _)) 11)
               have hce2 := (show (w1.alloc (.cells #[.int .i64 S.st.root, .slice (some ⟨bt, 0, none⟩) S.st.taken.length ct, .slice (some ⟨bh, 0, none⟩) S.st.held.length ch, .map (some bf), .bool S.st.touched] 59)).cell? ⟨p, 11, none⟩ = some M.mV from blk_cell (HKP.out _ (Keep.ofBelow HAL.out _)) 11)
               have hce3 : w2.cell? ⟨p, 11, none⟩ = some M.mV := blk_cell HP2.out 11
               have hfz3 := blk_frozen HP2.out 11
               clear hst hnew hb hap ho2 hat2 hk2)
            | (refine wp_append_run _ _ 60 (v := M.mV) (y := .slice (some ⟨w1.heap.size, 0, none⟩) 1 1) (v' := .slice (some ⟨g2, 0, none⟩) (S.marks.length + 1) cap2) (w' := w2) rfl rfl rfl (by with_reducible exact HAP.out) ?_)
          go_wp2_with fail
          refine hK.out _ _ ?_ (fun hHeld3 => ?_)
          · dsimp only
          clear hK K hHeld2
          try simp only [Act.put, List.setIfInBounds_toArray, List.set_cons_zero, List.set_cons_succ]
          refine wpAnyH_ready (rs := [10]) (by kernel_rfl) (by simp) ?_
          refine readyN rfl (fun K hK => ?_) ?_
          · -- operation 10
            go_simp
            refine hK.out _ _ ?_ (fun hHeld4 => ?_)
            · dsimp only
            clear hK K hHeld3
            try simp only [Act.put, List.setIfInBounds_toArray, List.set_cons_zero, List.set_cons_succ]
            refine wpAnyH_ready (rs := [11]) (by kernel_rfl) (by simp) ?_
            refine readyN rfl (fun K hK => ?_) ?_
            · -- operation 11
              first
                | (refine wp_load5 (.tmp 16) rfl p 0 rfl (stCells M.now S.st) rfl (by rw [HP.out]; exact sArr_nowC (HP.out ▸ HB0.out)) ?_)
                | (go_at_call 32; refine HCP.out.mono ?_; rintro e w1 ⟨bt, ct, bh, ch, bf, rfl, hst, hnew, hb⟩
                   have HB1 := Lib.hid (show Below w.heap.size w w1 from ((Below.refl w.heap.size w).drew).trans hb)
                   have HST := Lib.hid hst
                   have HNEW := Lib.hid hnew
                   have HAL := Lib.hid (show Below w.heap.size w (w1.alloc (.cells #[.int .i64 S.st.root, .slice (some ⟨bt, 0, none⟩) S.st.taken.length ct, .slice (some ⟨bh, 0, none⟩) S.st.held.length ch, .map (some bf), .bool S.st.touched] 59)) from HB1.out.alloc HB1.out.size _)
                   obtain ⟨v2, w2, hap, ho2, hk2, hat2⟩ := app_st_ex (w1.alloc (.cells #[.int .i64 S.st.root, .slice (some ⟨bt, 0, none⟩) S.st.taken.length ct, .slice (some ⟨bh, 0, none⟩) S.st.held.length ch, .map (some bf), .bool S.st.touched] 59)) 0 M.mV M.mm S.marks HH.out.mlen (row_kept HH.out.mrow (Keep.ofBelow HAL.out (fun _ => False)) (fun _ _ h => h)) ⟨bt, ct, bh, ch, bf⟩ S.st w1.heap.size (blk_new w1 _) (Nat.zero_le _) hm 60
                   obtain ⟨g2, cap2, rfl⟩ : ∃ g2 cap2, v2 = .slice (some ⟨g2, 0, none⟩) (S.marks.length + 1) cap2 := by
                     rcases ho2.2 with ⟨_, h0⟩ | ⟨g, cap, cur, he, _⟩
                     · omega
                     · exact ⟨g, cap, he⟩
                   have HAP := Lib.hid hap
                   have HO2 := Lib.hid ho2
                   have HAT2 := Lib.hid hat2
                   have HK2 := Lib.hid (show Keep (fun i => M.mV.ownBlock = some i) w w2 from (Keep.ofBelow HAL.out _).trans hk2 (fun i hi => .inl hi))
                   have HK12 := Lib.hid hk2
                   have HP2 := Lib.hid (HKP.out _ HK2.out)
                   have hce1 := (show w1.cell? ⟨p, 11, none⟩ = some M.mV from blk_cell (HKP.out _ (Keep.ofBelow HB1.out _)) 11)
                   have hce2 := (show (w1.alloc (.cells #[.int .i64 S.st.root, .slice (some ⟨bt, 0, none⟩) S.st.taken.length ct, .slice (some ⟨bh, 0, none⟩) S.st.held.length ch, .map (some bf), .bool S.st.touched] 59)).cell? ⟨p, 11, none⟩ = some M.mV from blk_cell (HKP.out _ (Keep.ofBelow HAL.out _)) 11)
                   have hce3 : w2.cell? ⟨p, 11, none⟩ = some M.mV := blk_cell HP2.out 11
                   have hfz3 := blk_frozen HP2.out 11
                   clear hst hnew hb hap ho2 hat2 hk2)
                | (refine wp_append_run _ _ 60 (v := M.mV) (y := .slice (some ⟨w1.heap.size, 0, none⟩) 1 1) (v' := .slice (some ⟨g2, 0, none⟩) (S.marks.length + 1) cap2) (w' := w2) rfl rfl rfl (by with_reducible exact HAP.out) ?_)
              refine hK.out _ _ ?_ (fun hHeld5 => ?_)
              · dsimp only
              clear hK K hHeld4
              try simp only [Act.put, List.setIfInBounds_toArray, List.set_cons_zero, List.set_cons_succ]
              refine takeN (v := ?_) 12 rfl (by kernel_rfl) (by kernel_rfl) (by kernel_rfl) (fun _ _ _ h => h) (by rfl) ?_ hHeld5 ?_
              rotate_left
              · intro w hSw; (try dsimp only at hSw); go_simp; with_reducible rfl
              try simp only [Act.put, List.setIfInBounds_toArray, List.set_cons_zero, List.set_cons_succ]
              refine takeN (v := ?_) 13 rfl (by kernel_rfl) (by kernel_rfl) (by kernel_rfl) (fun _ _ _ h => h) (by rfl) ?_ hHeld5 ?_
              rotate_left
              · intro w hSw; (try dsimp only at hSw); go_simp; with_reducible rfl
              try simp only [Act.put, List.setIfInBounds_toArray, List.set_cons_zero, List.set_cons_succ]
              refine wpAnyH_ready (rs := [14]) (by kernel_rfl) (by simp) ?_
              refine readyN rfl (fun K hK => ?_) ?_
              · -- operation 14
                go_simp
                refine hK.out _ _ ?_ (fun hHeld6 => ?_)
                · dsimp only
                clear hK K hHeld5
                try simp only [Act.put, List.setIfInBounds_toArray, List.set_cons_zero, List.set_cons_succ]
                refine wpAnyH_done (by kernel_rfl) ?_ _
                have hb3 := blk_setCell HP2.out 11 (.slice (some ⟨g2, 0, none⟩) (S.marks.length + 1) cap2)
                have hc4 : (w2.setCell ⟨p, 11, none⟩ (.slice (some ⟨g2, 0, none⟩) (S.marks.length + 1) cap2)).cell? ⟨p, 11, none⟩ = some (.slice (some ⟨g2, 0, none⟩) (S.marks.length + 1) cap2) := blk_cell hb3 11
                have HB3 := Lib.hid hb3
                clear hb3
                go_wp2
                go_ret
                have E := mark_end HH.out ⟨bt, ct, bh, ch, bf⟩ (.slice (some ⟨g2, 0, none⟩) (S.marks.length + 1) cap2) _ HB1.out HST.out HNEW.out HO2.out HK12.out HAT2.out
                rw [← HP.out] at E
                exact ⟨by simp, _, E⟩
              exact AllReadyH.nil
            exact AllReadyH.nil
          exact AllReadyH.nil
        exact AllReadyH.nil
      refine readyN rfl (fun K hK => ?_) ?_
      · -- operation 9
        go_simp
        first
          | (refine wp_load5 (.tmp 16) rfl p 0 rfl (stCells M.now S.st) rfl (by rw [HP.out]; exact sArr_nowC (HP.out ▸ HB0.out)) ?_)
          | (go_at_call 32; refine HCP.out.mono ?_; rintro e w1 ⟨bt, ct, bh, ch, bf, rfl, hst, hnew, hb⟩
             have HB1 := Lib.hid (show Below w.heap.size w w1 from ((Below.refl w.heap.size w).drew).trans hb)
             have HST := Lib.hid hst
             have HNEW := Lib.hid hnew
             have HAL := Lib.hid (show Below w.heap.size w (w1.alloc (.cells #[.int .i64 S.st.root, .slice (some ⟨bt, 0, none⟩) S.st.taken.length ct, .slice (some ⟨bh, 0, none⟩) S.st.held.length ch, .map (some bf), .bool S.st.touched] 59)) from HB1.out.alloc HB1.out.size _)
             obtain ⟨v2, w2, hap, ho2, hk2, hat2⟩ := app_st_ex (w1.alloc (.cells #[.int .i64 S.st.root, .slice (some ⟨bt, 0, none⟩) S.st.taken.length ct, .slice (some ⟨bh, 0, none⟩) S.st.held.length ch, .map (some bf), .bool S.st.touched] 59)) 0 M.mV M.mm S.marks HH.out.mlen (row_kept HH.out.mrow (Keep.ofBelow HAL.out (fun _ => False)) (fun _ _ h => h)) ⟨bt, ct, bh, ch, bf⟩ S.st w1.heap.size (blk_new w1 _) (Nat.zero_le _) hm 60
             obtain ⟨g2, cap2, rfl⟩ : ∃ g2 cap2, v2 = .slice (some ⟨g2, 0, none⟩) (S.marks.length + 1) cap2 := by
               rcases ho2.2 with ⟨_, h0⟩ | ⟨g, cap, cur, he, _⟩
               · omega
               · exact ⟨g, cap, he⟩
             have HAP := Lib.hid hap
             have HO2 := Lib.hid ho2
             have HAT2 := Lib.hid hat2
             have HK2 := Lib.hid (show Keep (fun i => M.mV.ownBlock = some i) w w2 from (Keep.ofBelow HAL.out _).trans hk2 (fun i hi => .inl hi))
             have HK12 := Lib.hid hk2
             have HP2 := Lib.hid (HKP.out _ HK2.out)
             have hce1 := (show w1.cell? ⟨p, 11, none⟩ = some M.mV from blk_cell (HKP.out _ (Keep.ofBelow HB1.out _)) 11)
             have hce2 := (show (w1.alloc (.cells #[.int .i64 S.st.root, .slice (some ⟨bt, 0, none⟩) S.st.taken.length ct, .slice (some ⟨bh, 0, none⟩) S.st.held.length ch, .map (some bf), .bool S.st.touched] 59)).cell? ⟨p, 11, none⟩ = some M.mV from blk_cell (HKP.out _ (Keep.ofBelow HAL.out _)) 11)
             have hce3 : w2.cell? ⟨p, 11, none⟩ = some M.mV := blk_cell HP2.out 11
             have hfz3 := blk_frozen HP2.out 11
             clear hst hnew hb hap ho2 hat2 hk2)
          | (refine wp_append_run _ _ 60 (v := M.mV) (y := .slice (some ⟨w1.heap.size, 0, none⟩) 1 1) (v' := .slice (some ⟨g2, 0, none⟩) (S.marks.length + 1) cap2) (w' := w2) rfl rfl rfl (by with_reducible exact HAP.out) ?_)
        go_wp2_with fail
        refine hK.out _ _ ?_ (fun hHeld2 => ?_)
        · dsimp only
        clear hK K hHeld1
        try simp only [Act.put, List.setIfInBounds_toArray, List.set_cons_zero, List.set_cons_succ]
        refine wpAnyH_ready (rs := [4, 10]) (by kernel_rfl) (by simp) ?_
        refine readyN rfl (fun K hK => ?_) ?_
        · -- operation 4
          go_simp
          refine hK.out _ _ ?_ (fun hHeld3 => ?_)
          · dsimp only
          clear hK K hHeld2
          try simp only [Act.put, List.setIfInBounds_toArray, List.set_cons_zero, List.set_cons_succ]
          refine wpAnyH_ready (rs := [10]) (by kernel_rfl) (by simp) ?_
          refine readyN rfl (fun K hK => ?_) ?_
          · -- operation 10
            go_simp
            refine hK.out _ _ ?_ (fun hHeld4 => ?_)
            · dsimp only
            clear hK K hHeld3
            try simp only [Act.put, List.setIfInBounds_toArray, List.set_cons_zero, List.set_cons_succ]
            refine wpAnyH_ready (rs := [11]) (by kernel_rfl) (by simp) ?_
            refine readyN rfl (fun K hK => ?_) ?_
            · -- operation 11
              first
                | (refine wp_load5 (.tmp 16) rfl p 0 rfl (stCells M.now S.st) rfl (by rw [HP.out]; exact sArr_nowC (HP.out ▸ HB0.out)) ?_)
                | (go_at_call 32; refine HCP.out.mono ?_; rintro e w1 ⟨bt, ct, bh, ch, bf, rfl, hst, hnew, hb⟩
                   have HB1 := Lib.hid (show Below w.heap.size w w1 from ((Below.refl w.heap.size w).drew).trans hb)
                   have HST := Lib.hid hst
                   have HNEW := Lib.hid hnew
                   have HAL := Lib.hid (show Below w.heap.size w (w1.alloc (.cells #[.int .i64 S.st.root, .slice (some ⟨bt, 0, none⟩) S.st.taken.length ct, .slice (some ⟨bh, 0, none⟩) S.st.held.length ch, .map (some bf), .bool S.st.touched] 59)) from HB1.out.alloc HB1.out.size _)
                   obtain ⟨v2, w2, hap, ho2, hk2, hat2⟩ := app_st_ex (w1.alloc (.cells #[.int .i64 S.st.root, .slice (some ⟨bt, 0, none⟩) S.st.taken.length ct, .slice (some ⟨bh, 0, none⟩) S.st.held.length ch, .map (some bf), .bool S.st.touched] 59)) 0 M.mV M.mm S.marks HH.out.mlen (row_kept HH.out.mrow (Keep.ofBelow HAL.out (fun _ => False)) (fun _ _ h => h)) ⟨bt, ct, bh, ch, bf⟩ S.st w1.heap.size (blk_new w1 _) (Nat.zero_le _) hm 60
                   obtain ⟨g2, cap2, rfl⟩ : ∃ g2 cap2, v2 = .slice (some ⟨g2, 0, none⟩) (S.marks.length + 1) cap2 := by
                     rcases ho2.2 with ⟨_, h0⟩ | ⟨g, cap, cur, he, _⟩
                     · omega
                     · exact ⟨g, cap, he⟩
                   have HAP := Lib.hid hap
                   have HO2 := Lib.hid ho2
                   have HAT2 := Lib.hid hat2
                   have HK2 := Lib.hid (show Keep (fun i => M.mV.ownBlock = some i) w w2 from (Keep.ofBelow HAL.out _).trans hk2 (fun i hi => .inl hi))
                   have HK12 := Lib.hid hk2
                   have HP2 := Lib.hid (HKP.out _ HK2.out)
                   have hce1 := (show w1.cell? ⟨p, 11, none⟩ = some M.mV from blk_cell (HKP.out _ (Keep.ofBelow HB1.out _)) 11)
                   have hce2 := (show (w1.alloc (.cells #[.int .i64 S.st.root, .slice (some ⟨bt, 0, none⟩) S.st.taken.length ct, .slice (some ⟨bh, 0, none⟩) S.st.held.length ch, .map (some bf), .bool S.st.touched] 59)).cell? ⟨p, 11, none⟩ = some M.mV from blk_cell (HKP.out _ (Keep.ofBelow HAL.out _)) 11)
                   have hce3 : w2.cell? ⟨p, 11, none⟩ = some M.mV := blk_cell HP2.out 11
                   have hfz3 := blk_frozen HP2.out 11
                   clear hst hnew hb hap ho2 hat2 hk2)
                | (refine wp_append_run _ _ 60 (v := M.mV) (y := .slice (some ⟨w1.heap.size, 0, none⟩) 1 1) (v' := .slice (some ⟨g2, 0, none⟩) (S.marks.length + 1) cap2) (w' := w2) rfl rfl rfl (by with_reducible exact HAP.out) ?_)
              refine hK.out _ _ ?_ (fun hHeld5 => ?_)
              · dsimp only
              clear hK K hHeld4
              try simp only [Act.put, List.setIfInBounds_toArray, List.set_cons_zero, List.set_cons_succ]
              refine takeN (v := ?_) 12 rfl (by kernel_rfl) (by kernel_rfl) (by kernel_rfl) (fun _ _ _ h => h) (by rfl) ?_ hHeld5 ?_
              rotate_left
              · intro w hSw; (try dsimp only at hSw); go_simp; with_reducible rfl
              try simp only [Act.put, List.setIfInBounds_toArray, List.set_cons_zero, List.set_cons_succ]
              refine takeN (v := ?_) 13 rfl (by kernel_rfl) (by kernel_rfl) (by kernel_rfl) (fun _ _ _ h => h) (by rfl) ?_ hHeld5 ?_
              rotate_left
              · intro w hSw; (try dsimp only at hSw); go_simp; with_reducible rfl
              try simp only [Act.put, List.setIfInBounds_toArray, List.set_cons_zero, List.set_cons_succ]
              refine wpAnyH_ready (rs := [14]) (by kernel_rfl) (by simp) ?_
              refine readyN rfl (fun K hK => ?_) ?_
              · -- operation 14
                go_simp
                refine hK.out _ _ ?_ (fun hHeld6 => ?_)
                · dsimp only
                clear hK K hHeld5
                try simp only [Act.put, List.setIfInBounds_toArray, List.set_cons_zero, List.set_cons_succ]
                refine wpAnyH_done (by kernel_rfl) ?_ _
                have hb3 := blk_setCell HP2.out 11 (.slice (some ⟨g2, 0, none⟩) (S.marks.length + 1) cap2)
                have hc4 : (w2.setCell ⟨p, 11, none⟩ (.slice (some ⟨g2, 0, none⟩) (S.marks.length + 1) cap2)).cell? ⟨p, 11, none⟩ = some (.slice (some ⟨g2, 0, none⟩) (S.marks.length + 1) cap2) := blk_cell hb3 11
                have HB3 := Lib.hid hb3
                clear hb3
                go_wp2
                go_ret
                have E := mark_end HH.out ⟨bt, ct, bh, ch, bf⟩ (.slice (some ⟨g2, 0, none⟩) (S.marks.length + 1) cap2) _ HB1.out HST.out HNEW.out HO2.out HK12.out HAT2.out
                rw [← HP.out] at E
                exact ⟨by simp, _, E⟩
              exact AllReadyH.nil
            exact AllReadyH.nil
          exact AllReadyH.nil
        refine readyN rfl (fun K hK => ?_) ?_
        · -- operation 10
          go_simp
          refine hK.out _ _ ?_ (fun hHeld3 => ?_)
          · dsimp only
          clear hK K hHeld2
          try simp only [Act.put, List.setIfInBounds_toArray, List.set_cons_zero, List.set_cons_succ]
          refine wpAnyH_ready (rs := [4]) (by kernel_rfl) (by simp) ?_
          refine readyN rfl (fun K hK => ?_) ?_
          · -- operation 4
            go_simp
            refine hK.out _ _ ?_ (fun hHeld4 => ?_)
            · dsimp only
            clear hK K hHeld3
            try simp only [Act.put, List.setIfInBounds_toArray, List.set_cons_zero, List.set_cons_succ]
            refine wpAnyH_ready (rs := [11]) (by kernel_rfl) (by simp) ?_
            refine readyN rfl (fun K hK => ?_) ?_
            · -- operation 11
              first
                | (refine wp_load5 (.tmp 16) rfl p 0 rfl (stCells M.now S.st) rfl (by rw [HP.out]; exact sArr_nowC (HP.out ▸ HB0.out)) ?_)
                | (go_at_call 32; refine HCP.out.mono ?_; rintro e w1 ⟨bt, ct, bh, ch, bf, rfl, hst, hnew, hb⟩
                   have HB1 := Lib.hid (show Below w.heap.size w w1 from ((Below.refl w.heap.size w).drew).trans hb)
                   have HST := Lib.hid hst
                   have HNEW := Lib.hid hnew
                   have HAL := Lib.hid (show Below w.heap.size w (w1.alloc (.cells #[.int .i64 S.st.root, .slice (some ⟨bt, 0, none⟩) S.st.taken.length ct, .slice (some ⟨bh, 0, none⟩) S.st.held.length ch, .map (some bf), .bool S.st.touched] 59)) from HB1.out.alloc HB1.out.size _)
                   obtain ⟨v2, w2, hap, ho2, hk2, hat2⟩ := app_st_ex (w1.alloc (.cells #[.int .i64 S.st.root, .slice (some ⟨bt, 0, none⟩) S.st.taken.length ct, .slice (some ⟨bh, 0, none⟩) S.st.held.length ch, .map (some bf), .bool S.st.touched] 59)) 0 M.mV M.mm S.marks HH.out.mlen (row_kept HH.out.mrow (Keep.ofBelow HAL.out (fun _ => False)) (fun _ _ h => h)) ⟨bt, ct, bh, ch, bf⟩ S.st w1.heap.size (blk_new w1 _) (Nat.zero_le _) hm 60
                   obtain ⟨g2, cap2, rfl⟩ : ∃ g2 cap2, v2 = .slice (some ⟨g2, 0, none⟩) (S.marks.length + 1) cap2 := by
                     rcases ho2.2 with ⟨_, h0⟩ | ⟨g, cap, cur, he, _⟩
                     · omega
                     · exact ⟨g, cap, he⟩
                   have HAP := Lib.hid hap
                   have HO2 := Lib.hid ho2
                   have HAT2 := Lib.hid hat2
                   have HK2 := Lib.hid (show Keep (fun i => M.mV.ownBlock = some i) w w2 from (Keep.ofBelow HAL.out _).trans hk2 (fun i hi => .inl hi))
                   have HK12 := Lib.hid hk2
                   have HP2 := Lib.hid (HKP.out _ HK2.out)
                   have hce1 := (show w1.cell? ⟨p, 11, none⟩ = some M.mV from blk_cell (HKP.out _ (Keep.ofBelow HB1.out _)) 11)
                   have hce2 := (show (w1.alloc (.cells #[.int .i64 S.st.root, .slice (some ⟨bt, 0, none⟩) S.st.taken.length ct, .slice (some ⟨bh, 0, none⟩) S.st.held.length ch, .map (some bf), .bool S.st.touched] 59)).cell? ⟨p, 11, none⟩ = some M.mV from blk_cell (HKP.out _ (Keep.ofBelow HAL.out _)) 11)
                   have hce3 : w2.cell? ⟨p, 11, none⟩ = some M.mV := blk_cell HP2.out 11
                   have hfz3 := blk_frozen HP2.out 11
                   clear hst hnew hb hap ho2 hat2 hk2)
                | (refine wp_append_run _ _ 60 (v := M.mV) (y := .slice (some ⟨w1.heap.size, 0, none⟩) 1 1) (v' := .slice (some ⟨g2, 0, none⟩) (S.marks.length + 1) cap2) (w' := w2) rfl rfl rfl (by with_reducible exact HAP.out) ?_)
              refine hK.out _ _ ?_ (fun hHeld5 => ?_)
              · dsimp only
              clear hK K hHeld4
              try simp only [Act.put, List.setIfInBounds_toArray, List.set_cons_zero, List.set_cons_succ]
              refine takeN (v := ?_) 12 rfl (by kernel_rfl) (by kernel_rfl) (by kernel_rfl) (fun _ _ _ h => h) (by rfl) ?_ hHeld5 ?_
              rotate_left
              · intro w hSw; (try dsimp only at hSw); go_simp; with_reducible rfl
              try simp only [Act.put, List.setIfInBounds_toArray, List.set_cons_zero, List.set_cons_succ]
              refine takeN (v := ?_) 13 rfl (by kernel_rfl) (by kernel_rfl) (by kernel_rfl) (fun _ _ _ h => h) (by rfl) ?_ hHeld5 ?_
              rotate_left
              · intro w hSw; (try dsimp only at hSw); go_simp; with_reducible rfl
              try simp only [Act.put, List.setIfInBounds_toArray, List.set_cons_zero, List.set_cons_succ]
              refine wpAnyH_ready (rs := [14]) (by kernel_rfl) (by simp) ?_
              refine readyN rfl (fun K hK => ?_) ?_
              · -- operation 14
                go_simp
                refine hK.out _ _ ?_ (fun hHeld6 => ?_)
                · dsimp only
                clear hK K hHeld5
                try simp only [Act.put, List.setIfInBounds_toArray, List.set_cons_zero, List.set_cons_succ]
                refine wpAnyH_done (by kernel_rfl) ?_ _
                have hb3 := blk_setCell HP2.out 11 (.slice (some ⟨g2, 0, none⟩) (S.marks.length + 1) cap2)
                have hc4 : (w2.setCell ⟨p, 11, none⟩ (.slice (some ⟨g2, 0, none⟩) (S.marks.length + 1) cap2)).cell? ⟨p, 11, none⟩ = some (.slice (some ⟨g2, 0, none⟩) (S.marks.length + 1) cap2) := blk_cell hb3 11
                have HB3 := Lib.hid hb3
                clear hb3
                go_wp2
                go_ret
                have E := mark_end HH.out ⟨bt, ct, bh, ch, bf⟩ (.slice (some ⟨g2, 0, none⟩) (S.marks.length + 1) cap2) _ HB1.out HST.out HNEW.out HO2.out HK12.out HAT2.out
                rw [← HP.out] at E
                exact ⟨by simp, _, E⟩
              exact AllReadyH.nil
            exact AllReadyH.nil
          exact AllReadyH.nil
        exact AllReadyH.nil
      exact AllReadyH.nil
    exact AllReadyH.nil
end Go.Proofs.Ytlmngghkhnnaeaa
