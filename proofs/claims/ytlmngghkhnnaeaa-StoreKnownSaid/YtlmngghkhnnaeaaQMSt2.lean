/- The walk of store.state's copied. The walks of store.state's free, and of store.bits. The walk of store.bits: a row of bools as bytes. -/
import Derived.Test.YtlmngghkhnnaeaaQMStP
import Derived.Test.YtlmngghkhnnaeaaQMReg
import Derived.Deep.DeepCutAuto
namespace Go.Proofs.Ytlmngghkhnnaeaa
open Go.RowKit
set_option maxRecDepth 100000
set_option linter.unusedVariables false
set_option linter.unusedSimpArgs false
theorem copied_any (V : Nat → Prop) (m : StM) (s : St) (w : World) (h : StIs w V m s) :
    Calls Try.prog 32 #[.agg (stCells m s).toArray] w fun e w' => ∃ m', e = .returned (.agg (stCells m' s).toArray) ∧ StIs w' V m' s ∧ (∀ i, m'.blk i → w.heap.size ≤ i) ∧ Below w.heap.size w w' := by
  obtain ⟨bt, ct, bh, ch, bf⟩ := m
  obtain ⟨root, taken, held, fresh, touched⟩ := s
  simp only [stCells]
  have hlo := h.lo
  have hhi := h.hi
  have hln := h.len
  simp only at hlo hhi hln
  rw [hln]
  have HH := Lib.hid h
  obtain ⟨n, hn⟩ : ∃ n, n = taken.length := ⟨_, rfl⟩
  rw [← hn] at hlo hhi hln ⊢
  have HN := Lib.hid hn
  have HLN := Lib.hid hln
  have q0 := blk_new w (.cells #[.int .i64 root, .slice (some ⟨bt, 0, none⟩) n ct, .slice (some ⟨bh, 0, none⟩) n ch, .map (some bf), .bool touched] 59)
  have Q0 := Lib.hid q0
  clear h hn hln q0
  go_enter Try.func32, Try.ntmps32
  go_wp2_with fail
  refine wp_gen' (fun W => Below w.heap.size w W ∧ W.heap[w.heap.size]? = some (.cells #[.int .i64 root, .slice (some ⟨bt, 0, none⟩) n ct, .slice (some ⟨bh, 0, none⟩) n ch, .map (some bf), .bool touched] 59 (0, 0)) ∧ w.heap.size + 2 ≤ W.heap.size ∧ W.heap[w.heap.size + 1]? = some (.cells #[.int .i64 0, .slice none 0 0, .slice none 0 0, .map none, .bool false] 59 (0, 0))) ?_ ?_
  · exact ⟨((Below.refl _ w).alloc (Nat.le_refl _) _).alloc (by simp) _, blk_alloc Q0.out _, by simp, blk_newAt (by simp) _⟩
  rintro W ⟨hb, hq, hsz, hq2⟩
  have C0 := Lib.hid (show W.drew.cell? ⟨w.heap.size, 1, none⟩ = some (.slice (some ⟨bt, 0, none⟩) n ct) ∧ W.drew.cell? ⟨w.heap.size, 2, none⟩ = some (.slice (some ⟨bh, 0, none⟩) n ch) ∧ W.drew.cell? ⟨w.heap.size, 3, none⟩ = some (.map (some bf)) from ⟨blk_cell hq 1, blk_cell hq 2, blk_cell hq 3⟩)
  have CB := Lib.hid fun (X : World) (hb : Below W.drew.heap.size W.drew X) => show X.cell? ⟨w.heap.size, 1, none⟩ = some (.slice (some ⟨bt, 0, none⟩) n ct) ∧ X.cell? ⟨w.heap.size, 2, none⟩ = some (.slice (some ⟨bh, 0, none⟩) n ch) ∧ X.cell? ⟨w.heap.size, 3, none⟩ = some (.map (some bf)) from ⟨(Keep.ofBelow hb (fun _ => False)).cell C0.out.1 (fun h => h), (Keep.ofBelow hb (fun _ => False)).cell C0.out.2.1 (fun h => h), (Keep.ofBelow hb (fun _ => False)).cell C0.out.2.2 (fun h => h)⟩
  have HQ := Lib.hid (show W.drew.heap[w.heap.size]? = _ from hq)
  have HB := Lib.hid hb
  have HHW := Lib.hid (HH.out.below hb)
  have hT : BR W.drew bt ct taken := HHW.out.t
  have hH : BR W.drew bh ch held := HHW.out.h
  have hF : FrIs W.drew V bf fresh := HHW.out.f
  have HT := Lib.hid hT
  have HHl := Lib.hid hH
  have HF := Lib.hid hF
  have CT := Lib.hid fun (X : World) (hb : Below W.drew.heap.size W.drew X) => show Calls Try.prog 62 #[.slice (some ⟨bt, 0, none⟩) n ct] X fun e w' => ∃ b' c', e = .returned (.slice (some ⟨b', 0, none⟩) n c') ∧ X.heap.size ≤ b' ∧ BR w' b' c' taken ∧ Below X.heap.size X w' by
    have := cloneo_any bt ct taken X (HT.out.keep (Keep.ofBelow hb (fun _ => False)) (fun h => h)) (by rw [← HN.out]; omega) (by rw [← HN.out]; omega)
    rwa [← HN.out] at this
  have CH := Lib.hid fun (X : World) (hb : Below W.drew.heap.size W.drew X) => show Calls Try.prog 62 #[.slice (some ⟨bh, 0, none⟩) n ch] X fun e w' => ∃ b' c', e = .returned (.slice (some ⟨b', 0, none⟩) n c') ∧ X.heap.size ≤ b' ∧ BR w' b' c' held ∧ Below X.heap.size X w' by
    have := cloneo_any bh ch held X (HHl.out.keep (Keep.ofBelow hb (fun _ => False)) (fun h => h)) (by rw [HLN.out]; omega) (by rw [HLN.out]; omega)
    rwa [HLN.out] at this
  have hWs : w.heap.size < W.heap.size := by omega
  have HQ2 := Lib.hid (show W.drew.heap[w.heap.size + 1]? = _ from hq2)
  clear hb hq hT hH hF hq2
  refine wp_late (S := (fun w' => w'.cell? ⟨w.heap.size, 1, none⟩ = some (.slice (some ⟨bt, 0, none⟩) n ct) ∧ w'.cell? ⟨w.heap.size, 2, none⟩ = some (.slice (some ⟨bh, 0, none⟩) n ch) ∧ w'.cell? ⟨w.heap.size, 3, none⟩ = some (.map (some bf)))) [10, 12, 14] (by kernel_rfl) ?_ (fun hHeld0 => ?_)
  · (try dsimp only)
    first | with_reducible exact C0.out | with_reducible exact (CB.out _ B3.out) | with_reducible exact (CB.out _ B2.out) | with_reducible exact (CB.out _ B1.out)
  refine takeG (v := ?_) 0 rfl (by kernel_rfl) (by kernel_rfl) (by kernel_rfl) (by kernel_rfl) (by kernel_rfl) (fun _ _ _ h => h) (by rfl) ?_ hHeld0 ?_
  rotate_left
  · intro w hSw; (try dsimp only at hSw); go_simp; with_reducible rfl
  try simp only [Act.put, List.setIfInBounds_toArray, List.set_cons_zero, List.set_cons_succ]
  refine takeG (v := ?_) 1 rfl (by kernel_rfl) (by kernel_rfl) (by kernel_rfl) (by kernel_rfl) (by kernel_rfl) (fun _ _ _ h => h) (by rfl) ?_ hHeld0 ?_
  rotate_left
  · intro w hSw; (try dsimp only at hSw); go_simp; with_reducible rfl
  try simp only [Act.put, List.setIfInBounds_toArray, List.set_cons_zero, List.set_cons_succ]
  refine takeG (v := ?_) 3 rfl (by kernel_rfl) (by kernel_rfl) (by kernel_rfl) (by kernel_rfl) (by kernel_rfl) (fun _ _ _ h => h) (by rfl) ?_ hHeld0 ?_
  rotate_left
  · intro w hSw; (try dsimp only at hSw); go_simp; with_reducible rfl
  try simp only [Act.put, List.setIfInBounds_toArray, List.set_cons_zero, List.set_cons_succ]
  refine takeG (v := ?_) 4 rfl (by kernel_rfl) (by kernel_rfl) (by kernel_rfl) (by kernel_rfl) (by kernel_rfl) (fun _ _ _ h => h) (by rfl) ?_ hHeld0 ?_
  rotate_left
  · intro w hSw; (try dsimp only at hSw); go_simp; with_reducible rfl
  try simp only [Act.put, List.setIfInBounds_toArray, List.set_cons_zero, List.set_cons_succ]
  refine takeG (v := ?_) 6 rfl (by kernel_rfl) (by kernel_rfl) (by kernel_rfl) (by kernel_rfl) (by kernel_rfl) (fun _ _ _ h => h) (by rfl) ?_ hHeld0 ?_
  rotate_left
  · intro w hSw; (try dsimp only at hSw); go_simp; with_reducible rfl
  try simp only [Act.put, List.setIfInBounds_toArray, List.set_cons_zero, List.set_cons_succ]
  refine takeG (v := ?_) 7 rfl (by kernel_rfl) (by kernel_rfl) (by kernel_rfl) (by kernel_rfl) (by kernel_rfl) (fun _ _ _ h => h) (by rfl) ?_ hHeld0 ?_
  rotate_left
  · intro w hSw; (try dsimp only at hSw); go_simp; with_reducible rfl
  try simp only [Act.put, List.setIfInBounds_toArray, List.set_cons_zero, List.set_cons_succ]
  refine wpAnyG_ready (rs := [2]) (by kernel_rfl) (by simp) ?_
  refine readyG rfl (fun K hK => ?_) ?_
  · -- operation 2
    go_simp
    first
      | (go_at_call 63; refine (mclone_any V bf fresh w2 (HF.out.keep (Keep.ofBelow B2.out (fun _ => False)) (fun h => h) (fun _ _ h => h))).mono ?_; rintro e w3 ⟨rfl, h3, hb, hlt⟩
         have B3 := Lib.hid (below_and B2.out hb)
         have F3 := Lib.hid h3
         have T3 := Lib.hid (T2.out.keep (Keep.ofBelow hb (fun _ => False)) (fun h => h))
         have E3 := Lib.hid (E2.out.keep (Keep.ofBelow hb (fun _ => False)) (fun h => h))
         have hb3 := (Keep.ofBelow B3.out (fun _ => False)).blk HQ.out (fun h => h)
         have f1 := blk_frozen hb3 1
         have f2 := blk_frozen hb3 2
         have f3 := blk_frozen hb3 3
         have d1 : w3.cell? ⟨w.heap.size, 1, none⟩ = some (.slice (some ⟨bt, 0, none⟩) n ct) := blk_cell hb3 1
         have d2 : w3.cell? ⟨w.heap.size, 2, none⟩ = some (.slice (some ⟨bh, 0, none⟩) n ch) := blk_cell hb3 2
         have d3 : w3.cell? ⟨w.heap.size, 3, none⟩ = some (.map (some bf)) := blk_cell hb3 3
         have HB3 := Lib.hid hb3
         clear h3 hb hlt hb3)
      | (go_at_call 62; with_reducible refine (CH.out w1 B1.out).mono ?_; rintro e w2 ⟨b2, x2, rfl, g2, h2, hb⟩
         have B2 := Lib.hid (below_and B1.out hb)
         have E2 := Lib.hid h2
         have T2 := Lib.hid (T1.out.keep (Keep.ofBelow hb (fun _ => False)) (fun h => h))
         clear h2 hb)
      | (go_at_call 62; with_reducible refine (CT.out _ (Below.refl _ _)).mono ?_; rintro e w1 ⟨b1, x1, rfl, g1, h1, hb⟩
         have B1 := Lib.hid hb
         have T1 := Lib.hid h1
         clear h1 hb)
    go_wp2_with fail
    refine hK.out _ _ ?_ (fun hHeld1 => ?_)
    · (try dsimp only)
      first | with_reducible exact C0.out | with_reducible exact (CB.out _ B3.out) | with_reducible exact (CB.out _ B2.out) | with_reducible exact (CB.out _ B1.out)
    clear hK K hHeld0
    try simp only [Act.put, List.setIfInBounds_toArray, List.set_cons_zero, List.set_cons_succ]
    refine takeG (v := ?_) 9 rfl (by kernel_rfl) (by kernel_rfl) (by kernel_rfl) (by kernel_rfl) (by kernel_rfl) (fun _ _ _ h => h) (by rfl) ?_ hHeld1 ?_
    rotate_left
    · intro w hSw; (try dsimp only at hSw); go_simp; with_reducible rfl
    try simp only [Act.put, List.setIfInBounds_toArray, List.set_cons_zero, List.set_cons_succ]
    refine wpAnyG_ready (rs := [5]) (by kernel_rfl) (by simp) ?_
    refine readyG rfl (fun K hK => ?_) ?_
    · -- operation 5
      go_simp
      first
        | (go_at_call 63; refine (mclone_any V bf fresh w2 (HF.out.keep (Keep.ofBelow B2.out (fun _ => False)) (fun h => h) (fun _ _ h => h))).mono ?_; rintro e w3 ⟨rfl, h3, hb, hlt⟩
           have B3 := Lib.hid (below_and B2.out hb)
           have F3 := Lib.hid h3
           have T3 := Lib.hid (T2.out.keep (Keep.ofBelow hb (fun _ => False)) (fun h => h))
           have E3 := Lib.hid (E2.out.keep (Keep.ofBelow hb (fun _ => False)) (fun h => h))
           have hb3 := (Keep.ofBelow B3.out (fun _ => False)).blk HQ.out (fun h => h)
           have f1 := blk_frozen hb3 1
           have f2 := blk_frozen hb3 2
           have f3 := blk_frozen hb3 3
           have d1 : w3.cell? ⟨w.heap.size, 1, none⟩ = some (.slice (some ⟨bt, 0, none⟩) n ct) := blk_cell hb3 1
           have d2 : w3.cell? ⟨w.heap.size, 2, none⟩ = some (.slice (some ⟨bh, 0, none⟩) n ch) := blk_cell hb3 2
           have d3 : w3.cell? ⟨w.heap.size, 3, none⟩ = some (.map (some bf)) := blk_cell hb3 3
           have HB3 := Lib.hid hb3
           clear h3 hb hlt hb3)
        | (go_at_call 62; with_reducible refine (CH.out w1 B1.out).mono ?_; rintro e w2 ⟨b2, x2, rfl, g2, h2, hb⟩
           have B2 := Lib.hid (below_and B1.out hb)
           have E2 := Lib.hid h2
           have T2 := Lib.hid (T1.out.keep (Keep.ofBelow hb (fun _ => False)) (fun h => h))
           clear h2 hb)
        | (go_at_call 62; with_reducible refine (CT.out _ (Below.refl _ _)).mono ?_; rintro e w1 ⟨b1, x1, rfl, g1, h1, hb⟩
           have B1 := Lib.hid hb
           have T1 := Lib.hid h1
           clear h1 hb)
      go_wp2_with fail
      refine hK.out _ _ ?_ (fun hHeld2 => ?_)
      · (try dsimp only)
        first | with_reducible exact C0.out | with_reducible exact (CB.out _ B3.out) | with_reducible exact (CB.out _ B2.out) | with_reducible exact (CB.out _ B1.out)
      clear hK K hHeld1
      try simp only [Act.put, List.setIfInBounds_toArray, List.set_cons_zero, List.set_cons_succ]
      refine wpAnyG_ready (rs := [8]) (by kernel_rfl) (by simp) ?_
      refine readyG rfl (fun K hK => ?_) ?_
      · -- operation 8
        go_simp
        first
          | (go_at_call 63; refine (mclone_any V bf fresh w2 (HF.out.keep (Keep.ofBelow B2.out (fun _ => False)) (fun h => h) (fun _ _ h => h))).mono ?_; rintro e w3 ⟨rfl, h3, hb, hlt⟩
             have B3 := Lib.hid (below_and B2.out hb)
             have F3 := Lib.hid h3
             have T3 := Lib.hid (T2.out.keep (Keep.ofBelow hb (fun _ => False)) (fun h => h))
             have E3 := Lib.hid (E2.out.keep (Keep.ofBelow hb (fun _ => False)) (fun h => h))
             have hb3 := (Keep.ofBelow B3.out (fun _ => False)).blk HQ.out (fun h => h)
             have f1 := blk_frozen hb3 1
             have f2 := blk_frozen hb3 2
             have f3 := blk_frozen hb3 3
             have d1 : w3.cell? ⟨w.heap.size, 1, none⟩ = some (.slice (some ⟨bt, 0, none⟩) n ct) := blk_cell hb3 1
             have d2 : w3.cell? ⟨w.heap.size, 2, none⟩ = some (.slice (some ⟨bh, 0, none⟩) n ch) := blk_cell hb3 2
             have d3 : w3.cell? ⟨w.heap.size, 3, none⟩ = some (.map (some bf)) := blk_cell hb3 3
             have HB3 := Lib.hid hb3
             clear h3 hb hlt hb3)
          | (go_at_call 62; with_reducible refine (CH.out w1 B1.out).mono ?_; rintro e w2 ⟨b2, x2, rfl, g2, h2, hb⟩
             have B2 := Lib.hid (below_and B1.out hb)
             have E2 := Lib.hid h2
             have T2 := Lib.hid (T1.out.keep (Keep.ofBelow hb (fun _ => False)) (fun h => h))
             clear h2 hb)
          | (go_at_call 62; with_reducible refine (CT.out _ (Below.refl _ _)).mono ?_; rintro e w1 ⟨b1, x1, rfl, g1, h1, hb⟩
             have B1 := Lib.hid hb
             have T1 := Lib.hid h1
             clear h1 hb)
        go_wp2_with fail
        refine hK.out _ _ ?_ (fun hHeld3 => ?_)
        · (try dsimp only)
          first | with_reducible exact C0.out | with_reducible exact (CB.out _ B3.out) | with_reducible exact (CB.out _ B2.out) | with_reducible exact (CB.out _ B1.out)
        clear hK K hHeld2
        try simp only [Act.put, List.setIfInBounds_toArray, List.set_cons_zero, List.set_cons_succ]
        refine wpAnyG_ready (rs := [10]) (by kernel_rfl) (by simp) ?_
        refine lateG rfl (by kernel_rfl) (fun K hK => ?_) ?_
        · -- operation 10
          go_simp
          refine hK.out _ _ ?_
          clear hK K
          try simp only [Act.put, List.setIfInBounds_toArray, List.set_cons_zero, List.set_cons_succ]
          refine wpAnyG_ready (rs := [11]) (by kernel_rfl) (by simp) ?_
          refine lateG rfl (by kernel_rfl) (fun K hK => ?_) ?_
          · -- operation 11
            go_simp
            refine hK.out _ _ ?_
            clear hK K
            try simp only [Act.put, List.setIfInBounds_toArray, List.set_cons_zero, List.set_cons_succ]
            refine wpAnyG_ready (rs := [12]) (by kernel_rfl) (by simp) ?_
            refine lateG rfl (by kernel_rfl) (fun K hK => ?_) ?_
            · -- operation 12
              go_simp
              refine hK.out _ _ ?_
              clear hK K
              try simp only [Act.put, List.setIfInBounds_toArray, List.set_cons_zero, List.set_cons_succ]
              refine wpAnyG_ready (rs := [13]) (by kernel_rfl) (by simp) ?_
              refine lateG rfl (by kernel_rfl) (fun K hK => ?_) ?_
              · -- operation 13
                go_simp
                refine hK.out _ _ ?_
                clear hK K
                try simp only [Act.put, List.setIfInBounds_toArray, List.set_cons_zero, List.set_cons_succ]
                refine wpAnyG_ready (rs := [14]) (by kernel_rfl) (by simp) ?_
                refine lateG rfl (by kernel_rfl) (fun K hK => ?_) ?_
                · -- operation 14
                  go_simp
                  refine hK.out _ _ ?_
                  clear hK K
                  try simp only [Act.put, List.setIfInBounds_toArray, List.set_cons_zero, List.set_cons_succ]
                  refine wpAnyG_done (by kernel_rfl) ?_ _
                  have hk1 : Keep (fun i => i = w.heap.size) w3 (((w3.setCell ⟨w.heap.size, 1, none⟩ (.slice (some ⟨b1, 0, none⟩) n x1)).setCell ⟨w.heap.size, 2, none⟩ (.slice (some ⟨b2, 0, none⟩) n x2)).setCell ⟨w.heap.size, 3, none⟩ (.map (some w2.heap.size))) := (((Keep.refl _ w3).setEq _ _).setEq _ _).setEq _ _
                  have hx1 := blk_setCell (blk_setCell (blk_setCell HB3.out 1 (.slice (some ⟨b1, 0, none⟩) n x1)) 2 (.slice (some ⟨b2, 0, none⟩) n x2)) 3 (.map (some w2.heap.size))
                  have hx2 := hk1.blk ((Keep.ofBelow B3.out (fun _ => False)).blk HQ2.out (fun h => h)) (fun e => by omega)
                  obtain ⟨X, hX⟩ : ∃ X, ((w3.setCell ⟨w.heap.size, 1, none⟩ (.slice (some ⟨b1, 0, none⟩) n x1)).setCell ⟨w.heap.size, 2, none⟩ (.slice (some ⟨b2, 0, none⟩) n x2)).setCell ⟨w.heap.size, 3, none⟩ (.map (some w2.heap.size)) = X := ⟨_, rfl⟩
                  rw [hX] at hk1 hx1 hx2 ⊢
                  simp only [List.setIfInBounds_toArray, List.set_cons_zero, List.set_cons_succ] at hx1
                  have HK1 := Lib.hid hk1
                  have HX2 := Lib.hid hx2
                  have e0 := blk_cell hx1 0
                  have e1 := blk_cell hx1 1
                  have e2 := blk_cell hx1 2
                  have e3 := blk_cell hx1 3
                  have e4 := blk_cell hx1 4
                  have r0 := blk_cell hx2 0
                  have r1 := blk_cell hx2 1
                  have r2 := blk_cell hx2 2
                  have r3 := blk_cell hx2 3
                  have r4 := blk_cell hx2 4
                  have z0 := blk_frozen hx2 0
                  have z1 := blk_frozen hx2 1
                  have z2 := blk_frozen hx2 2
                  have z3 := blk_frozen hx2 3
                  have z4 := blk_frozen hx2 4
                  simp only [List.getElem?_toArray, List.getElem?_cons_zero, List.getElem?_cons_succ] at e0 e1 e2 e3 e4 r0 r1 r2 r3 r4
                  clear hX hk1 hx1 hx2 d1 d2 d3 f1 f2 f3
                  go_wp2
                  refine bodyPost_ret (v := .agg #[.int .i64 root, .slice (some ⟨b1, 0, none⟩) n x1, .slice (some ⟨b2, 0, none⟩) n x2, .map (some w2.heap.size), .bool touched]) (by simp [results, Try.results32, go_sem, r0, r1, r2, r3, r4]; try rfl) rfl ?_
                  have hk2 : Keep (fun i => i = w.heap.size + 1) X (((((X.setCell ⟨w.heap.size + 1, 0, none⟩ (.int .i64 root)).setCell ⟨w.heap.size + 1, 1, none⟩ (.slice (some ⟨b1, 0, none⟩) n x1)).setCell ⟨w.heap.size + 1, 2, none⟩ (.slice (some ⟨b2, 0, none⟩) n x2)).setCell ⟨w.heap.size + 1, 3, none⟩ (.map (some w2.heap.size))).setCell ⟨w.heap.size + 1, 4, none⟩ (.bool touched)) := (((((Keep.refl _ X).setEq _ _).setEq _ _).setEq _ _).setEq _ _).setEq _ _
                  have hk3 : Keep (fun i => i = w.heap.size ∨ i = w.heap.size + 1) w3 _ := (HK1.out.mono (fun i hi => .inl hi)).trans hk2 (fun i hi => .inl (.inr hi))
                  have g1' : W.heap.size ≤ b1 := g1
                  have g2' : W.heap.size ≤ b2 := Nat.le_trans B1.out.size g2
                  have g3' : W.heap.size ≤ w2.heap.size := B2.out.size
                  have hne : b1 ≠ b2 := fun e => by have := T1.out.lt; omega
                  refine ⟨⟨b1, x1, b2, x2, w2.heap.size⟩, rfl, ?_, ?_, ?_⟩
                  · exact { HH.out with
                      t := T3.out.keep hk3 (by omega), h := E3.out.keep hk3 (by omega), f := F3.out.keepB hk3 (by omega) (fun i c z hc => by
                        rintro (rfl | rfl)
                        · rw [HB3.out] at hc; cases hc
                        · rw [(Keep.ofBelow B3.out (fun _ => False)).blk HQ2.out (fun h => h)] at hc; cases hc), ne := hne }
                  · intro i hi
                    have hi' : i = b1 ∨ i = b2 ∨ i = w2.heap.size := hi
                    omega
                  · refine (HB.out.trans (((Below.refl _ W).drew.trans B3.out).mono HB.out.size)).trans (hk3.below (B := w.heap.size) (by have := B3.out.size; have : W.heap.size ≤ w3.heap.size := this; omega) (fun i hi => by omega))
                exact allReadyG_nil
              exact allReadyG_nil
            exact allReadyG_nil
          exact allReadyG_nil
        exact allReadyG_nil
      exact allReadyG_nil
    exact allReadyG_nil
  exact allReadyG_nil
end Go.Proofs.Ytlmngghkhnnaeaa
namespace Go.Proofs.Ytlmngghkhnnaeaa
open Go.RowKit
set_option maxRecDepth 100000
set_option linter.unusedVariables false
set_option linter.unusedSimpArgs false
def frC (t h : List Bool) (p : Nat) : Bool := decide (2 ≤ p) && (!t.getD p false && !h.getD p false)
def frN (t h : List Bool) (j : Nat) : List Nat := (List.range j).filter (frC t h)
theorem frN_succ (t h : List Bool) (j : Nat) : frN t h (j + 1) = if frC t h j = true then frN t h j ++ [j] else frN t h j := by
  unfold frN
  rw [List.range_succ, List.filter_append]
  by_cases hc : frC t h j = true <;> simp [hc]
theorem frN_len (t h : List Bool) (j : Nat) : (frN t h j).length ≤ j := by
  unfold frN
  have := List.length_filter_le (frC t h) (List.range j)
  rwa [List.length_range] at this
theorem free_any (q bt ct bh ch : Nat) (t h : List Bool) (w : World) (hc1 : w.cell? ⟨q, 1, none⟩ = some (.slice (some ⟨bt, 0, none⟩) t.length ct)) (hc2 : w.cell? ⟨q, 2, none⟩ = some (.slice (some ⟨bh, 0, none⟩) h.length ch)) (ht : BR w bt ct t) (hh : BR w bh ch h) (hl : t.length ≤ 4096) (hlo : 2 ≤ t.length) (hth : h.length = t.length) :
    Calls Try.prog 34 #[.pointer (some ⟨q, 0, none⟩)] w fun e w' => ∃ v, e = .returned v ∧ w'.ownsRow w.heap.size 3 1 v (freeL t h).length ((freeL t h).map fun p => .int .i64 (p : Nat)) ∧ Below w.heap.size w w' := by
  obtain ⟨i0, hi, hzz⟩ := Option.map_eq_some_iff.1 iInt
  simp only [Prod.mk.injEq] at hzz
  obtain ⟨hz0, hz1, hz2⟩ := hzz
  have HT := Lib.hid ht
  have HH := Lib.hid hh
  have HTH := Lib.hid hth
  have HI := Lib.hid (And.intro hi (And.intro hz0 (And.intro hz1 hz2)))
  have HC := Lib.hid (And.intro hc1 hc2)
  rw [show freeL t h = frN t h t.length from rfl]
  obtain ⟨n, hn⟩ : ∃ n, n = t.length := ⟨_, rfl⟩
  rw [hth, ← hn] at HC
  rw [← hn] at hl hlo ⊢
  have HN := Lib.hid hn
  clear ht hh hth hi hz0 hz1 hz2 hc1 hc2 hn
  go_enter Try.func34, Try.ntmps34
  go_wp2_with fail
  go_loopw [3, 4] (fun v i wr => ∃ j : Nat, 2 ≤ j ∧ j ≤ n ∧ i = .int .i64 j ∧ Hid (wr.ownsRow w.heap.size 3 1 v (frN t h j).length ((frN t h j).map fun p => .int .i64 (p : Nat))) ∧ Hid (Below w.heap.size w wr)) (fun _ i _ => n - (intOf i).toNat)
  case atStart => exact ⟨2, by omega, by omega, rfl, Lib.hid (World.ownsRow_nil _ _ _ _), Lib.hid (Below.refl _ _)⟩
  case round =>
    obtain ⟨j, hj2, hj, rfl, HO, HB⟩ := hrel
    have hk := Keep.ofBelow HB.out (fun _ => False)
    have d1 := hk.cell HC.out.1 (fun h => h)
    by_cases hlt : j < n
    · have d2 := hk.cell HC.out.2 (fun h => h)
      have hlt' : j < t.length := by rw [← HN.out]; exact hlt
      have a1 := (HT.out.keep hk (fun h => h)).cell (List.getElem?_eq_getElem hlt')
      have hlt2 : j < h.length := by rw [HTH.out]; exact hlt'
      have a2 := (HH.out.keep hk (fun h => h)).cell (List.getElem?_eq_getElem hlt2)
      have hfc : frC t h j = (!t[j] && !h[j]) := by
        unfold frC
        rw [decide_eq_true hj2, Bool.true_and, List.getD_eq_getElem?_getD, List.getD_eq_getElem?_getD, List.getElem?_eq_getElem hlt', List.getElem?_eq_getElem hlt2]; rfl
      have hsn := frN_succ t h j
      have hln := frN_len t h j
      rw [hfc] at hsn
      generalize t[j] = x at a1 hsn
      generalize h[j] = y at a2 hsn
      have HSN := Lib.hid hsn
      obtain ⟨L, hL⟩ : ∃ L, L = frN t h j := ⟨_, rfl⟩
      rw [← hL] at HO HSN hln
      have hcap : L.length + 1 ≤ 5000 := by omega
      have hwr := HB.out.size
      have i1 : (j : Int) < n := by omega
      clear hk hfc hsn hL hlt' hlt2
      cases x with
      | true =>
        go_wp2
        refine ⟨⟨j + 1, by omega, by omega, by simp, Lib.hid ?_, HB⟩, by simp [intOf]; omega⟩
        rw [HSN.out]; exact HO.out
      | false =>
        cases y with
        | true =>
          go_wp2
          refine ⟨⟨j + 1, by omega, by omega, by simp, Lib.hid ?_, HB⟩, by simp [intOf]; omega⟩
          rw [HSN.out]; exact HO.out
        | false =>
          obtain ⟨va, vc, v2⟩ : ∃ a c, u3 = Value.slice a L.length c := by
            rcases HO.out.2 with ⟨rfl, h0⟩ | ⟨g, cap, cur, rfl, _⟩
            · exact ⟨none, 0, by rw [h0]⟩
            · exact ⟨_, _, rfl⟩
          subst v2
          go_wp2_with (at_builtin; go_must (refine wpList_append_own _ rfl _ _ 52 rfl w.heap.size 3 i0 _ 1 8 uInts HI.out.1 HI.out.2.1 HI.out.2.2.1 HI.out.2.2.2 rfl (by decide) (.slice va L.length vc) L.length (L.map fun p => .int .i64 (p : Nat)) rfl (HO.out.alloc _) ⟨wr.heap.size, 0, none⟩ 1 1 [.int .i64 (j : Int)] rfl rfl (by intro k u hku; rw [Go.WideShapes.add_plain, blk_cell (blk_new _ _)]; simpa using hku) (by intro u hu; obtain rfl := List.mem_singleton.1 hu; rfl) (by unfold maxLen; omega) (by omega) (by simp; omega) ?_); intro v1 w1 ho hgr _; have HO1 := Lib.hid ho; have HG := Lib.hid hgr; clear ho hgr)
          refine ⟨⟨j + 1, by omega, by omega, by simp, Lib.hid ?_, Lib.hid ?_⟩, by simp [intOf]; omega⟩
          · rw [HSN.out, if_pos (by decide), List.length_append, List.map_append]; exact HO1.out
          · refine HB.out.trans ((((Below.refl w.heap.size wr).alloc hwr _)).trans ((keep_grown HG.out).below (B := w.heap.size) (by simp; omega) (fun i hi => ?_)))
            rcases HO.out.2 with ⟨h0, _⟩ | ⟨g, cap, cur, h0, hBg, _⟩
            · rw [h0] at hi; cases hi
            · rw [h0] at hi; cases hi; exact hBg
    · obtain rfl : j = n := by omega
      go_wp2
      go_ret
      exact ⟨_, rfl, HO.out, HB.out⟩
end Go.Proofs.Ytlmngghkhnnaeaa
namespace Go.Proofs.Ytlmngghkhnnaeaa
open Go.RowKit
set_option maxRecDepth 100000
set_option linter.unusedVariables false
set_option linter.unusedSimpArgs false
/-- the value of byte k once the first j bools are met -/
def bitV (t : List Bool) (k : Nat) : Nat → Nat
  | 0 => 0
  | j + 1 => if t.getD j false = true ∧ j / 8 = k then bitV t k j ||| 2 ^ (j % 8) else bitV t k j
theorem bitV_succ (t : List Bool) (k j : Nat) : bitV t k (j + 1) = if t.getD j false = true ∧ j / 8 = k then bitV t k j ||| 2 ^ (j % 8) else bitV t k j := rfl
theorem bitV_test (t : List Bool) (k b : Nat) (hb : b < 8) : ∀ j, (bitV t k j).testBit b = (decide (8 * k + b < j) && t.getD (8 * k + b) false)
  | 0 => by simp [bitV]
  | j + 1 => by
    have ih := bitV_test t k b hb j
    unfold bitV
    by_cases hc : t.getD j false = true ∧ j / 8 = k
    · rw [if_pos hc, Nat.testBit_or, ih, Nat.testBit_two_pow]
      by_cases he : 8 * k + b = j
      · rw [he, hc.1, decide_eq_false (Nat.lt_irrefl j), decide_eq_true (Nat.lt_succ_self j), decide_eq_true (show j % 8 = b by omega)]; rfl
      · rw [decide_eq_false (show ¬ j % 8 = b by omega), Bool.or_false]
        congr 1
        by_cases hl : 8 * k + b < j
        · rw [decide_eq_true hl, decide_eq_true (by omega)]
        · rw [decide_eq_false hl, decide_eq_false (by omega)]
    · rw [if_neg hc, ih]
      by_cases he : 8 * k + b = j
      · have : t.getD j false = false := by
          cases hx : t.getD j false with
          | false => rfl
          | true => exact absurd ⟨hx, by omega⟩ hc
        rw [he, this, Bool.and_false, Bool.and_false]
      · congr 1
        by_cases hl : 8 * k + b < j
        · rw [decide_eq_true hl, decide_eq_true (by omega)]
        · rw [decide_eq_false hl, decide_eq_false (by omega)]
theorem bitV_lt (t : List Bool) (k : Nat) : ∀ j, bitV t k j < 256
  | 0 => by simp [bitV]
  | j + 1 => by
    unfold bitV
    split
    · exact Nat.or_lt_two_pow (n := 8) (bitV_lt t k j) (Nat.pow_lt_pow_right (by decide) (by omega))
    · exact bitV_lt t k j
def bitsN (n : Nat) : Nat := (n + 7) / 8
/-- a row of bools as bytes, once the first j are met -/
def bitsJ (t : List Bool) (j : Nat) : ByteArray := ⟨((List.range (bitsN t.length)).map fun k => UInt8.ofNat (bitV t k j)).toArray⟩
def bitsB (t : List Bool) : ByteArray := bitsJ t t.length
theorem bitsJ_size (t : List Bool) (j : Nat) : (bitsJ t j).size = bitsN t.length := by
  unfold bitsJ
  show Array.size _ = _
  simp
theorem bitsJ_cells (t : List Bool) (j : Nat) : Lib.strCells (bitsJ t j) = (List.range (bitsN t.length)).map fun k => .int .u8 (bitV t k j : Nat) := by
  unfold Lib.strCells bitsJ
  simp only [List.map_map]
  apply List.map_congr_left
  intro k _
  have := bitV_lt t k j
  simp [Nat.mod_eq_of_lt this]
theorem bitsJ_zero (t : List Bool) : bitsJ t 0 = zp (bitsN t.length) := by
  apply ba_of_cells
  rw [bitsJ_cells, zp_cells]
  apply List.ext_getElem?
  intro i
  rw [List.getElem?_map, List.getElem?_replicate]
  by_cases h : i < bitsN t.length
  · rw [List.getElem?_range h, if_pos h]; rfl
  · rw [List.getElem?_eq_none (by rw [List.length_range]; omega), if_neg h]; rfl
theorem bitsJ_skip (t : List Bool) (j : Nat) (h : t.getD j false = false) : bitsJ t (j + 1) = bitsJ t j := by
  unfold bitsJ
  have : ∀ k, bitV t k (j + 1) = bitV t k j := fun k => by rw [bitV_succ, if_neg (fun hh => by rw [h] at hh; cases hh.1)]
  simp only [this]
theorem bitsJ_set (t : List Bool) (j : Nat) (hj : j < t.length) (h : t.getD j false = true) : (Lib.strCells (bitsJ t j)).set (j / 8) (.int .u8 ((bitV t (j / 8) j ||| 2 ^ (j % 8) : Nat) : Int)) = Lib.strCells (bitsJ t (j + 1)) := by
  rw [bitsJ_cells, bitsJ_cells]
  apply List.ext_getElem?
  intro k
  rw [List.getElem?_set]
  by_cases hk : k < bitsN t.length
  · rw [List.getElem?_map, List.getElem?_map, List.getElem?_range hk]
    simp only [Option.map_some]
    by_cases e : j / 8 = k
    · subst e
      rw [if_pos rfl, if_pos (by simpa using hk)]
      rw [bitV_succ, if_pos ⟨h, rfl⟩]
    · rw [if_neg e]
      rw [bitV_succ, if_neg (fun hh => e hh.2)]
  · rw [List.getElem?_eq_none (l := (List.range (bitsN t.length)).map _) (by simp; omega), List.getElem?_eq_none (by simp; omega)]
    by_cases e : j / 8 = k
    · exfalso; unfold bitsN at hk; omega
    · rw [if_neg e]
theorem or_bit (y r : Nat) (hy : y < 256) (hr : r < 8) : bits BinOp.or IntKind.u8 (y : Int) (IntKind.u8.wrap (2 ^ r)) = ((y ||| 2 ^ r : Nat) : Int) := by
  have h2 : 2 ^ r < 256 := Nat.pow_lt_pow_right (n := 8) (by decide) hr
  have h3 : IntKind.u8.wrap (2 ^ r) = ((2 ^ r : Nat) : Int) := by
    rw [show (2 : Int) ^ r = ((2 ^ r : Nat) : Int) by simp]
    generalize 2 ^ r = z at h2
    rw [IntKind.wrap_u8]
    omega
  rw [h3, u8_or_nat y (2 ^ r) hy h2]
theorem bits_any (b c : Nat) (t : List Bool) (w : World) (h : BR w b c t) (hl : t.length ≤ 4096) (h0 : 0 < t.length) :
    Calls Try.prog 61 #[.slice (some ⟨b, 0, none⟩) t.length c] w fun e w' => ∃ v, e = .returned v ∧ Own 5 w' w.heap.size v (bitsB t) ∧ Below w.heap.size w w' := by
  obtain ⟨mc, hml, hmk⟩ := mk_bytes (bitsN t.length) (((t.length : Int) + 7) / 8) (by unfold bitsN; omega) (by unfold bitsN; omega)
  have HML := Lib.hid hml
  have HH := Lib.hid h
  obtain ⟨n, hn⟩ : ∃ n, n = t.length := ⟨_, rfl⟩
  have HN := Lib.hid hn
  rw [← hn] at hmk hl h0 ⊢
  clear h hml hn
  go_enter Try.func61, Try.ntmps61
  go_wp2_with fail
  obtain ⟨G, hG⟩ : ∃ G, G = w.heap.size := ⟨_, rfl⟩
  have HG := Lib.hid hG
  have HB0 := Lib.hid (show (w.alloc (.cells mc 5)).heap[G]? = some (.cells (Lib.strCells (bitsJ t 0)).toArray 5 (0, 0)) by rw [hG, blk_new, HML.out, bitsJ_zero])
  rw [← hG]
  clear hG
  go_loopw [13] (fun i wr => ∃ j : Nat, j ≤ n ∧ i = .int .i64 j ∧ Hid (wr.heap[G]? = some (.cells (Lib.strCells (bitsJ t j)).toArray 5 (0, 0))) ∧ Hid (Below w.heap.size w wr)) (fun i _ => n - (intOf i).toNat)
  case atStart => exact ⟨0, by omega, rfl, HB0, Lib.hid ((Below.refl _ _).alloc (Nat.le_refl _) _)⟩
  case round =>
    obtain ⟨j, hj, rfl, HX, HB⟩ := hrel
    by_cases hlt : j < n
    · have hk := Keep.ofBelow HB.out (fun _ => False)
      have hlt' : j < t.length := by rw [← HN.out]; exact hlt
      have a1 := (HH.out.keep hk (fun h => h)).cell (List.getElem?_eq_getElem hlt')
      have hgd : t.getD j false = t[j] := by rw [List.getD_eq_getElem?_getD, List.getElem?_eq_getElem hlt']; rfl
      have i1 : (j : Int) < n := by omega
      have hsk := bitsJ_skip t j
      have hst := bitsJ_set t j hlt'
      rw [hgd] at hsk hst
      generalize t[j] = x at a1 hsk hst
      have HSK := Lib.hid hsk
      have HST := Lib.hid hst
      clear hk hgd hsk hst
      cases x with
      | false =>
        go_wp2
        refine ⟨⟨j + 1, by omega, by simp, Lib.hid ?_, HB⟩, by simp [intOf]; omega⟩
        rw [HSK.out rfl]; exact HX.out
      | true =>
        have hN : j / 8 < bitsN n := by unfold bitsN; omega
        have hcl : (Lib.strCells (bitsJ t j))[j / 8]? = some (.int .u8 ((bitV t (j / 8) j : Nat) : Int)) := by
          rw [bitsJ_cells, List.getElem?_map, List.getElem?_range (by rw [← HN.out]; exact hN)]; rfl
        have C0 := Lib.hid (show wr.drew.cell? ⟨G, j / 8, none⟩ = some (.int .u8 ((bitV t (j / 8) j : Nat) : Int)) by
          show wr.cell? _ = _
          rw [blk_cell HX.out, List.getElem?_toArray, hcl])
        have hf : wr.drew.frozen? ⟨G, j / 8, none⟩ = false := blk_frozen HX.out _
        have c0 := C0.out
        have hv := bitV_lt t (j / 8) j
        obtain ⟨y, hy⟩ : ∃ y, y = bitV t (j / 8) j := ⟨_, rfl⟩
        rw [← hy] at C0 HST hv c0
        obtain ⟨k, hke⟩ : ∃ k, k = j / 8 := ⟨_, rfl⟩
        obtain ⟨r, hre⟩ : ∃ r, r = j % 8 := ⟨_, rfl⟩
        have e1 : (j : Int) / 8 = (k : Int) := by omega
        have e2 : (j : Int) % 8 = (r : Int) := by omega
        have hr8 : r < 8 := by omega
        have e3 : IntKind.i64.wrap (k : Int) = k := by rw [IntKind.wrap_i64]; omega
        have e4 : (j : Int).tmod 8 = (r : Int) := by rw [Int.tmod_eq_emod_of_nonneg (by omega)]; exact e2
        rw [← hke] at C0 HST c0 hf hN
        rw [← hre] at HST
        have i2 : (k : Int) < (bitsN n : Nat) := by omega
        clear hcl hy hlt' hke hre
        go_wp2_with fail
        refine wp_late (S := (fun w' => w'.cell? ⟨G, k, none⟩ = some (.int .u8 (y : Int)))) [10] (by kernel_rfl) ?_ (fun hHeld0 => ?_)
        · (try dsimp only)
          exact C0.out
        refine takeG (v := ?_) 0 rfl (by kernel_rfl) (by kernel_rfl) (by kernel_rfl) (by kernel_rfl) (by kernel_rfl) (fun _ _ _ h => h) (by rfl) ?_ hHeld0 ?_
        rotate_left
        · intro w hSw; (try dsimp only at hSw); go_simp; with_reducible rfl
        try simp only [Act.put, List.setIfInBounds_toArray, List.set_cons_zero, List.set_cons_succ]
        refine takeG (v := ?_) 1 rfl (by kernel_rfl) (by kernel_rfl) (by kernel_rfl) (by kernel_rfl) (by kernel_rfl) (fun _ _ _ h => h) (by rfl) ?_ hHeld0 ?_
        rotate_left
        · intro w hSw; (try dsimp only at hSw); go_simp; with_reducible rfl
        try simp only [Act.put, List.setIfInBounds_toArray, List.set_cons_zero, List.set_cons_succ]
        refine takeG (v := ?_) 2 rfl (by kernel_rfl) (by kernel_rfl) (by kernel_rfl) (by kernel_rfl) (by kernel_rfl) (fun _ _ _ h => h) (by rfl) ?_ hHeld0 ?_
        rotate_left
        · intro w hSw; (try dsimp only at hSw); go_simp; with_reducible rfl
        try simp only [Act.put, List.setIfInBounds_toArray, List.set_cons_zero, List.set_cons_succ]
        refine takeG (v := ?_) 3 rfl (by kernel_rfl) (by kernel_rfl) (by kernel_rfl) (by kernel_rfl) (by kernel_rfl) (fun _ _ _ h => h) (by rfl) ?_ hHeld0 ?_
        rotate_left
        · intro w hSw; (try dsimp only at hSw); go_simp; with_reducible rfl
        try simp only [Act.put, List.setIfInBounds_toArray, List.set_cons_zero, List.set_cons_succ]
        refine takeG (v := ?_) 4 rfl (by kernel_rfl) (by kernel_rfl) (by kernel_rfl) (by kernel_rfl) (by kernel_rfl) (fun _ _ _ h => h) (by rfl) ?_ hHeld0 ?_
        rotate_left
        · intro w hSw; (try dsimp only at hSw); go_simp; with_reducible rfl
        try simp only [Act.put, List.setIfInBounds_toArray, List.set_cons_zero, List.set_cons_succ]
        refine takeG (v := ?_) 5 rfl (by kernel_rfl) (by kernel_rfl) (by kernel_rfl) (by kernel_rfl) (by kernel_rfl) (fun _ _ _ h => h) (by rfl) ?_ hHeld0 ?_
        rotate_left
        · intro w hSw; (try dsimp only at hSw); go_simp; with_reducible rfl
        try simp only [Act.put, List.setIfInBounds_toArray, List.set_cons_zero, List.set_cons_succ]
        refine takeG (v := ?_) 6 rfl (by kernel_rfl) (by kernel_rfl) (by kernel_rfl) (by kernel_rfl) (by kernel_rfl) (fun _ _ _ h => h) (by rfl) ?_ hHeld0 ?_
        rotate_left
        · intro w hSw; (try dsimp only at hSw); go_simp; with_reducible rfl
        try simp only [Act.put, List.setIfInBounds_toArray, List.set_cons_zero, List.set_cons_succ]
        refine takeG (v := ?_) 7 rfl (by kernel_rfl) (by kernel_rfl) (by kernel_rfl) (by kernel_rfl) (by kernel_rfl) (fun _ _ _ h => h) (by rfl) ?_ hHeld0 ?_
        rotate_left
        · intro w hSw; (try dsimp only at hSw); go_simp; with_reducible rfl
        try simp only [Act.put, List.setIfInBounds_toArray, List.set_cons_zero, List.set_cons_succ]
        refine takeG (v := ?_) 8 rfl (by kernel_rfl) (by kernel_rfl) (by kernel_rfl) (by kernel_rfl) (by kernel_rfl) (fun _ _ _ h => h) (by rfl) ?_ hHeld0 ?_
        rotate_left
        · intro w hSw; (try dsimp only at hSw); go_simp; with_reducible rfl
        try simp only [Act.put, List.setIfInBounds_toArray, List.set_cons_zero, List.set_cons_succ]
        refine takeG (v := ?_) 9 rfl (by kernel_rfl) (by kernel_rfl) (by kernel_rfl) (by kernel_rfl) (by kernel_rfl) (fun _ _ _ h => h) (by rfl) ?_ hHeld0 ?_
        rotate_left
        · intro w hSw; (try dsimp only at hSw); go_simp; with_reducible rfl
        try simp only [Act.put, List.setIfInBounds_toArray, List.set_cons_zero, List.set_cons_succ]
        refine wpAnyG_ready (rs := [10]) (by kernel_rfl) (by simp) ?_
        refine lateG rfl (by kernel_rfl) (fun K hK => ?_) ?_
        · -- operation 10
          go_simp
          refine hK.out _ _ ?_
          clear hK K
          try simp only [Act.put, List.setIfInBounds_toArray, List.set_cons_zero, List.set_cons_succ]
          refine wpAnyG_done (by kernel_rfl) ?_ _
          go_wp2
          refine ⟨⟨j + 1, by omega, by simp, Lib.hid ?_, Lib.hid ?_⟩, by simp [intOf]; omega⟩
          · have hob := or_bit y r hv hr8
            rw [IntKind.wrap_u8] at hob
            have := blk_setCell HX.out k (.int .u8 ((y ||| 2 ^ r : Nat) : Int))
            rw [List.setIfInBounds_toArray, HST.out trivial] at this
            rw [hob]
            exact this
          · exact ((HB.out.setCell (p := ⟨G, k, none⟩) (by rw [HG.out]; exact Nat.le_refl _) _)).drew
        exact allReadyG_nil
    · obtain rfl : j = n := by omega
      go_wp2
      go_ret
      have hz := HX.out
      have ho := Own.of_blk (base := w.heap.size) hz (by rw [HG.out]; exact Nat.le_refl _) (by rw [bitsJ_size]; unfold bitsN maxLen; have := HN.out; omega)
      rw [bitsJ_size, ← HN.out] at ho
      exact ⟨_, rfl, by unfold bitsB; rw [← HN.out]; exact ho, HB.out⟩
end Go.Proofs.Ytlmngghkhnnaeaa
