/- cycle.Plan. -/
import Derived.Test.YtidppalhjknlfaaGreatDoorQCy2
import Derived.Deep.DeepCutAuto
namespace Go.Proofs.YtidppalhjknlfaaGreatDoor
open Go.RowKit
set_option maxRecDepth 100000
set_option maxHeartbeats 2000000
set_option linter.unusedVariables false
set_option linter.unusedSimpArgs false
theorem cplan_yes (p b1 b2 m : Nat) (ps : List Pl) (ts : List Tn) (i : Int) (hi : U32 i) (w : World) (h : CB w p b1 b2 ps ts m) (P : Pl) (hf : pfind ps i = some P) :
    Calls Tryz.prog 21 #[sV p, .int .u32 i] w fun e w' => ∃ tv, e = .returned (.tuple #[P.val tv, .int .i64 0]) ∧ GR shT w' tv P.tiers ∧ Below w.heap.size w w' := by
  obtain ⟨now, hM, hC, hS, hm⟩ := h
  have hg : AL.get (nk i) now = some P.enc := by rw [hC.plan i hi, hf]; rfl
  obtain ⟨hPo, hPc⟩ := hC.pok P (pfind_some hf).1
  have hPe : P.enc.size ≤ 1024 := by have := hS.get hg; exact this
  have h0 := hi.1
  have h1 := hi.2
  have tw : IntKind.u64.wrap i = i := by rw [IntKind.wrap_u64]; omega
  have hG := fun (W : World) (kv : Value) (hm : MemIs W p (-1) b1 b2 now []) (hk : BS W kv (nk i)) => get_any p (-1) b1 b2 now [] kv (nk i) W hm hk (fun v hv => by rw [hg] at hv; cases hv; omega)
  rw [hg] at hG
  have na := nil_get p
  have hz := blk_new w (.cells #[.int .u32 0, .int .i64 0, .int .i64 0, .int .i64 0, .int .i64 0, .int .i64 0, .slice none 0 0] 35)
  have hb0 : Below w.heap.size w (w.alloc (.cells #[.int .u32 0, .int .i64 0, .int .i64 0, .int .i64 0, .int .i64 0, .int .i64 0, .slice none 0 0] 35)) := (Below.refl w.heap.size w).alloc (Nat.le_refl _) _
  have HZ := Lib.hid hz
  have HB := Lib.hid hb0
  have HM := Lib.hid (hM.below hb0.drew)
  obtain ⟨W, hW⟩ : ∃ W, W = w.alloc (.cells #[.int .u32 0, .int .i64 0, .int .i64 0, .int .i64 0, .int .i64 0, .int .i64 0, .slice none 0 0] 35) := ⟨_, rfl⟩
  rw [← hW] at HZ HB HM
  have HPG := Lib.hid fun (X : World) (v : Value) (h : BS X v P.enc) => pget_any P hPo hPc v X h
  unfold pV at hG
  unfold sV pV
  unfold Pl.val at HPG ⊢
  have HG := Lib.hid hG
  clear hM hC hS hm hf hg hG hz hb0 hPo hPc
  obtain ⟨n, hn⟩ : ∃ n, n = P.enc.size := ⟨_, rfl⟩
  have HNN := Lib.hid hn
  clear hn hPe
  go_enter Tryz.func21, Tryz.ntmps21
  go_upto_region 1 with fail
  rw [← hW]
  have hws : W.heap.size = w.heap.size + 1 := by rw [hW]; simp
  have HWS := Lib.hid hws
  have U1 := Lib.hid fun e : TypeId => show US (W.drew.alloc (.cells #[.int .u64 i] e)) (.slice (some ⟨W.heap.size, 0, none⟩) 1 1) [i] from US.lit1 W.drew i h0 (by omega) e
  clear hW hws
  go_cut [6, 7, 8] (fun s6 s7 s8 wx => (∃ a c, s6 = .slice a n c) ∧ s7 = .bool true ∧ s8 = .int .i64 0 ∧ Hid (BS wx s6 P.enc) ∧ Hid (Below W.heap.size W wx))
  case first =>
    refine wp_region_held_drew (S := (fun w' => True)) (by kernel_rfl) ?_ (fun hHeld0 => ?_)
    · dsimp only
    refine takeN (v := ?_) 0 rfl (by kernel_rfl) (by kernel_rfl) (by kernel_rfl) (fun _ _ _ h => h) (by rfl) ?_ hHeld0 ?_
    rotate_left
    · intro w hSw; (try dsimp only at hSw); go_simp; with_reducible rfl
    try simp only [Act.put, List.setIfInBounds_toArray, List.set_cons_zero, List.set_cons_succ]
    refine takeN (v := ?_) 1 rfl (by kernel_rfl) (by kernel_rfl) (by kernel_rfl) (fun _ _ _ h => h) (by rfl) ?_ hHeld0 ?_
    rotate_left
    · intro w hSw; (try dsimp only at hSw); go_simp; with_reducible rfl
    try simp only [Act.put, List.setIfInBounds_toArray, List.set_cons_zero, List.set_cons_succ]
    refine takeN (v := ?_) 2 rfl (by kernel_rfl) (by kernel_rfl) (by kernel_rfl) (fun _ _ _ h => h) (by rfl) ?_ hHeld0 ?_
    rotate_left
    · intro w hSw; (try dsimp only at hSw); go_simp; with_reducible rfl
    try simp only [Act.put, List.setIfInBounds_toArray, List.set_cons_zero, List.set_cons_succ]
    refine wpAnyH_ready (rs := [3, 5]) (by kernel_rfl) (by simp) ?_
    refine readyN rfl (fun K hK => ?_) ?_
    · -- operation 3
      go_simp
      refine hK.out _ _ ?_ (fun hHeld1 => ?_)
      · dsimp only
      clear hK K hHeld0
      try simp only [Act.put, List.setIfInBounds_toArray, List.set_cons_zero, List.set_cons_succ]
      refine wpAnyH_ready (rs := [4, 5]) (by kernel_rfl) (by simp) ?_
      refine readyN rfl (fun K hK => ?_) ?_
      · -- operation 4
        go_simp
        first
          | (go_at_call 28; refine (key_any 110 (by decide) (by decide) _ [i] _ (U1.out _) (by simp)).mono ?_; rintro e w4 ⟨v4, rfl, ho, hb⟩
             have HB4 := Lib.hid (show Below W.heap.size W w4 from ((Below.refl W.heap.size W).drew).trans (below_and ((Below.refl _ _).alloc (Nat.le_refl _) _) hb))
             have HO4 := Lib.hid (show BS w4 v4 (nk i) from ho.bs)
             have HM4 := Lib.hid (HM.out.below (w' := w4) (below_and ((Below.refl _ _).alloc (Nat.le_refl _) _) hb))
             clear ho hb)
          | (go_at_call 103; refine (HG.out w4 v4 HM4.out HO4.out).mono ?_; rintro e w5 ⟨v5, rfl, hm, hb⟩
             have hbs := hm.1
             have HV5 := Lib.hid (show BS w5 v5 P.enc from hm.1)
             have HB5 := Lib.hid (HB4.out.trans (hb.mono HB4.out.size))
             have HSH5 := Lib.hid (show ∃ a c, v5 = .slice a n c by rw [HNN.out]; exact HV5.out.len)
             clear hm hb hbs)
        go_wp2_with fail
        refine hK.out _ _ ?_ (fun hHeld2 => ?_)
        · dsimp only
        clear hK K hHeld1
        try simp only [Act.put, List.setIfInBounds_toArray, List.set_cons_zero, List.set_cons_succ]
        refine wpAnyH_ready (rs := [5]) (by kernel_rfl) (by simp) ?_
        refine readyN rfl (fun K hK => ?_) ?_
        · -- operation 5
          go_simp
          refine hK.out _ _ ?_ (fun hHeld3 => ?_)
          · dsimp only
          clear hK K hHeld2
          try simp only [Act.put, List.setIfInBounds_toArray, List.set_cons_zero, List.set_cons_succ]
          refine takeN (v := ?_) 6 rfl (by kernel_rfl) (by kernel_rfl) (by kernel_rfl) (fun _ _ _ h => h) (by rfl) ?_ hHeld3 ?_
          rotate_left
          · intro w hSw; (try dsimp only at hSw); go_simp; with_reducible rfl
          try simp only [Act.put, List.setIfInBounds_toArray, List.set_cons_zero, List.set_cons_succ]
          refine takeN (v := ?_) 7 rfl (by kernel_rfl) (by kernel_rfl) (by kernel_rfl) (fun _ _ _ h => h) (by rfl) ?_ hHeld3 ?_
          rotate_left
          · intro w hSw; (try dsimp only at hSw); go_simp; with_reducible rfl
          try simp only [Act.put, List.setIfInBounds_toArray, List.set_cons_zero, List.set_cons_succ]
          refine wpAnyH_ready (rs := [8]) (by kernel_rfl) (by simp) ?_
          refine readyN rfl (fun K hK => ?_) ?_
          · -- operation 8
            go_simp
            go_wp2_with (
                first
                  | (go_at_call 28; refine (key_any 110 (by decide) (by decide) _ [i] _ (U1.out _) (by simp)).mono ?_; rintro e w4 ⟨v4, rfl, ho, hb⟩
                     have HB4 := Lib.hid (show Below W.heap.size W w4 from ((Below.refl W.heap.size W).drew).trans (below_and ((Below.refl _ _).alloc (Nat.le_refl _) _) hb))
                     have HO4 := Lib.hid (show BS w4 v4 (nk i) from ho.bs)
                     have HM4 := Lib.hid (HM.out.below (w' := w4) (below_and ((Below.refl _ _).alloc (Nat.le_refl _) _) hb))
                     clear ho hb)
                  | (go_at_call 103; refine (HG.out w4 v4 HM4.out HO4.out).mono ?_; rintro e w5 ⟨v5, rfl, hm, hb⟩
                     have hbs := hm.1
                     have HV5 := Lib.hid (show BS w5 v5 P.enc from hm.1)
                     have HB5 := Lib.hid (HB4.out.trans (hb.mono HB4.out.size))
                     have HSH5 := Lib.hid (show ∃ a c, v5 = .slice a n c by rw [HNN.out]; exact HV5.out.len)
                     clear hm hb hbs))
            refine hK.out _ _ ?_ (fun hHeld4 => ?_)
            · dsimp only
            clear hK K hHeld3
            try simp only [Act.put, List.setIfInBounds_toArray, List.set_cons_zero, List.set_cons_succ]
            refine takeN (v := ?_) 9 rfl (by kernel_rfl) (by kernel_rfl) (by kernel_rfl) (fun _ _ _ h => h) (by rfl) ?_ hHeld4 ?_
            rotate_left
            · intro w hSw; (try dsimp only at hSw); go_simp; with_reducible rfl
            try simp only [Act.put, List.setIfInBounds_toArray, List.set_cons_zero, List.set_cons_succ]
            refine takeN (v := ?_) 10 rfl (by kernel_rfl) (by kernel_rfl) (by kernel_rfl) (fun _ _ _ h => h) (by rfl) ?_ hHeld4 ?_
            rotate_left
            · intro w hSw; (try dsimp only at hSw); go_simp; with_reducible rfl
            try simp only [Act.put, List.setIfInBounds_toArray, List.set_cons_zero, List.set_cons_succ]
            refine takeN (v := ?_) 11 rfl (by kernel_rfl) (by kernel_rfl) (by kernel_rfl) (fun _ _ _ h => h) (by rfl) ?_ hHeld4 ?_
            rotate_left
            · intro w hSw; (try dsimp only at hSw); go_simp; with_reducible rfl
            try simp only [Act.put, List.setIfInBounds_toArray, List.set_cons_zero, List.set_cons_succ]
            refine takeN (v := ?_) 12 rfl (by kernel_rfl) (by kernel_rfl) (by kernel_rfl) (fun _ _ _ h => h) (by rfl) ?_ hHeld4 ?_
            rotate_left
            · intro w hSw; (try dsimp only at hSw); go_simp; with_reducible rfl
            try simp only [Act.put, List.setIfInBounds_toArray, List.set_cons_zero, List.set_cons_succ]
            refine takeN (v := ?_) 13 rfl (by kernel_rfl) (by kernel_rfl) (by kernel_rfl) (fun _ _ _ h => h) (by rfl) ?_ hHeld4 ?_
            rotate_left
            · intro w hSw; (try dsimp only at hSw); go_simp; with_reducible rfl
            try simp only [Act.put, List.setIfInBounds_toArray, List.set_cons_zero, List.set_cons_succ]
            refine takeN (v := ?_) 14 rfl (by kernel_rfl) (by kernel_rfl) (by kernel_rfl) (fun _ _ _ h => h) (by rfl) ?_ hHeld4 ?_
            rotate_left
            · intro w hSw; (try dsimp only at hSw); go_simp; with_reducible rfl
            try simp only [Act.put, List.setIfInBounds_toArray, List.set_cons_zero, List.set_cons_succ]
            refine takeN (v := ?_) 15 rfl (by kernel_rfl) (by kernel_rfl) (by kernel_rfl) (fun _ _ _ h => h) (by rfl) ?_ hHeld4 ?_
            rotate_left
            · intro w hSw; (try dsimp only at hSw); go_simp; with_reducible rfl
            try simp only [Act.put, List.setIfInBounds_toArray, List.set_cons_zero, List.set_cons_succ]
            refine wpAnyH_done (by kernel_rfl) ?_ _
            go_wp2_with fail
            go_meet
            exact ⟨HSH5.out, rfl, rfl, HV5, HB5⟩
          exact AllReadyH.nil
        exact AllReadyH.nil
      refine readyN rfl (fun K hK => ?_) ?_
      · -- operation 5
        go_simp
        refine hK.out _ _ ?_ (fun hHeld2 => ?_)
        · dsimp only
        clear hK K hHeld1
        try simp only [Act.put, List.setIfInBounds_toArray, List.set_cons_zero, List.set_cons_succ]
        refine takeN (v := ?_) 6 rfl (by kernel_rfl) (by kernel_rfl) (by kernel_rfl) (fun _ _ _ h => h) (by rfl) ?_ hHeld2 ?_
        rotate_left
        · intro w hSw; (try dsimp only at hSw); go_simp; with_reducible rfl
        try simp only [Act.put, List.setIfInBounds_toArray, List.set_cons_zero, List.set_cons_succ]
        refine takeN (v := ?_) 7 rfl (by kernel_rfl) (by kernel_rfl) (by kernel_rfl) (fun _ _ _ h => h) (by rfl) ?_ hHeld2 ?_
        rotate_left
        · intro w hSw; (try dsimp only at hSw); go_simp; with_reducible rfl
        try simp only [Act.put, List.setIfInBounds_toArray, List.set_cons_zero, List.set_cons_succ]
        refine wpAnyH_ready (rs := [4]) (by kernel_rfl) (by simp) ?_
        refine readyN rfl (fun K hK => ?_) ?_
        · -- operation 4
          go_simp
          first
            | (go_at_call 28; refine (key_any 110 (by decide) (by decide) _ [i] _ (U1.out _) (by simp)).mono ?_; rintro e w4 ⟨v4, rfl, ho, hb⟩
               have HB4 := Lib.hid (show Below W.heap.size W w4 from ((Below.refl W.heap.size W).drew).trans (below_and ((Below.refl _ _).alloc (Nat.le_refl _) _) hb))
               have HO4 := Lib.hid (show BS w4 v4 (nk i) from ho.bs)
               have HM4 := Lib.hid (HM.out.below (w' := w4) (below_and ((Below.refl _ _).alloc (Nat.le_refl _) _) hb))
               clear ho hb)
            | (go_at_call 103; refine (HG.out w4 v4 HM4.out HO4.out).mono ?_; rintro e w5 ⟨v5, rfl, hm, hb⟩
               have hbs := hm.1
               have HV5 := Lib.hid (show BS w5 v5 P.enc from hm.1)
               have HB5 := Lib.hid (HB4.out.trans (hb.mono HB4.out.size))
               have HSH5 := Lib.hid (show ∃ a c, v5 = .slice a n c by rw [HNN.out]; exact HV5.out.len)
               clear hm hb hbs)
          go_wp2_with fail
          refine hK.out _ _ ?_ (fun hHeld3 => ?_)
          · dsimp only
          clear hK K hHeld2
          try simp only [Act.put, List.setIfInBounds_toArray, List.set_cons_zero, List.set_cons_succ]
          refine wpAnyH_ready (rs := [8]) (by kernel_rfl) (by simp) ?_
          refine readyN rfl (fun K hK => ?_) ?_
          · -- operation 8
            go_simp
            go_wp2_with (
                first
                  | (go_at_call 28; refine (key_any 110 (by decide) (by decide) _ [i] _ (U1.out _) (by simp)).mono ?_; rintro e w4 ⟨v4, rfl, ho, hb⟩
                     have HB4 := Lib.hid (show Below W.heap.size W w4 from ((Below.refl W.heap.size W).drew).trans (below_and ((Below.refl _ _).alloc (Nat.le_refl _) _) hb))
                     have HO4 := Lib.hid (show BS w4 v4 (nk i) from ho.bs)
                     have HM4 := Lib.hid (HM.out.below (w' := w4) (below_and ((Below.refl _ _).alloc (Nat.le_refl _) _) hb))
                     clear ho hb)
                  | (go_at_call 103; refine (HG.out w4 v4 HM4.out HO4.out).mono ?_; rintro e w5 ⟨v5, rfl, hm, hb⟩
                     have hbs := hm.1
                     have HV5 := Lib.hid (show BS w5 v5 P.enc from hm.1)
                     have HB5 := Lib.hid (HB4.out.trans (hb.mono HB4.out.size))
                     have HSH5 := Lib.hid (show ∃ a c, v5 = .slice a n c by rw [HNN.out]; exact HV5.out.len)
                     clear hm hb hbs))
            refine hK.out _ _ ?_ (fun hHeld4 => ?_)
            · dsimp only
            clear hK K hHeld3
            try simp only [Act.put, List.setIfInBounds_toArray, List.set_cons_zero, List.set_cons_succ]
            refine takeN (v := ?_) 9 rfl (by kernel_rfl) (by kernel_rfl) (by kernel_rfl) (fun _ _ _ h => h) (by rfl) ?_ hHeld4 ?_
            rotate_left
            · intro w hSw; (try dsimp only at hSw); go_simp; with_reducible rfl
            try simp only [Act.put, List.setIfInBounds_toArray, List.set_cons_zero, List.set_cons_succ]
            refine takeN (v := ?_) 10 rfl (by kernel_rfl) (by kernel_rfl) (by kernel_rfl) (fun _ _ _ h => h) (by rfl) ?_ hHeld4 ?_
            rotate_left
            · intro w hSw; (try dsimp only at hSw); go_simp; with_reducible rfl
            try simp only [Act.put, List.setIfInBounds_toArray, List.set_cons_zero, List.set_cons_succ]
            refine takeN (v := ?_) 11 rfl (by kernel_rfl) (by kernel_rfl) (by kernel_rfl) (fun _ _ _ h => h) (by rfl) ?_ hHeld4 ?_
            rotate_left
            · intro w hSw; (try dsimp only at hSw); go_simp; with_reducible rfl
            try simp only [Act.put, List.setIfInBounds_toArray, List.set_cons_zero, List.set_cons_succ]
            refine takeN (v := ?_) 12 rfl (by kernel_rfl) (by kernel_rfl) (by kernel_rfl) (fun _ _ _ h => h) (by rfl) ?_ hHeld4 ?_
            rotate_left
            · intro w hSw; (try dsimp only at hSw); go_simp; with_reducible rfl
            try simp only [Act.put, List.setIfInBounds_toArray, List.set_cons_zero, List.set_cons_succ]
            refine takeN (v := ?_) 13 rfl (by kernel_rfl) (by kernel_rfl) (by kernel_rfl) (fun _ _ _ h => h) (by rfl) ?_ hHeld4 ?_
            rotate_left
            · intro w hSw; (try dsimp only at hSw); go_simp; with_reducible rfl
            try simp only [Act.put, List.setIfInBounds_toArray, List.set_cons_zero, List.set_cons_succ]
            refine takeN (v := ?_) 14 rfl (by kernel_rfl) (by kernel_rfl) (by kernel_rfl) (fun _ _ _ h => h) (by rfl) ?_ hHeld4 ?_
            rotate_left
            · intro w hSw; (try dsimp only at hSw); go_simp; with_reducible rfl
            try simp only [Act.put, List.setIfInBounds_toArray, List.set_cons_zero, List.set_cons_succ]
            refine takeN (v := ?_) 15 rfl (by kernel_rfl) (by kernel_rfl) (by kernel_rfl) (fun _ _ _ h => h) (by rfl) ?_ hHeld4 ?_
            rotate_left
            · intro w hSw; (try dsimp only at hSw); go_simp; with_reducible rfl
            try simp only [Act.put, List.setIfInBounds_toArray, List.set_cons_zero, List.set_cons_succ]
            refine wpAnyH_done (by kernel_rfl) ?_ _
            go_wp2_with fail
            go_meet
            exact ⟨HSH5.out, rfl, rfl, HV5, HB5⟩
          exact AllReadyH.nil
        exact AllReadyH.nil
      exact AllReadyH.nil
    refine readyN rfl (fun K hK => ?_) ?_
    · -- operation 5
      go_simp
      refine hK.out _ _ ?_ (fun hHeld1 => ?_)
      · dsimp only
      clear hK K hHeld0
      try simp only [Act.put, List.setIfInBounds_toArray, List.set_cons_zero, List.set_cons_succ]
      refine takeN (v := ?_) 6 rfl (by kernel_rfl) (by kernel_rfl) (by kernel_rfl) (fun _ _ _ h => h) (by rfl) ?_ hHeld1 ?_
      rotate_left
      · intro w hSw; (try dsimp only at hSw); go_simp; with_reducible rfl
      try simp only [Act.put, List.setIfInBounds_toArray, List.set_cons_zero, List.set_cons_succ]
      refine takeN (v := ?_) 7 rfl (by kernel_rfl) (by kernel_rfl) (by kernel_rfl) (fun _ _ _ h => h) (by rfl) ?_ hHeld1 ?_
      rotate_left
      · intro w hSw; (try dsimp only at hSw); go_simp; with_reducible rfl
      try simp only [Act.put, List.setIfInBounds_toArray, List.set_cons_zero, List.set_cons_succ]
      refine wpAnyH_ready (rs := [3]) (by kernel_rfl) (by simp) ?_
      refine readyN rfl (fun K hK => ?_) ?_
      · -- operation 3
        go_simp
        refine hK.out _ _ ?_ (fun hHeld2 => ?_)
        · dsimp only
        clear hK K hHeld1
        try simp only [Act.put, List.setIfInBounds_toArray, List.set_cons_zero, List.set_cons_succ]
        refine wpAnyH_ready (rs := [4]) (by kernel_rfl) (by simp) ?_
        refine readyN rfl (fun K hK => ?_) ?_
        · -- operation 4
          go_simp
          first
            | (go_at_call 28; refine (key_any 110 (by decide) (by decide) _ [i] _ (U1.out _) (by simp)).mono ?_; rintro e w4 ⟨v4, rfl, ho, hb⟩
               have HB4 := Lib.hid (show Below W.heap.size W w4 from ((Below.refl W.heap.size W).drew).trans (below_and ((Below.refl _ _).alloc (Nat.le_refl _) _) hb))
               have HO4 := Lib.hid (show BS w4 v4 (nk i) from ho.bs)
               have HM4 := Lib.hid (HM.out.below (w' := w4) (below_and ((Below.refl _ _).alloc (Nat.le_refl _) _) hb))
               clear ho hb)
            | (go_at_call 103; refine (HG.out w4 v4 HM4.out HO4.out).mono ?_; rintro e w5 ⟨v5, rfl, hm, hb⟩
               have hbs := hm.1
               have HV5 := Lib.hid (show BS w5 v5 P.enc from hm.1)
               have HB5 := Lib.hid (HB4.out.trans (hb.mono HB4.out.size))
               have HSH5 := Lib.hid (show ∃ a c, v5 = .slice a n c by rw [HNN.out]; exact HV5.out.len)
               clear hm hb hbs)
          go_wp2_with fail
          refine hK.out _ _ ?_ (fun hHeld3 => ?_)
          · dsimp only
          clear hK K hHeld2
          try simp only [Act.put, List.setIfInBounds_toArray, List.set_cons_zero, List.set_cons_succ]
          refine wpAnyH_ready (rs := [8]) (by kernel_rfl) (by simp) ?_
          refine readyN rfl (fun K hK => ?_) ?_
          · -- operation 8
            go_simp
            go_wp2_with (
                first
                  | (go_at_call 28; refine (key_any 110 (by decide) (by decide) _ [i] _ (U1.out _) (by simp)).mono ?_; rintro e w4 ⟨v4, rfl, ho, hb⟩
                     have HB4 := Lib.hid (show Below W.heap.size W w4 from ((Below.refl W.heap.size W).drew).trans (below_and ((Below.refl _ _).alloc (Nat.le_refl _) _) hb))
                     have HO4 := Lib.hid (show BS w4 v4 (nk i) from ho.bs)
                     have HM4 := Lib.hid (HM.out.below (w' := w4) (below_and ((Below.refl _ _).alloc (Nat.le_refl _) _) hb))
                     clear ho hb)
                  | (go_at_call 103; refine (HG.out w4 v4 HM4.out HO4.out).mono ?_; rintro e w5 ⟨v5, rfl, hm, hb⟩
                     have hbs := hm.1
                     have HV5 := Lib.hid (show BS w5 v5 P.enc from hm.1)
                     have HB5 := Lib.hid (HB4.out.trans (hb.mono HB4.out.size))
                     have HSH5 := Lib.hid (show ∃ a c, v5 = .slice a n c by rw [HNN.out]; exact HV5.out.len)
                     clear hm hb hbs))
            refine hK.out _ _ ?_ (fun hHeld4 => ?_)
            · dsimp only
            clear hK K hHeld3
            try simp only [Act.put, List.setIfInBounds_toArray, List.set_cons_zero, List.set_cons_succ]
            refine takeN (v := ?_) 9 rfl (by kernel_rfl) (by kernel_rfl) (by kernel_rfl) (fun _ _ _ h => h) (by rfl) ?_ hHeld4 ?_
            rotate_left
            · intro w hSw; (try dsimp only at hSw); go_simp; with_reducible rfl
            try simp only [Act.put, List.setIfInBounds_toArray, List.set_cons_zero, List.set_cons_succ]
            refine takeN (v := ?_) 10 rfl (by kernel_rfl) (by kernel_rfl) (by kernel_rfl) (fun _ _ _ h => h) (by rfl) ?_ hHeld4 ?_
            rotate_left
            · intro w hSw; (try dsimp only at hSw); go_simp; with_reducible rfl
            try simp only [Act.put, List.setIfInBounds_toArray, List.set_cons_zero, List.set_cons_succ]
            refine takeN (v := ?_) 11 rfl (by kernel_rfl) (by kernel_rfl) (by kernel_rfl) (fun _ _ _ h => h) (by rfl) ?_ hHeld4 ?_
            rotate_left
            · intro w hSw; (try dsimp only at hSw); go_simp; with_reducible rfl
            try simp only [Act.put, List.setIfInBounds_toArray, List.set_cons_zero, List.set_cons_succ]
            refine takeN (v := ?_) 12 rfl (by kernel_rfl) (by kernel_rfl) (by kernel_rfl) (fun _ _ _ h => h) (by rfl) ?_ hHeld4 ?_
            rotate_left
            · intro w hSw; (try dsimp only at hSw); go_simp; with_reducible rfl
            try simp only [Act.put, List.setIfInBounds_toArray, List.set_cons_zero, List.set_cons_succ]
            refine takeN (v := ?_) 13 rfl (by kernel_rfl) (by kernel_rfl) (by kernel_rfl) (fun _ _ _ h => h) (by rfl) ?_ hHeld4 ?_
            rotate_left
            · intro w hSw; (try dsimp only at hSw); go_simp; with_reducible rfl
            try simp only [Act.put, List.setIfInBounds_toArray, List.set_cons_zero, List.set_cons_succ]
            refine takeN (v := ?_) 14 rfl (by kernel_rfl) (by kernel_rfl) (by kernel_rfl) (fun _ _ _ h => h) (by rfl) ?_ hHeld4 ?_
            rotate_left
            · intro w hSw; (try dsimp only at hSw); go_simp; with_reducible rfl
            try simp only [Act.put, List.setIfInBounds_toArray, List.set_cons_zero, List.set_cons_succ]
            refine takeN (v := ?_) 15 rfl (by kernel_rfl) (by kernel_rfl) (by kernel_rfl) (fun _ _ _ h => h) (by rfl) ?_ hHeld4 ?_
            rotate_left
            · intro w hSw; (try dsimp only at hSw); go_simp; with_reducible rfl
            try simp only [Act.put, List.setIfInBounds_toArray, List.set_cons_zero, List.set_cons_succ]
            refine wpAnyH_done (by kernel_rfl) ?_ _
            go_wp2_with fail
            go_meet
            exact ⟨HSH5.out, rfl, rfl, HV5, HB5⟩
          exact AllReadyH.nil
        exact AllReadyH.nil
      exact AllReadyH.nil
    exact AllReadyH.nil
  case rest =>
    obtain ⟨⟨a5, c5, rfl⟩, rfl, rfl, HV5, HB5⟩ := hcut
    go_wp2_with fail
    refine (HPG.out _ _ HV5.out).mono ?_
    rintro e w6 ⟨tv, rfl, hgr, hlow, hb⟩
    obtain ⟨ta, tc, rfl, _, _, _⟩ := hgr.shape
    have HGR := Lib.hid hgr
    have HLOW := Lib.hid hlow
    have hs5 := HB5.out.size
    have HB6 := Lib.hid (HB5.out.trans (hb.mono HB5.out.size))
    clear hgr hb HPG hlow
    go_upto_region 9 with fail
    obtain ⟨W7, hW7⟩ : ∃ W7, W7 = w6.alloc (.cells #[.int .u32 P.id, .int .i64 P.daily, .int .i64 P.monthly, .int .i64 P.over, .int .i64 P.roll, .int .i64 P.base, .slice ta P.tiers.length tc] 35) := ⟨_, rfl⟩
    rw [← hW7]
    have hb7 : Below w6.heap.size w6 W7 := by rw [hW7]; exact (Below.refl _ _).alloc (Nat.le_refl _) _
    have q7 : W7.heap[w6.heap.size]? = some (.cells #[.int .u32 P.id, .int .i64 P.daily, .int .i64 P.monthly, .int .i64 P.over, .int .i64 P.roll, .int .i64 P.base, .slice ta P.tiers.length tc] 35 (0, 0)) := by rw [hW7]; exact blk_new _ _
    have hs6 := HB6.out.size
    have z7 := (Keep.ofBelow hb7 (fun _ => False)).blk ((Keep.ofBelow HB6.out (fun _ => False)).blk HZ.out (fun h => h)) (fun h => h)
    have q00 : W7.cell? ⟨w6.heap.size, 0, none⟩ = some (.int .u32 P.id) := blk_cell q7 0
    have q10 : W7.cell? ⟨w6.heap.size, 1, none⟩ = some (.int .i64 P.daily) := blk_cell q7 1
    have q20 : W7.cell? ⟨w6.heap.size, 2, none⟩ = some (.int .i64 P.monthly) := blk_cell q7 2
    have q30 : W7.cell? ⟨w6.heap.size, 3, none⟩ = some (.int .i64 P.over) := blk_cell q7 3
    have q40 : W7.cell? ⟨w6.heap.size, 4, none⟩ = some (.int .i64 P.roll) := blk_cell q7 4
    have q50 : W7.cell? ⟨w6.heap.size, 5, none⟩ = some (.int .i64 P.base) := blk_cell q7 5
    have q60 : W7.cell? ⟨w6.heap.size, 6, none⟩ = some (.slice ta P.tiers.length tc) := blk_cell q7 6
    have k0 := blk_cell z7 0
    have f0 := blk_frozen z7 0
    have k1 := blk_cell z7 1
    have f1 := blk_frozen z7 1
    have k2 := blk_cell z7 2
    have f2 := blk_frozen z7 2
    have k3 := blk_cell z7 3
    have f3 := blk_frozen z7 3
    have k4 := blk_cell z7 4
    have f4 := blk_frozen z7 4
    have k5 := blk_cell z7 5
    have f5 := blk_frozen z7 5
    have k6 := blk_cell z7 6
    have f6 := blk_frozen z7 6
    have HZ7 := Lib.hid z7
    have HB7 := Lib.hid hb7
    clear z7 q7 hb7 hW7
    go_wp2
    obtain ⟨h9, hk9⟩ := set7 (x0 := .int .u32 P.id) (x1 := .int .i64 P.daily) (x2 := .int .i64 P.monthly) (x3 := .int .i64 P.over) (x4 := .int .i64 P.roll) (x5 := .int .i64 P.base) (x6 := .slice ta P.tiers.length tc) HZ7.out
    generalize (((((((W7.setCell ⟨w.heap.size, 0, none⟩ (.int .u32 P.id)).setCell ⟨w.heap.size, 1, none⟩ (.int .i64 P.daily)).setCell ⟨w.heap.size, 2, none⟩ (.int .i64 P.monthly)).setCell ⟨w.heap.size, 3, none⟩ (.int .i64 P.over)).setCell ⟨w.heap.size, 4, none⟩ (.int .i64 P.roll)).setCell ⟨w.heap.size, 5, none⟩ (.int .i64 P.base)).setCell ⟨w.heap.size, 6, none⟩ (.slice ta P.tiers.length tc)) = W9 at h9 hk9 ⊢
    have x0 : W9.cell? ⟨w.heap.size, 0, none⟩ = some (.int .u32 P.id) := blk_cell h9 0
    have x1 : W9.cell? ⟨w.heap.size, 1, none⟩ = some (.int .i64 P.daily) := blk_cell h9 1
    have x2 : W9.cell? ⟨w.heap.size, 2, none⟩ = some (.int .i64 P.monthly) := blk_cell h9 2
    have x3 : W9.cell? ⟨w.heap.size, 3, none⟩ = some (.int .i64 P.over) := blk_cell h9 3
    have x4 : W9.cell? ⟨w.heap.size, 4, none⟩ = some (.int .i64 P.roll) := blk_cell h9 4
    have x5 : W9.cell? ⟨w.heap.size, 5, none⟩ = some (.int .i64 P.base) := blk_cell h9 5
    have x6 : W9.cell? ⟨w.heap.size, 6, none⟩ = some (.slice ta P.tiers.length tc) := blk_cell h9 6
    refine bodyPost_ret (by simp [results, Tryz.results21, go_sem, x0, x1, x2, x3, x4, x5, x6]; try rfl) rfl ?_
    have hws := HWS.out
    have hB7 : Below w.heap.size w W7 := (HB.out.trans (HB6.out.mono (by omega))).trans (HB7.out.mono (by omega))
    refine ⟨_, rfl, (HGR.out.below HB7.out).keep hk9 (fun hne k hk e => ?_), hB7.trans (hk9.below (B := w.heap.size) hB7.size (fun i hi => by omega))⟩
    have := HLOW.out k hk
    omega
end Go.Proofs.YtidppalhjknlfaaGreatDoor
