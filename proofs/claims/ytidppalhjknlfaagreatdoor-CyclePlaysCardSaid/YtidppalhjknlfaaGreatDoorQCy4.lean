/- cycle.Tenant. -/
import Derived.Test.YtidppalhjknlfaaGreatDoorQCy2
import Derived.Deep.DeepCutAuto
namespace Go.Proofs.YtidppalhjknlfaaGreatDoor
open Go.RowKit
set_option maxRecDepth 100000
set_option maxHeartbeats 2000000
set_option linter.unusedVariables false
set_option linter.unusedSimpArgs false
theorem cten_no (p b1 b2 m : Nat) (ps : List Pl) (ts : List Tn) (t : Int) (ht : U32 t) (w : World) (h : CB w p b1 b2 ps ts m) (hf : tfind ts t = none) :
    Calls Tryz.prog 19 #[sV p, .int .u32 t] w fun e w' => e = .returned (.tuple #[.int .i64 0, .int .i64 0, .int .i64 4]) ∧ Below w.heap.size w w' := by
  obtain ⟨now, hM, hC, hS, hm⟩ := h
  have hg : AL.get (tk t) now = none := by rw [hC.ten t ht, hf]; rfl
  have h0 := ht.1
  have h1 := ht.2
  have tw : IntKind.u64.wrap t = t := by rw [IntKind.wrap_u64]; omega
  have hG := fun (W : World) (kv : Value) (hm : MemIs W p (-1) b1 b2 now []) (hk : BS W kv (tk t)) => get_any p (-1) b1 b2 now [] kv (tk t) W hm hk (fun v hv => by rw [hg] at hv; cases hv)
  rw [hg] at hG
  have na := nil_get p
  have HM := Lib.hid (show MemIs w.drew p (-1) b1 b2 now [] from hM.below (Below.refl _ _).drew)
  have U1 := Lib.hid fun e : TypeId => show US (w.drew.alloc (.cells #[.int .u64 t] e)) (.slice (some ⟨w.heap.size, 0, none⟩) 1 1) [t] from US.lit1 w.drew t h0 (by omega) e
  unfold sV at *
  unfold pV at hG ⊢
  have HG := Lib.hid hG
  clear hM hC hS hm hf hg hG
  go_enter Tryz.func19, Tryz.ntmps19
  go_upto_region 1 with fail
  go_cut [7, 8, 9] (fun s7 s8 s9 wx => s8 = .bool false ∧ s9 = .int .i64 0 ∧ Hid (Below w.heap.size w wx))
  case first =>
    refine wp_region_held_drew (S := (fun w' => True)) (by kernel_rfl) ?_ (fun hHeld0 => ?_)
    · dsimp only
    refine takeN (v := ?_) 0 rfl (by kernel_rfl) (by kernel_rfl) (by kernel_rfl) (fun _ _ _ h => h) (by rfl) ?_ hHeld0 ?_
    rotate_left
    · intro w hSw; (try dsimp only at hSw); go_simp; with_reducible rfl
    try simp only [Act.put, List.setIfInBounds_toArray, List.set_cons_zero, List.set_cons_succ]
    refine takeN (v := ?_) 1 rfl (by kernel_rfl) (by kernel_rfl) (by kernel_rfl) (fun _ _ _ h => h) (by rfl) ?_ hHeld0 ?_
    rotate_left
    · intro w hSw; (try dsimp only at hSw); go_simp; with_reducible rfl
    try simp only [Act.put, List.setIfInBounds_toArray, List.set_cons_zero, List.set_cons_succ]
    refine takeN (v := ?_) 2 rfl (by kernel_rfl) (by kernel_rfl) (by kernel_rfl) (fun _ _ _ h => h) (by rfl) ?_ hHeld0 ?_
    rotate_left
    · intro w hSw; (try dsimp only at hSw); go_simp; with_reducible rfl
    try simp only [Act.put, List.setIfInBounds_toArray, List.set_cons_zero, List.set_cons_succ]
    refine wpAnyH_ready (rs := [3, 5]) (by kernel_rfl) (by simp) ?_
    refine readyN rfl (fun K hK => ?_) ?_
    · -- operation 3
      go_simp
      refine hK.out _ _ ?_ (fun hHeld1 => ?_)
      · dsimp only
      clear hK K hHeld0
      try simp only [Act.put, List.setIfInBounds_toArray, List.set_cons_zero, List.set_cons_succ]
      refine wpAnyH_ready (rs := [4, 5]) (by kernel_rfl) (by simp) ?_
      refine readyN rfl (fun K hK => ?_) ?_
      · -- operation 4
        go_simp
        first
          | (go_at_call 28; refine (key_any 116 (by decide) (by decide) _ [t] _ (U1.out _) (by simp)).mono ?_; rintro e w4 ⟨v4, rfl, ho, hb⟩
             have HB4 := Lib.hid (show Below w.heap.size w w4 from ((Below.refl w.heap.size w).drew).trans (below_and ((Below.refl _ _).alloc (Nat.le_refl _) _) hb))
             have HO4 := Lib.hid (show BS w4 v4 (tk t) from ho.bs)
             have HM4 := Lib.hid (HM.out.below (w' := w4) (below_and ((Below.refl _ _).alloc (Nat.le_refl _) _) hb))
             clear ho hb)
          | (go_at_call 103; refine (HG.out w4 v4 HM4.out HO4.out).mono ?_; rintro e w5 ⟨v5, rfl, hm, hb⟩
             have HB5 := Lib.hid (HB4.out.trans (hb.mono HB4.out.size))
             clear hm hb)
        go_wp2_with fail
        refine hK.out _ _ ?_ (fun hHeld2 => ?_)
        · dsimp only
        clear hK K hHeld1
        try simp only [Act.put, List.setIfInBounds_toArray, List.set_cons_zero, List.set_cons_succ]
        refine wpAnyH_ready (rs := [5]) (by kernel_rfl) (by simp) ?_
        refine readyN rfl (fun K hK => ?_) ?_
        · -- operation 5
          go_simp
          refine hK.out _ _ ?_ (fun hHeld3 => ?_)
          · dsimp only
          clear hK K hHeld2
          try simp only [Act.put, List.setIfInBounds_toArray, List.set_cons_zero, List.set_cons_succ]
          refine takeN (v := ?_) 6 rfl (by kernel_rfl) (by kernel_rfl) (by kernel_rfl) (fun _ _ _ h => h) (by rfl) ?_ hHeld3 ?_
          rotate_left
          · intro w hSw; (try dsimp only at hSw); go_simp; with_reducible rfl
          try simp only [Act.put, List.setIfInBounds_toArray, List.set_cons_zero, List.set_cons_succ]
          refine takeN (v := ?_) 7 rfl (by kernel_rfl) (by kernel_rfl) (by kernel_rfl) (fun _ _ _ h => h) (by rfl) ?_ hHeld3 ?_
          rotate_left
          · intro w hSw; (try dsimp only at hSw); go_simp; with_reducible rfl
          try simp only [Act.put, List.setIfInBounds_toArray, List.set_cons_zero, List.set_cons_succ]
          refine wpAnyH_ready (rs := [8]) (by kernel_rfl) (by simp) ?_
          refine readyN rfl (fun K hK => ?_) ?_
          · -- operation 8
            go_simp
            go_wp2_with (
                first
                  | (go_at_call 28; refine (key_any 116 (by decide) (by decide) _ [t] _ (U1.out _) (by simp)).mono ?_; rintro e w4 ⟨v4, rfl, ho, hb⟩
                     have HB4 := Lib.hid (show Below w.heap.size w w4 from ((Below.refl w.heap.size w).drew).trans (below_and ((Below.refl _ _).alloc (Nat.le_refl _) _) hb))
                     have HO4 := Lib.hid (show BS w4 v4 (tk t) from ho.bs)
                     have HM4 := Lib.hid (HM.out.below (w' := w4) (below_and ((Below.refl _ _).alloc (Nat.le_refl _) _) hb))
                     clear ho hb)
                  | (go_at_call 103; refine (HG.out w4 v4 HM4.out HO4.out).mono ?_; rintro e w5 ⟨v5, rfl, hm, hb⟩
                     have HB5 := Lib.hid (HB4.out.trans (hb.mono HB4.out.size))
                     clear hm hb))
            refine hK.out _ _ ?_ (fun hHeld4 => ?_)
            · dsimp only
            clear hK K hHeld3
            try simp only [Act.put, List.setIfInBounds_toArray, List.set_cons_zero, List.set_cons_succ]
            refine takeN (v := ?_) 9 rfl (by kernel_rfl) (by kernel_rfl) (by kernel_rfl) (fun _ _ _ h => h) (by rfl) ?_ hHeld4 ?_
            rotate_left
            · intro w hSw; (try dsimp only at hSw); go_simp; with_reducible rfl
            try simp only [Act.put, List.setIfInBounds_toArray, List.set_cons_zero, List.set_cons_succ]
            refine takeN (v := ?_) 10 rfl (by kernel_rfl) (by kernel_rfl) (by kernel_rfl) (fun _ _ _ h => h) (by rfl) ?_ hHeld4 ?_
            rotate_left
            · intro w hSw; (try dsimp only at hSw); go_simp; with_reducible rfl
            try simp only [Act.put, List.setIfInBounds_toArray, List.set_cons_zero, List.set_cons_succ]
            refine takeN (v := ?_) 11 rfl (by kernel_rfl) (by kernel_rfl) (by kernel_rfl) (fun _ _ _ h => h) (by rfl) ?_ hHeld4 ?_
            rotate_left
            · intro w hSw; (try dsimp only at hSw); go_simp; with_reducible rfl
            try simp only [Act.put, List.setIfInBounds_toArray, List.set_cons_zero, List.set_cons_succ]
            refine takeN (v := ?_) 12 rfl (by kernel_rfl) (by kernel_rfl) (by kernel_rfl) (fun _ _ _ h => h) (by rfl) ?_ hHeld4 ?_
            rotate_left
            · intro w hSw; (try dsimp only at hSw); go_simp; with_reducible rfl
            try simp only [Act.put, List.setIfInBounds_toArray, List.set_cons_zero, List.set_cons_succ]
            refine takeN (v := ?_) 13 rfl (by kernel_rfl) (by kernel_rfl) (by kernel_rfl) (fun _ _ _ h => h) (by rfl) ?_ hHeld4 ?_
            rotate_left
            · intro w hSw; (try dsimp only at hSw); go_simp; with_reducible rfl
            try simp only [Act.put, List.setIfInBounds_toArray, List.set_cons_zero, List.set_cons_succ]
            refine takeN (v := ?_) 14 rfl (by kernel_rfl) (by kernel_rfl) (by kernel_rfl) (fun _ _ _ h => h) (by rfl) ?_ hHeld4 ?_
            rotate_left
            · intro w hSw; (try dsimp only at hSw); go_simp; with_reducible rfl
            try simp only [Act.put, List.setIfInBounds_toArray, List.set_cons_zero, List.set_cons_succ]
            refine takeN (v := ?_) 15 rfl (by kernel_rfl) (by kernel_rfl) (by kernel_rfl) (fun _ _ _ h => h) (by rfl) ?_ hHeld4 ?_
            rotate_left
            · intro w hSw; (try dsimp only at hSw); go_simp; with_reducible rfl
            try simp only [Act.put, List.setIfInBounds_toArray, List.set_cons_zero, List.set_cons_succ]
            refine wpAnyH_done (by kernel_rfl) ?_ _
            go_wp2_with fail
            go_meet
            exact ⟨rfl, rfl, HB5⟩
          exact AllReadyH.nil
        exact AllReadyH.nil
      refine readyN rfl (fun K hK => ?_) ?_
      · -- operation 5
        go_simp
        refine hK.out _ _ ?_ (fun hHeld2 => ?_)
        · dsimp only
        clear hK K hHeld1
        try simp only [Act.put, List.setIfInBounds_toArray, List.set_cons_zero, List.set_cons_succ]
        refine takeN (v := ?_) 6 rfl (by kernel_rfl) (by kernel_rfl) (by kernel_rfl) (fun _ _ _ h => h) (by rfl) ?_ hHeld2 ?_
        rotate_left
        · intro w hSw; (try dsimp only at hSw); go_simp; with_reducible rfl
        try simp only [Act.put, List.setIfInBounds_toArray, List.set_cons_zero, List.set_cons_succ]
        refine takeN (v := ?_) 7 rfl (by kernel_rfl) (by kernel_rfl) (by kernel_rfl) (fun _ _ _ h => h) (by rfl) ?_ hHeld2 ?_
        rotate_left
        · intro w hSw; (try dsimp only at hSw); go_simp; with_reducible rfl
        try simp only [Act.put, List.setIfInBounds_toArray, List.set_cons_zero, List.set_cons_succ]
        refine wpAnyH_ready (rs := [4]) (by kernel_rfl) (by simp) ?_
        refine readyN rfl (fun K hK => ?_) ?_
        · -- operation 4
          go_simp
          first
            | (go_at_call 28; refine (key_any 116 (by decide) (by decide) _ [t] _ (U1.out _) (by simp)).mono ?_; rintro e w4 ⟨v4, rfl, ho, hb⟩
               have HB4 := Lib.hid (show Below w.heap.size w w4 from ((Below.refl w.heap.size w).drew).trans (below_and ((Below.refl _ _).alloc (Nat.le_refl _) _) hb))
               have HO4 := Lib.hid (show BS w4 v4 (tk t) from ho.bs)
               have HM4 := Lib.hid (HM.out.below (w' := w4) (below_and ((Below.refl _ _).alloc (Nat.le_refl _) _) hb))
               clear ho hb)
            | (go_at_call 103; refine (HG.out w4 v4 HM4.out HO4.out).mono ?_; rintro e w5 ⟨v5, rfl, hm, hb⟩
               have HB5 := Lib.hid (HB4.out.trans (hb.mono HB4.out.size))
               clear hm hb)
          go_wp2_with fail
          refine hK.out _ _ ?_ (fun hHeld3 => ?_)
          · dsimp only
          clear hK K hHeld2
          try simp only [Act.put, List.setIfInBounds_toArray, List.set_cons_zero, List.set_cons_succ]
          refine wpAnyH_ready (rs := [8]) (by kernel_rfl) (by simp) ?_
          refine readyN rfl (fun K hK => ?_) ?_
          · -- operation 8
            go_simp
            go_wp2_with (
                first
                  | (go_at_call 28; refine (key_any 116 (by decide) (by decide) _ [t] _ (U1.out _) (by simp)).mono ?_; rintro e w4 ⟨v4, rfl, ho, hb⟩
                     have HB4 := Lib.hid (show Below w.heap.size w w4 from ((Below.refl w.heap.size w).drew).trans (below_and ((Below.refl _ _).alloc (Nat.le_refl _) _) hb))
                     have HO4 := Lib.hid (show BS w4 v4 (tk t) from ho.bs)
                     have HM4 := Lib.hid (HM.out.below (w' := w4) (below_and ((Below.refl _ _).alloc (Nat.le_refl _) _) hb))
                     clear ho hb)
                  | (go_at_call 103; refine (HG.out w4 v4 HM4.out HO4.out).mono ?_; rintro e w5 ⟨v5, rfl, hm, hb⟩
                     have HB5 := Lib.hid (HB4.out.trans (hb.mono HB4.out.size))
                     clear hm hb))
            refine hK.out _ _ ?_ (fun hHeld4 => ?_)
            · dsimp only
            clear hK K hHeld3
            try simp only [Act.put, List.setIfInBounds_toArray, List.set_cons_zero, List.set_cons_succ]
            refine takeN (v := ?_) 9 rfl (by kernel_rfl) (by kernel_rfl) (by kernel_rfl) (fun _ _ _ h => h) (by rfl) ?_ hHeld4 ?_
            rotate_left
            · intro w hSw; (try dsimp only at hSw); go_simp; with_reducible rfl
            try simp only [Act.put, List.setIfInBounds_toArray, List.set_cons_zero, List.set_cons_succ]
            refine takeN (v := ?_) 10 rfl (by kernel_rfl) (by kernel_rfl) (by kernel_rfl) (fun _ _ _ h => h) (by rfl) ?_ hHeld4 ?_
            rotate_left
            · intro w hSw; (try dsimp only at hSw); go_simp; with_reducible rfl
            try simp only [Act.put, List.setIfInBounds_toArray, List.set_cons_zero, List.set_cons_succ]
            refine takeN (v := ?_) 11 rfl (by kernel_rfl) (by kernel_rfl) (by kernel_rfl) (fun _ _ _ h => h) (by rfl) ?_ hHeld4 ?_
            rotate_left
            · intro w hSw; (try dsimp only at hSw); go_simp; with_reducible rfl
            try simp only [Act.put, List.setIfInBounds_toArray, List.set_cons_zero, List.set_cons_succ]
            refine takeN (v := ?_) 12 rfl (by kernel_rfl) (by kernel_rfl) (by kernel_rfl) (fun _ _ _ h => h) (by rfl) ?_ hHeld4 ?_
            rotate_left
            · intro w hSw; (try dsimp only at hSw); go_simp; with_reducible rfl
            try simp only [Act.put, List.setIfInBounds_toArray, List.set_cons_zero, List.set_cons_succ]
            refine takeN (v := ?_) 13 rfl (by kernel_rfl) (by kernel_rfl) (by kernel_rfl) (fun _ _ _ h => h) (by rfl) ?_ hHeld4 ?_
            rotate_left
            · intro w hSw; (try dsimp only at hSw); go_simp; with_reducible rfl
            try simp only [Act.put, List.setIfInBounds_toArray, List.set_cons_zero, List.set_cons_succ]
            refine takeN (v := ?_) 14 rfl (by kernel_rfl) (by kernel_rfl) (by kernel_rfl) (fun _ _ _ h => h) (by rfl) ?_ hHeld4 ?_
            rotate_left
            · intro w hSw; (try dsimp only at hSw); go_simp; with_reducible rfl
            try simp only [Act.put, List.setIfInBounds_toArray, List.set_cons_zero, List.set_cons_succ]
            refine takeN (v := ?_) 15 rfl (by kernel_rfl) (by kernel_rfl) (by kernel_rfl) (fun _ _ _ h => h) (by rfl) ?_ hHeld4 ?_
            rotate_left
            · intro w hSw; (try dsimp only at hSw); go_simp; with_reducible rfl
            try simp only [Act.put, List.setIfInBounds_toArray, List.set_cons_zero, List.set_cons_succ]
            refine wpAnyH_done (by kernel_rfl) ?_ _
            go_wp2_with fail
            go_meet
            exact ⟨rfl, rfl, HB5⟩
          exact AllReadyH.nil
        exact AllReadyH.nil
      exact AllReadyH.nil
    refine readyN rfl (fun K hK => ?_) ?_
    · -- operation 5
      go_simp
      refine hK.out _ _ ?_ (fun hHeld1 => ?_)
      · dsimp only
      clear hK K hHeld0
      try simp only [Act.put, List.setIfInBounds_toArray, List.set_cons_zero, List.set_cons_succ]
      refine takeN (v := ?_) 6 rfl (by kernel_rfl) (by kernel_rfl) (by kernel_rfl) (fun _ _ _ h => h) (by rfl) ?_ hHeld1 ?_
      rotate_left
      · intro w hSw; (try dsimp only at hSw); go_simp; with_reducible rfl
      try simp only [Act.put, List.setIfInBounds_toArray, List.set_cons_zero, List.set_cons_succ]
      refine takeN (v := ?_) 7 rfl (by kernel_rfl) (by kernel_rfl) (by kernel_rfl) (fun _ _ _ h => h) (by rfl) ?_ hHeld1 ?_
      rotate_left
      · intro w hSw; (try dsimp only at hSw); go_simp; with_reducible rfl
      try simp only [Act.put, List.setIfInBounds_toArray, List.set_cons_zero, List.set_cons_succ]
      refine wpAnyH_ready (rs := [3]) (by kernel_rfl) (by simp) ?_
      refine readyN rfl (fun K hK => ?_) ?_
      · -- operation 3
        go_simp
        refine hK.out _ _ ?_ (fun hHeld2 => ?_)
        · dsimp only
        clear hK K hHeld1
        try simp only [Act.put, List.setIfInBounds_toArray, List.set_cons_zero, List.set_cons_succ]
        refine wpAnyH_ready (rs := [4]) (by kernel_rfl) (by simp) ?_
        refine readyN rfl (fun K hK => ?_) ?_
        · -- operation 4
          go_simp
          first
            | (go_at_call 28; refine (key_any 116 (by decide) (by decide) _ [t] _ (U1.out _) (by simp)).mono ?_; rintro e w4 ⟨v4, rfl, ho, hb⟩
               have HB4 := Lib.hid (show Below w.heap.size w w4 from ((Below.refl w.heap.size w).drew).trans (below_and ((Below.refl _ _).alloc (Nat.le_refl _) _) hb))
               have HO4 := Lib.hid (show BS w4 v4 (tk t) from ho.bs)
               have HM4 := Lib.hid (HM.out.below (w' := w4) (below_and ((Below.refl _ _).alloc (Nat.le_refl _) _) hb))
               clear ho hb)
            | (go_at_call 103; refine (HG.out w4 v4 HM4.out HO4.out).mono ?_; rintro e w5 ⟨v5, rfl, hm, hb⟩
               have HB5 := Lib.hid (HB4.out.trans (hb.mono HB4.out.size))
               clear hm hb)
          go_wp2_with fail
          refine hK.out _ _ ?_ (fun hHeld3 => ?_)
          · dsimp only
          clear hK K hHeld2
          try simp only [Act.put, List.setIfInBounds_toArray, List.set_cons_zero, List.set_cons_succ]
          refine wpAnyH_ready (rs := [8]) (by kernel_rfl) (by simp) ?_
          refine readyN rfl (fun K hK => ?_) ?_
          · -- operation 8
            go_simp
            go_wp2_with (
                first
                  | (go_at_call 28; refine (key_any 116 (by decide) (by decide) _ [t] _ (U1.out _) (by simp)).mono ?_; rintro e w4 ⟨v4, rfl, ho, hb⟩
                     have HB4 := Lib.hid (show Below w.heap.size w w4 from ((Below.refl w.heap.size w).drew).trans (below_and ((Below.refl _ _).alloc (Nat.le_refl _) _) hb))
                     have HO4 := Lib.hid (show BS w4 v4 (tk t) from ho.bs)
                     have HM4 := Lib.hid (HM.out.below (w' := w4) (below_and ((Below.refl _ _).alloc (Nat.le_refl _) _) hb))
                     clear ho hb)
                  | (go_at_call 103; refine (HG.out w4 v4 HM4.out HO4.out).mono ?_; rintro e w5 ⟨v5, rfl, hm, hb⟩
                     have HB5 := Lib.hid (HB4.out.trans (hb.mono HB4.out.size))
                     clear hm hb))
            refine hK.out _ _ ?_ (fun hHeld4 => ?_)
            · dsimp only
            clear hK K hHeld3
            try simp only [Act.put, List.setIfInBounds_toArray, List.set_cons_zero, List.set_cons_succ]
            refine takeN (v := ?_) 9 rfl (by kernel_rfl) (by kernel_rfl) (by kernel_rfl) (fun _ _ _ h => h) (by rfl) ?_ hHeld4 ?_
            rotate_left
            · intro w hSw; (try dsimp only at hSw); go_simp; with_reducible rfl
            try simp only [Act.put, List.setIfInBounds_toArray, List.set_cons_zero, List.set_cons_succ]
            refine takeN (v := ?_) 10 rfl (by kernel_rfl) (by kernel_rfl) (by kernel_rfl) (fun _ _ _ h => h) (by rfl) ?_ hHeld4 ?_
            rotate_left
            · intro w hSw; (try dsimp only at hSw); go_simp; with_reducible rfl
            try simp only [Act.put, List.setIfInBounds_toArray, List.set_cons_zero, List.set_cons_succ]
            refine takeN (v := ?_) 11 rfl (by kernel_rfl) (by kernel_rfl) (by kernel_rfl) (fun _ _ _ h => h) (by rfl) ?_ hHeld4 ?_
            rotate_left
            · intro w hSw; (try dsimp only at hSw); go_simp; with_reducible rfl
            try simp only [Act.put, List.setIfInBounds_toArray, List.set_cons_zero, List.set_cons_succ]
            refine takeN (v := ?_) 12 rfl (by kernel_rfl) (by kernel_rfl) (by kernel_rfl) (fun _ _ _ h => h) (by rfl) ?_ hHeld4 ?_
            rotate_left
            · intro w hSw; (try dsimp only at hSw); go_simp; with_reducible rfl
            try simp only [Act.put, List.setIfInBounds_toArray, List.set_cons_zero, List.set_cons_succ]
            refine takeN (v := ?_) 13 rfl (by kernel_rfl) (by kernel_rfl) (by kernel_rfl) (fun _ _ _ h => h) (by rfl) ?_ hHeld4 ?_
            rotate_left
            · intro w hSw; (try dsimp only at hSw); go_simp; with_reducible rfl
            try simp only [Act.put, List.setIfInBounds_toArray, List.set_cons_zero, List.set_cons_succ]
            refine takeN (v := ?_) 14 rfl (by kernel_rfl) (by kernel_rfl) (by kernel_rfl) (fun _ _ _ h => h) (by rfl) ?_ hHeld4 ?_
            rotate_left
            · intro w hSw; (try dsimp only at hSw); go_simp; with_reducible rfl
            try simp only [Act.put, List.setIfInBounds_toArray, List.set_cons_zero, List.set_cons_succ]
            refine takeN (v := ?_) 15 rfl (by kernel_rfl) (by kernel_rfl) (by kernel_rfl) (fun _ _ _ h => h) (by rfl) ?_ hHeld4 ?_
            rotate_left
            · intro w hSw; (try dsimp only at hSw); go_simp; with_reducible rfl
            try simp only [Act.put, List.setIfInBounds_toArray, List.set_cons_zero, List.set_cons_succ]
            refine wpAnyH_done (by kernel_rfl) ?_ _
            go_wp2_with fail
            go_meet
            exact ⟨rfl, rfl, HB5⟩
          exact AllReadyH.nil
        exact AllReadyH.nil
      exact AllReadyH.nil
    exact AllReadyH.nil
  case rest =>
    obtain ⟨rfl, rfl, HB5⟩ := hcut
    go_wp2
    go_ret3
    exact ⟨rfl, HB5.out⟩
theorem cten_yes (p b1 b2 m : Nat) (ps : List Pl) (ts : List Tn) (t : Int) (ht : U32 t) (w : World) (h : CB w p b1 b2 ps ts m) (T : Tn) (hf : tfind ts t = some T) :
    Calls Tryz.prog 19 #[sV p, .int .u32 t] w fun e w' => e = .returned (.tuple #[.int .i64 T.shift, .int .i64 T.day, .int .i64 0]) ∧ Below w.heap.size w w' := by
  obtain ⟨now, hM, hC, hS, hm⟩ := h
  have hg : AL.get (tk t) now = some (i8 T.shift ++ i8 T.day) := by rw [hC.ten t ht, hf]; rfl
  have hok := hC.tok T (tfind_some hf).1
  have hs1 : W64 T.shift := by have := shift_bd hok.shift; unfold W64; omega
  have hs2 : W64 T.day := by have := hok.day; unfold W64; omega
  have hsz : (i8 T.shift ++ i8 T.day).size = 16 := by rw [size_append, i8_size, i8_size]
  have h0 := ht.1
  have h1 := ht.2
  have tw : IntKind.u64.wrap t = t := by rw [IntKind.wrap_u64]; omega
  have hG := fun (W : World) (kv : Value) (hm : MemIs W p (-1) b1 b2 now []) (hk : BS W kv (tk t)) => get_any p (-1) b1 b2 now [] kv (tk t) W hm hk (fun v hv => by rw [hg] at hv; cases hv; omega)
  rw [hg] at hG
  have na := nil_get p
  have HM := Lib.hid (show MemIs w.drew p (-1) b1 b2 now [] from hM.below (Below.refl _ _).drew)
  have U1 := Lib.hid fun e : TypeId => show US (w.drew.alloc (.cells #[.int .u64 t] e)) (.slice (some ⟨w.heap.size, 0, none⟩) 1 1) [t] from US.lit1 w.drew t h0 (by omega) e
  unfold sV at *
  unfold pV at hG ⊢
  have HG := Lib.hid hG
  have HSZ := Lib.hid hsz
  have hr1 := rd8 T.shift (i8 T.day) hs1
  have hr2 := rd8 T.day ByteArray.empty hs2
  rw [show i8 T.day ++ ByteArray.empty = i8 T.day by simp] at hr2
  have HR1 := Lib.hid hr1
  have HR2 := Lib.hid hr2
  clear hM hC hS hm hf hg hG hsz hok hs1 hs2 hr1 hr2
  go_enter Tryz.func19, Tryz.ntmps19
  go_upto_region 1 with fail
  go_cut [7, 8, 9] (fun s7 s8 s9 wx => s8 = .bool true ∧ s9 = .int .i64 0 ∧ Hid (BS wx s7 (i8 T.shift ++ i8 T.day)) ∧ Hid (Below w.heap.size w wx))
  case first =>
    refine wp_region_held_drew (S := (fun w' => True)) (by kernel_rfl) ?_ (fun hHeld0 => ?_)
    · dsimp only
    refine takeN (v := ?_) 0 rfl (by kernel_rfl) (by kernel_rfl) (by kernel_rfl) (fun _ _ _ h => h) (by rfl) ?_ hHeld0 ?_
    rotate_left
    · intro w hSw; (try dsimp only at hSw); go_simp; with_reducible rfl
    try simp only [Act.put, List.setIfInBounds_toArray, List.set_cons_zero, List.set_cons_succ]
    refine takeN (v := ?_) 1 rfl (by kernel_rfl) (by kernel_rfl) (by kernel_rfl) (fun _ _ _ h => h) (by rfl) ?_ hHeld0 ?_
    rotate_left
    · intro w hSw; (try dsimp only at hSw); go_simp; with_reducible rfl
    try simp only [Act.put, List.setIfInBounds_toArray, List.set_cons_zero, List.set_cons_succ]
    refine takeN (v := ?_) 2 rfl (by kernel_rfl) (by kernel_rfl) (by kernel_rfl) (fun _ _ _ h => h) (by rfl) ?_ hHeld0 ?_
    rotate_left
    · intro w hSw; (try dsimp only at hSw); go_simp; with_reducible rfl
    try simp only [Act.put, List.setIfInBounds_toArray, List.set_cons_zero, List.set_cons_succ]
    refine wpAnyH_ready (rs := [3, 5]) (by kernel_rfl) (by simp) ?_
    refine readyN rfl (fun K hK => ?_) ?_
    · -- operation 3
      go_simp
      refine hK.out _ _ ?_ (fun hHeld1 => ?_)
      · dsimp only
      clear hK K hHeld0
      try simp only [Act.put, List.setIfInBounds_toArray, List.set_cons_zero, List.set_cons_succ]
      refine wpAnyH_ready (rs := [4, 5]) (by kernel_rfl) (by simp) ?_
      refine readyN rfl (fun K hK => ?_) ?_
      · -- operation 4
        go_simp
        first
          | (go_at_call 28; refine (key_any 116 (by decide) (by decide) _ [t] _ (U1.out _) (by simp)).mono ?_; rintro e w4 ⟨v4, rfl, ho, hb⟩
             have HB4 := Lib.hid (show Below w.heap.size w w4 from ((Below.refl w.heap.size w).drew).trans (below_and ((Below.refl _ _).alloc (Nat.le_refl _) _) hb))
             have HO4 := Lib.hid (show BS w4 v4 (tk t) from ho.bs)
             have HM4 := Lib.hid (HM.out.below (w' := w4) (below_and ((Below.refl _ _).alloc (Nat.le_refl _) _) hb))
             clear ho hb)
          | (go_at_call 103; refine (HG.out w4 v4 HM4.out HO4.out).mono ?_; rintro e w5 ⟨v5, rfl, hm, hb⟩
             have HV5 := Lib.hid (show BS w5 v5 (i8 T.shift ++ i8 T.day) from hm.1)
             have HB5 := Lib.hid (HB4.out.trans (hb.mono HB4.out.size))
             clear hm hb)
        go_wp2_with fail
        refine hK.out _ _ ?_ (fun hHeld2 => ?_)
        · dsimp only
        clear hK K hHeld1
        try simp only [Act.put, List.setIfInBounds_toArray, List.set_cons_zero, List.set_cons_succ]
        refine wpAnyH_ready (rs := [5]) (by kernel_rfl) (by simp) ?_
        refine readyN rfl (fun K hK => ?_) ?_
        · -- operation 5
          go_simp
          refine hK.out _ _ ?_ (fun hHeld3 => ?_)
          · dsimp only
          clear hK K hHeld2
          try simp only [Act.put, List.setIfInBounds_toArray, List.set_cons_zero, List.set_cons_succ]
          refine takeN (v := ?_) 6 rfl (by kernel_rfl) (by kernel_rfl) (by kernel_rfl) (fun _ _ _ h => h) (by rfl) ?_ hHeld3 ?_
          rotate_left
          · intro w hSw; (try dsimp only at hSw); go_simp; with_reducible rfl
          try simp only [Act.put, List.setIfInBounds_toArray, List.set_cons_zero, List.set_cons_succ]
          refine takeN (v := ?_) 7 rfl (by kernel_rfl) (by kernel_rfl) (by kernel_rfl) (fun _ _ _ h => h) (by rfl) ?_ hHeld3 ?_
          rotate_left
          · intro w hSw; (try dsimp only at hSw); go_simp; with_reducible rfl
          try simp only [Act.put, List.setIfInBounds_toArray, List.set_cons_zero, List.set_cons_succ]
          refine wpAnyH_ready (rs := [8]) (by kernel_rfl) (by simp) ?_
          refine readyN rfl (fun K hK => ?_) ?_
          · -- operation 8
            go_simp
            go_wp2_with (
                first
                  | (go_at_call 28; refine (key_any 116 (by decide) (by decide) _ [t] _ (U1.out _) (by simp)).mono ?_; rintro e w4 ⟨v4, rfl, ho, hb⟩
                     have HB4 := Lib.hid (show Below w.heap.size w w4 from ((Below.refl w.heap.size w).drew).trans (below_and ((Below.refl _ _).alloc (Nat.le_refl _) _) hb))
                     have HO4 := Lib.hid (show BS w4 v4 (tk t) from ho.bs)
                     have HM4 := Lib.hid (HM.out.below (w' := w4) (below_and ((Below.refl _ _).alloc (Nat.le_refl _) _) hb))
                     clear ho hb)
                  | (go_at_call 103; refine (HG.out w4 v4 HM4.out HO4.out).mono ?_; rintro e w5 ⟨v5, rfl, hm, hb⟩
                     have HV5 := Lib.hid (show BS w5 v5 (i8 T.shift ++ i8 T.day) from hm.1)
                     have HB5 := Lib.hid (HB4.out.trans (hb.mono HB4.out.size))
                     clear hm hb))
            refine hK.out _ _ ?_ (fun hHeld4 => ?_)
            · dsimp only
            clear hK K hHeld3
            try simp only [Act.put, List.setIfInBounds_toArray, List.set_cons_zero, List.set_cons_succ]
            refine takeN (v := ?_) 9 rfl (by kernel_rfl) (by kernel_rfl) (by kernel_rfl) (fun _ _ _ h => h) (by rfl) ?_ hHeld4 ?_
            rotate_left
            · intro w hSw; (try dsimp only at hSw); go_simp; with_reducible rfl
            try simp only [Act.put, List.setIfInBounds_toArray, List.set_cons_zero, List.set_cons_succ]
            refine takeN (v := ?_) 10 rfl (by kernel_rfl) (by kernel_rfl) (by kernel_rfl) (fun _ _ _ h => h) (by rfl) ?_ hHeld4 ?_
            rotate_left
            · intro w hSw; (try dsimp only at hSw); go_simp; with_reducible rfl
            try simp only [Act.put, List.setIfInBounds_toArray, List.set_cons_zero, List.set_cons_succ]
            refine takeN (v := ?_) 11 rfl (by kernel_rfl) (by kernel_rfl) (by kernel_rfl) (fun _ _ _ h => h) (by rfl) ?_ hHeld4 ?_
            rotate_left
            · intro w hSw; (try dsimp only at hSw); go_simp; with_reducible rfl
            try simp only [Act.put, List.setIfInBounds_toArray, List.set_cons_zero, List.set_cons_succ]
            refine takeN (v := ?_) 12 rfl (by kernel_rfl) (by kernel_rfl) (by kernel_rfl) (fun _ _ _ h => h) (by rfl) ?_ hHeld4 ?_
            rotate_left
            · intro w hSw; (try dsimp only at hSw); go_simp; with_reducible rfl
            try simp only [Act.put, List.setIfInBounds_toArray, List.set_cons_zero, List.set_cons_succ]
            refine takeN (v := ?_) 13 rfl (by kernel_rfl) (by kernel_rfl) (by kernel_rfl) (fun _ _ _ h => h) (by rfl) ?_ hHeld4 ?_
            rotate_left
            · intro w hSw; (try dsimp only at hSw); go_simp; with_reducible rfl
            try simp only [Act.put, List.setIfInBounds_toArray, List.set_cons_zero, List.set_cons_succ]
            refine takeN (v := ?_) 14 rfl (by kernel_rfl) (by kernel_rfl) (by kernel_rfl) (fun _ _ _ h => h) (by rfl) ?_ hHeld4 ?_
            rotate_left
            · intro w hSw; (try dsimp only at hSw); go_simp; with_reducible rfl
            try simp only [Act.put, List.setIfInBounds_toArray, List.set_cons_zero, List.set_cons_succ]
            refine takeN (v := ?_) 15 rfl (by kernel_rfl) (by kernel_rfl) (by kernel_rfl) (fun _ _ _ h => h) (by rfl) ?_ hHeld4 ?_
            rotate_left
            · intro w hSw; (try dsimp only at hSw); go_simp; with_reducible rfl
            try simp only [Act.put, List.setIfInBounds_toArray, List.set_cons_zero, List.set_cons_succ]
            refine wpAnyH_done (by kernel_rfl) ?_ _
            go_wp2_with fail
            go_meet
            exact ⟨rfl, rfl, HV5, HB5⟩
          exact AllReadyH.nil
        exact AllReadyH.nil
      refine readyN rfl (fun K hK => ?_) ?_
      · -- operation 5
        go_simp
        refine hK.out _ _ ?_ (fun hHeld2 => ?_)
        · dsimp only
        clear hK K hHeld1
        try simp only [Act.put, List.setIfInBounds_toArray, List.set_cons_zero, List.set_cons_succ]
        refine takeN (v := ?_) 6 rfl (by kernel_rfl) (by kernel_rfl) (by kernel_rfl) (fun _ _ _ h => h) (by rfl) ?_ hHeld2 ?_
        rotate_left
        · intro w hSw; (try dsimp only at hSw); go_simp; with_reducible rfl
        try simp only [Act.put, List.setIfInBounds_toArray, List.set_cons_zero, List.set_cons_succ]
        refine takeN (v := ?_) 7 rfl (by kernel_rfl) (by kernel_rfl) (by kernel_rfl) (fun _ _ _ h => h) (by rfl) ?_ hHeld2 ?_
        rotate_left
        · intro w hSw; (try dsimp only at hSw); go_simp; with_reducible rfl
        try simp only [Act.put, List.setIfInBounds_toArray, List.set_cons_zero, List.set_cons_succ]
        refine wpAnyH_ready (rs := [4]) (by kernel_rfl) (by simp) ?_
        refine readyN rfl (fun K hK => ?_) ?_
        · -- operation 4
          go_simp
          first
            | (go_at_call 28; refine (key_any 116 (by decide) (by decide) _ [t] _ (U1.out _) (by simp)).mono ?_; rintro e w4 ⟨v4, rfl, ho, hb⟩
               have HB4 := Lib.hid (show Below w.heap.size w w4 from ((Below.refl w.heap.size w).drew).trans (below_and ((Below.refl _ _).alloc (Nat.le_refl _) _) hb))
               have HO4 := Lib.hid (show BS w4 v4 (tk t) from ho.bs)
               have HM4 := Lib.hid (HM.out.below (w' := w4) (below_and ((Below.refl _ _).alloc (Nat.le_refl _) _) hb))
               clear ho hb)
            | (go_at_call 103; refine (HG.out w4 v4 HM4.out HO4.out).mono ?_; rintro e w5 ⟨v5, rfl, hm, hb⟩
               have HV5 := Lib.hid (show BS w5 v5 (i8 T.shift ++ i8 T.day) from hm.1)
               have HB5 := Lib.hid (HB4.out.trans (hb.mono HB4.out.size))
               clear hm hb)
          go_wp2_with fail
          refine hK.out _ _ ?_ (fun hHeld3 => ?_)
          · dsimp only
          clear hK K hHeld2
          try simp only [Act.put, List.setIfInBounds_toArray, List.set_cons_zero, List.set_cons_succ]
          refine wpAnyH_ready (rs := [8]) (by kernel_rfl) (by simp) ?_
          refine readyN rfl (fun K hK => ?_) ?_
          · -- operation 8
            go_simp
            go_wp2_with (
                first
                  | (go_at_call 28; refine (key_any 116 (by decide) (by decide) _ [t] _ (U1.out _) (by simp)).mono ?_; rintro e w4 ⟨v4, rfl, ho, hb⟩
                     have HB4 := Lib.hid (show Below w.heap.size w w4 from ((Below.refl w.heap.size w).drew).trans (below_and ((Below.refl _ _).alloc (Nat.le_refl _) _) hb))
                     have HO4 := Lib.hid (show BS w4 v4 (tk t) from ho.bs)
                     have HM4 := Lib.hid (HM.out.below (w' := w4) (below_and ((Below.refl _ _).alloc (Nat.le_refl _) _) hb))
                     clear ho hb)
                  | (go_at_call 103; refine (HG.out w4 v4 HM4.out HO4.out).mono ?_; rintro e w5 ⟨v5, rfl, hm, hb⟩
                     have HV5 := Lib.hid (show BS w5 v5 (i8 T.shift ++ i8 T.day) from hm.1)
                     have HB5 := Lib.hid (HB4.out.trans (hb.mono HB4.out.size))
                     clear hm hb))
            refine hK.out _ _ ?_ (fun hHeld4 => ?_)
            · dsimp only
            clear hK K hHeld3
            try simp only [Act.put, List.setIfInBounds_toArray, List.set_cons_zero, List.set_cons_succ]
            refine takeN (v := ?_) 9 rfl (by kernel_rfl) (by kernel_rfl) (by kernel_rfl) (fun _ _ _ h => h) (by rfl) ?_ hHeld4 ?_
            rotate_left
            · intro w hSw; (try dsimp only at hSw); go_simp; with_reducible rfl
            try simp only [Act.put, List.setIfInBounds_toArray, List.set_cons_zero, List.set_cons_succ]
            refine takeN (v := ?_) 10 rfl (by kernel_rfl) (by kernel_rfl) (by kernel_rfl) (fun _ _ _ h => h) (by rfl) ?_ hHeld4 ?_
            rotate_left
            · intro w hSw; (try dsimp only at hSw); go_simp; with_reducible rfl
            try simp only [Act.put, List.setIfInBounds_toArray, List.set_cons_zero, List.set_cons_succ]
            refine takeN (v := ?_) 11 rfl (by kernel_rfl) (by kernel_rfl) (by kernel_rfl) (fun _ _ _ h => h) (by rfl) ?_ hHeld4 ?_
            rotate_left
            · intro w hSw; (try dsimp only at hSw); go_simp; with_reducible rfl
            try simp only [Act.put, List.setIfInBounds_toArray, List.set_cons_zero, List.set_cons_succ]
            refine takeN (v := ?_) 12 rfl (by kernel_rfl) (by kernel_rfl) (by kernel_rfl) (fun _ _ _ h => h) (by rfl) ?_ hHeld4 ?_
            rotate_left
            · intro w hSw; (try dsimp only at hSw); go_simp; with_reducible rfl
            try simp only [Act.put, List.setIfInBounds_toArray, List.set_cons_zero, List.set_cons_succ]
            refine takeN (v := ?_) 13 rfl (by kernel_rfl) (by kernel_rfl) (by kernel_rfl) (fun _ _ _ h => h) (by rfl) ?_ hHeld4 ?_
            rotate_left
            · intro w hSw; (try dsimp only at hSw); go_simp; with_reducible rfl
            try simp only [Act.put, List.setIfInBounds_toArray, List.set_cons_zero, List.set_cons_succ]
            refine takeN (v := ?_) 14 rfl (by kernel_rfl) (by kernel_rfl) (by kernel_rfl) (fun _ _ _ h => h) (by rfl) ?_ hHeld4 ?_
            rotate_left
            · intro w hSw; (try dsimp only at hSw); go_simp; with_reducible rfl
            try simp only [Act.put, List.setIfInBounds_toArray, List.set_cons_zero, List.set_cons_succ]
            refine takeN (v := ?_) 15 rfl (by kernel_rfl) (by kernel_rfl) (by kernel_rfl) (fun _ _ _ h => h) (by rfl) ?_ hHeld4 ?_
            rotate_left
            · intro w hSw; (try dsimp only at hSw); go_simp; with_reducible rfl
            try simp only [Act.put, List.setIfInBounds_toArray, List.set_cons_zero, List.set_cons_succ]
            refine wpAnyH_done (by kernel_rfl) ?_ _
            go_wp2_with fail
            go_meet
            exact ⟨rfl, rfl, HV5, HB5⟩
          exact AllReadyH.nil
        exact AllReadyH.nil
      exact AllReadyH.nil
    refine readyN rfl (fun K hK => ?_) ?_
    · -- operation 5
      go_simp
      refine hK.out _ _ ?_ (fun hHeld1 => ?_)
      · dsimp only
      clear hK K hHeld0
      try simp only [Act.put, List.setIfInBounds_toArray, List.set_cons_zero, List.set_cons_succ]
      refine takeN (v := ?_) 6 rfl (by kernel_rfl) (by kernel_rfl) (by kernel_rfl) (fun _ _ _ h => h) (by rfl) ?_ hHeld1 ?_
      rotate_left
      · intro w hSw; (try dsimp only at hSw); go_simp; with_reducible rfl
      try simp only [Act.put, List.setIfInBounds_toArray, List.set_cons_zero, List.set_cons_succ]
      refine takeN (v := ?_) 7 rfl (by kernel_rfl) (by kernel_rfl) (by kernel_rfl) (fun _ _ _ h => h) (by rfl) ?_ hHeld1 ?_
      rotate_left
      · intro w hSw; (try dsimp only at hSw); go_simp; with_reducible rfl
      try simp only [Act.put, List.setIfInBounds_toArray, List.set_cons_zero, List.set_cons_succ]
      refine wpAnyH_ready (rs := [3]) (by kernel_rfl) (by simp) ?_
      refine readyN rfl (fun K hK => ?_) ?_
      · -- operation 3
        go_simp
        refine hK.out _ _ ?_ (fun hHeld2 => ?_)
        · dsimp only
        clear hK K hHeld1
        try simp only [Act.put, List.setIfInBounds_toArray, List.set_cons_zero, List.set_cons_succ]
        refine wpAnyH_ready (rs := [4]) (by kernel_rfl) (by simp) ?_
        refine readyN rfl (fun K hK => ?_) ?_
        · -- operation 4
          go_simp
          first
            | (go_at_call 28; refine (key_any 116 (by decide) (by decide) _ [t] _ (U1.out _) (by simp)).mono ?_; rintro e w4 ⟨v4, rfl, ho, hb⟩
               have HB4 := Lib.hid (show Below w.heap.size w w4 from ((Below.refl w.heap.size w).drew).trans (below_and ((Below.refl _ _).alloc (Nat.le_refl _) _) hb))
               have HO4 := Lib.hid (show BS w4 v4 (tk t) from ho.bs)
               have HM4 := Lib.hid (HM.out.below (w' := w4) (below_and ((Below.refl _ _).alloc (Nat.le_refl _) _) hb))
               clear ho hb)
            | (go_at_call 103; refine (HG.out w4 v4 HM4.out HO4.out).mono ?_; rintro e w5 ⟨v5, rfl, hm, hb⟩
               have HV5 := Lib.hid (show BS w5 v5 (i8 T.shift ++ i8 T.day) from hm.1)
               have HB5 := Lib.hid (HB4.out.trans (hb.mono HB4.out.size))
               clear hm hb)
          go_wp2_with fail
          refine hK.out _ _ ?_ (fun hHeld3 => ?_)
          · dsimp only
          clear hK K hHeld2
          try simp only [Act.put, List.setIfInBounds_toArray, List.set_cons_zero, List.set_cons_succ]
          refine wpAnyH_ready (rs := [8]) (by kernel_rfl) (by simp) ?_
          refine readyN rfl (fun K hK => ?_) ?_
          · -- operation 8
            go_simp
            go_wp2_with (
                first
                  | (go_at_call 28; refine (key_any 116 (by decide) (by decide) _ [t] _ (U1.out _) (by simp)).mono ?_; rintro e w4 ⟨v4, rfl, ho, hb⟩
                     have HB4 := Lib.hid (show Below w.heap.size w w4 from ((Below.refl w.heap.size w).drew).trans (below_and ((Below.refl _ _).alloc (Nat.le_refl _) _) hb))
                     have HO4 := Lib.hid (show BS w4 v4 (tk t) from ho.bs)
                     have HM4 := Lib.hid (HM.out.below (w' := w4) (below_and ((Below.refl _ _).alloc (Nat.le_refl _) _) hb))
                     clear ho hb)
                  | (go_at_call 103; refine (HG.out w4 v4 HM4.out HO4.out).mono ?_; rintro e w5 ⟨v5, rfl, hm, hb⟩
                     have HV5 := Lib.hid (show BS w5 v5 (i8 T.shift ++ i8 T.day) from hm.1)
                     have HB5 := Lib.hid (HB4.out.trans (hb.mono HB4.out.size))
                     clear hm hb))
            refine hK.out _ _ ?_ (fun hHeld4 => ?_)
            · dsimp only
            clear hK K hHeld3
            try simp only [Act.put, List.setIfInBounds_toArray, List.set_cons_zero, List.set_cons_succ]
            refine takeN (v := ?_) 9 rfl (by kernel_rfl) (by kernel_rfl) (by kernel_rfl) (fun _ _ _ h => h) (by rfl) ?_ hHeld4 ?_
            rotate_left
            · intro w hSw; (try dsimp only at hSw); go_simp; with_reducible rfl
            try simp only [Act.put, List.setIfInBounds_toArray, List.set_cons_zero, List.set_cons_succ]
            refine takeN (v := ?_) 10 rfl (by kernel_rfl) (by kernel_rfl) (by kernel_rfl) (fun _ _ _ h => h) (by rfl) ?_ hHeld4 ?_
            rotate_left
            · intro w hSw; (try dsimp only at hSw); go_simp; with_reducible rfl
            try simp only [Act.put, List.setIfInBounds_toArray, List.set_cons_zero, List.set_cons_succ]
            refine takeN (v := ?_) 11 rfl (by kernel_rfl) (by kernel_rfl) (by kernel_rfl) (fun _ _ _ h => h) (by rfl) ?_ hHeld4 ?_
            rotate_left
            · intro w hSw; (try dsimp only at hSw); go_simp; with_reducible rfl
            try simp only [Act.put, List.setIfInBounds_toArray, List.set_cons_zero, List.set_cons_succ]
            refine takeN (v := ?_) 12 rfl (by kernel_rfl) (by kernel_rfl) (by kernel_rfl) (fun _ _ _ h => h) (by rfl) ?_ hHeld4 ?_
            rotate_left
            · intro w hSw; (try dsimp only at hSw); go_simp; with_reducible rfl
            try simp only [Act.put, List.setIfInBounds_toArray, List.set_cons_zero, List.set_cons_succ]
            refine takeN (v := ?_) 13 rfl (by kernel_rfl) (by kernel_rfl) (by kernel_rfl) (fun _ _ _ h => h) (by rfl) ?_ hHeld4 ?_
            rotate_left
            · intro w hSw; (try dsimp only at hSw); go_simp; with_reducible rfl
            try simp only [Act.put, List.setIfInBounds_toArray, List.set_cons_zero, List.set_cons_succ]
            refine takeN (v := ?_) 14 rfl (by kernel_rfl) (by kernel_rfl) (by kernel_rfl) (fun _ _ _ h => h) (by rfl) ?_ hHeld4 ?_
            rotate_left
            · intro w hSw; (try dsimp only at hSw); go_simp; with_reducible rfl
            try simp only [Act.put, List.setIfInBounds_toArray, List.set_cons_zero, List.set_cons_succ]
            refine takeN (v := ?_) 15 rfl (by kernel_rfl) (by kernel_rfl) (by kernel_rfl) (fun _ _ _ h => h) (by rfl) ?_ hHeld4 ?_
            rotate_left
            · intro w hSw; (try dsimp only at hSw); go_simp; with_reducible rfl
            try simp only [Act.put, List.setIfInBounds_toArray, List.set_cons_zero, List.set_cons_succ]
            refine wpAnyH_done (by kernel_rfl) ?_ _
            go_wp2_with fail
            go_meet
            exact ⟨rfl, rfl, HV5, HB5⟩
          exact AllReadyH.nil
        exact AllReadyH.nil
      exact AllReadyH.nil
    exact AllReadyH.nil
  case rest =>
    obtain ⟨rfl, rfl, HV5, HB5⟩ := hcut
    have hn := HV5.out.len2 HSZ.out
    obtain ⟨a5, c5, rfl, _, _⟩ := hn
    go_wp2_with fail
    refine (new_r _ _ wc HV5.out (by rw [HSZ.out]; omega)).mono ?_
    rintro e w6 ⟨q, rfl, hq, hr, hb⟩
    have HQ6 := Lib.hid hr
    have HB6 := Lib.hid (HB5.out.trans (hb.mono HB5.out.size))
    have HQ := Lib.hid (show w.heap.size ≤ q from Nat.le_trans HB5.out.size hq)
    clear hq hr hb
    go_wp2_with fail
    refine (int_r q _ w6 HQ6.out).mono ?_
    rw [HR1.out.1, HR1.out.2]
    rintro e w7 ⟨rfl, hr, hk⟩
    have HQ7 := Lib.hid hr
    have HB7 := Lib.hid (HB6.out.trans (hk.below HB6.out.size (fun i hi => by subst hi; exact HQ.out)))
    clear hr hk
    go_wp2_with fail
    refine (int_r q _ w7 HQ7.out).mono ?_
    rw [HR2.out.1, HR2.out.2]
    rintro e w8 ⟨rfl, hr, hk⟩
    have HQ8 := Lib.hid hr
    have HB8 := Lib.hid (HB7.out.trans (hk.below HB7.out.size (fun i hi => by subst hi; exact HQ.out)))
    clear hr hk
    go_wp2_with fail
    refine (done_w q _ w8 HQ8.out).mono ?_
    rintro e w9 ⟨rfl, rfl⟩
    go_wp2
    go_ret3
    exact ⟨rfl, HB8.out⟩
end Go.Proofs.YtidppalhjknlfaaGreatDoor
