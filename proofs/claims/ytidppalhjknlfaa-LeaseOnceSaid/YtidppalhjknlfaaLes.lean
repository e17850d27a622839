/- lease.Live, lease.Drop, lease.Get, lease.Held. -/
import Derived.Test.YtidppalhjknlfaaThose
import Derived.Test.YtidppalhjknlfaaNum
namespace Go.Proofs.Ytidppalhjknlfaa
open Go.RowKit
set_option maxRecDepth 100000
set_option linter.unusedVariables false
set_option linter.unusedSimpArgs false
theorem llive_any (p b1 b2 : Nat) (room : Int) (now was : AL) (t : Int) (ht : U32 t) (L : List Ls) (last m : Int) (w : World) (hM : MemIs w p room b1 b2 now was) (hSm : Small now) (hN : AL.ND now) (hL : LS now t L last) (hl : L.length ≤ 1000000) :
    Calls Try.prog 15 #[sV p, .int .u32 t, .int .i64 m] w fun e w' => ∃ v, e = .returned (.tuple #[v, .int .i64 0]) ∧ LR w' v (live m L) ∧ Below w.heap.size w w' := by
  have hb : Below w.heap.size w (w.alloc (.cells #[.int .i64 m] 2)) := (Below.refl _ _).alloc (Nat.le_refl _) _
  have HT := Lib.hid (those_live p b1 b2 w.heap.size room now was t ht L last m _ (hM.below hb) hSm hN hL hl (by rw [blk_cell (blk_new w _)]; rfl) (by simp))
  have HB := Lib.hid hb
  unfold sV pV at *
  clear hM hb
  go_enter Try.func15, Try.ntmps15
  go_wp2_with fail
  refine HT.out.mono ?_
  rintro e w1 ⟨v, rfl, hr, hb⟩
  have HR := Lib.hid hr
  have HB1 := Lib.hid (HB.out.trans (hb.mono HB.out.size))
  clear hr hb
  go_wp2
  go_ret2
  exact ⟨_, rfl, HR.out, HB1.out⟩
theorem nil_del (b : Nat) (w : World) : (nilAhead 252 24 (.pointer (some ⟨b, 0, none⟩)) "Delete").run Try.prog w = .ok (some false) w := by kernel_rfl
/-- what Drop leaves -/
theorem ldrop_any (p b1 b2 : Nat) (room : Int) (now was : AL) (t i : Int) (ht : U32 t) (hi : U32 i) (L : List Ls) (last : Int) (w : World) (hM : MemIs w p room b1 b2 now was) (hN : AL.ND now) (hL : LS now t L last) :
    Calls Try.prog 13 #[sV p, .int .u32 t, .int .u32 i] w fun e w' => e = .returned (.int .i64 (dropE L i)) ∧ MemIs w' p room b1 b2 (AL.del (lk t i) now) was ∧ Keep (fun i => i = b1) w w' := by
  have hg := hL.get hN ht hi
  have na := nil_del p
  have HM := Lib.hid (show MemIs w.drew p room b1 b2 now was from hM.below ((Below.refl _ _).drew))
  have HK := Lib.hid (lkey_any t i ht hi w.drew)
  unfold dropE
  obtain ⟨R, hR⟩ : ∃ R, (AL.get (lk t i) now).isSome = R := ⟨_, rfl⟩
  rw [← hg]
  have hRR := hR
  rw [hR]
  unfold sV pV at *
  clear hM hg
  cases R with
  | true =>
    go_enter Try.func13, Try.ntmps13
    go_upto_region 1 with fail
    refine wp_region_held_drew (S := (fun w' => True)) (by kernel_rfl) ?_ (fun hHeld0 => ?_)
    · dsimp only
    refine takeN (v := ?_) 0 rfl (by kernel_rfl) (by kernel_rfl) (by kernel_rfl) (fun _ _ _ h => h) (by rfl) ?_ hHeld0 ?_
    rotate_left
    · intro w hSw; (try dsimp only at hSw); go_simp; with_reducible rfl
    try simp only [Act.put, List.setIfInBounds_toArray, List.set_cons_zero, List.set_cons_succ]
    refine takeN (v := ?_) 1 rfl (by kernel_rfl) (by kernel_rfl) (by kernel_rfl) (fun _ _ _ h => h) (by rfl) ?_ hHeld0 ?_
    rotate_left
    · intro w hSw; (try dsimp only at hSw); go_simp; with_reducible rfl
    try simp only [Act.put, List.setIfInBounds_toArray, List.set_cons_zero, List.set_cons_succ]
    refine takeN (v := ?_) 2 rfl (by kernel_rfl) (by kernel_rfl) (by kernel_rfl) (fun _ _ _ h => h) (by rfl) ?_ hHeld0 ?_
    rotate_left
    · intro w hSw; (try dsimp only at hSw); go_simp; with_reducible rfl
    try simp only [Act.put, List.setIfInBounds_toArray, List.set_cons_zero, List.set_cons_succ]
    refine wpAnyH_ready (rs := [3, 4]) (by kernel_rfl) (by simp) ?_
    refine readyN rfl (fun K hK => ?_) ?_
    · -- operation 3
      go_simp
      first
        | (go_at_call 26; refine HK.out.mono ?_; rintro e w4 ⟨v4, rfl, ho, hb⟩
           have HB4 := Lib.hid hb
           have HO4 := Lib.hid ho.bs
           have HM4 := Lib.hid (HM.out.below HB4.out)
           clear ho hb)
        | (go_at_call 94; refine (delete_any p room b1 b2 now was v4 (lk t i) w4 HM4.out HO4.out).mono ?_; rw [hRR]; rintro e w5 ⟨rfl, h5, h6⟩
           have H5 := Lib.hid h5
           have H6 := Lib.hid ((Keep.ofBelow HB4.out (fun i => i = b1)).trans h6 (fun i hi => .inl hi))
           clear h5 h6)
      go_wp2_with fail
      refine hK.out _ _ ?_ (fun hHeld1 => ?_)
      · dsimp only
      clear hK K hHeld0
      try simp only [Act.put, List.setIfInBounds_toArray, List.set_cons_zero, List.set_cons_succ]
      refine wpAnyH_ready (rs := [4]) (by kernel_rfl) (by simp) ?_
      refine readyN rfl (fun K hK => ?_) ?_
      · -- operation 4
        go_simp
        refine hK.out _ _ ?_ (fun hHeld2 => ?_)
        · dsimp only
        clear hK K hHeld1
        try simp only [Act.put, List.setIfInBounds_toArray, List.set_cons_zero, List.set_cons_succ]
        refine takeN (v := ?_) 5 rfl (by kernel_rfl) (by kernel_rfl) (by kernel_rfl) (fun _ _ _ h => h) (by rfl) ?_ hHeld2 ?_
        rotate_left
        · intro w hSw; (try dsimp only at hSw); go_simp; with_reducible rfl
        try simp only [Act.put, List.setIfInBounds_toArray, List.set_cons_zero, List.set_cons_succ]
        refine takeN (v := ?_) 6 rfl (by kernel_rfl) (by kernel_rfl) (by kernel_rfl) (fun _ _ _ h => h) (by rfl) ?_ hHeld2 ?_
        rotate_left
        · intro w hSw; (try dsimp only at hSw); go_simp; with_reducible rfl
        try simp only [Act.put, List.setIfInBounds_toArray, List.set_cons_zero, List.set_cons_succ]
        refine wpAnyH_ready (rs := [7]) (by kernel_rfl) (by simp) ?_
        refine readyN rfl (fun K hK => ?_) ?_
        · -- operation 7
          go_simp
          go_wp2_with (
              first
                | (go_at_call 26; refine HK.out.mono ?_; rintro e w4 ⟨v4, rfl, ho, hb⟩
                   have HB4 := Lib.hid hb
                   have HO4 := Lib.hid ho.bs
                   have HM4 := Lib.hid (HM.out.below HB4.out)
                   clear ho hb)
                | (go_at_call 94; refine (delete_any p room b1 b2 now was v4 (lk t i) w4 HM4.out HO4.out).mono ?_; rw [hRR]; rintro e w5 ⟨rfl, h5, h6⟩
                   have H5 := Lib.hid h5
                   have H6 := Lib.hid ((Keep.ofBelow HB4.out (fun i => i = b1)).trans h6 (fun i hi => .inl hi))
                   clear h5 h6))
          refine hK.out _ _ ?_ (fun hHeld3 => ?_)
          · dsimp only
          clear hK K hHeld2
          try simp only [Act.put, List.setIfInBounds_toArray, List.set_cons_zero, List.set_cons_succ]
          refine takeN (v := ?_) 8 rfl (by kernel_rfl) (by kernel_rfl) (by kernel_rfl) (fun _ _ _ h => h) (by rfl) ?_ hHeld3 ?_
          rotate_left
          · intro w hSw; (try dsimp only at hSw); go_simp; with_reducible rfl
          try simp only [Act.put, List.setIfInBounds_toArray, List.set_cons_zero, List.set_cons_succ]
          refine takeN (v := ?_) 9 rfl (by kernel_rfl) (by kernel_rfl) (by kernel_rfl) (fun _ _ _ h => h) (by rfl) ?_ hHeld3 ?_
          rotate_left
          · intro w hSw; (try dsimp only at hSw); go_simp; with_reducible rfl
          try simp only [Act.put, List.setIfInBounds_toArray, List.set_cons_zero, List.set_cons_succ]
          refine takeN (v := ?_) 10 rfl (by kernel_rfl) (by kernel_rfl) (by kernel_rfl) (fun _ _ _ h => h) (by rfl) ?_ hHeld3 ?_
          rotate_left
          · intro w hSw; (try dsimp only at hSw); go_simp; with_reducible rfl
          try simp only [Act.put, List.setIfInBounds_toArray, List.set_cons_zero, List.set_cons_succ]
          refine takeN (v := ?_) 11 rfl (by kernel_rfl) (by kernel_rfl) (by kernel_rfl) (fun _ _ _ h => h) (by rfl) ?_ hHeld3 ?_
          rotate_left
          · intro w hSw; (try dsimp only at hSw); go_simp; with_reducible rfl
          try simp only [Act.put, List.setIfInBounds_toArray, List.set_cons_zero, List.set_cons_succ]
          refine takeN (v := ?_) 12 rfl (by kernel_rfl) (by kernel_rfl) (by kernel_rfl) (fun _ _ _ h => h) (by rfl) ?_ hHeld3 ?_
          rotate_left
          · intro w hSw; (try dsimp only at hSw); go_simp; with_reducible rfl
          try simp only [Act.put, List.setIfInBounds_toArray, List.set_cons_zero, List.set_cons_succ]
          refine wpAnyH_done (by kernel_rfl) ?_ _
          go_wp2
          go_ret
          exact ⟨rfl, H5.out, (Keep.refl _ _).drew.trans H6.out (fun i hi => .inl hi)⟩
        exact AllReadyH.nil
      exact AllReadyH.nil
    refine readyN rfl (fun K hK => ?_) ?_
    · -- operation 4
      go_simp
      refine hK.out _ _ ?_ (fun hHeld1 => ?_)
      · dsimp only
      clear hK K hHeld0
      try simp only [Act.put, List.setIfInBounds_toArray, List.set_cons_zero, List.set_cons_succ]
      refine takeN (v := ?_) 5 rfl (by kernel_rfl) (by kernel_rfl) (by kernel_rfl) (fun _ _ _ h => h) (by rfl) ?_ hHeld1 ?_
      rotate_left
      · intro w hSw; (try dsimp only at hSw); go_simp; with_reducible rfl
      try simp only [Act.put, List.setIfInBounds_toArray, List.set_cons_zero, List.set_cons_succ]
      refine takeN (v := ?_) 6 rfl (by kernel_rfl) (by kernel_rfl) (by kernel_rfl) (fun _ _ _ h => h) (by rfl) ?_ hHeld1 ?_
      rotate_left
      · intro w hSw; (try dsimp only at hSw); go_simp; with_reducible rfl
      try simp only [Act.put, List.setIfInBounds_toArray, List.set_cons_zero, List.set_cons_succ]
      refine wpAnyH_ready (rs := [3]) (by kernel_rfl) (by simp) ?_
      refine readyN rfl (fun K hK => ?_) ?_
      · -- operation 3
        go_simp
        first
          | (go_at_call 26; refine HK.out.mono ?_; rintro e w4 ⟨v4, rfl, ho, hb⟩
             have HB4 := Lib.hid hb
             have HO4 := Lib.hid ho.bs
             have HM4 := Lib.hid (HM.out.below HB4.out)
             clear ho hb)
          | (go_at_call 94; refine (delete_any p room b1 b2 now was v4 (lk t i) w4 HM4.out HO4.out).mono ?_; rw [hRR]; rintro e w5 ⟨rfl, h5, h6⟩
             have H5 := Lib.hid h5
             have H6 := Lib.hid ((Keep.ofBelow HB4.out (fun i => i = b1)).trans h6 (fun i hi => .inl hi))
             clear h5 h6)
        go_wp2_with fail
        refine hK.out _ _ ?_ (fun hHeld2 => ?_)
        · dsimp only
        clear hK K hHeld1
        try simp only [Act.put, List.setIfInBounds_toArray, List.set_cons_zero, List.set_cons_succ]
        refine wpAnyH_ready (rs := [7]) (by kernel_rfl) (by simp) ?_
        refine readyN rfl (fun K hK => ?_) ?_
        · -- operation 7
          go_simp
          go_wp2_with (
              first
                | (go_at_call 26; refine HK.out.mono ?_; rintro e w4 ⟨v4, rfl, ho, hb⟩
                   have HB4 := Lib.hid hb
                   have HO4 := Lib.hid ho.bs
                   have HM4 := Lib.hid (HM.out.below HB4.out)
                   clear ho hb)
                | (go_at_call 94; refine (delete_any p room b1 b2 now was v4 (lk t i) w4 HM4.out HO4.out).mono ?_; rw [hRR]; rintro e w5 ⟨rfl, h5, h6⟩
                   have H5 := Lib.hid h5
                   have H6 := Lib.hid ((Keep.ofBelow HB4.out (fun i => i = b1)).trans h6 (fun i hi => .inl hi))
                   clear h5 h6))
          refine hK.out _ _ ?_ (fun hHeld3 => ?_)
          · dsimp only
          clear hK K hHeld2
          try simp only [Act.put, List.setIfInBounds_toArray, List.set_cons_zero, List.set_cons_succ]
          refine takeN (v := ?_) 8 rfl (by kernel_rfl) (by kernel_rfl) (by kernel_rfl) (fun _ _ _ h => h) (by rfl) ?_ hHeld3 ?_
          rotate_left
          · intro w hSw; (try dsimp only at hSw); go_simp; with_reducible rfl
          try simp only [Act.put, List.setIfInBounds_toArray, List.set_cons_zero, List.set_cons_succ]
          refine takeN (v := ?_) 9 rfl (by kernel_rfl) (by kernel_rfl) (by kernel_rfl) (fun _ _ _ h => h) (by rfl) ?_ hHeld3 ?_
          rotate_left
          · intro w hSw; (try dsimp only at hSw); go_simp; with_reducible rfl
          try simp only [Act.put, List.setIfInBounds_toArray, List.set_cons_zero, List.set_cons_succ]
          refine takeN (v := ?_) 10 rfl (by kernel_rfl) (by kernel_rfl) (by kernel_rfl) (fun _ _ _ h => h) (by rfl) ?_ hHeld3 ?_
          rotate_left
          · intro w hSw; (try dsimp only at hSw); go_simp; with_reducible rfl
          try simp only [Act.put, List.setIfInBounds_toArray, List.set_cons_zero, List.set_cons_succ]
          refine takeN (v := ?_) 11 rfl (by kernel_rfl) (by kernel_rfl) (by kernel_rfl) (fun _ _ _ h => h) (by rfl) ?_ hHeld3 ?_
          rotate_left
          · intro w hSw; (try dsimp only at hSw); go_simp; with_reducible rfl
          try simp only [Act.put, List.setIfInBounds_toArray, List.set_cons_zero, List.set_cons_succ]
          refine takeN (v := ?_) 12 rfl (by kernel_rfl) (by kernel_rfl) (by kernel_rfl) (fun _ _ _ h => h) (by rfl) ?_ hHeld3 ?_
          rotate_left
          · intro w hSw; (try dsimp only at hSw); go_simp; with_reducible rfl
          try simp only [Act.put, List.setIfInBounds_toArray, List.set_cons_zero, List.set_cons_succ]
          refine wpAnyH_done (by kernel_rfl) ?_ _
          go_wp2
          go_ret
          exact ⟨rfl, H5.out, (Keep.refl _ _).drew.trans H6.out (fun i hi => .inl hi)⟩
        exact AllReadyH.nil
      exact AllReadyH.nil
    exact AllReadyH.nil
  | false =>
    go_enter Try.func13, Try.ntmps13
    go_upto_region 1 with fail
    refine wp_region_held_drew (S := (fun w' => True)) (by kernel_rfl) ?_ (fun hHeld0 => ?_)
    · dsimp only
    refine takeN (v := ?_) 0 rfl (by kernel_rfl) (by kernel_rfl) (by kernel_rfl) (fun _ _ _ h => h) (by rfl) ?_ hHeld0 ?_
    rotate_left
    · intro w hSw; (try dsimp only at hSw); go_simp; with_reducible rfl
    try simp only [Act.put, List.setIfInBounds_toArray, List.set_cons_zero, List.set_cons_succ]
    refine takeN (v := ?_) 1 rfl (by kernel_rfl) (by kernel_rfl) (by kernel_rfl) (fun _ _ _ h => h) (by rfl) ?_ hHeld0 ?_
    rotate_left
    · intro w hSw; (try dsimp only at hSw); go_simp; with_reducible rfl
    try simp only [Act.put, List.setIfInBounds_toArray, List.set_cons_zero, List.set_cons_succ]
    refine takeN (v := ?_) 2 rfl (by kernel_rfl) (by kernel_rfl) (by kernel_rfl) (fun _ _ _ h => h) (by rfl) ?_ hHeld0 ?_
    rotate_left
    · intro w hSw; (try dsimp only at hSw); go_simp; with_reducible rfl
    try simp only [Act.put, List.setIfInBounds_toArray, List.set_cons_zero, List.set_cons_succ]
    refine wpAnyH_ready (rs := [3, 4]) (by kernel_rfl) (by simp) ?_
    refine readyN rfl (fun K hK => ?_) ?_
    · -- operation 3
      go_simp
      first
        | (go_at_call 26; refine HK.out.mono ?_; rintro e w4 ⟨v4, rfl, ho, hb⟩
           have HB4 := Lib.hid hb
           have HO4 := Lib.hid ho.bs
           have HM4 := Lib.hid (HM.out.below HB4.out)
           clear ho hb)
        | (go_at_call 94; refine (delete_any p room b1 b2 now was v4 (lk t i) w4 HM4.out HO4.out).mono ?_; rw [hRR]; rintro e w5 ⟨rfl, h5, h6⟩
           have H5 := Lib.hid h5
           have H6 := Lib.hid ((Keep.ofBelow HB4.out (fun i => i = b1)).trans h6 (fun i hi => .inl hi))
           clear h5 h6)
      go_wp2_with fail
      refine hK.out _ _ ?_ (fun hHeld1 => ?_)
      · dsimp only
      clear hK K hHeld0
      try simp only [Act.put, List.setIfInBounds_toArray, List.set_cons_zero, List.set_cons_succ]
      refine wpAnyH_ready (rs := [4]) (by kernel_rfl) (by simp) ?_
      refine readyN rfl (fun K hK => ?_) ?_
      · -- operation 4
        go_simp
        refine hK.out _ _ ?_ (fun hHeld2 => ?_)
        · dsimp only
        clear hK K hHeld1
        try simp only [Act.put, List.setIfInBounds_toArray, List.set_cons_zero, List.set_cons_succ]
        refine takeN (v := ?_) 5 rfl (by kernel_rfl) (by kernel_rfl) (by kernel_rfl) (fun _ _ _ h => h) (by rfl) ?_ hHeld2 ?_
        rotate_left
        · intro w hSw; (try dsimp only at hSw); go_simp; with_reducible rfl
        try simp only [Act.put, List.setIfInBounds_toArray, List.set_cons_zero, List.set_cons_succ]
        refine takeN (v := ?_) 6 rfl (by kernel_rfl) (by kernel_rfl) (by kernel_rfl) (fun _ _ _ h => h) (by rfl) ?_ hHeld2 ?_
        rotate_left
        · intro w hSw; (try dsimp only at hSw); go_simp; with_reducible rfl
        try simp only [Act.put, List.setIfInBounds_toArray, List.set_cons_zero, List.set_cons_succ]
        refine wpAnyH_ready (rs := [7]) (by kernel_rfl) (by simp) ?_
        refine readyN rfl (fun K hK => ?_) ?_
        · -- operation 7
          go_simp
          go_wp2_with (
              first
                | (go_at_call 26; refine HK.out.mono ?_; rintro e w4 ⟨v4, rfl, ho, hb⟩
                   have HB4 := Lib.hid hb
                   have HO4 := Lib.hid ho.bs
                   have HM4 := Lib.hid (HM.out.below HB4.out)
                   clear ho hb)
                | (go_at_call 94; refine (delete_any p room b1 b2 now was v4 (lk t i) w4 HM4.out HO4.out).mono ?_; rw [hRR]; rintro e w5 ⟨rfl, h5, h6⟩
                   have H5 := Lib.hid h5
                   have H6 := Lib.hid ((Keep.ofBelow HB4.out (fun i => i = b1)).trans h6 (fun i hi => .inl hi))
                   clear h5 h6))
          refine hK.out _ _ ?_ (fun hHeld3 => ?_)
          · dsimp only
          clear hK K hHeld2
          try simp only [Act.put, List.setIfInBounds_toArray, List.set_cons_zero, List.set_cons_succ]
          refine takeN (v := ?_) 8 rfl (by kernel_rfl) (by kernel_rfl) (by kernel_rfl) (fun _ _ _ h => h) (by rfl) ?_ hHeld3 ?_
          rotate_left
          · intro w hSw; (try dsimp only at hSw); go_simp; with_reducible rfl
          try simp only [Act.put, List.setIfInBounds_toArray, List.set_cons_zero, List.set_cons_succ]
          refine takeN (v := ?_) 9 rfl (by kernel_rfl) (by kernel_rfl) (by kernel_rfl) (fun _ _ _ h => h) (by rfl) ?_ hHeld3 ?_
          rotate_left
          · intro w hSw; (try dsimp only at hSw); go_simp; with_reducible rfl
          try simp only [Act.put, List.setIfInBounds_toArray, List.set_cons_zero, List.set_cons_succ]
          refine takeN (v := ?_) 10 rfl (by kernel_rfl) (by kernel_rfl) (by kernel_rfl) (fun _ _ _ h => h) (by rfl) ?_ hHeld3 ?_
          rotate_left
          · intro w hSw; (try dsimp only at hSw); go_simp; with_reducible rfl
          try simp only [Act.put, List.setIfInBounds_toArray, List.set_cons_zero, List.set_cons_succ]
          refine takeN (v := ?_) 11 rfl (by kernel_rfl) (by kernel_rfl) (by kernel_rfl) (fun _ _ _ h => h) (by rfl) ?_ hHeld3 ?_
          rotate_left
          · intro w hSw; (try dsimp only at hSw); go_simp; with_reducible rfl
          try simp only [Act.put, List.setIfInBounds_toArray, List.set_cons_zero, List.set_cons_succ]
          refine takeN (v := ?_) 12 rfl (by kernel_rfl) (by kernel_rfl) (by kernel_rfl) (fun _ _ _ h => h) (by rfl) ?_ hHeld3 ?_
          rotate_left
          · intro w hSw; (try dsimp only at hSw); go_simp; with_reducible rfl
          try simp only [Act.put, List.setIfInBounds_toArray, List.set_cons_zero, List.set_cons_succ]
          refine wpAnyH_done (by kernel_rfl) ?_ _
          go_wp2
          go_ret
          exact ⟨rfl, H5.out, (Keep.refl _ _).drew.trans H6.out (fun i hi => .inl hi)⟩
        exact AllReadyH.nil
      exact AllReadyH.nil
    refine readyN rfl (fun K hK => ?_) ?_
    · -- operation 4
      go_simp
      refine hK.out _ _ ?_ (fun hHeld1 => ?_)
      · dsimp only
      clear hK K hHeld0
      try simp only [Act.put, List.setIfInBounds_toArray, List.set_cons_zero, List.set_cons_succ]
      refine takeN (v := ?_) 5 rfl (by kernel_rfl) (by kernel_rfl) (by kernel_rfl) (fun _ _ _ h => h) (by rfl) ?_ hHeld1 ?_
      rotate_left
      · intro w hSw; (try dsimp only at hSw); go_simp; with_reducible rfl
      try simp only [Act.put, List.setIfInBounds_toArray, List.set_cons_zero, List.set_cons_succ]
      refine takeN (v := ?_) 6 rfl (by kernel_rfl) (by kernel_rfl) (by kernel_rfl) (fun _ _ _ h => h) (by rfl) ?_ hHeld1 ?_
      rotate_left
      · intro w hSw; (try dsimp only at hSw); go_simp; with_reducible rfl
      try simp only [Act.put, List.setIfInBounds_toArray, List.set_cons_zero, List.set_cons_succ]
      refine wpAnyH_ready (rs := [3]) (by kernel_rfl) (by simp) ?_
      refine readyN rfl (fun K hK => ?_) ?_
      · -- operation 3
        go_simp
        first
          | (go_at_call 26; refine HK.out.mono ?_; rintro e w4 ⟨v4, rfl, ho, hb⟩
             have HB4 := Lib.hid hb
             have HO4 := Lib.hid ho.bs
             have HM4 := Lib.hid (HM.out.below HB4.out)
             clear ho hb)
          | (go_at_call 94; refine (delete_any p room b1 b2 now was v4 (lk t i) w4 HM4.out HO4.out).mono ?_; rw [hRR]; rintro e w5 ⟨rfl, h5, h6⟩
             have H5 := Lib.hid h5
             have H6 := Lib.hid ((Keep.ofBelow HB4.out (fun i => i = b1)).trans h6 (fun i hi => .inl hi))
             clear h5 h6)
        go_wp2_with fail
        refine hK.out _ _ ?_ (fun hHeld2 => ?_)
        · dsimp only
        clear hK K hHeld1
        try simp only [Act.put, List.setIfInBounds_toArray, List.set_cons_zero, List.set_cons_succ]
        refine wpAnyH_ready (rs := [7]) (by kernel_rfl) (by simp) ?_
        refine readyN rfl (fun K hK => ?_) ?_
        · -- operation 7
          go_simp
          go_wp2_with (
              first
                | (go_at_call 26; refine HK.out.mono ?_; rintro e w4 ⟨v4, rfl, ho, hb⟩
                   have HB4 := Lib.hid hb
                   have HO4 := Lib.hid ho.bs
                   have HM4 := Lib.hid (HM.out.below HB4.out)
                   clear ho hb)
                | (go_at_call 94; refine (delete_any p room b1 b2 now was v4 (lk t i) w4 HM4.out HO4.out).mono ?_; rw [hRR]; rintro e w5 ⟨rfl, h5, h6⟩
                   have H5 := Lib.hid h5
                   have H6 := Lib.hid ((Keep.ofBelow HB4.out (fun i => i = b1)).trans h6 (fun i hi => .inl hi))
                   clear h5 h6))
          refine hK.out _ _ ?_ (fun hHeld3 => ?_)
          · dsimp only
          clear hK K hHeld2
          try simp only [Act.put, List.setIfInBounds_toArray, List.set_cons_zero, List.set_cons_succ]
          refine takeN (v := ?_) 8 rfl (by kernel_rfl) (by kernel_rfl) (by kernel_rfl) (fun _ _ _ h => h) (by rfl) ?_ hHeld3 ?_
          rotate_left
          · intro w hSw; (try dsimp only at hSw); go_simp; with_reducible rfl
          try simp only [Act.put, List.setIfInBounds_toArray, List.set_cons_zero, List.set_cons_succ]
          refine takeN (v := ?_) 9 rfl (by kernel_rfl) (by kernel_rfl) (by kernel_rfl) (fun _ _ _ h => h) (by rfl) ?_ hHeld3 ?_
          rotate_left
          · intro w hSw; (try dsimp only at hSw); go_simp; with_reducible rfl
          try simp only [Act.put, List.setIfInBounds_toArray, List.set_cons_zero, List.set_cons_succ]
          refine takeN (v := ?_) 10 rfl (by kernel_rfl) (by kernel_rfl) (by kernel_rfl) (fun _ _ _ h => h) (by rfl) ?_ hHeld3 ?_
          rotate_left
          · intro w hSw; (try dsimp only at hSw); go_simp; with_reducible rfl
          try simp only [Act.put, List.setIfInBounds_toArray, List.set_cons_zero, List.set_cons_succ]
          refine takeN (v := ?_) 11 rfl (by kernel_rfl) (by kernel_rfl) (by kernel_rfl) (fun _ _ _ h => h) (by rfl) ?_ hHeld3 ?_
          rotate_left
          · intro w hSw; (try dsimp only at hSw); go_simp; with_reducible rfl
          try simp only [Act.put, List.setIfInBounds_toArray, List.set_cons_zero, List.set_cons_succ]
          refine takeN (v := ?_) 12 rfl (by kernel_rfl) (by kernel_rfl) (by kernel_rfl) (fun _ _ _ h => h) (by rfl) ?_ hHeld3 ?_
          rotate_left
          · intro w hSw; (try dsimp only at hSw); go_simp; with_reducible rfl
          try simp only [Act.put, List.setIfInBounds_toArray, List.set_cons_zero, List.set_cons_succ]
          refine wpAnyH_done (by kernel_rfl) ?_ _
          go_wp2
          go_ret
          exact ⟨rfl, H5.out, (Keep.refl _ _).drew.trans H6.out (fun i hi => .inl hi)⟩
        exact AllReadyH.nil
      exact AllReadyH.nil
    exact AllReadyH.nil
end Go.Proofs.Ytidppalhjknlfaa
