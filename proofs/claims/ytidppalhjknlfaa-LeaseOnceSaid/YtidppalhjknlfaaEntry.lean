/- The walks of package entry at a lease: PutLease, small, GetLease. -/
import Derived.Test.YtidppalhjknlfaaLint
import Derived.Test.YtidppalhjknlfaaReg
namespace Go.Proofs.Ytidppalhjknlfaa
open Go.RowKit
set_option maxRecDepth 100000
set_option linter.unusedVariables false
set_option linter.unusedSimpArgs false
theorem put_lease (l : Ls) (h : l.Ok) (w : World) :
    Calls Try.prog 27 #[l.val] w fun e w' => ∃ v', e = .returned v' ∧ BS w' v' l.enc ∧ Below w.heap.size w w' := by
  obtain ⟨id, un, ex, dy, mo⟩ := l
  have h0 : 0 ≤ id := h.id.1
  have h1 : id ≤ 4294967295 := h.id.2
  have hw : IntKind.u64.wrap id = id := by rw [IntKind.wrap_u64]; omega
  have HE := Lib.hid (show Ls.enc ⟨id, un, ex, dy, mo⟩ = ByteArray.empty ++ be8 id ++ i8 un ++ i8 ex ++ i8 dy ++ i8 mo by unfold Ls.enc; simp only [ByteArray.append_assoc, ByteArray.empty_append, ByteArray.append_empty])
  have HZ := Lib.hid (fun s n => show (s ++ i8 n).size = s.size + 8 by rw [size_append, i8_size])
  have HZ0 := Lib.hid (show (ByteArray.empty ++ be8 id).size = 8 by rw [size_append, show (be8 id).size = 8 from be_size _ 8]; rfl)
  obtain ⟨O, hO⟩ : ∃ O, O = Obj.cells #[.int .u32 id, .int .i64 un, .int .i64 ex, .int .i64 dy, .int .i64 mo] 31 (0, 0) := ⟨_, rfl⟩
  have hb : (w.alloc O).drew.heap[w.heap.size]? = some O := blk_new w O
  have hkd : Below w.heap.size w (w.alloc O).drew := ((Below.refl _ _).alloc (Nat.le_refl _) O).drew
  have SS := Lib.hid fun (W : World) (hk : Below (w.alloc O).drew.heap.size (w.alloc O).drew W) => show W.heap[w.heap.size]? = some O from (Keep.ofBelow hk (fun _ => False)).blk hb (fun h => h)
  unfold Ls.val
  clear h hb
  subst hO
  have C0 := Lib.hid (SS.out _ (Below.refl _ _))
  have CC := Lib.hid fun (W : World) (hg : W.heap[w.heap.size]? = some (Obj.cells #[.int .u32 id, .int .i64 un, .int .i64 ex, .int .i64 dy, .int .i64 mo] 31 (0, 0))) => show W.cell? ⟨w.heap.size, 0, none⟩ = some (.int .u32 id) ∧ W.cell? ⟨w.heap.size, 1, none⟩ = some (.int .i64 un) ∧ W.cell? ⟨w.heap.size, 2, none⟩ = some (.int .i64 ex) ∧ W.cell? ⟨w.heap.size, 3, none⟩ = some (.int .i64 dy) ∧ W.cell? ⟨w.heap.size, 4, none⟩ = some (.int .i64 mo) by
    refine ⟨?_, ?_, ?_, ?_, ?_⟩ <;> rw [blk_cell hg] <;> rfl
  have HKD := Lib.hid hkd
  clear hkd
  go_enter Try.func27, Try.ntmps27
  go_upto_region 1 with fail
  refine wp_region_held_drew (S := (fun w' => w'.cell? ⟨w.heap.size, 0, none⟩ = some (.int .u32 id) ∧ w'.cell? ⟨w.heap.size, 1, none⟩ = some (.int .i64 un) ∧ w'.cell? ⟨w.heap.size, 2, none⟩ = some (.int .i64 ex) ∧ w'.cell? ⟨w.heap.size, 3, none⟩ = some (.int .i64 dy) ∧ w'.cell? ⟨w.heap.size, 4, none⟩ = some (.int .i64 mo))) (by kernel_rfl) ?_ (fun hHeld0 => ?_)
  · (try dsimp only)
    first | exact CC.out _ C0.out | exact CC.out _ C5.out | exact CC.out _ C4.out | exact CC.out _ C3.out | exact CC.out _ C2.out | exact CC.out _ C1.out
  refine takeN (v := ?_) 0 rfl (by kernel_rfl) (by kernel_rfl) (by kernel_rfl) (fun _ _ _ h => h) (by rfl) ?_ hHeld0 ?_
  rotate_left
  · intro w hSw; (try dsimp only at hSw); go_simp; with_reducible rfl
  try simp only [Act.put, List.setIfInBounds_toArray, List.set_cons_zero, List.set_cons_succ]
  refine takeN (v := ?_) 1 rfl (by kernel_rfl) (by kernel_rfl) (by kernel_rfl) (fun _ _ _ h => h) (by rfl) ?_ hHeld0 ?_
  rotate_left
  · intro w hSw; (try dsimp only at hSw); go_simp; with_reducible rfl
  try simp only [Act.put, List.setIfInBounds_toArray, List.set_cons_zero, List.set_cons_succ]
  refine takeN (v := ?_) 2 rfl (by kernel_rfl) (by kernel_rfl) (by kernel_rfl) (fun _ _ _ h => h) (by rfl) ?_ hHeld0 ?_
  rotate_left
  · intro w hSw; (try dsimp only at hSw); go_simp; with_reducible rfl
  try simp only [Act.put, List.setIfInBounds_toArray, List.set_cons_zero, List.set_cons_succ]
  refine takeN (v := ?_) 4 rfl (by kernel_rfl) (by kernel_rfl) (by kernel_rfl) (fun _ _ _ h => h) (by rfl) ?_ hHeld0 ?_
  rotate_left
  · intro w hSw; (try dsimp only at hSw); go_simp; with_reducible rfl
  try simp only [Act.put, List.setIfInBounds_toArray, List.set_cons_zero, List.set_cons_succ]
  refine takeN (v := ?_) 5 rfl (by kernel_rfl) (by kernel_rfl) (by kernel_rfl) (fun _ _ _ h => h) (by rfl) ?_ hHeld0 ?_
  rotate_left
  · intro w hSw; (try dsimp only at hSw); go_simp; with_reducible rfl
  try simp only [Act.put, List.setIfInBounds_toArray, List.set_cons_zero, List.set_cons_succ]
  refine takeN (v := ?_) 7 rfl (by kernel_rfl) (by kernel_rfl) (by kernel_rfl) (fun _ _ _ h => h) (by rfl) ?_ hHeld0 ?_
  rotate_left
  · intro w hSw; (try dsimp only at hSw); go_simp; with_reducible rfl
  try simp only [Act.put, List.setIfInBounds_toArray, List.set_cons_zero, List.set_cons_succ]
  refine takeN (v := ?_) 8 rfl (by kernel_rfl) (by kernel_rfl) (by kernel_rfl) (fun _ _ _ h => h) (by rfl) ?_ hHeld0 ?_
  rotate_left
  · intro w hSw; (try dsimp only at hSw); go_simp; with_reducible rfl
  try simp only [Act.put, List.setIfInBounds_toArray, List.set_cons_zero, List.set_cons_succ]
  refine takeN (v := ?_) 10 rfl (by kernel_rfl) (by kernel_rfl) (by kernel_rfl) (fun _ _ _ h => h) (by rfl) ?_ hHeld0 ?_
  rotate_left
  · intro w hSw; (try dsimp only at hSw); go_simp; with_reducible rfl
  try simp only [Act.put, List.setIfInBounds_toArray, List.set_cons_zero, List.set_cons_succ]
  refine takeN (v := ?_) 11 rfl (by kernel_rfl) (by kernel_rfl) (by kernel_rfl) (fun _ _ _ h => h) (by rfl) ?_ hHeld0 ?_
  rotate_left
  · intro w hSw; (try dsimp only at hSw); go_simp; with_reducible rfl
  try simp only [Act.put, List.setIfInBounds_toArray, List.set_cons_zero, List.set_cons_succ]
  refine takeN (v := ?_) 13 rfl (by kernel_rfl) (by kernel_rfl) (by kernel_rfl) (fun _ _ _ h => h) (by rfl) ?_ hHeld0 ?_
  rotate_left
  · intro w hSw; (try dsimp only at hSw); go_simp; with_reducible rfl
  try simp only [Act.put, List.setIfInBounds_toArray, List.set_cons_zero, List.set_cons_succ]
  refine takeN (v := ?_) 14 rfl (by kernel_rfl) (by kernel_rfl) (by kernel_rfl) (fun _ _ _ h => h) (by rfl) ?_ hHeld0 ?_
  rotate_left
  · intro w hSw; (try dsimp only at hSw); go_simp; with_reducible rfl
  try simp only [Act.put, List.setIfInBounds_toArray, List.set_cons_zero, List.set_cons_succ]
  refine wpAnyH_ready (rs := [3]) (by kernel_rfl) (by simp) ?_
  refine readyN rfl (fun K hK => ?_) ?_
  · -- operation 3
    go_simp
    first
      | (go_at_call 36; refine (uint_w (.slice none 0 0) ByteArray.empty id h0 (by omega) _ (BS.nil _) (by decide)).mono ?_; rintro e w1 ⟨v1, rfl, ho, hb⟩
         have B1 := Lib.hid hb
         have O1 := Lib.hid ho.bs
         have C1 := Lib.hid (SS.out w1 hb)
         clear ho hb)
      | (go_at_call 35; refine (int_w v1 _ un w1 O1.out (by rw [HZ0.out]; omega)).mono ?_; rintro e w2 ⟨v2, rfl, ho, hb⟩
         have B2 := Lib.hid (below_and B1.out hb)
         have O2 := Lib.hid ho.bs
         have C2 := Lib.hid (SS.out w2 B2.out)
         clear ho hb O1)
      | (go_at_call 35; refine (int_w v2 _ ex w2 O2.out (by rw [HZ.out, HZ0.out]; omega)).mono ?_; rintro e w3 ⟨v3, rfl, ho, hb⟩
         have B3 := Lib.hid (below_and B2.out hb)
         have O3 := Lib.hid ho.bs
         have C3 := Lib.hid (SS.out w3 B3.out)
         clear ho hb O2)
      | (go_at_call 35; refine (int_w v3 _ dy w3 O3.out (by rw [HZ.out, HZ.out, HZ0.out]; omega)).mono ?_; rintro e w4 ⟨v4, rfl, ho, hb⟩
         have B4 := Lib.hid (below_and B3.out hb)
         have O4 := Lib.hid ho.bs
         have C4 := Lib.hid (SS.out w4 B4.out)
         clear ho hb O3)
      | (go_at_call 35; refine (int_w v4 _ mo w4 O4.out (by rw [HZ.out, HZ.out, HZ.out, HZ0.out]; omega)).mono ?_; rintro e w5 ⟨v5, rfl, ho, hb⟩
         have B5 := Lib.hid (below_and B4.out hb)
         have O5 := Lib.hid ho.bs
         have C5 := Lib.hid (SS.out w5 B5.out)
         clear ho hb O4)
    go_wp2_with fail
    refine hK.out _ _ ?_ (fun hHeld1 => ?_)
    · (try dsimp only)
      first | exact CC.out _ C0.out | exact CC.out _ C5.out | exact CC.out _ C4.out | exact CC.out _ C3.out | exact CC.out _ C2.out | exact CC.out _ C1.out
    clear hK K hHeld0
    try simp only [Act.put, List.setIfInBounds_toArray, List.set_cons_zero, List.set_cons_succ]
    refine wpAnyH_ready (rs := [6]) (by kernel_rfl) (by simp) ?_
    refine readyN rfl (fun K hK => ?_) ?_
    · -- operation 6
      go_simp
      first
        | (go_at_call 36; refine (uint_w (.slice none 0 0) ByteArray.empty id h0 (by omega) _ (BS.nil _) (by decide)).mono ?_; rintro e w1 ⟨v1, rfl, ho, hb⟩
           have B1 := Lib.hid hb
           have O1 := Lib.hid ho.bs
           have C1 := Lib.hid (SS.out w1 hb)
           clear ho hb)
        | (go_at_call 35; refine (int_w v1 _ un w1 O1.out (by rw [HZ0.out]; omega)).mono ?_; rintro e w2 ⟨v2, rfl, ho, hb⟩
           have B2 := Lib.hid (below_and B1.out hb)
           have O2 := Lib.hid ho.bs
           have C2 := Lib.hid (SS.out w2 B2.out)
           clear ho hb O1)
        | (go_at_call 35; refine (int_w v2 _ ex w2 O2.out (by rw [HZ.out, HZ0.out]; omega)).mono ?_; rintro e w3 ⟨v3, rfl, ho, hb⟩
           have B3 := Lib.hid (below_and B2.out hb)
           have O3 := Lib.hid ho.bs
           have C3 := Lib.hid (SS.out w3 B3.out)
           clear ho hb O2)
        | (go_at_call 35; refine (int_w v3 _ dy w3 O3.out (by rw [HZ.out, HZ.out, HZ0.out]; omega)).mono ?_; rintro e w4 ⟨v4, rfl, ho, hb⟩
           have B4 := Lib.hid (below_and B3.out hb)
           have O4 := Lib.hid ho.bs
           have C4 := Lib.hid (SS.out w4 B4.out)
           clear ho hb O3)
        | (go_at_call 35; refine (int_w v4 _ mo w4 O4.out (by rw [HZ.out, HZ.out, HZ.out, HZ0.out]; omega)).mono ?_; rintro e w5 ⟨v5, rfl, ho, hb⟩
           have B5 := Lib.hid (below_and B4.out hb)
           have O5 := Lib.hid ho.bs
           have C5 := Lib.hid (SS.out w5 B5.out)
           clear ho hb O4)
      go_wp2_with fail
      refine hK.out _ _ ?_ (fun hHeld2 => ?_)
      · (try dsimp only)
        first | exact CC.out _ C0.out | exact CC.out _ C5.out | exact CC.out _ C4.out | exact CC.out _ C3.out | exact CC.out _ C2.out | exact CC.out _ C1.out
      clear hK K hHeld1
      try simp only [Act.put, List.setIfInBounds_toArray, List.set_cons_zero, List.set_cons_succ]
      refine wpAnyH_ready (rs := [9]) (by kernel_rfl) (by simp) ?_
      refine readyN rfl (fun K hK => ?_) ?_
      · -- operation 9
        go_simp
        first
          | (go_at_call 36; refine (uint_w (.slice none 0 0) ByteArray.empty id h0 (by omega) _ (BS.nil _) (by decide)).mono ?_; rintro e w1 ⟨v1, rfl, ho, hb⟩
             have B1 := Lib.hid hb
             have O1 := Lib.hid ho.bs
             have C1 := Lib.hid (SS.out w1 hb)
             clear ho hb)
          | (go_at_call 35; refine (int_w v1 _ un w1 O1.out (by rw [HZ0.out]; omega)).mono ?_; rintro e w2 ⟨v2, rfl, ho, hb⟩
             have B2 := Lib.hid (below_and B1.out hb)
             have O2 := Lib.hid ho.bs
             have C2 := Lib.hid (SS.out w2 B2.out)
             clear ho hb O1)
          | (go_at_call 35; refine (int_w v2 _ ex w2 O2.out (by rw [HZ.out, HZ0.out]; omega)).mono ?_; rintro e w3 ⟨v3, rfl, ho, hb⟩
             have B3 := Lib.hid (below_and B2.out hb)
             have O3 := Lib.hid ho.bs
             have C3 := Lib.hid (SS.out w3 B3.out)
             clear ho hb O2)
          | (go_at_call 35; refine (int_w v3 _ dy w3 O3.out (by rw [HZ.out, HZ.out, HZ0.out]; omega)).mono ?_; rintro e w4 ⟨v4, rfl, ho, hb⟩
             have B4 := Lib.hid (below_and B3.out hb)
             have O4 := Lib.hid ho.bs
             have C4 := Lib.hid (SS.out w4 B4.out)
             clear ho hb O3)
          | (go_at_call 35; refine (int_w v4 _ mo w4 O4.out (by rw [HZ.out, HZ.out, HZ.out, HZ0.out]; omega)).mono ?_; rintro e w5 ⟨v5, rfl, ho, hb⟩
             have B5 := Lib.hid (below_and B4.out hb)
             have O5 := Lib.hid ho.bs
             have C5 := Lib.hid (SS.out w5 B5.out)
             clear ho hb O4)
        go_wp2_with fail
        refine hK.out _ _ ?_ (fun hHeld3 => ?_)
        · (try dsimp only)
          first | exact CC.out _ C0.out | exact CC.out _ C5.out | exact CC.out _ C4.out | exact CC.out _ C3.out | exact CC.out _ C2.out | exact CC.out _ C1.out
        clear hK K hHeld2
        try simp only [Act.put, List.setIfInBounds_toArray, List.set_cons_zero, List.set_cons_succ]
        refine wpAnyH_ready (rs := [12]) (by kernel_rfl) (by simp) ?_
        refine readyN rfl (fun K hK => ?_) ?_
        · -- operation 12
          go_simp
          first
            | (go_at_call 36; refine (uint_w (.slice none 0 0) ByteArray.empty id h0 (by omega) _ (BS.nil _) (by decide)).mono ?_; rintro e w1 ⟨v1, rfl, ho, hb⟩
               have B1 := Lib.hid hb
               have O1 := Lib.hid ho.bs
               have C1 := Lib.hid (SS.out w1 hb)
               clear ho hb)
            | (go_at_call 35; refine (int_w v1 _ un w1 O1.out (by rw [HZ0.out]; omega)).mono ?_; rintro e w2 ⟨v2, rfl, ho, hb⟩
               have B2 := Lib.hid (below_and B1.out hb)
               have O2 := Lib.hid ho.bs
               have C2 := Lib.hid (SS.out w2 B2.out)
               clear ho hb O1)
            | (go_at_call 35; refine (int_w v2 _ ex w2 O2.out (by rw [HZ.out, HZ0.out]; omega)).mono ?_; rintro e w3 ⟨v3, rfl, ho, hb⟩
               have B3 := Lib.hid (below_and B2.out hb)
               have O3 := Lib.hid ho.bs
               have C3 := Lib.hid (SS.out w3 B3.out)
               clear ho hb O2)
            | (go_at_call 35; refine (int_w v3 _ dy w3 O3.out (by rw [HZ.out, HZ.out, HZ0.out]; omega)).mono ?_; rintro e w4 ⟨v4, rfl, ho, hb⟩
               have B4 := Lib.hid (below_and B3.out hb)
               have O4 := Lib.hid ho.bs
               have C4 := Lib.hid (SS.out w4 B4.out)
               clear ho hb O3)
            | (go_at_call 35; refine (int_w v4 _ mo w4 O4.out (by rw [HZ.out, HZ.out, HZ.out, HZ0.out]; omega)).mono ?_; rintro e w5 ⟨v5, rfl, ho, hb⟩
               have B5 := Lib.hid (below_and B4.out hb)
               have O5 := Lib.hid ho.bs
               have C5 := Lib.hid (SS.out w5 B5.out)
               clear ho hb O4)
          go_wp2_with fail
          refine hK.out _ _ ?_ (fun hHeld4 => ?_)
          · (try dsimp only)
            first | exact CC.out _ C0.out | exact CC.out _ C5.out | exact CC.out _ C4.out | exact CC.out _ C3.out | exact CC.out _ C2.out | exact CC.out _ C1.out
          clear hK K hHeld3
          try simp only [Act.put, List.setIfInBounds_toArray, List.set_cons_zero, List.set_cons_succ]
          refine wpAnyH_ready (rs := [15]) (by kernel_rfl) (by simp) ?_
          refine readyN rfl (fun K hK => ?_) ?_
          · -- operation 15
            go_simp
            first
              | (go_at_call 36; refine (uint_w (.slice none 0 0) ByteArray.empty id h0 (by omega) _ (BS.nil _) (by decide)).mono ?_; rintro e w1 ⟨v1, rfl, ho, hb⟩
                 have B1 := Lib.hid hb
                 have O1 := Lib.hid ho.bs
                 have C1 := Lib.hid (SS.out w1 hb)
                 clear ho hb)
              | (go_at_call 35; refine (int_w v1 _ un w1 O1.out (by rw [HZ0.out]; omega)).mono ?_; rintro e w2 ⟨v2, rfl, ho, hb⟩
                 have B2 := Lib.hid (below_and B1.out hb)
                 have O2 := Lib.hid ho.bs
                 have C2 := Lib.hid (SS.out w2 B2.out)
                 clear ho hb O1)
              | (go_at_call 35; refine (int_w v2 _ ex w2 O2.out (by rw [HZ.out, HZ0.out]; omega)).mono ?_; rintro e w3 ⟨v3, rfl, ho, hb⟩
                 have B3 := Lib.hid (below_and B2.out hb)
                 have O3 := Lib.hid ho.bs
                 have C3 := Lib.hid (SS.out w3 B3.out)
                 clear ho hb O2)
              | (go_at_call 35; refine (int_w v3 _ dy w3 O3.out (by rw [HZ.out, HZ.out, HZ0.out]; omega)).mono ?_; rintro e w4 ⟨v4, rfl, ho, hb⟩
                 have B4 := Lib.hid (below_and B3.out hb)
                 have O4 := Lib.hid ho.bs
                 have C4 := Lib.hid (SS.out w4 B4.out)
                 clear ho hb O3)
              | (go_at_call 35; refine (int_w v4 _ mo w4 O4.out (by rw [HZ.out, HZ.out, HZ.out, HZ0.out]; omega)).mono ?_; rintro e w5 ⟨v5, rfl, ho, hb⟩
                 have B5 := Lib.hid (below_and B4.out hb)
                 have O5 := Lib.hid ho.bs
                 have C5 := Lib.hid (SS.out w5 B5.out)
                 clear ho hb O4)
            go_wp2_with fail
            refine hK.out _ _ ?_ (fun hHeld5 => ?_)
            · (try dsimp only)
              first | exact CC.out _ C0.out | exact CC.out _ C5.out | exact CC.out _ C4.out | exact CC.out _ C3.out | exact CC.out _ C2.out | exact CC.out _ C1.out
            clear hK K hHeld4
            try simp only [Act.put, List.setIfInBounds_toArray, List.set_cons_zero, List.set_cons_succ]
            refine takeN (v := ?_) 16 rfl (by kernel_rfl) (by kernel_rfl) (by kernel_rfl) (fun _ _ _ h => h) (by rfl) ?_ hHeld5 ?_
            rotate_left
            · intro w hSw; (try dsimp only at hSw); go_simp; with_reducible rfl
            try simp only [Act.put, List.setIfInBounds_toArray, List.set_cons_zero, List.set_cons_succ]
            refine wpAnyH_done (by kernel_rfl) ?_ _
            go_wp2
            go_ret
            exact ⟨_, rfl, by rw [HE.out]; exact O5.out, below_and HKD.out B5.out⟩
          exact AllReadyH.nil
        exact AllReadyH.nil
      exact AllReadyH.nil
    exact AllReadyH.nil
  exact AllReadyH.nil
theorem small_r (q : Nat) (r : Rd) (hv : r.val 8 ≤ 4294967295) (w : World) (h : RdIs w q r) :
    Calls Try.prog 59 #[.agg #[.pointer (some ⟨q, 0, none⟩)]] w fun e w' => e = .returned (.int .u32 (r.val 8)) ∧ RdIs w' q (r.skip 8) ∧ Keep (fun i => i = q) w w' := by
  have HC := Lib.hid (uint_r q r _ (h.below ((Below.refl _ _).alloc (Nat.le_refl _) (.cells #[.pointer (some ⟨q, 0, none⟩)] 113))))
  have hv0 := Rd.val_nonneg r 8
  have hne : ¬ (4294967295 : Int) < r.val 8 := by omega
  have hw : IntKind.u32.wrap (r.val 8) = r.val 8 := by rw [IntKind.wrap_u32]; omega
  generalize r.val 8 = n at *
  clear h
  go_enter Try.func59, Try.ntmps59
  go_wp2_with fail
  refine HC.out.mono ?_
  rintro e w1 ⟨rfl, hr, hk⟩
  have HR := Lib.hid hr
  have HK := Lib.hid (((Keep.refl (fun i => i = q) w).alloc (.cells #[.pointer (some ⟨q, 0, none⟩)] 113)).trans hk (fun i hi => .inl hi))
  clear hr hk
  go_wp2
  go_ret
  exact ⟨rfl, HR.out, HK.out⟩
set_option maxHeartbeats 600000 in
theorem getl_c (q : Nat) (r r1 r2 r3 r4 : Rd) (hv : r.val 8 ≤ 4294967295) (e1 : r.skip 8 = r1) (e2 : r1.skip 8 = r2) (e3 : r2.skip 8 = r3) (e4 : r3.skip 8 = r4) (w : World) (h : RdIs w q r) :
    Calls Try.prog 58 #[.agg #[.pointer (some ⟨q, 0, none⟩)]] w fun e w' => e = .returned (Ls.val ⟨r.val 8, wrap64 (r1.val 8), wrap64 (r2.val 8), wrap64 (r3.val 8), wrap64 (r4.val 8)⟩) ∧ RdIs w' q (r4.skip 8) ∧ Keep (fun i => i = q) w w' := by
  have hq := h.lt
  obtain ⟨O1, hO1⟩ : ∃ O, O = Obj.cells #[.pointer (some ⟨q, 0, none⟩)] 113 (0, 0) := ⟨_, rfl⟩
  obtain ⟨O2, hO2⟩ : ∃ O, O = Obj.cells #[.int .u32 0, .int .i64 0, .int .i64 0, .int .i64 0, .int .i64 0] 31 (0, 0) := ⟨_, rfl⟩
  have g1 : ((w.alloc O1).alloc O2).drew.heap[w.heap.size]? = some O1 := blk_alloc (blk_new w O1) O2
  have g2 : ((w.alloc O1).alloc O2).drew.heap[w.heap.size + 1]? = some O2 := blk_newAt (by simp) O2
  have hk0 : Keep (fun i => i = q) w ((w.alloc O1).alloc O2).drew := (((Keep.refl (fun i => i = q) w).alloc O1).alloc O2).drew
  have hr0 : RdIs ((w.alloc O1).alloc O2).drew q r := h.below ((((Below.refl _ _).alloc (Nat.le_refl _) O1).alloc (by simp) O2).drew)
  have SS := Lib.hid fun (W : World) (hk : Keep (fun i => i = q) ((w.alloc O1).alloc O2).drew W) => show W.heap[w.heap.size]? = some O1 ∧ W.heap[w.heap.size + 1]? = some O2 from ⟨hk.blk g1 (fun e => by omega), hk.blk g2 (fun e => by omega)⟩
  have C0 := Lib.hid (SS.out _ (Keep.refl _ _))
  have HK0 := Lib.hid hk0
  have HR0 := Lib.hid hr0
  have HQ := Lib.hid hq
  clear h g1 g2 hk0 hr0 hq
  subst hO1
  subst hO2
  have CC := Lib.hid fun (W : World) (hg : W.heap[w.heap.size]? = some (Obj.cells #[.pointer (some ⟨q, 0, none⟩)] 113 (0, 0)) ∧ W.heap[w.heap.size + 1]? = some (Obj.cells #[.int .u32 0, .int .i64 0, .int .i64 0, .int .i64 0, .int .i64 0] 31 (0, 0))) => show W.cell? ⟨w.heap.size, 0, none⟩ = some (.pointer (some ⟨q, 0, none⟩)) by
    rw [blk_cell hg.1]; rfl
  have CD := Lib.hid fun (W : World) (hg : W.heap[w.heap.size]? = some (Obj.cells #[.pointer (some ⟨q, 0, none⟩)] 113 (0, 0)) ∧ W.heap[w.heap.size + 1]? = some (Obj.cells #[.int .u32 0, .int .i64 0, .int .i64 0, .int .i64 0, .int .i64 0] 31 (0, 0))) => show (W.cell? ⟨w.heap.size + 1, 0, none⟩ = some (.int .u32 0) ∧ W.cell? ⟨w.heap.size + 1, 1, none⟩ = some (.int .i64 0) ∧ W.cell? ⟨w.heap.size + 1, 2, none⟩ = some (.int .i64 0) ∧ W.cell? ⟨w.heap.size + 1, 3, none⟩ = some (.int .i64 0) ∧ W.cell? ⟨w.heap.size + 1, 4, none⟩ = some (.int .i64 0)) ∧ (W.frozen? ⟨w.heap.size + 1, 0, none⟩ = false ∧ W.frozen? ⟨w.heap.size + 1, 1, none⟩ = false ∧ W.frozen? ⟨w.heap.size + 1, 2, none⟩ = false ∧ W.frozen? ⟨w.heap.size + 1, 3, none⟩ = false ∧ W.frozen? ⟨w.heap.size + 1, 4, none⟩ = false) by
    refine ⟨⟨?_, ?_, ?_, ?_, ?_⟩, blk_frozen hg.2 _, blk_frozen hg.2 _, blk_frozen hg.2 _, blk_frozen hg.2 _, blk_frozen hg.2 _⟩ <;> rw [blk_cell hg.2] <;> rfl
  unfold Ls.val
  go_enter Try.func58, Try.ntmps58
  go_upto_region 1 with fail
  refine wp_region_held_drew (S := (fun w' => w'.cell? ⟨w.heap.size, 0, none⟩ = some (.pointer (some ⟨q, 0, none⟩)))) (by kernel_rfl) ?_ (fun hHeld0 => ?_)
  · (try dsimp only)
    first | with_reducible exact CC.out _ C0.out | with_reducible exact CC.out _ C5.out | with_reducible exact CC.out _ C4.out | with_reducible exact CC.out _ C3.out | with_reducible exact CC.out _ C2.out | with_reducible exact CC.out _ C1.out | ((iterate 5 rw [World.cell?_setCell_other _ _ _ _ (by intro h; simp only [Addr.mk.injEq] at h; omega)]); exact CC.out _ C5.out)
  refine takeN (v := ?_) 0 rfl (by kernel_rfl) (by kernel_rfl) (by kernel_rfl) (fun _ _ _ h => h) (by rfl) ?_ hHeld0 ?_
  rotate_left
  · intro w hSw; (try dsimp only at hSw); go_simp; with_reducible rfl
  try simp only [Act.put, List.setIfInBounds_toArray, List.set_cons_zero, List.set_cons_succ]
  refine takeN (v := ?_) 2 rfl (by kernel_rfl) (by kernel_rfl) (by kernel_rfl) (fun _ _ _ h => h) (by rfl) ?_ hHeld0 ?_
  rotate_left
  · intro w hSw; (try dsimp only at hSw); go_simp; with_reducible rfl
  try simp only [Act.put, List.setIfInBounds_toArray, List.set_cons_zero, List.set_cons_succ]
  refine takeN (v := ?_) 3 rfl (by kernel_rfl) (by kernel_rfl) (by kernel_rfl) (fun _ _ _ h => h) (by rfl) ?_ hHeld0 ?_
  rotate_left
  · intro w hSw; (try dsimp only at hSw); go_simp; with_reducible rfl
  try simp only [Act.put, List.setIfInBounds_toArray, List.set_cons_zero, List.set_cons_succ]
  refine takeN (v := ?_) 5 rfl (by kernel_rfl) (by kernel_rfl) (by kernel_rfl) (fun _ _ _ h => h) (by rfl) ?_ hHeld0 ?_
  rotate_left
  · intro w hSw; (try dsimp only at hSw); go_simp; with_reducible rfl
  try simp only [Act.put, List.setIfInBounds_toArray, List.set_cons_zero, List.set_cons_succ]
  refine takeN (v := ?_) 6 rfl (by kernel_rfl) (by kernel_rfl) (by kernel_rfl) (fun _ _ _ h => h) (by rfl) ?_ hHeld0 ?_
  rotate_left
  · intro w hSw; (try dsimp only at hSw); go_simp; with_reducible rfl
  try simp only [Act.put, List.setIfInBounds_toArray, List.set_cons_zero, List.set_cons_succ]
  refine takeN (v := ?_) 8 rfl (by kernel_rfl) (by kernel_rfl) (by kernel_rfl) (fun _ _ _ h => h) (by rfl) ?_ hHeld0 ?_
  rotate_left
  · intro w hSw; (try dsimp only at hSw); go_simp; with_reducible rfl
  try simp only [Act.put, List.setIfInBounds_toArray, List.set_cons_zero, List.set_cons_succ]
  refine takeN (v := ?_) 9 rfl (by kernel_rfl) (by kernel_rfl) (by kernel_rfl) (fun _ _ _ h => h) (by rfl) ?_ hHeld0 ?_
  rotate_left
  · intro w hSw; (try dsimp only at hSw); go_simp; with_reducible rfl
  try simp only [Act.put, List.setIfInBounds_toArray, List.set_cons_zero, List.set_cons_succ]
  refine takeN (v := ?_) 11 rfl (by kernel_rfl) (by kernel_rfl) (by kernel_rfl) (fun _ _ _ h => h) (by rfl) ?_ hHeld0 ?_
  rotate_left
  · intro w hSw; (try dsimp only at hSw); go_simp; with_reducible rfl
  try simp only [Act.put, List.setIfInBounds_toArray, List.set_cons_zero, List.set_cons_succ]
  refine takeN (v := ?_) 12 rfl (by kernel_rfl) (by kernel_rfl) (by kernel_rfl) (fun _ _ _ h => h) (by rfl) ?_ hHeld0 ?_
  rotate_left
  · intro w hSw; (try dsimp only at hSw); go_simp; with_reducible rfl
  try simp only [Act.put, List.setIfInBounds_toArray, List.set_cons_zero, List.set_cons_succ]
  refine wpAnyH_ready (rs := [1]) (by kernel_rfl) (by simp) ?_
  refine readyN rfl (fun K hK => ?_) ?_
  · -- operation 1
    go_simp
    first
      | (go_at_call 59; refine (small_r q r hv _ HR0.out).mono ?_; rintro e w1 ⟨rfl, hr, hk⟩
         have K1 := Lib.hid hk
         have R1 := Lib.hid (show RdIs w1 q r1 by rw [← e1]; exact hr)
         have C1 := Lib.hid (SS.out w1 hk)
         clear hr hk HR0)
      | (go_at_call 60; refine (int_r q r1 w1 R1.out).mono ?_; rintro e w2 ⟨rfl, hr, hk⟩
         have K2 := Lib.hid (K1.out.trans hk (fun i hi => .inl hi))
         have R2 := Lib.hid (show RdIs w2 q r2 by rw [← e2]; exact hr)
         have C2 := Lib.hid (SS.out w2 K2.out)
         clear hr hk R1)
      | (go_at_call 60; refine (int_r q r2 w2 R2.out).mono ?_; rintro e w3 ⟨rfl, hr, hk⟩
         have K3 := Lib.hid (K2.out.trans hk (fun i hi => .inl hi))
         have R3 := Lib.hid (show RdIs w3 q r3 by rw [← e3]; exact hr)
         have C3 := Lib.hid (SS.out w3 K3.out)
         clear hr hk R2)
      | (go_at_call 60; refine (int_r q r3 w3 R3.out).mono ?_; rintro e w4 ⟨rfl, hr, hk⟩
         have K4 := Lib.hid (K3.out.trans hk (fun i hi => .inl hi))
         have R4 := Lib.hid (show RdIs w4 q r4 by rw [← e4]; exact hr)
         have C4 := Lib.hid (SS.out w4 K4.out)
         clear hr hk R3)
      | (go_at_call 60; refine (int_r q r4 w4 R4.out).mono ?_; rintro e w5 ⟨rfl, hr, hk⟩
         have K5 := Lib.hid (K4.out.trans hk (fun i hi => .inl hi))
         have R5 := Lib.hid hr
         have C5 := Lib.hid (SS.out w5 K5.out)
         have cd := CD.out w5 C5.out
         clear hr hk R4)
    go_wp2_with fail
    refine hK.out _ _ ?_ (fun hHeld1 => ?_)
    · (try dsimp only)
      first | with_reducible exact CC.out _ C0.out | with_reducible exact CC.out _ C5.out | with_reducible exact CC.out _ C4.out | with_reducible exact CC.out _ C3.out | with_reducible exact CC.out _ C2.out | with_reducible exact CC.out _ C1.out | ((iterate 5 rw [World.cell?_setCell_other _ _ _ _ (by intro h; simp only [Addr.mk.injEq] at h; omega)]); exact CC.out _ C5.out)
    clear hK K hHeld0
    try simp only [Act.put, List.setIfInBounds_toArray, List.set_cons_zero, List.set_cons_succ]
    refine wpAnyH_ready (rs := [4]) (by kernel_rfl) (by simp) ?_
    refine readyN rfl (fun K hK => ?_) ?_
    · -- operation 4
      go_simp
      first
        | (go_at_call 59; refine (small_r q r hv _ HR0.out).mono ?_; rintro e w1 ⟨rfl, hr, hk⟩
           have K1 := Lib.hid hk
           have R1 := Lib.hid (show RdIs w1 q r1 by rw [← e1]; exact hr)
           have C1 := Lib.hid (SS.out w1 hk)
           clear hr hk HR0)
        | (go_at_call 60; refine (int_r q r1 w1 R1.out).mono ?_; rintro e w2 ⟨rfl, hr, hk⟩
           have K2 := Lib.hid (K1.out.trans hk (fun i hi => .inl hi))
           have R2 := Lib.hid (show RdIs w2 q r2 by rw [← e2]; exact hr)
           have C2 := Lib.hid (SS.out w2 K2.out)
           clear hr hk R1)
        | (go_at_call 60; refine (int_r q r2 w2 R2.out).mono ?_; rintro e w3 ⟨rfl, hr, hk⟩
           have K3 := Lib.hid (K2.out.trans hk (fun i hi => .inl hi))
           have R3 := Lib.hid (show RdIs w3 q r3 by rw [← e3]; exact hr)
           have C3 := Lib.hid (SS.out w3 K3.out)
           clear hr hk R2)
        | (go_at_call 60; refine (int_r q r3 w3 R3.out).mono ?_; rintro e w4 ⟨rfl, hr, hk⟩
           have K4 := Lib.hid (K3.out.trans hk (fun i hi => .inl hi))
           have R4 := Lib.hid (show RdIs w4 q r4 by rw [← e4]; exact hr)
           have C4 := Lib.hid (SS.out w4 K4.out)
           clear hr hk R3)
        | (go_at_call 60; refine (int_r q r4 w4 R4.out).mono ?_; rintro e w5 ⟨rfl, hr, hk⟩
           have K5 := Lib.hid (K4.out.trans hk (fun i hi => .inl hi))
           have R5 := Lib.hid hr
           have C5 := Lib.hid (SS.out w5 K5.out)
           have cd := CD.out w5 C5.out
           clear hr hk R4)
      go_wp2_with fail
      refine hK.out _ _ ?_ (fun hHeld2 => ?_)
      · (try dsimp only)
        first | with_reducible exact CC.out _ C0.out | with_reducible exact CC.out _ C5.out | with_reducible exact CC.out _ C4.out | with_reducible exact CC.out _ C3.out | with_reducible exact CC.out _ C2.out | with_reducible exact CC.out _ C1.out | ((iterate 5 rw [World.cell?_setCell_other _ _ _ _ (by intro h; simp only [Addr.mk.injEq] at h; omega)]); exact CC.out _ C5.out)
      clear hK K hHeld1
      try simp only [Act.put, List.setIfInBounds_toArray, List.set_cons_zero, List.set_cons_succ]
      refine wpAnyH_ready (rs := [7]) (by kernel_rfl) (by simp) ?_
      refine readyN rfl (fun K hK => ?_) ?_
      · -- operation 7
        go_simp
        first
          | (go_at_call 59; refine (small_r q r hv _ HR0.out).mono ?_; rintro e w1 ⟨rfl, hr, hk⟩
             have K1 := Lib.hid hk
             have R1 := Lib.hid (show RdIs w1 q r1 by rw [← e1]; exact hr)
             have C1 := Lib.hid (SS.out w1 hk)
             clear hr hk HR0)
          | (go_at_call 60; refine (int_r q r1 w1 R1.out).mono ?_; rintro e w2 ⟨rfl, hr, hk⟩
             have K2 := Lib.hid (K1.out.trans hk (fun i hi => .inl hi))
             have R2 := Lib.hid (show RdIs w2 q r2 by rw [← e2]; exact hr)
             have C2 := Lib.hid (SS.out w2 K2.out)
             clear hr hk R1)
          | (go_at_call 60; refine (int_r q r2 w2 R2.out).mono ?_; rintro e w3 ⟨rfl, hr, hk⟩
             have K3 := Lib.hid (K2.out.trans hk (fun i hi => .inl hi))
             have R3 := Lib.hid (show RdIs w3 q r3 by rw [← e3]; exact hr)
             have C3 := Lib.hid (SS.out w3 K3.out)
             clear hr hk R2)
          | (go_at_call 60; refine (int_r q r3 w3 R3.out).mono ?_; rintro e w4 ⟨rfl, hr, hk⟩
             have K4 := Lib.hid (K3.out.trans hk (fun i hi => .inl hi))
             have R4 := Lib.hid (show RdIs w4 q r4 by rw [← e4]; exact hr)
             have C4 := Lib.hid (SS.out w4 K4.out)
             clear hr hk R3)
          | (go_at_call 60; refine (int_r q r4 w4 R4.out).mono ?_; rintro e w5 ⟨rfl, hr, hk⟩
             have K5 := Lib.hid (K4.out.trans hk (fun i hi => .inl hi))
             have R5 := Lib.hid hr
             have C5 := Lib.hid (SS.out w5 K5.out)
             have cd := CD.out w5 C5.out
             clear hr hk R4)
        go_wp2_with fail
        refine hK.out _ _ ?_ (fun hHeld3 => ?_)
        · (try dsimp only)
          first | with_reducible exact CC.out _ C0.out | with_reducible exact CC.out _ C5.out | with_reducible exact CC.out _ C4.out | with_reducible exact CC.out _ C3.out | with_reducible exact CC.out _ C2.out | with_reducible exact CC.out _ C1.out | ((iterate 5 rw [World.cell?_setCell_other _ _ _ _ (by intro h; simp only [Addr.mk.injEq] at h; omega)]); exact CC.out _ C5.out)
        clear hK K hHeld2
        try simp only [Act.put, List.setIfInBounds_toArray, List.set_cons_zero, List.set_cons_succ]
        refine wpAnyH_ready (rs := [10]) (by kernel_rfl) (by simp) ?_
        refine readyN rfl (fun K hK => ?_) ?_
        · -- operation 10
          go_simp
          first
            | (go_at_call 59; refine (small_r q r hv _ HR0.out).mono ?_; rintro e w1 ⟨rfl, hr, hk⟩
               have K1 := Lib.hid hk
               have R1 := Lib.hid (show RdIs w1 q r1 by rw [← e1]; exact hr)
               have C1 := Lib.hid (SS.out w1 hk)
               clear hr hk HR0)
            | (go_at_call 60; refine (int_r q r1 w1 R1.out).mono ?_; rintro e w2 ⟨rfl, hr, hk⟩
               have K2 := Lib.hid (K1.out.trans hk (fun i hi => .inl hi))
               have R2 := Lib.hid (show RdIs w2 q r2 by rw [← e2]; exact hr)
               have C2 := Lib.hid (SS.out w2 K2.out)
               clear hr hk R1)
            | (go_at_call 60; refine (int_r q r2 w2 R2.out).mono ?_; rintro e w3 ⟨rfl, hr, hk⟩
               have K3 := Lib.hid (K2.out.trans hk (fun i hi => .inl hi))
               have R3 := Lib.hid (show RdIs w3 q r3 by rw [← e3]; exact hr)
               have C3 := Lib.hid (SS.out w3 K3.out)
               clear hr hk R2)
            | (go_at_call 60; refine (int_r q r3 w3 R3.out).mono ?_; rintro e w4 ⟨rfl, hr, hk⟩
               have K4 := Lib.hid (K3.out.trans hk (fun i hi => .inl hi))
               have R4 := Lib.hid (show RdIs w4 q r4 by rw [← e4]; exact hr)
               have C4 := Lib.hid (SS.out w4 K4.out)
               clear hr hk R3)
            | (go_at_call 60; refine (int_r q r4 w4 R4.out).mono ?_; rintro e w5 ⟨rfl, hr, hk⟩
               have K5 := Lib.hid (K4.out.trans hk (fun i hi => .inl hi))
               have R5 := Lib.hid hr
               have C5 := Lib.hid (SS.out w5 K5.out)
               have cd := CD.out w5 C5.out
               clear hr hk R4)
          go_wp2_with fail
          refine hK.out _ _ ?_ (fun hHeld4 => ?_)
          · (try dsimp only)
            first | with_reducible exact CC.out _ C0.out | with_reducible exact CC.out _ C5.out | with_reducible exact CC.out _ C4.out | with_reducible exact CC.out _ C3.out | with_reducible exact CC.out _ C2.out | with_reducible exact CC.out _ C1.out | ((iterate 5 rw [World.cell?_setCell_other _ _ _ _ (by intro h; simp only [Addr.mk.injEq] at h; omega)]); exact CC.out _ C5.out)
          clear hK K hHeld3
          try simp only [Act.put, List.setIfInBounds_toArray, List.set_cons_zero, List.set_cons_succ]
          refine wpAnyH_ready (rs := [13]) (by kernel_rfl) (by simp) ?_
          refine readyN rfl (fun K hK => ?_) ?_
          · -- operation 13
            go_simp
            first
              | (go_at_call 59; refine (small_r q r hv _ HR0.out).mono ?_; rintro e w1 ⟨rfl, hr, hk⟩
                 have K1 := Lib.hid hk
                 have R1 := Lib.hid (show RdIs w1 q r1 by rw [← e1]; exact hr)
                 have C1 := Lib.hid (SS.out w1 hk)
                 clear hr hk HR0)
              | (go_at_call 60; refine (int_r q r1 w1 R1.out).mono ?_; rintro e w2 ⟨rfl, hr, hk⟩
                 have K2 := Lib.hid (K1.out.trans hk (fun i hi => .inl hi))
                 have R2 := Lib.hid (show RdIs w2 q r2 by rw [← e2]; exact hr)
                 have C2 := Lib.hid (SS.out w2 K2.out)
                 clear hr hk R1)
              | (go_at_call 60; refine (int_r q r2 w2 R2.out).mono ?_; rintro e w3 ⟨rfl, hr, hk⟩
                 have K3 := Lib.hid (K2.out.trans hk (fun i hi => .inl hi))
                 have R3 := Lib.hid (show RdIs w3 q r3 by rw [← e3]; exact hr)
                 have C3 := Lib.hid (SS.out w3 K3.out)
                 clear hr hk R2)
              | (go_at_call 60; refine (int_r q r3 w3 R3.out).mono ?_; rintro e w4 ⟨rfl, hr, hk⟩
                 have K4 := Lib.hid (K3.out.trans hk (fun i hi => .inl hi))
                 have R4 := Lib.hid (show RdIs w4 q r4 by rw [← e4]; exact hr)
                 have C4 := Lib.hid (SS.out w4 K4.out)
                 clear hr hk R3)
              | (go_at_call 60; refine (int_r q r4 w4 R4.out).mono ?_; rintro e w5 ⟨rfl, hr, hk⟩
                 have K5 := Lib.hid (K4.out.trans hk (fun i hi => .inl hi))
                 have R5 := Lib.hid hr
                 have C5 := Lib.hid (SS.out w5 K5.out)
                 have cd := CD.out w5 C5.out
                 clear hr hk R4)
            go_wp2_with fail
            refine hK.out _ _ ?_ (fun hHeld5 => ?_)
            · (try dsimp only)
              first | with_reducible exact CC.out _ C0.out | with_reducible exact CC.out _ C5.out | with_reducible exact CC.out _ C4.out | with_reducible exact CC.out _ C3.out | with_reducible exact CC.out _ C2.out | with_reducible exact CC.out _ C1.out | ((iterate 5 rw [World.cell?_setCell_other _ _ _ _ (by intro h; simp only [Addr.mk.injEq] at h; omega)]); exact CC.out _ C5.out)
            clear hK K hHeld4
            try simp only [Act.put, List.setIfInBounds_toArray, List.set_cons_zero, List.set_cons_succ]
            refine takeN (v := ?_) 14 rfl (by kernel_rfl) (by kernel_rfl) (by kernel_rfl) (fun _ _ _ h => h) (by rfl) ?_ hHeld5 ?_
            rotate_left
            · intro w hSw; (try dsimp only at hSw); go_simp; with_reducible rfl
            try simp only [Act.put, List.setIfInBounds_toArray, List.set_cons_zero, List.set_cons_succ]
            refine wpAnyH_ready (rs := [15]) (by kernel_rfl) (by simp) ?_
            refine readyN rfl (fun K hK => ?_) ?_
            · -- operation 15
              go_simp
              refine hK.out _ _ ?_ (fun hHeld6 => ?_)
              · (try dsimp only)
                first | with_reducible exact CC.out _ C0.out | with_reducible exact CC.out _ C5.out | with_reducible exact CC.out _ C4.out | with_reducible exact CC.out _ C3.out | with_reducible exact CC.out _ C2.out | with_reducible exact CC.out _ C1.out | ((iterate 5 rw [World.cell?_setCell_other _ _ _ _ (by intro h; simp only [Addr.mk.injEq] at h; omega)]); exact CC.out _ C5.out)
              clear hK K hHeld5
              try simp only [Act.put, List.setIfInBounds_toArray, List.set_cons_zero, List.set_cons_succ]
              refine wpAnyH_done (by kernel_rfl) ?_ _
              go_wp2
              obtain ⟨⟨x0, x1, x2, x3, x4⟩, _⟩ := cd
              (try simp only [Exit.inBlock, Exit.then])
              refine bodyPost_ret (by simp [results, Try.results58, go_sem, x0, x1, x2, x3, x4]; try rfl) rfl ?_
              have kk : Keep (fun i => i = w.heap.size + 1) w5 (((((w5.setCell ⟨w.heap.size + 1, 0, none⟩ (.int .u32 (r.val 8))).setCell ⟨w.heap.size + 1, 1, none⟩ (.int .i64 (wrap64 (r1.val 8)))).setCell ⟨w.heap.size + 1, 2, none⟩ (.int .i64 (wrap64 (r2.val 8)))).setCell ⟨w.heap.size + 1, 3, none⟩ (.int .i64 (wrap64 (r3.val 8)))).setCell ⟨w.heap.size + 1, 4, none⟩ (.int .i64 (wrap64 (r4.val 8)))) :=
                (((((Keep.refl (fun i => i = w.heap.size + 1) w5).setCell (p := ⟨w.heap.size + 1, 0, none⟩) (.inl rfl) _).setCell (p := ⟨w.heap.size + 1, 1, none⟩) (.inl rfl) _).setCell (p := ⟨w.heap.size + 1, 2, none⟩) (.inl rfl) _).setCell (p := ⟨w.heap.size + 1, 3, none⟩) (.inl rfl) _).setCell (p := ⟨w.heap.size + 1, 4, none⟩) (.inl rfl) _
              refine ⟨rfl, R5.out.keep kk (fun e => by have := HQ.out; omega) (fun b o x hc e => ?_), ?_⟩
              · subst e
                rw [blk_cell C5.out.2] at hc
                match o, hc with
                | 0, hc => simp at hc
                | 1, hc => simp at hc
                | 2, hc => simp at hc
                | 3, hc => simp at hc
                | 4, hc => simp at hc
                | o + 5, hc => simp at hc
              · exact (HK0.out.trans K5.out (fun i hi => .inl hi)).trans kk (fun i hi => .inr (by omega))
            exact AllReadyH.nil
          exact AllReadyH.nil
        exact AllReadyH.nil
      exact AllReadyH.nil
    exact AllReadyH.nil
  exact AllReadyH.nil
theorem all_l (id un ex dy mo : Int) (w : World) : Calls Try.prog 61 #[.agg #[.int .u32 id, .int .i64 un, .int .i64 ex, .int .i64 dy, .int .i64 mo]] w fun e w' => e = .returned (.bool true) ∧ Below w.heap.size w w' := by
  go_enter Try.func61, Try.ntmps61
  go_wp2
  go_ret
  exact ⟨rfl, (Below.refl _ _).alloc (Nat.le_refl _) _⟩
theorem read_l (l : Ls) (h : l.Ok) (v : Value) (w : World) (hv : BS w v l.enc) : Calls Try.prog 57 #[v, .func (Fn.func 58) #[] #[], .func (Fn.func 61) #[] #[]] w fun e w' => e = .returned (.tuple #[l.val, .int .i64 0]) ∧ Below w.heap.size w w' := by
  obtain ⟨a, c, rfl⟩ := hv.len
  obtain ⟨e0, r1, e1, u1, r2, e2, u2, r3, e3, u3, r4, e4, u4, e5⟩ := ls_read l h
  have hsz : l.enc.size = 40 := l.enc_size
  have hn := fun W hW => new_r (.slice a l.enc.size c) l.enc W hW (by omega)
  have hg := fun q W hW => getl_c q ⟨l.enc, false⟩ r1 r2 r3 r4 (by rw [e0]; exact h.id.2) e1 e2 e3 e4 W hW
  rw [e0, u1, u2, u3, u4, e5] at hg
  obtain ⟨id, un, ex, dy, mo⟩ := l
  have HV := Lib.hid fun O1 O2 => (hv.alloc O1).alloc O2
  have HN := Lib.hid hn
  have HG := Lib.hid hg
  generalize Ls.enc ⟨id, un, ex, dy, mo⟩ = s at *
  unfold Ls.val at *
  clear hv hn hg e0 e1 u1 e2 u2 e3 u3 e4 u4 e5 h hsz
  go_enter Try.func57, Try.ntmps57
  go_wp2_with fail
  refine (HN.out _ (HV.out _ _)).mono ?_
  rintro e w1 ⟨q, rfl, hq, hr, hb⟩
  have HQ := Lib.hid hq
  have HR := Lib.hid hr
  have HB := Lib.hid hb
  clear hq hr hb
  go_wp2_with fail
  refine (HG.out q _ (HR.out.below ((Below.refl _ _).alloc (Nat.le_refl _) _))).mono ?_
  rintro e w2 ⟨rfl, hr, hk⟩
  have hlt := HR.out.lt
  have HR2 := Lib.hid hr
  have hbx : w2.heap[w1.heap.size]? = some (.cells #[.pointer (some ⟨q, 0, none⟩)] 113 (0, 0)) := hk.blk (blk_new _ _) (fun e => by omega)
  have hcx : ∀ o, (w2.alloc o).cell? ⟨w1.heap.size, 0, none⟩ = some (.pointer (some ⟨q, 0, none⟩)) := fun o => by rw [blk_cell (blk_alloc hbx o)]; rfl
  have hb1 : Below w.heap.size w w1 := (((Below.refl w.heap.size w).alloc (Nat.le_refl _) _).alloc (by simp) _).trans (HB.out.mono (by simp; omega))
  have hb2 : Below w.heap.size w w2 := (hb1.alloc hb1.size _).trans (hk.below (B := w.heap.size) (by have := hb1.size; simp; omega) (fun i hi => by subst hi; have := HQ.out; simp at this; omega))
  have hres : w2.heap[w.heap.size]? = some (.cells #[.int .u32 0, .int .i64 0, .int .i64 0, .int .i64 0, .int .i64 0] 31 (0, 0)) :=
    hk.blk (blk_alloc ((Keep.ofBelow HB.out (fun _ => False)).blk (blk_alloc (blk_new _ _) _) (fun h => h)) _) (fun e => by have := HQ.out; simp at this; omega)
  have HX := Lib.hid hbx
  have HB2 := Lib.hid hb2
  have HRES := Lib.hid hres
  clear hr hk hlt hbx hb1 hb2 hres
  go_wp2_with fail
  refine (done_w q _ _ (HR2.out.below ((Below.refl _ _).alloc (Nat.le_refl _) _))).mono ?_
  rintro e w3 ⟨rfl, rfl⟩
  rw [if_neg (by decide)]
  go_wp2_with fail
  refine (all_l _ _ _ _ _ _).mono ?_
  rintro e w4 ⟨rfl, hb4⟩
  have hx4 : w4.heap[w2.heap.size]? = some (.cells #[.int .u32 id, .int .i64 un, .int .i64 ex, .int .i64 dy, .int .i64 mo] 31 (0, 0)) := (Keep.ofBelow hb4 (fun _ => False)).blk (blk_new _ _) (fun h => h)
  have hr4 : w4.heap[w.heap.size]? = some (.cells #[.int .u32 0, .int .i64 0, .int .i64 0, .int .i64 0, .int .i64 0] 31 (0, 0)) := (Keep.ofBelow hb4 (fun _ => False)).blk (blk_alloc HRES.out _) (fun h => h)
  have cd : (w4.cell? ⟨w.heap.size, 0, none⟩ = some (.int .u32 0) ∧ w4.cell? ⟨w.heap.size, 1, none⟩ = some (.int .i64 0) ∧ w4.cell? ⟨w.heap.size, 2, none⟩ = some (.int .i64 0) ∧ w4.cell? ⟨w.heap.size, 3, none⟩ = some (.int .i64 0) ∧ w4.cell? ⟨w.heap.size, 4, none⟩ = some (.int .i64 0)) ∧ (w4.frozen? ⟨w.heap.size, 0, none⟩ = false ∧ w4.frozen? ⟨w.heap.size, 1, none⟩ = false ∧ w4.frozen? ⟨w.heap.size, 2, none⟩ = false ∧ w4.frozen? ⟨w.heap.size, 3, none⟩ = false ∧ w4.frozen? ⟨w.heap.size, 4, none⟩ = false) := by
    refine ⟨⟨?_, ?_, ?_, ?_, ?_⟩, blk_frozen hr4 _, blk_frozen hr4 _, blk_frozen hr4 _, blk_frozen hr4 _, blk_frozen hr4 _⟩ <;> rw [blk_cell hr4] <;> rfl
  have cx : w4.cell? ⟨w2.heap.size, 0, none⟩ = some (.int .u32 id) ∧ w4.cell? ⟨w2.heap.size, 1, none⟩ = some (.int .i64 un) ∧ w4.cell? ⟨w2.heap.size, 2, none⟩ = some (.int .i64 ex) ∧ w4.cell? ⟨w2.heap.size, 3, none⟩ = some (.int .i64 dy) ∧ w4.cell? ⟨w2.heap.size, 4, none⟩ = some (.int .i64 mo) := by
    refine ⟨?_, ?_, ?_, ?_, ?_⟩ <;> rw [blk_cell hx4] <;> rfl
  have HB4 := Lib.hid ((HB2.out.alloc HB2.out.size _).trans (hb4.mono (by have := HB2.out.size; simp; omega)))
  clear hb4 hx4 hr4 hcx
  go_wp2_with fail
  obtain ⟨⟨x0, x1, x2, x3, x4⟩, _⟩ := cd
  (try simp only [Exit.inBlock, Exit.then])
  refine bodyPost_ret (by simp [results, Try.results57, go_sem, x0, x1, x2, x3, x4]; try rfl) rfl ?_
  exact ⟨rfl, ((((HB4.out.setCell (Nat.le_refl _) _).setCell (Nat.le_refl _) _).setCell (Nat.le_refl _) _).setCell (Nat.le_refl _) _).setCell (Nat.le_refl _) _⟩
theorem get_lease (l : Ls) (h : l.Ok) (v : Value) (w : World) (hv : BS w v l.enc) : Calls Try.prog 41 #[v] w fun e w' => e = .returned (.tuple #[l.val, .int .i64 0]) ∧ Below w.heap.size w w' := by
  obtain ⟨a, c, rfl⟩ := hv.len
  have HC := Lib.hid fun o => read_l l h _ _ (hv.alloc o)
  obtain ⟨id, un, ex, dy, mo⟩ := l
  generalize Ls.enc ⟨id, un, ex, dy, mo⟩ = s at *
  unfold Ls.val at *
  clear hv h
  go_enter Try.func41, Try.ntmps41
  go_wp2_with fail
  refine (HC.out _).mono ?_
  rintro e w1 ⟨rfl, hb⟩
  have hr4 : w1.heap[w.heap.size]? = some (.cells #[.int .u32 0, .int .i64 0, .int .i64 0, .int .i64 0, .int .i64 0] 31 (0, 0)) := (Keep.ofBelow hb (fun _ => False)).blk (blk_new _ _) (fun h => h)
  have cd : (w1.cell? ⟨w.heap.size, 0, none⟩ = some (.int .u32 0) ∧ w1.cell? ⟨w.heap.size, 1, none⟩ = some (.int .i64 0) ∧ w1.cell? ⟨w.heap.size, 2, none⟩ = some (.int .i64 0) ∧ w1.cell? ⟨w.heap.size, 3, none⟩ = some (.int .i64 0) ∧ w1.cell? ⟨w.heap.size, 4, none⟩ = some (.int .i64 0)) ∧ (w1.frozen? ⟨w.heap.size, 0, none⟩ = false ∧ w1.frozen? ⟨w.heap.size, 1, none⟩ = false ∧ w1.frozen? ⟨w.heap.size, 2, none⟩ = false ∧ w1.frozen? ⟨w.heap.size, 3, none⟩ = false ∧ w1.frozen? ⟨w.heap.size, 4, none⟩ = false) := by
    refine ⟨⟨?_, ?_, ?_, ?_, ?_⟩, blk_frozen hr4 _, blk_frozen hr4 _, blk_frozen hr4 _, blk_frozen hr4 _, blk_frozen hr4 _⟩ <;> rw [blk_cell hr4] <;> rfl
  have HB := Lib.hid (((Below.refl w.heap.size w).alloc (Nat.le_refl _) (.cells #[.int .u32 0, .int .i64 0, .int .i64 0, .int .i64 0, .int .i64 0] 31)).trans (hb.mono (by simp)))
  clear hb hr4
  go_wp2_with fail
  obtain ⟨⟨x0, x1, x2, x3, x4⟩, _⟩ := cd
  (try simp only [Exit.inBlock, Exit.then])
  refine bodyPost_ret (by simp [results, Try.results41, go_sem, x0, x1, x2, x3, x4]; try rfl) rfl ?_
  exact ⟨rfl, ((((HB.out.setCell (Nat.le_refl _) _).setCell (Nat.le_refl _) _).setCell (Nat.le_refl _) _).setCell (Nat.le_refl _) _).setCell (Nat.le_refl _) _⟩
end Go.Proofs.Ytidppalhjknlfaa
