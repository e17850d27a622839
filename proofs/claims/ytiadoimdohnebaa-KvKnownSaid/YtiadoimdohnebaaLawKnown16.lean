/- The walk of KvKnown. -/
import Derived.Test.YtiadoimdohnebaaMake
import Derived.Test.YtiadoimdohnebaaActLaw
import Derived.Test.YtiadoimdohnebaaGoes16
import Derived.Test.YtiadoimdohnebaaReg
import Derived.Deep.DeepCutAuto
namespace Go.Proofs.Ytiadoimdohnebaa
open Go.RowKit
set_option maxRecDepth 100000
set_option linter.unusedVariables false
set_option linter.unusedSimpArgs false
set_option maxHeartbeats 4000000
def bA : ByteArray := ⟨#[97]⟩
def bN : ByteArray := ⟨#[110]⟩
def b1 : ByteArray := ⟨#[49]⟩
theorem BS.of_blk {w : World} {k : Nat} {e : TypeId} {s : ByteArray} {z : Nat × Nat} {c : Array Value} (h : w.heap[k]? = some (.cells c e z)) (hc : c = (Lib.strCells s).toArray) {n : Nat} (hn : n = s.size) (hm : s.size ≤ maxLen) : BS w (.slice (some ⟨k, 0, none⟩) n n) s := by
  subst hc; subst hn
  refine ⟨_, _, rfl, Nat.le_refl _, hm, (fun h => by cases h), .inr ⟨_, 0, rfl, fun i hi => ?_⟩⟩
  rw [Nat.zero_add, blk_cell h]
  simpa using strCells_get s i hi
theorem get_put {k v : ByteArray} {l : AL} (h : AL.ND l) : AL.get k (AL.put k v l) = some v := (get_some (nd_put h)).2 ((mem_put h).2 (.inl rfl))
theorem get_del {k : ByteArray} {l : AL} (h : AL.ND l) : AL.get k (AL.del k l) = none := by
  rw [get_none]
  intro hk
  obtain ⟨p, hp, rfl⟩ := List.mem_map.1 hk
  exact ((mem_del h).1 hp).2 rfl
theorem putE_ok (now : AL) (k v : ByteArray) (h0 : k.size ≠ 0) (h1 : k.size ≤ 256) (h2 : v.size ≤ 1024) : putE (-1) now k v = 0 := by
  unfold putE
  rw [if_neg h0, if_neg (by omega), if_neg (by omega)]
theorem putA_ok (now : AL) (k v : ByteArray) (h0 : k.size ≠ 0) (h1 : k.size ≤ 256) (h2 : v.size ≤ 1024) : putA (-1) now k v = AL.put k v now := by
  unfold putA
  rw [if_pos (putE_ok now k v h0 h1 h2)]
theorem putE_long (now : AL) (k v : ByteArray) (h0 : k.size ≠ 0) (h : 256 < k.size ∨ 1024 < v.size) : putE (-1) now k v = 2 := by
  unfold putE
  rw [if_neg h0, if_pos h]
theorem putA_not (room : Int) (now : AL) (k v : ByteArray) (h : putE room now k v ≠ 0) : putA room now k v = now := by
  unfold putA
  rw [if_neg h]
theorem known16_any (w : World) :
    Calls Try.prog 6 #[] w fun e w' => e = .returned (.bool true) ∧ Below w.heap.size w w' := by
  obtain ⟨f7, g7, m7, o7, l7⟩ := made_ex 257 257 rfl (by decide)
  obtain ⟨f25, g25, m25, o25, l25⟩ := made_ex 1025 1025 rfl (by decide)
  obtain ⟨f56, g56, m56, o56, l56⟩ := made_ex 256 256 rfl (by decide)
  obtain ⟨f24, g24, m24, o24, l24⟩ := made_ex 1024 1024 rfl (by decide)
  have cex := fun X : World => const_ex (g25 (X.alloc (.cells #[.int .u8 97] 5))) X.heap.size 1 1 #[.int .u8 97] ((Keep.ofBelow (l25 _) (fun _ => False)).blk (blk_new X _) (fun h => h))
  obtain ⟨cw, hcw⟩ := Classical.axiomOfChoice cex
  have kc2 := fun X => (hcw X).1
  have CW := Lib.hid (fun X => (hcw X).2)
  have O7 := Lib.hid o7
  have O25 := Lib.hid o25
  have O56 := Lib.hid o56
  have O24 := Lib.hid o24
  have L7 := Lib.hid l7
  have L25 := Lib.hid l25
  have L56 := Lib.hid l56
  have L24 := Lib.hid l24
  have hkc := kc
  have HG := Lib.hid goes16
  have E14 := Lib.hid (show putE (-1) [] ByteArray.empty ByteArray.empty = 1 by decide)
  have E19 := Lib.hid (putE_long [] (zp 257) ByteArray.empty (by rw [zp_size]; decide) (.inl (by rw [zp_size]; decide)))
  have E27 := Lib.hid (putE_long [] bA (zp 1025) (by decide) (.inr (by rw [zp_size]; decide)))
  have E34 := Lib.hid (putE_ok [] (zp 256) (zp 1024) (by rw [zp_size]; decide) (by rw [zp_size]; decide) (by rw [zp_size]; decide))
  have A34 := Lib.hid (putA_ok [] (zp 256) (zp 1024) (by rw [zp_size]; decide) (by rw [zp_size]; decide) (by rw [zp_size]; decide))
  clear o7 o25 o56 o24 l7 l25 l56 l24 cex hcw
  go_enter Try.func6, Try.ntmps6
  go_wp2_with fail
  refine (new_any (-1) _).mono ?_
  rintro e w1 ⟨p, c1, c2, rfl, hp, hb1, hb2, hm, hb⟩
  have HM1 := Lib.hid (show MemIs w1.drew p (-1) c1 c2 [] [] from hm.below ((Below.refl _ _).drew))
  have HB1 := Lib.hid (show Below w.heap.size w w1.drew from hb.drew)
  have HC := Lib.hid hb1
  have pa := fun (W : World) (x y : Value) (k v : ByteArray) (now : AL) (h1 : MemIs W p (-1) c1 c2 now []) (h2 : BS W x k) (h3 : BS W y v) (hl : now.length ≤ 9223372036854775807) => put_any p (-1) c1 c2 now [] x y k v W h1 h2 h3 hl
  simp only [pV] at pa
  have PA := Lib.hid pa
  unfold pV
  clear hm hb hp hb1 hb2 pa
  go_upto_region 2 with fail
  go_cut [36] (fun s36 wx => s36 = .bool false ∧ Hid (MemIs wx p (-1) c1 c2 [(zp 256, zp 1024)] []) ∧ Hid (Below w.heap.size w wx))
  case first =>
    refine wp_region_held_drew (S := (fun _ => True)) (by kernel_rfl) ?_ (fun hHeld0 => ?_)
    · dsimp only
    refine takeN (v := ?_) 0 rfl (by kernel_rfl) (by kernel_rfl) (by kernel_rfl) (fun _ _ _ h => h) (by rfl) ?_ hHeld0 ?_
    rotate_left
    · intro w hSw; (try dsimp only at hSw); go_simp; with_reducible rfl
    try simp only [Act.put, List.setIfInBounds_toArray, List.set_cons_zero, List.set_cons_succ]
    refine wpAnyH_ready (rs := [1]) (by kernel_rfl) (by simp) ?_
    refine readyN rfl (fun K hK => ?_) ?_
    · -- operation 1
      go_simp
      (go_at_call 22
       first
         | ((with_reducible refine (PA.out _ (.slice none 0 0) (.slice none 0 0) ByteArray.empty ByteArray.empty [] HM1.out (BS.nil _) (BS.nil _) (by decide)).mono ?_); rintro e w2 ⟨rfl, hm, hk⟩
            rw [putA_not _ _ _ _ (by rw [E14.out]; decide)] at hm
            rw [E14.out]
            have HM2 := Lib.hid hm
            have HB2 := Lib.hid (HB1.out.trans (hk.below (B := w.heap.size) HB1.out.size (fun i hi => by subst hi; exact HC.out))))
         | ((with_reducible refine (PA.out (g7 w2) (f7 w2) (.slice none 0 0) (zp 257) ByteArray.empty [] (HM2.out.below (L7.out _)) (O7.out _).bs (BS.nil _) (by decide)).mono ?_); rintro e w3 ⟨rfl, hm, hk⟩
            rw [putA_not _ _ _ _ (by rw [E19.out]; decide)] at hm
            rw [E19.out]
            have HM3 := Lib.hid hm
            have HB3 := Lib.hid ((HB2.out.trans ((L7.out w2).mono HB2.out.size)).trans (hk.below (B := w.heap.size) (Nat.le_trans HB2.out.size (L7.out w2).size) (fun i hi => by subst hi; exact HC.out))))
         | (first
              | ((with_reducible refine (PA.out _ _ (f25 (w3.alloc (.cells #[.int .u8 97] 5 (1, 2)))) bA (zp 1025) [] ((HM3.out.alloc _).below (L25.out _)) ((BS.lit rfl _ ⟨#[97]⟩ _ rfl rfl (by decide)).below (L25.out _)) (O25.out _).bs (by decide)).mono ?_)
                 have bx := below_and ((Below.refl w3.heap.size w3).alloc (Nat.le_refl _) (.cells #[.int .u8 97] 5 (1, 2))) (L25.out _))
              | (have hm3 := ((HM3.out.alloc (.cells #[.int .u8 97] 5)).below (L25.out _)).keep (CW.out w3).1 (by have := blk_lt HM3.out.blk; omega) (by have := HM3.out.now.lt; omega) (by have := HM3.out.was.lt; omega)
                 have ho3 := ((O25.out (w3.alloc (.cells #[.int .u8 97] 5))).keep (CW.out w3).1 (fun k hk h => by have := ((O25.out (w3.alloc (.cells #[.int .u8 97] 5))).base_le k hk).1; simp at this; omega)).bs
                 have hk3 : BS (cw w3) (.slice (some ⟨w3.heap.size, 0, none⟩) 1 1) bA := BS.of_blk (CW.out w3).2 rfl rfl (by decide)
                 (with_reducible refine (PA.out (cw w3) _ (f25 (w3.alloc (.cells #[.int .u8 97] 5))) bA (zp 1025) [] hm3 hk3 ho3 (by decide)).mono ?_)
                 clear hm3 ho3 hk3
                 have bx := (below_and ((Below.refl w3.heap.size w3).alloc (Nat.le_refl _) (.cells #[.int .u8 97] 5)) (L25.out _)).trans ((CW.out w3).1.below (B := w3.heap.size) (by have := (L25.out (w3.alloc (.cells #[.int .u8 97] 5))).size; simp at this; omega) (fun i hi => by subst hi; exact Nat.le_refl _)))
              | ((with_reducible refine (PA.out _ _ (f25 w3) bA (zp 1025) [] ((HM3.out.below (L25.out _)).alloc _) (BS.lit rfl _ ⟨#[97]⟩ _ rfl rfl (by decide)) ((O25.out _).alloc _).bs (by decide)).mono ?_)
                 have bx := ((L25.out w3).trans ((Below.refl _ _).alloc (L25.out w3).size (.cells #[.int .u8 97] 5 (1, 2)))))
            rintro e w4 ⟨rfl, hm, hk⟩
            rw [putA_not _ _ _ _ (by rw [E27.out]; decide)] at hm
            rw [E27.out]
            have HM4 := Lib.hid hm
            have HB4 := Lib.hid ((HB3.out.trans (bx.mono HB3.out.size)).trans (hk.below (B := w.heap.size) (Nat.le_trans HB3.out.size bx.size) (fun i hi => by subst hi; exact HC.out)))
            clear bx)
         | (first
              | ((with_reducible refine (PA.out _ (f56 w4) (f24 (g56 w4)) (zp 256) (zp 1024) [] ((HM4.out.below (L56.out _)).below (L24.out _)) ((O56.out _).bs.below (L24.out _)) (O24.out _).bs (by decide)).mono ?_)
                 have bx := below_and (L56.out w4) (L24.out _))
              | ((with_reducible refine (PA.out _ (f56 (g24 w4)) (f24 w4) (zp 256) (zp 1024) [] ((HM4.out.below (L24.out _)).below (L56.out _)) (O56.out _).bs ((O24.out _).bs.below (L56.out _)) (by decide)).mono ?_)
                 have bx := below_and (L24.out w4) (L56.out _))
            rintro e w5 ⟨rfl, hm, hk⟩
            rw [A34.out] at hm
            rw [E34.out]
            have HM5 := Lib.hid hm
            have HB5 := Lib.hid ((HB4.out.trans (bx.mono HB4.out.size)).trans (hk.below (B := w.heap.size) (Nat.le_trans HB4.out.size bx.size) (fun i hi => by subst hi; exact HC.out)))
            clear bx)
       clear hm hk)
      go_wp2_with fail
      refine hK.out _ _ ?_ (fun hHeld1 => ?_)
      · dsimp only
      clear hK K hHeld0
      try simp only [Act.put, List.setIfInBounds_toArray, List.set_cons_zero, List.set_cons_succ]
      refine takeN (v := ?_) 2 rfl (by kernel_rfl) (by kernel_rfl) (by kernel_rfl) (fun _ _ _ h => h) (by rfl) ?_ hHeld1 ?_
      rotate_left
      · intro w hSw; (try dsimp only at hSw); go_simp; with_reducible rfl
      try simp only [Act.put, List.setIfInBounds_toArray, List.set_cons_zero, List.set_cons_succ]
      refine takeN (v := ?_) 3 rfl (by kernel_rfl) (by kernel_rfl) (by kernel_rfl) (fun _ _ _ h => h) (by rfl) ?_ hHeld1 ?_
      rotate_left
      · intro w hSw; (try dsimp only at hSw); go_simp; with_reducible rfl
      try simp only [Act.put, List.setIfInBounds_toArray, List.set_cons_zero, List.set_cons_succ]
      refine takeN (v := ?_) 4 rfl (by kernel_rfl) (by kernel_rfl) (by kernel_rfl) (fun _ _ _ h => h) (by rfl) ?_ hHeld1 ?_
      rotate_left
      · intro w hSw; (try dsimp only at hSw); go_simp; with_reducible rfl
      try simp only [Act.put, List.setIfInBounds_toArray, List.set_cons_zero, List.set_cons_succ]
      refine wpAnyH_ready (rs := [5]) (by kernel_rfl) (by simp) ?_
      refine readyN rfl (fun K hK => ?_) ?_
      · -- operation 5
        go_simp
        refine hK.out _ _ ?_ (fun hHeld2 => ?_)
        · dsimp only
        clear hK K hHeld1
        try simp only [Act.put, List.setIfInBounds_toArray, List.set_cons_zero, List.set_cons_succ]
        refine wpAnyH_ready (rs := [6]) (by kernel_rfl) (by simp) ?_
        refine readyN rfl (fun K hK => ?_) ?_
        · -- operation 6
          go_simp
          (go_at_call 22
           first
             | ((with_reducible refine (PA.out _ (.slice none 0 0) (.slice none 0 0) ByteArray.empty ByteArray.empty [] HM1.out (BS.nil _) (BS.nil _) (by decide)).mono ?_); rintro e w2 ⟨rfl, hm, hk⟩
                rw [putA_not _ _ _ _ (by rw [E14.out]; decide)] at hm
                rw [E14.out]
                have HM2 := Lib.hid hm
                have HB2 := Lib.hid (HB1.out.trans (hk.below (B := w.heap.size) HB1.out.size (fun i hi => by subst hi; exact HC.out))))
             | ((with_reducible refine (PA.out (g7 w2) (f7 w2) (.slice none 0 0) (zp 257) ByteArray.empty [] (HM2.out.below (L7.out _)) (O7.out _).bs (BS.nil _) (by decide)).mono ?_); rintro e w3 ⟨rfl, hm, hk⟩
                rw [putA_not _ _ _ _ (by rw [E19.out]; decide)] at hm
                rw [E19.out]
                have HM3 := Lib.hid hm
                have HB3 := Lib.hid ((HB2.out.trans ((L7.out w2).mono HB2.out.size)).trans (hk.below (B := w.heap.size) (Nat.le_trans HB2.out.size (L7.out w2).size) (fun i hi => by subst hi; exact HC.out))))
             | (first
                  | ((with_reducible refine (PA.out _ _ (f25 (w3.alloc (.cells #[.int .u8 97] 5 (1, 2)))) bA (zp 1025) [] ((HM3.out.alloc _).below (L25.out _)) ((BS.lit rfl _ ⟨#[97]⟩ _ rfl rfl (by decide)).below (L25.out _)) (O25.out _).bs (by decide)).mono ?_)
                     have bx := below_and ((Below.refl w3.heap.size w3).alloc (Nat.le_refl _) (.cells #[.int .u8 97] 5 (1, 2))) (L25.out _))
                  | (have hm3 := ((HM3.out.alloc (.cells #[.int .u8 97] 5)).below (L25.out _)).keep (CW.out w3).1 (by have := blk_lt HM3.out.blk; omega) (by have := HM3.out.now.lt; omega) (by have := HM3.out.was.lt; omega)
                     have ho3 := ((O25.out (w3.alloc (.cells #[.int .u8 97] 5))).keep (CW.out w3).1 (fun k hk h => by have := ((O25.out (w3.alloc (.cells #[.int .u8 97] 5))).base_le k hk).1; simp at this; omega)).bs
                     have hk3 : BS (cw w3) (.slice (some ⟨w3.heap.size, 0, none⟩) 1 1) bA := BS.of_blk (CW.out w3).2 rfl rfl (by decide)
                     (with_reducible refine (PA.out (cw w3) _ (f25 (w3.alloc (.cells #[.int .u8 97] 5))) bA (zp 1025) [] hm3 hk3 ho3 (by decide)).mono ?_)
                     clear hm3 ho3 hk3
                     have bx := (below_and ((Below.refl w3.heap.size w3).alloc (Nat.le_refl _) (.cells #[.int .u8 97] 5)) (L25.out _)).trans ((CW.out w3).1.below (B := w3.heap.size) (by have := (L25.out (w3.alloc (.cells #[.int .u8 97] 5))).size; simp at this; omega) (fun i hi => by subst hi; exact Nat.le_refl _)))
                  | ((with_reducible refine (PA.out _ _ (f25 w3) bA (zp 1025) [] ((HM3.out.below (L25.out _)).alloc _) (BS.lit rfl _ ⟨#[97]⟩ _ rfl rfl (by decide)) ((O25.out _).alloc _).bs (by decide)).mono ?_)
                     have bx := ((L25.out w3).trans ((Below.refl _ _).alloc (L25.out w3).size (.cells #[.int .u8 97] 5 (1, 2)))))
                rintro e w4 ⟨rfl, hm, hk⟩
                rw [putA_not _ _ _ _ (by rw [E27.out]; decide)] at hm
                rw [E27.out]
                have HM4 := Lib.hid hm
                have HB4 := Lib.hid ((HB3.out.trans (bx.mono HB3.out.size)).trans (hk.below (B := w.heap.size) (Nat.le_trans HB3.out.size bx.size) (fun i hi => by subst hi; exact HC.out)))
                clear bx)
             | (first
                  | ((with_reducible refine (PA.out _ (f56 w4) (f24 (g56 w4)) (zp 256) (zp 1024) [] ((HM4.out.below (L56.out _)).below (L24.out _)) ((O56.out _).bs.below (L24.out _)) (O24.out _).bs (by decide)).mono ?_)
                     have bx := below_and (L56.out w4) (L24.out _))
                  | ((with_reducible refine (PA.out _ (f56 (g24 w4)) (f24 w4) (zp 256) (zp 1024) [] ((HM4.out.below (L24.out _)).below (L56.out _)) (O56.out _).bs ((O24.out _).bs.below (L56.out _)) (by decide)).mono ?_)
                     have bx := below_and (L24.out w4) (L56.out _))
                rintro e w5 ⟨rfl, hm, hk⟩
                rw [A34.out] at hm
                rw [E34.out]
                have HM5 := Lib.hid hm
                have HB5 := Lib.hid ((HB4.out.trans (bx.mono HB4.out.size)).trans (hk.below (B := w.heap.size) (Nat.le_trans HB4.out.size bx.size) (fun i hi => by subst hi; exact HC.out)))
                clear bx)
           clear hm hk)
          go_wp2_with fail
          refine hK.out _ _ ?_ (fun hHeld3 => ?_)
          · dsimp only
          clear hK K hHeld2
          try simp only [Act.put, List.setIfInBounds_toArray, List.set_cons_zero, List.set_cons_succ]
          refine takeN (v := ?_) 7 rfl (by kernel_rfl) (by kernel_rfl) (by kernel_rfl) (fun _ _ _ h => h) (by rfl) ?_ hHeld3 ?_
          rotate_left
          · intro w hSw; (try dsimp only at hSw); go_simp; with_reducible rfl
          try simp only [Act.put, List.setIfInBounds_toArray, List.set_cons_zero, List.set_cons_succ]
          refine takeN (v := ?_) 8 rfl (by kernel_rfl) (by kernel_rfl) (by kernel_rfl) (fun _ _ _ h => h) (by rfl) ?_ hHeld3 ?_
          rotate_left
          · intro w hSw; (try dsimp only at hSw); go_simp; with_reducible rfl
          try simp only [Act.put, List.setIfInBounds_toArray, List.set_cons_zero, List.set_cons_succ]
          refine takeN (v := ?_) 9 rfl (by kernel_rfl) (by kernel_rfl) (by kernel_rfl) (fun _ _ _ h => h) (by rfl) ?_ hHeld3 ?_
          rotate_left
          · intro w hSw; (try dsimp only at hSw); go_simp; with_reducible rfl
          try simp only [Act.put, List.setIfInBounds_toArray, List.set_cons_zero, List.set_cons_succ]
          refine takeN (v := ?_) 10 rfl (by kernel_rfl) (by kernel_rfl) (by kernel_rfl) (fun _ _ _ h => h) (by rfl) ?_ hHeld3 ?_
          rotate_left
          · intro w hSw; (try dsimp only at hSw); go_simp; with_reducible rfl
          try simp only [Act.put, List.setIfInBounds_toArray, List.set_cons_zero, List.set_cons_succ]
          refine wpAnyH_ready (rs := [11, 13]) (by kernel_rfl) (by simp) ?_
          refine readyN rfl (fun K hK => ?_) ?_
          · -- operation 11
            go_simp
            refine hK.out _ _ ?_ (fun hHeld4 => ?_)
            · dsimp only
            clear hK K hHeld3
            try simp only [Act.put, List.setIfInBounds_toArray, List.set_cons_zero, List.set_cons_succ]
            refine wpAnyH_ready (rs := [12, 13]) (by kernel_rfl) (by simp) ?_
            refine readyN rfl (fun K hK => ?_) ?_
            · -- operation 12
              go_simp
              refine hK.out _ _ ?_ (fun hHeld5 => ?_)
              · dsimp only
              clear hK K hHeld4
              try simp only [Act.put, List.setIfInBounds_toArray, List.set_cons_zero, List.set_cons_succ]
              refine wpAnyH_ready (rs := [13]) (by kernel_rfl) (by simp) ?_
              refine readyN rfl (fun K hK => ?_) ?_
              · -- operation 13
                go_simp
                refine hK.out _ _ ?_ (fun hHeld6 => ?_)
                · dsimp only
                clear hK K hHeld5
                try simp only [Act.put, List.setIfInBounds_toArray, List.set_cons_zero, List.set_cons_succ]
                refine wpAnyH_ready (rs := [14]) (by kernel_rfl) (by simp) ?_
                refine readyN rfl (fun K hK => ?_) ?_
                · -- operation 14
                  go_simp
                  (go_at_call 22
                   first
                     | ((with_reducible refine (PA.out _ (.slice none 0 0) (.slice none 0 0) ByteArray.empty ByteArray.empty [] HM1.out (BS.nil _) (BS.nil _) (by decide)).mono ?_); rintro e w2 ⟨rfl, hm, hk⟩
                        rw [putA_not _ _ _ _ (by rw [E14.out]; decide)] at hm
                        rw [E14.out]
                        have HM2 := Lib.hid hm
                        have HB2 := Lib.hid (HB1.out.trans (hk.below (B := w.heap.size) HB1.out.size (fun i hi => by subst hi; exact HC.out))))
                     | ((with_reducible refine (PA.out (g7 w2) (f7 w2) (.slice none 0 0) (zp 257) ByteArray.empty [] (HM2.out.below (L7.out _)) (O7.out _).bs (BS.nil _) (by decide)).mono ?_); rintro e w3 ⟨rfl, hm, hk⟩
                        rw [putA_not _ _ _ _ (by rw [E19.out]; decide)] at hm
                        rw [E19.out]
                        have HM3 := Lib.hid hm
                        have HB3 := Lib.hid ((HB2.out.trans ((L7.out w2).mono HB2.out.size)).trans (hk.below (B := w.heap.size) (Nat.le_trans HB2.out.size (L7.out w2).size) (fun i hi => by subst hi; exact HC.out))))
                     | (first
                          | ((with_reducible refine (PA.out _ _ (f25 (w3.alloc (.cells #[.int .u8 97] 5 (1, 2)))) bA (zp 1025) [] ((HM3.out.alloc _).below (L25.out _)) ((BS.lit rfl _ ⟨#[97]⟩ _ rfl rfl (by decide)).below (L25.out _)) (O25.out _).bs (by decide)).mono ?_)
                             have bx := below_and ((Below.refl w3.heap.size w3).alloc (Nat.le_refl _) (.cells #[.int .u8 97] 5 (1, 2))) (L25.out _))
                          | (have hm3 := ((HM3.out.alloc (.cells #[.int .u8 97] 5)).below (L25.out _)).keep (CW.out w3).1 (by have := blk_lt HM3.out.blk; omega) (by have := HM3.out.now.lt; omega) (by have := HM3.out.was.lt; omega)
                             have ho3 := ((O25.out (w3.alloc (.cells #[.int .u8 97] 5))).keep (CW.out w3).1 (fun k hk h => by have := ((O25.out (w3.alloc (.cells #[.int .u8 97] 5))).base_le k hk).1; simp at this; omega)).bs
                             have hk3 : BS (cw w3) (.slice (some ⟨w3.heap.size, 0, none⟩) 1 1) bA := BS.of_blk (CW.out w3).2 rfl rfl (by decide)
                             (with_reducible refine (PA.out (cw w3) _ (f25 (w3.alloc (.cells #[.int .u8 97] 5))) bA (zp 1025) [] hm3 hk3 ho3 (by decide)).mono ?_)
                             clear hm3 ho3 hk3
                             have bx := (below_and ((Below.refl w3.heap.size w3).alloc (Nat.le_refl _) (.cells #[.int .u8 97] 5)) (L25.out _)).trans ((CW.out w3).1.below (B := w3.heap.size) (by have := (L25.out (w3.alloc (.cells #[.int .u8 97] 5))).size; simp at this; omega) (fun i hi => by subst hi; exact Nat.le_refl _)))
                          | ((with_reducible refine (PA.out _ _ (f25 w3) bA (zp 1025) [] ((HM3.out.below (L25.out _)).alloc _) (BS.lit rfl _ ⟨#[97]⟩ _ rfl rfl (by decide)) ((O25.out _).alloc _).bs (by decide)).mono ?_)
                             have bx := ((L25.out w3).trans ((Below.refl _ _).alloc (L25.out w3).size (.cells #[.int .u8 97] 5 (1, 2)))))
                        rintro e w4 ⟨rfl, hm, hk⟩
                        rw [putA_not _ _ _ _ (by rw [E27.out]; decide)] at hm
                        rw [E27.out]
                        have HM4 := Lib.hid hm
                        have HB4 := Lib.hid ((HB3.out.trans (bx.mono HB3.out.size)).trans (hk.below (B := w.heap.size) (Nat.le_trans HB3.out.size bx.size) (fun i hi => by subst hi; exact HC.out)))
                        clear bx)
                     | (first
                          | ((with_reducible refine (PA.out _ (f56 w4) (f24 (g56 w4)) (zp 256) (zp 1024) [] ((HM4.out.below (L56.out _)).below (L24.out _)) ((O56.out _).bs.below (L24.out _)) (O24.out _).bs (by decide)).mono ?_)
                             have bx := below_and (L56.out w4) (L24.out _))
                          | ((with_reducible refine (PA.out _ (f56 (g24 w4)) (f24 w4) (zp 256) (zp 1024) [] ((HM4.out.below (L24.out _)).below (L56.out _)) (O56.out _).bs ((O24.out _).bs.below (L56.out _)) (by decide)).mono ?_)
                             have bx := below_and (L24.out w4) (L56.out _))
                        rintro e w5 ⟨rfl, hm, hk⟩
                        rw [A34.out] at hm
                        rw [E34.out]
                        have HM5 := Lib.hid hm
                        have HB5 := Lib.hid ((HB4.out.trans (bx.mono HB4.out.size)).trans (hk.below (B := w.heap.size) (Nat.le_trans HB4.out.size bx.size) (fun i hi => by subst hi; exact HC.out)))
                        clear bx)
                   clear hm hk)
                  go_wp2_with fail
                  refine hK.out _ _ ?_ (fun hHeld7 => ?_)
                  · dsimp only
                  clear hK K hHeld6
                  try simp only [Act.put, List.setIfInBounds_toArray, List.set_cons_zero, List.set_cons_succ]
                  refine takeN (v := ?_) 15 rfl (by kernel_rfl) (by kernel_rfl) (by kernel_rfl) (fun _ _ _ h => h) (by rfl) ?_ hHeld7 ?_
                  rotate_left
                  · intro w hSw; (try dsimp only at hSw); go_simp; with_reducible rfl
                  try simp only [Act.put, List.setIfInBounds_toArray, List.set_cons_zero, List.set_cons_succ]
                  refine takeN (v := ?_) 16 rfl (by kernel_rfl) (by kernel_rfl) (by kernel_rfl) (fun _ _ _ h => h) (by rfl) ?_ hHeld7 ?_
                  rotate_left
                  · intro w hSw; (try dsimp only at hSw); go_simp; with_reducible rfl
                  try simp only [Act.put, List.setIfInBounds_toArray, List.set_cons_zero, List.set_cons_succ]
                  refine takeN (v := ?_) 17 rfl (by kernel_rfl) (by kernel_rfl) (by kernel_rfl) (fun _ _ _ h => h) (by rfl) ?_ hHeld7 ?_
                  rotate_left
                  · intro w hSw; (try dsimp only at hSw); go_simp; with_reducible rfl
                  try simp only [Act.put, List.setIfInBounds_toArray, List.set_cons_zero, List.set_cons_succ]
                  refine takeN (v := ?_) 18 rfl (by kernel_rfl) (by kernel_rfl) (by kernel_rfl) (fun _ _ _ h => h) (by rfl) ?_ hHeld7 ?_
                  rotate_left
                  · intro w hSw; (try dsimp only at hSw); go_simp; with_reducible rfl
                  try simp only [Act.put, List.setIfInBounds_toArray, List.set_cons_zero, List.set_cons_succ]
                  refine wpAnyH_ready (rs := [19, 20]) (by kernel_rfl) (by simp) ?_
                  refine readyN rfl (fun K hK => ?_) ?_
                  · -- operation 19
                    go_simp
                    refine hK.out _ _ ?_ (fun hHeld8 => ?_)
                    · dsimp only
                    clear hK K hHeld7
                    try simp only [Act.put, List.setIfInBounds_toArray, List.set_cons_zero, List.set_cons_succ]
                    refine wpAnyH_ready (rs := [20]) (by kernel_rfl) (by simp) ?_
                    refine readyN rfl (fun K hK => ?_) ?_
                    · -- operation 20
                      go_simp
                      refine hK.out _ _ ?_ (fun hHeld9 => ?_)
                      · dsimp only
                      clear hK K hHeld8
                      try simp only [Act.put, List.setIfInBounds_toArray, List.set_cons_zero, List.set_cons_succ]
                      refine wpAnyH_ready (rs := [21]) (by kernel_rfl) (by simp) ?_
                      refine readyN rfl (fun K hK => ?_) ?_
                      · -- operation 21
                        go_simp
                        (go_at_call 22
                         first
                           | ((with_reducible refine (PA.out _ (.slice none 0 0) (.slice none 0 0) ByteArray.empty ByteArray.empty [] HM1.out (BS.nil _) (BS.nil _) (by decide)).mono ?_); rintro e w2 ⟨rfl, hm, hk⟩
                              rw [putA_not _ _ _ _ (by rw [E14.out]; decide)] at hm
                              rw [E14.out]
                              have HM2 := Lib.hid hm
                              have HB2 := Lib.hid (HB1.out.trans (hk.below (B := w.heap.size) HB1.out.size (fun i hi => by subst hi; exact HC.out))))
                           | ((with_reducible refine (PA.out (g7 w2) (f7 w2) (.slice none 0 0) (zp 257) ByteArray.empty [] (HM2.out.below (L7.out _)) (O7.out _).bs (BS.nil _) (by decide)).mono ?_); rintro e w3 ⟨rfl, hm, hk⟩
                              rw [putA_not _ _ _ _ (by rw [E19.out]; decide)] at hm
                              rw [E19.out]
                              have HM3 := Lib.hid hm
                              have HB3 := Lib.hid ((HB2.out.trans ((L7.out w2).mono HB2.out.size)).trans (hk.below (B := w.heap.size) (Nat.le_trans HB2.out.size (L7.out w2).size) (fun i hi => by subst hi; exact HC.out))))
                           | (first
                                | ((with_reducible refine (PA.out _ _ (f25 (w3.alloc (.cells #[.int .u8 97] 5 (1, 2)))) bA (zp 1025) [] ((HM3.out.alloc _).below (L25.out _)) ((BS.lit rfl _ ⟨#[97]⟩ _ rfl rfl (by decide)).below (L25.out _)) (O25.out _).bs (by decide)).mono ?_)
                                   have bx := below_and ((Below.refl w3.heap.size w3).alloc (Nat.le_refl _) (.cells #[.int .u8 97] 5 (1, 2))) (L25.out _))
                                | (have hm3 := ((HM3.out.alloc (.cells #[.int .u8 97] 5)).below (L25.out _)).keep (CW.out w3).1 (by have := blk_lt HM3.out.blk; omega) (by have := HM3.out.now.lt; omega) (by have := HM3.out.was.lt; omega)
                                   have ho3 := ((O25.out (w3.alloc (.cells #[.int .u8 97] 5))).keep (CW.out w3).1 (fun k hk h => by have := ((O25.out (w3.alloc (.cells #[.int .u8 97] 5))).base_le k hk).1; simp at this; omega)).bs
                                   have hk3 : BS (cw w3) (.slice (some ⟨w3.heap.size, 0, none⟩) 1 1) bA := BS.of_blk (CW.out w3).2 rfl rfl (by decide)
                                   (with_reducible refine (PA.out (cw w3) _ (f25 (w3.alloc (.cells #[.int .u8 97] 5))) bA (zp 1025) [] hm3 hk3 ho3 (by decide)).mono ?_)
                                   clear hm3 ho3 hk3
                                   have bx := (below_and ((Below.refl w3.heap.size w3).alloc (Nat.le_refl _) (.cells #[.int .u8 97] 5)) (L25.out _)).trans ((CW.out w3).1.below (B := w3.heap.size) (by have := (L25.out (w3.alloc (.cells #[.int .u8 97] 5))).size; simp at this; omega) (fun i hi => by subst hi; exact Nat.le_refl _)))
                                | ((with_reducible refine (PA.out _ _ (f25 w3) bA (zp 1025) [] ((HM3.out.below (L25.out _)).alloc _) (BS.lit rfl _ ⟨#[97]⟩ _ rfl rfl (by decide)) ((O25.out _).alloc _).bs (by decide)).mono ?_)
                                   have bx := ((L25.out w3).trans ((Below.refl _ _).alloc (L25.out w3).size (.cells #[.int .u8 97] 5 (1, 2)))))
                              rintro e w4 ⟨rfl, hm, hk⟩
                              rw [putA_not _ _ _ _ (by rw [E27.out]; decide)] at hm
                              rw [E27.out]
                              have HM4 := Lib.hid hm
                              have HB4 := Lib.hid ((HB3.out.trans (bx.mono HB3.out.size)).trans (hk.below (B := w.heap.size) (Nat.le_trans HB3.out.size bx.size) (fun i hi => by subst hi; exact HC.out)))
                              clear bx)
                           | (first
                                | ((with_reducible refine (PA.out _ (f56 w4) (f24 (g56 w4)) (zp 256) (zp 1024) [] ((HM4.out.below (L56.out _)).below (L24.out _)) ((O56.out _).bs.below (L24.out _)) (O24.out _).bs (by decide)).mono ?_)
                                   have bx := below_and (L56.out w4) (L24.out _))
                                | ((with_reducible refine (PA.out _ (f56 (g24 w4)) (f24 w4) (zp 256) (zp 1024) [] ((HM4.out.below (L24.out _)).below (L56.out _)) (O56.out _).bs ((O24.out _).bs.below (L56.out _)) (by decide)).mono ?_)
                                   have bx := below_and (L24.out w4) (L56.out _))
                              rintro e w5 ⟨rfl, hm, hk⟩
                              rw [A34.out] at hm
                              rw [E34.out]
                              have HM5 := Lib.hid hm
                              have HB5 := Lib.hid ((HB4.out.trans (bx.mono HB4.out.size)).trans (hk.below (B := w.heap.size) (Nat.le_trans HB4.out.size bx.size) (fun i hi => by subst hi; exact HC.out)))
                              clear bx)
                         clear hm hk)
                        go_wp2_with fail
                        refine hK.out _ _ ?_ (fun hHeld10 => ?_)
                        · dsimp only
                        clear hK K hHeld9
                        try simp only [Act.put, List.setIfInBounds_toArray, List.set_cons_zero, List.set_cons_succ]
                        refine takeN (v := ?_) 22 rfl (by kernel_rfl) (by kernel_rfl) (by kernel_rfl) (fun _ _ _ h => h) (by rfl) ?_ hHeld10 ?_
                        rotate_left
                        · intro w hSw; (try dsimp only at hSw); go_simp; with_reducible rfl
                        try simp only [Act.put, List.setIfInBounds_toArray, List.set_cons_zero, List.set_cons_succ]
                        refine takeN (v := ?_) 23 rfl (by kernel_rfl) (by kernel_rfl) (by kernel_rfl) (fun _ _ _ h => h) (by rfl) ?_ hHeld10 ?_
                        rotate_left
                        · intro w hSw; (try dsimp only at hSw); go_simp; with_reducible rfl
                        try simp only [Act.put, List.setIfInBounds_toArray, List.set_cons_zero, List.set_cons_succ]
                        refine wpAnyH_done (by kernel_rfl) ?_ _
                        go_wp2_with fail
                        go_meet
                        exact ⟨rfl, HM5, HB5⟩
                      exact AllReadyH.nil
                    exact AllReadyH.nil
                  refine readyN rfl (fun K hK => ?_) ?_
                  · -- operation 20
                    go_simp
                    refine hK.out _ _ ?_ (fun hHeld8 => ?_)
                    · dsimp only
                    clear hK K hHeld7
                    try simp only [Act.put, List.setIfInBounds_toArray, List.set_cons_zero, List.set_cons_succ]
                    refine wpAnyH_ready (rs := [19]) (by kernel_rfl) (by simp) ?_
                    refine readyN rfl (fun K hK => ?_) ?_
                    · -- operation 19
                      go_simp
                      refine hK.out _ _ ?_ (fun hHeld9 => ?_)
                      · dsimp only
                      clear hK K hHeld8
                      try simp only [Act.put, List.setIfInBounds_toArray, List.set_cons_zero, List.set_cons_succ]
                      refine wpAnyH_ready (rs := [21]) (by kernel_rfl) (by simp) ?_
                      refine readyN rfl (fun K hK => ?_) ?_
                      · -- operation 21
                        go_simp
                        (go_at_call 22
                         first
                           | ((with_reducible refine (PA.out _ (.slice none 0 0) (.slice none 0 0) ByteArray.empty ByteArray.empty [] HM1.out (BS.nil _) (BS.nil _) (by decide)).mono ?_); rintro e w2 ⟨rfl, hm, hk⟩
                              rw [putA_not _ _ _ _ (by rw [E14.out]; decide)] at hm
                              rw [E14.out]
                              have HM2 := Lib.hid hm
                              have HB2 := Lib.hid (HB1.out.trans (hk.below (B := w.heap.size) HB1.out.size (fun i hi => by subst hi; exact HC.out))))
                           | ((with_reducible refine (PA.out (g7 w2) (f7 w2) (.slice none 0 0) (zp 257) ByteArray.empty [] (HM2.out.below (L7.out _)) (O7.out _).bs (BS.nil _) (by decide)).mono ?_); rintro e w3 ⟨rfl, hm, hk⟩
                              rw [putA_not _ _ _ _ (by rw [E19.out]; decide)] at hm
                              rw [E19.out]
                              have HM3 := Lib.hid hm
                              have HB3 := Lib.hid ((HB2.out.trans ((L7.out w2).mono HB2.out.size)).trans (hk.below (B := w.heap.size) (Nat.le_trans HB2.out.size (L7.out w2).size) (fun i hi => by subst hi; exact HC.out))))
                           | (first
                                | ((with_reducible refine (PA.out _ _ (f25 (w3.alloc (.cells #[.int .u8 97] 5 (1, 2)))) bA (zp 1025) [] ((HM3.out.alloc _).below (L25.out _)) ((BS.lit rfl _ ⟨#[97]⟩ _ rfl rfl (by decide)).below (L25.out _)) (O25.out _).bs (by decide)).mono ?_)
                                   have bx := below_and ((Below.refl w3.heap.size w3).alloc (Nat.le_refl _) (.cells #[.int .u8 97] 5 (1, 2))) (L25.out _))
                                | (have hm3 := ((HM3.out.alloc (.cells #[.int .u8 97] 5)).below (L25.out _)).keep (CW.out w3).1 (by have := blk_lt HM3.out.blk; omega) (by have := HM3.out.now.lt; omega) (by have := HM3.out.was.lt; omega)
                                   have ho3 := ((O25.out (w3.alloc (.cells #[.int .u8 97] 5))).keep (CW.out w3).1 (fun k hk h => by have := ((O25.out (w3.alloc (.cells #[.int .u8 97] 5))).base_le k hk).1; simp at this; omega)).bs
                                   have hk3 : BS (cw w3) (.slice (some ⟨w3.heap.size, 0, none⟩) 1 1) bA := BS.of_blk (CW.out w3).2 rfl rfl (by decide)
                                   (with_reducible refine (PA.out (cw w3) _ (f25 (w3.alloc (.cells #[.int .u8 97] 5))) bA (zp 1025) [] hm3 hk3 ho3 (by decide)).mono ?_)
                                   clear hm3 ho3 hk3
                                   have bx := (below_and ((Below.refl w3.heap.size w3).alloc (Nat.le_refl _) (.cells #[.int .u8 97] 5)) (L25.out _)).trans ((CW.out w3).1.below (B := w3.heap.size) (by have := (L25.out (w3.alloc (.cells #[.int .u8 97] 5))).size; simp at this; omega) (fun i hi => by subst hi; exact Nat.le_refl _)))
                                | ((with_reducible refine (PA.out _ _ (f25 w3) bA (zp 1025) [] ((HM3.out.below (L25.out _)).alloc _) (BS.lit rfl _ ⟨#[97]⟩ _ rfl rfl (by decide)) ((O25.out _).alloc _).bs (by decide)).mono ?_)
                                   have bx := ((L25.out w3).trans ((Below.refl _ _).alloc (L25.out w3).size (.cells #[.int .u8 97] 5 (1, 2)))))
                              rintro e w4 ⟨rfl, hm, hk⟩
                              rw [putA_not _ _ _ _ (by rw [E27.out]; decide)] at hm
                              rw [E27.out]
                              have HM4 := Lib.hid hm
                              have HB4 := Lib.hid ((HB3.out.trans (bx.mono HB3.out.size)).trans (hk.below (B := w.heap.size) (Nat.le_trans HB3.out.size bx.size) (fun i hi => by subst hi; exact HC.out)))
                              clear bx)
                           | (first
                                | ((with_reducible refine (PA.out _ (f56 w4) (f24 (g56 w4)) (zp 256) (zp 1024) [] ((HM4.out.below (L56.out _)).below (L24.out _)) ((O56.out _).bs.below (L24.out _)) (O24.out _).bs (by decide)).mono ?_)
                                   have bx := below_and (L56.out w4) (L24.out _))
                                | ((with_reducible refine (PA.out _ (f56 (g24 w4)) (f24 w4) (zp 256) (zp 1024) [] ((HM4.out.below (L24.out _)).below (L56.out _)) (O56.out _).bs ((O24.out _).bs.below (L56.out _)) (by decide)).mono ?_)
                                   have bx := below_and (L24.out w4) (L56.out _))
                              rintro e w5 ⟨rfl, hm, hk⟩
                              rw [A34.out] at hm
                              rw [E34.out]
                              have HM5 := Lib.hid hm
                              have HB5 := Lib.hid ((HB4.out.trans (bx.mono HB4.out.size)).trans (hk.below (B := w.heap.size) (Nat.le_trans HB4.out.size bx.size) (fun i hi => by subst hi; exact HC.out)))
                              clear bx)
                         clear hm hk)
                        go_wp2_with fail
                        refine hK.out _ _ ?_ (fun hHeld10 => ?_)
                        · dsimp only
                        clear hK K hHeld9
                        try simp only [Act.put, List.setIfInBounds_toArray, List.set_cons_zero, List.set_cons_succ]
                        refine takeN (v := ?_) 22 rfl (by kernel_rfl) (by kernel_rfl) (by kernel_rfl) (fun _ _ _ h => h) (by rfl) ?_ hHeld10 ?_
                        rotate_left
                        · intro w hSw; (try dsimp only at hSw); go_simp; with_reducible rfl
                        try simp only [Act.put, List.setIfInBounds_toArray, List.set_cons_zero, List.set_cons_succ]
                        refine takeN (v := ?_) 23 rfl (by kernel_rfl) (by kernel_rfl) (by kernel_rfl) (fun _ _ _ h => h) (by rfl) ?_ hHeld10 ?_
                        rotate_left
                        · intro w hSw; (try dsimp only at hSw); go_simp; with_reducible rfl
                        try simp only [Act.put, List.setIfInBounds_toArray, List.set_cons_zero, List.set_cons_succ]
                        refine wpAnyH_done (by kernel_rfl) ?_ _
                        go_wp2_with fail
                        go_meet
                        exact ⟨rfl, HM5, HB5⟩
                      exact AllReadyH.nil
                    exact AllReadyH.nil
                  exact AllReadyH.nil
                exact AllReadyH.nil
              exact AllReadyH.nil
            refine readyN rfl (fun K hK => ?_) ?_
            · -- operation 13
              go_simp
              refine hK.out _ _ ?_ (fun hHeld5 => ?_)
              · dsimp only
              clear hK K hHeld4
              try simp only [Act.put, List.setIfInBounds_toArray, List.set_cons_zero, List.set_cons_succ]
              refine wpAnyH_ready (rs := [12]) (by kernel_rfl) (by simp) ?_
              refine readyN rfl (fun K hK => ?_) ?_
              · -- operation 12
                go_simp
                refine hK.out _ _ ?_ (fun hHeld6 => ?_)
                · dsimp only
                clear hK K hHeld5
                try simp only [Act.put, List.setIfInBounds_toArray, List.set_cons_zero, List.set_cons_succ]
                refine wpAnyH_ready (rs := [14]) (by kernel_rfl) (by simp) ?_
                refine readyN rfl (fun K hK => ?_) ?_
                · -- operation 14
                  go_simp
                  (go_at_call 22
                   first
                     | ((with_reducible refine (PA.out _ (.slice none 0 0) (.slice none 0 0) ByteArray.empty ByteArray.empty [] HM1.out (BS.nil _) (BS.nil _) (by decide)).mono ?_); rintro e w2 ⟨rfl, hm, hk⟩
                        rw [putA_not _ _ _ _ (by rw [E14.out]; decide)] at hm
                        rw [E14.out]
                        have HM2 := Lib.hid hm
                        have HB2 := Lib.hid (HB1.out.trans (hk.below (B := w.heap.size) HB1.out.size (fun i hi => by subst hi; exact HC.out))))
                     | ((with_reducible refine (PA.out (g7 w2) (f7 w2) (.slice none 0 0) (zp 257) ByteArray.empty [] (HM2.out.below (L7.out _)) (O7.out _).bs (BS.nil _) (by decide)).mono ?_); rintro e w3 ⟨rfl, hm, hk⟩
                        rw [putA_not _ _ _ _ (by rw [E19.out]; decide)] at hm
                        rw [E19.out]
                        have HM3 := Lib.hid hm
                        have HB3 := Lib.hid ((HB2.out.trans ((L7.out w2).mono HB2.out.size)).trans (hk.below (B := w.heap.size) (Nat.le_trans HB2.out.size (L7.out w2).size) (fun i hi => by subst hi; exact HC.out))))
                     | (first
                          | ((with_reducible refine (PA.out _ _ (f25 (w3.alloc (.cells #[.int .u8 97] 5 (1, 2)))) bA (zp 1025) [] ((HM3.out.alloc _).below (L25.out _)) ((BS.lit rfl _ ⟨#[97]⟩ _ rfl rfl (by decide)).below (L25.out _)) (O25.out _).bs (by decide)).mono ?_)
                             have bx := below_and ((Below.refl w3.heap.size w3).alloc (Nat.le_refl _) (.cells #[.int .u8 97] 5 (1, 2))) (L25.out _))
                          | (have hm3 := ((HM3.out.alloc (.cells #[.int .u8 97] 5)).below (L25.out _)).keep (CW.out w3).1 (by have := blk_lt HM3.out.blk; omega) (by have := HM3.out.now.lt; omega) (by have := HM3.out.was.lt; omega)
                             have ho3 := ((O25.out (w3.alloc (.cells #[.int .u8 97] 5))).keep (CW.out w3).1 (fun k hk h => by have := ((O25.out (w3.alloc (.cells #[.int .u8 97] 5))).base_le k hk).1; simp at this; omega)).bs
                             have hk3 : BS (cw w3) (.slice (some ⟨w3.heap.size, 0, none⟩) 1 1) bA := BS.of_blk (CW.out w3).2 rfl rfl (by decide)
                             (with_reducible refine (PA.out (cw w3) _ (f25 (w3.alloc (.cells #[.int .u8 97] 5))) bA (zp 1025) [] hm3 hk3 ho3 (by decide)).mono ?_)
                             clear hm3 ho3 hk3
                             have bx := (below_and ((Below.refl w3.heap.size w3).alloc (Nat.le_refl _) (.cells #[.int .u8 97] 5)) (L25.out _)).trans ((CW.out w3).1.below (B := w3.heap.size) (by have := (L25.out (w3.alloc (.cells #[.int .u8 97] 5))).size; simp at this; omega) (fun i hi => by subst hi; exact Nat.le_refl _)))
                          | ((with_reducible refine (PA.out _ _ (f25 w3) bA (zp 1025) [] ((HM3.out.below (L25.out _)).alloc _) (BS.lit rfl _ ⟨#[97]⟩ _ rfl rfl (by decide)) ((O25.out _).alloc _).bs (by decide)).mono ?_)
                             have bx := ((L25.out w3).trans ((Below.refl _ _).alloc (L25.out w3).size (.cells #[.int .u8 97] 5 (1, 2)))))
                        rintro e w4 ⟨rfl, hm, hk⟩
                        rw [putA_not _ _ _ _ (by rw [E27.out]; decide)] at hm
                        rw [E27.out]
                        have HM4 := Lib.hid hm
                        have HB4 := Lib.hid ((HB3.out.trans (bx.mono HB3.out.size)).trans (hk.below (B := w.heap.size) (Nat.le_trans HB3.out.size bx.size) (fun i hi => by subst hi; exact HC.out)))
                        clear bx)
                     | (first
                          | ((with_reducible refine (PA.out _ (f56 w4) (f24 (g56 w4)) (zp 256) (zp 1024) [] ((HM4.out.below (L56.out _)).below (L24.out _)) ((O56.out _).bs.below (L24.out _)) (O24.out _).bs (by decide)).mono ?_)
                             have bx := below_and (L56.out w4) (L24.out _))
                          | ((with_reducible refine (PA.out _ (f56 (g24 w4)) (f24 w4) (zp 256) (zp 1024) [] ((HM4.out.below (L24.out _)).below (L56.out _)) (O56.out _).bs ((O24.out _).bs.below (L56.out _)) (by decide)).mono ?_)
                             have bx := below_and (L24.out w4) (L56.out _))
                        rintro e w5 ⟨rfl, hm, hk⟩
                        rw [A34.out] at hm
                        rw [E34.out]
                        have HM5 := Lib.hid hm
                        have HB5 := Lib.hid ((HB4.out.trans (bx.mono HB4.out.size)).trans (hk.below (B := w.heap.size) (Nat.le_trans HB4.out.size bx.size) (fun i hi => by subst hi; exact HC.out)))
                        clear bx)
                   clear hm hk)
                  go_wp2_with fail
                  refine hK.out _ _ ?_ (fun hHeld7 => ?_)
                  · dsimp only
                  clear hK K hHeld6
                  try simp only [Act.put, List.setIfInBounds_toArray, List.set_cons_zero, List.set_cons_succ]
                  refine takeN (v := ?_) 15 rfl (by kernel_rfl) (by kernel_rfl) (by kernel_rfl) (fun _ _ _ h => h) (by rfl) ?_ hHeld7 ?_
                  rotate_left
                  · intro w hSw; (try dsimp only at hSw); go_simp; with_reducible rfl
                  try simp only [Act.put, List.setIfInBounds_toArray, List.set_cons_zero, List.set_cons_succ]
                  refine takeN (v := ?_) 16 rfl (by kernel_rfl) (by kernel_rfl) (by kernel_rfl) (fun _ _ _ h => h) (by rfl) ?_ hHeld7 ?_
                  rotate_left
                  · intro w hSw; (try dsimp only at hSw); go_simp; with_reducible rfl
                  try simp only [Act.put, List.setIfInBounds_toArray, List.set_cons_zero, List.set_cons_succ]
                  refine takeN (v := ?_) 17 rfl (by kernel_rfl) (by kernel_rfl) (by kernel_rfl) (fun _ _ _ h => h) (by rfl) ?_ hHeld7 ?_
                  rotate_left
                  · intro w hSw; (try dsimp only at hSw); go_simp; with_reducible rfl
                  try simp only [Act.put, List.setIfInBounds_toArray, List.set_cons_zero, List.set_cons_succ]
                  refine takeN (v := ?_) 18 rfl (by kernel_rfl) (by kernel_rfl) (by kernel_rfl) (fun _ _ _ h => h) (by rfl) ?_ hHeld7 ?_
                  rotate_left
                  · intro w hSw; (try dsimp only at hSw); go_simp; with_reducible rfl
                  try simp only [Act.put, List.setIfInBounds_toArray, List.set_cons_zero, List.set_cons_succ]
                  refine wpAnyH_ready (rs := [19, 20]) (by kernel_rfl) (by simp) ?_
                  refine readyN rfl (fun K hK => ?_) ?_
                  · -- operation 19
                    go_simp
                    refine hK.out _ _ ?_ (fun hHeld8 => ?_)
                    · dsimp only
                    clear hK K hHeld7
                    try simp only [Act.put, List.setIfInBounds_toArray, List.set_cons_zero, List.set_cons_succ]
                    refine wpAnyH_ready (rs := [20]) (by kernel_rfl) (by simp) ?_
                    refine readyN rfl (fun K hK => ?_) ?_
                    · -- operation 20
                      go_simp
                      refine hK.out _ _ ?_ (fun hHeld9 => ?_)
                      · dsimp only
                      clear hK K hHeld8
                      try simp only [Act.put, List.setIfInBounds_toArray, List.set_cons_zero, List.set_cons_succ]
                      refine wpAnyH_ready (rs := [21]) (by kernel_rfl) (by simp) ?_
                      refine readyN rfl (fun K hK => ?_) ?_
                      · -- operation 21
                        go_simp
                        (go_at_call 22
                         first
                           | ((with_reducible refine (PA.out _ (.slice none 0 0) (.slice none 0 0) ByteArray.empty ByteArray.empty [] HM1.out (BS.nil _) (BS.nil _) (by decide)).mono ?_); rintro e w2 ⟨rfl, hm, hk⟩
                              rw [putA_not _ _ _ _ (by rw [E14.out]; decide)] at hm
                              rw [E14.out]
                              have HM2 := Lib.hid hm
                              have HB2 := Lib.hid (HB1.out.trans (hk.below (B := w.heap.size) HB1.out.size (fun i hi => by subst hi; exact HC.out))))
                           | ((with_reducible refine (PA.out (g7 w2) (f7 w2) (.slice none 0 0) (zp 257) ByteArray.empty [] (HM2.out.below (L7.out _)) (O7.out _).bs (BS.nil _) (by decide)).mono ?_); rintro e w3 ⟨rfl, hm, hk⟩
                              rw [putA_not _ _ _ _ (by rw [E19.out]; decide)] at hm
                              rw [E19.out]
                              have HM3 := Lib.hid hm
                              have HB3 := Lib.hid ((HB2.out.trans ((L7.out w2).mono HB2.out.size)).trans (hk.below (B := w.heap.size) (Nat.le_trans HB2.out.size (L7.out w2).size) (fun i hi => by subst hi; exact HC.out))))
                           | (first
                                | ((with_reducible refine (PA.out _ _ (f25 (w3.alloc (.cells #[.int .u8 97] 5 (1, 2)))) bA (zp 1025) [] ((HM3.out.alloc _).below (L25.out _)) ((BS.lit rfl _ ⟨#[97]⟩ _ rfl rfl (by decide)).below (L25.out _)) (O25.out _).bs (by decide)).mono ?_)
                                   have bx := below_and ((Below.refl w3.heap.size w3).alloc (Nat.le_refl _) (.cells #[.int .u8 97] 5 (1, 2))) (L25.out _))
                                | (have hm3 := ((HM3.out.alloc (.cells #[.int .u8 97] 5)).below (L25.out _)).keep (CW.out w3).1 (by have := blk_lt HM3.out.blk; omega) (by have := HM3.out.now.lt; omega) (by have := HM3.out.was.lt; omega)
                                   have ho3 := ((O25.out (w3.alloc (.cells #[.int .u8 97] 5))).keep (CW.out w3).1 (fun k hk h => by have := ((O25.out (w3.alloc (.cells #[.int .u8 97] 5))).base_le k hk).1; simp at this; omega)).bs
                                   have hk3 : BS (cw w3) (.slice (some ⟨w3.heap.size, 0, none⟩) 1 1) bA := BS.of_blk (CW.out w3).2 rfl rfl (by decide)
                                   (with_reducible refine (PA.out (cw w3) _ (f25 (w3.alloc (.cells #[.int .u8 97] 5))) bA (zp 1025) [] hm3 hk3 ho3 (by decide)).mono ?_)
                                   clear hm3 ho3 hk3
                                   have bx := (below_and ((Below.refl w3.heap.size w3).alloc (Nat.le_refl _) (.cells #[.int .u8 97] 5)) (L25.out _)).trans ((CW.out w3).1.below (B := w3.heap.size) (by have := (L25.out (w3.alloc (.cells #[.int .u8 97] 5))).size; simp at this; omega) (fun i hi => by subst hi; exact Nat.le_refl _)))
                                | ((with_reducible refine (PA.out _ _ (f25 w3) bA (zp 1025) [] ((HM3.out.below (L25.out _)).alloc _) (BS.lit rfl _ ⟨#[97]⟩ _ rfl rfl (by decide)) ((O25.out _).alloc _).bs (by decide)).mono ?_)
                                   have bx := ((L25.out w3).trans ((Below.refl _ _).alloc (L25.out w3).size (.cells #[.int .u8 97] 5 (1, 2)))))
                              rintro e w4 ⟨rfl, hm, hk⟩
                              rw [putA_not _ _ _ _ (by rw [E27.out]; decide)] at hm
                              rw [E27.out]
                              have HM4 := Lib.hid hm
                              have HB4 := Lib.hid ((HB3.out.trans (bx.mono HB3.out.size)).trans (hk.below (B := w.heap.size) (Nat.le_trans HB3.out.size bx.size) (fun i hi => by subst hi; exact HC.out)))
                              clear bx)
                           | (first
                                | ((with_reducible refine (PA.out _ (f56 w4) (f24 (g56 w4)) (zp 256) (zp 1024) [] ((HM4.out.below (L56.out _)).below (L24.out _)) ((O56.out _).bs.below (L24.out _)) (O24.out _).bs (by decide)).mono ?_)
                                   have bx := below_and (L56.out w4) (L24.out _))
                                | ((with_reducible refine (PA.out _ (f56 (g24 w4)) (f24 w4) (zp 256) (zp 1024) [] ((HM4.out.below (L24.out _)).below (L56.out _)) (O56.out _).bs ((O24.out _).bs.below (L56.out _)) (by decide)).mono ?_)
                                   have bx := below_and (L24.out w4) (L56.out _))
                              rintro e w5 ⟨rfl, hm, hk⟩
                              rw [A34.out] at hm
                              rw [E34.out]
                              have HM5 := Lib.hid hm
                              have HB5 := Lib.hid ((HB4.out.trans (bx.mono HB4.out.size)).trans (hk.below (B := w.heap.size) (Nat.le_trans HB4.out.size bx.size) (fun i hi => by subst hi; exact HC.out)))
                              clear bx)
                         clear hm hk)
                        go_wp2_with fail
                        refine hK.out _ _ ?_ (fun hHeld10 => ?_)
                        · dsimp only
                        clear hK K hHeld9
                        try simp only [Act.put, List.setIfInBounds_toArray, List.set_cons_zero, List.set_cons_succ]
                        refine takeN (v := ?_) 22 rfl (by kernel_rfl) (by kernel_rfl) (by kernel_rfl) (fun _ _ _ h => h) (by rfl) ?_ hHeld10 ?_
                        rotate_left
                        · intro w hSw; (try dsimp only at hSw); go_simp; with_reducible rfl
                        try simp only [Act.put, List.setIfInBounds_toArray, List.set_cons_zero, List.set_cons_succ]
                        refine takeN (v := ?_) 23 rfl (by kernel_rfl) (by kernel_rfl) (by kernel_rfl) (fun _ _ _ h => h) (by rfl) ?_ hHeld10 ?_
                        rotate_left
                        · intro w hSw; (try dsimp only at hSw); go_simp; with_reducible rfl
                        try simp only [Act.put, List.setIfInBounds_toArray, List.set_cons_zero, List.set_cons_succ]
                        refine wpAnyH_done (by kernel_rfl) ?_ _
                        go_wp2_with fail
                        go_meet
                        exact ⟨rfl, HM5, HB5⟩
                      exact AllReadyH.nil
                    exact AllReadyH.nil
                  refine readyN rfl (fun K hK => ?_) ?_
                  · -- operation 20
                    go_simp
                    refine hK.out _ _ ?_ (fun hHeld8 => ?_)
                    · dsimp only
                    clear hK K hHeld7
                    try simp only [Act.put, List.setIfInBounds_toArray, List.set_cons_zero, List.set_cons_succ]
                    refine wpAnyH_ready (rs := [19]) (by kernel_rfl) (by simp) ?_
                    refine readyN rfl (fun K hK => ?_) ?_
                    · -- operation 19
                      go_simp
                      refine hK.out _ _ ?_ (fun hHeld9 => ?_)
                      · dsimp only
                      clear hK K hHeld8
                      try simp only [Act.put, List.setIfInBounds_toArray, List.set_cons_zero, List.set_cons_succ]
                      refine wpAnyH_ready (rs := [21]) (by kernel_rfl) (by simp) ?_
                      refine readyN rfl (fun K hK => ?_) ?_
                      · -- operation 21
                        go_simp
                        (go_at_call 22
                         first
                           | ((with_reducible refine (PA.out _ (.slice none 0 0) (.slice none 0 0) ByteArray.empty ByteArray.empty [] HM1.out (BS.nil _) (BS.nil _) (by decide)).mono ?_); rintro e w2 ⟨rfl, hm, hk⟩
                              rw [putA_not _ _ _ _ (by rw [E14.out]; decide)] at hm
                              rw [E14.out]
                              have HM2 := Lib.hid hm
                              have HB2 := Lib.hid (HB1.out.trans (hk.below (B := w.heap.size) HB1.out.size (fun i hi => by subst hi; exact HC.out))))
                           | ((with_reducible refine (PA.out (g7 w2) (f7 w2) (.slice none 0 0) (zp 257) ByteArray.empty [] (HM2.out.below (L7.out _)) (O7.out _).bs (BS.nil _) (by decide)).mono ?_); rintro e w3 ⟨rfl, hm, hk⟩
                              rw [putA_not _ _ _ _ (by rw [E19.out]; decide)] at hm
                              rw [E19.out]
                              have HM3 := Lib.hid hm
                              have HB3 := Lib.hid ((HB2.out.trans ((L7.out w2).mono HB2.out.size)).trans (hk.below (B := w.heap.size) (Nat.le_trans HB2.out.size (L7.out w2).size) (fun i hi => by subst hi; exact HC.out))))
                           | (first
                                | ((with_reducible refine (PA.out _ _ (f25 (w3.alloc (.cells #[.int .u8 97] 5 (1, 2)))) bA (zp 1025) [] ((HM3.out.alloc _).below (L25.out _)) ((BS.lit rfl _ ⟨#[97]⟩ _ rfl rfl (by decide)).below (L25.out _)) (O25.out _).bs (by decide)).mono ?_)
                                   have bx := below_and ((Below.refl w3.heap.size w3).alloc (Nat.le_refl _) (.cells #[.int .u8 97] 5 (1, 2))) (L25.out _))
                                | (have hm3 := ((HM3.out.alloc (.cells #[.int .u8 97] 5)).below (L25.out _)).keep (CW.out w3).1 (by have := blk_lt HM3.out.blk; omega) (by have := HM3.out.now.lt; omega) (by have := HM3.out.was.lt; omega)
                                   have ho3 := ((O25.out (w3.alloc (.cells #[.int .u8 97] 5))).keep (CW.out w3).1 (fun k hk h => by have := ((O25.out (w3.alloc (.cells #[.int .u8 97] 5))).base_le k hk).1; simp at this; omega)).bs
                                   have hk3 : BS (cw w3) (.slice (some ⟨w3.heap.size, 0, none⟩) 1 1) bA := BS.of_blk (CW.out w3).2 rfl rfl (by decide)
                                   (with_reducible refine (PA.out (cw w3) _ (f25 (w3.alloc (.cells #[.int .u8 97] 5))) bA (zp 1025) [] hm3 hk3 ho3 (by decide)).mono ?_)
                                   clear hm3 ho3 hk3
                                   have bx := (below_and ((Below.refl w3.heap.size w3).alloc (Nat.le_refl _) (.cells #[.int .u8 97] 5)) (L25.out _)).trans ((CW.out w3).1.below (B := w3.heap.size) (by have := (L25.out (w3.alloc (.cells #[.int .u8 97] 5))).size; simp at this; omega) (fun i hi => by subst hi; exact Nat.le_refl _)))
                                | ((with_reducible refine (PA.out _ _ (f25 w3) bA (zp 1025) [] ((HM3.out.below (L25.out _)).alloc _) (BS.lit rfl _ ⟨#[97]⟩ _ rfl rfl (by decide)) ((O25.out _).alloc _).bs (by decide)).mono ?_)
                                   have bx := ((L25.out w3).trans ((Below.refl _ _).alloc (L25.out w3).size (.cells #[.int .u8 97] 5 (1, 2)))))
                              rintro e w4 ⟨rfl, hm, hk⟩
                              rw [putA_not _ _ _ _ (by rw [E27.out]; decide)] at hm
                              rw [E27.out]
                              have HM4 := Lib.hid hm
                              have HB4 := Lib.hid ((HB3.out.trans (bx.mono HB3.out.size)).trans (hk.below (B := w.heap.size) (Nat.le_trans HB3.out.size bx.size) (fun i hi => by subst hi; exact HC.out)))
                              clear bx)
                           | (first
                                | ((with_reducible refine (PA.out _ (f56 w4) (f24 (g56 w4)) (zp 256) (zp 1024) [] ((HM4.out.below (L56.out _)).below (L24.out _)) ((O56.out _).bs.below (L24.out _)) (O24.out _).bs (by decide)).mono ?_)
                                   have bx := below_and (L56.out w4) (L24.out _))
                                | ((with_reducible refine (PA.out _ (f56 (g24 w4)) (f24 w4) (zp 256) (zp 1024) [] ((HM4.out.below (L24.out _)).below (L56.out _)) (O56.out _).bs ((O24.out _).bs.below (L56.out _)) (by decide)).mono ?_)
                                   have bx := below_and (L24.out w4) (L56.out _))
                              rintro e w5 ⟨rfl, hm, hk⟩
                              rw [A34.out] at hm
                              rw [E34.out]
                              have HM5 := Lib.hid hm
                              have HB5 := Lib.hid ((HB4.out.trans (bx.mono HB4.out.size)).trans (hk.below (B := w.heap.size) (Nat.le_trans HB4.out.size bx.size) (fun i hi => by subst hi; exact HC.out)))
                              clear bx)
                         clear hm hk)
                        go_wp2_with fail
                        refine hK.out _ _ ?_ (fun hHeld10 => ?_)
                        · dsimp only
                        clear hK K hHeld9
                        try simp only [Act.put, List.setIfInBounds_toArray, List.set_cons_zero, List.set_cons_succ]
                        refine takeN (v := ?_) 22 rfl (by kernel_rfl) (by kernel_rfl) (by kernel_rfl) (fun _ _ _ h => h) (by rfl) ?_ hHeld10 ?_
                        rotate_left
                        · intro w hSw; (try dsimp only at hSw); go_simp; with_reducible rfl
                        try simp only [Act.put, List.setIfInBounds_toArray, List.set_cons_zero, List.set_cons_succ]
                        refine takeN (v := ?_) 23 rfl (by kernel_rfl) (by kernel_rfl) (by kernel_rfl) (fun _ _ _ h => h) (by rfl) ?_ hHeld10 ?_
                        rotate_left
                        · intro w hSw; (try dsimp only at hSw); go_simp; with_reducible rfl
                        try simp only [Act.put, List.setIfInBounds_toArray, List.set_cons_zero, List.set_cons_succ]
                        refine wpAnyH_done (by kernel_rfl) ?_ _
                        go_wp2_with fail
                        go_meet
                        exact ⟨rfl, HM5, HB5⟩
                      exact AllReadyH.nil
                    exact AllReadyH.nil
                  exact AllReadyH.nil
                exact AllReadyH.nil
              exact AllReadyH.nil
            exact AllReadyH.nil
          refine readyN rfl (fun K hK => ?_) ?_
          · -- operation 13
            go_simp
            refine hK.out _ _ ?_ (fun hHeld4 => ?_)
            · dsimp only
            clear hK K hHeld3
            try simp only [Act.put, List.setIfInBounds_toArray, List.set_cons_zero, List.set_cons_succ]
            refine wpAnyH_ready (rs := [11]) (by kernel_rfl) (by simp) ?_
            refine readyN rfl (fun K hK => ?_) ?_
            · -- operation 11
              go_simp
              refine hK.out _ _ ?_ (fun hHeld5 => ?_)
              · dsimp only
              clear hK K hHeld4
              try simp only [Act.put, List.setIfInBounds_toArray, List.set_cons_zero, List.set_cons_succ]
              refine wpAnyH_ready (rs := [12]) (by kernel_rfl) (by simp) ?_
              refine readyN rfl (fun K hK => ?_) ?_
              · -- operation 12
                go_simp
                refine hK.out _ _ ?_ (fun hHeld6 => ?_)
                · dsimp only
                clear hK K hHeld5
                try simp only [Act.put, List.setIfInBounds_toArray, List.set_cons_zero, List.set_cons_succ]
                refine wpAnyH_ready (rs := [14]) (by kernel_rfl) (by simp) ?_
                refine readyN rfl (fun K hK => ?_) ?_
                · -- operation 14
                  go_simp
                  (go_at_call 22
                   first
                     | ((with_reducible refine (PA.out _ (.slice none 0 0) (.slice none 0 0) ByteArray.empty ByteArray.empty [] HM1.out (BS.nil _) (BS.nil _) (by decide)).mono ?_); rintro e w2 ⟨rfl, hm, hk⟩
                        rw [putA_not _ _ _ _ (by rw [E14.out]; decide)] at hm
                        rw [E14.out]
                        have HM2 := Lib.hid hm
                        have HB2 := Lib.hid (HB1.out.trans (hk.below (B := w.heap.size) HB1.out.size (fun i hi => by subst hi; exact HC.out))))
                     | ((with_reducible refine (PA.out (g7 w2) (f7 w2) (.slice none 0 0) (zp 257) ByteArray.empty [] (HM2.out.below (L7.out _)) (O7.out _).bs (BS.nil _) (by decide)).mono ?_); rintro e w3 ⟨rfl, hm, hk⟩
                        rw [putA_not _ _ _ _ (by rw [E19.out]; decide)] at hm
                        rw [E19.out]
                        have HM3 := Lib.hid hm
                        have HB3 := Lib.hid ((HB2.out.trans ((L7.out w2).mono HB2.out.size)).trans (hk.below (B := w.heap.size) (Nat.le_trans HB2.out.size (L7.out w2).size) (fun i hi => by subst hi; exact HC.out))))
                     | (first
                          | ((with_reducible refine (PA.out _ _ (f25 (w3.alloc (.cells #[.int .u8 97] 5 (1, 2)))) bA (zp 1025) [] ((HM3.out.alloc _).below (L25.out _)) ((BS.lit rfl _ ⟨#[97]⟩ _ rfl rfl (by decide)).below (L25.out _)) (O25.out _).bs (by decide)).mono ?_)
                             have bx := below_and ((Below.refl w3.heap.size w3).alloc (Nat.le_refl _) (.cells #[.int .u8 97] 5 (1, 2))) (L25.out _))
                          | (have hm3 := ((HM3.out.alloc (.cells #[.int .u8 97] 5)).below (L25.out _)).keep (CW.out w3).1 (by have := blk_lt HM3.out.blk; omega) (by have := HM3.out.now.lt; omega) (by have := HM3.out.was.lt; omega)
                             have ho3 := ((O25.out (w3.alloc (.cells #[.int .u8 97] 5))).keep (CW.out w3).1 (fun k hk h => by have := ((O25.out (w3.alloc (.cells #[.int .u8 97] 5))).base_le k hk).1; simp at this; omega)).bs
                             have hk3 : BS (cw w3) (.slice (some ⟨w3.heap.size, 0, none⟩) 1 1) bA := BS.of_blk (CW.out w3).2 rfl rfl (by decide)
                             (with_reducible refine (PA.out (cw w3) _ (f25 (w3.alloc (.cells #[.int .u8 97] 5))) bA (zp 1025) [] hm3 hk3 ho3 (by decide)).mono ?_)
                             clear hm3 ho3 hk3
                             have bx := (below_and ((Below.refl w3.heap.size w3).alloc (Nat.le_refl _) (.cells #[.int .u8 97] 5)) (L25.out _)).trans ((CW.out w3).1.below (B := w3.heap.size) (by have := (L25.out (w3.alloc (.cells #[.int .u8 97] 5))).size; simp at this; omega) (fun i hi => by subst hi; exact Nat.le_refl _)))
                          | ((with_reducible refine (PA.out _ _ (f25 w3) bA (zp 1025) [] ((HM3.out.below (L25.out _)).alloc _) (BS.lit rfl _ ⟨#[97]⟩ _ rfl rfl (by decide)) ((O25.out _).alloc _).bs (by decide)).mono ?_)
                             have bx := ((L25.out w3).trans ((Below.refl _ _).alloc (L25.out w3).size (.cells #[.int .u8 97] 5 (1, 2)))))
                        rintro e w4 ⟨rfl, hm, hk⟩
                        rw [putA_not _ _ _ _ (by rw [E27.out]; decide)] at hm
                        rw [E27.out]
                        have HM4 := Lib.hid hm
                        have HB4 := Lib.hid ((HB3.out.trans (bx.mono HB3.out.size)).trans (hk.below (B := w.heap.size) (Nat.le_trans HB3.out.size bx.size) (fun i hi => by subst hi; exact HC.out)))
                        clear bx)
                     | (first
                          | ((with_reducible refine (PA.out _ (f56 w4) (f24 (g56 w4)) (zp 256) (zp 1024) [] ((HM4.out.below (L56.out _)).below (L24.out _)) ((O56.out _).bs.below (L24.out _)) (O24.out _).bs (by decide)).mono ?_)
                             have bx := below_and (L56.out w4) (L24.out _))
                          | ((with_reducible refine (PA.out _ (f56 (g24 w4)) (f24 w4) (zp 256) (zp 1024) [] ((HM4.out.below (L24.out _)).below (L56.out _)) (O56.out _).bs ((O24.out _).bs.below (L56.out _)) (by decide)).mono ?_)
                             have bx := below_and (L24.out w4) (L56.out _))
                        rintro e w5 ⟨rfl, hm, hk⟩
                        rw [A34.out] at hm
                        rw [E34.out]
                        have HM5 := Lib.hid hm
                        have HB5 := Lib.hid ((HB4.out.trans (bx.mono HB4.out.size)).trans (hk.below (B := w.heap.size) (Nat.le_trans HB4.out.size bx.size) (fun i hi => by subst hi; exact HC.out)))
                        clear bx)
                   clear hm hk)
                  go_wp2_with fail
                  refine hK.out _ _ ?_ (fun hHeld7 => ?_)
                  · dsimp only
                  clear hK K hHeld6
                  try simp only [Act.put, List.setIfInBounds_toArray, List.set_cons_zero, List.set_cons_succ]
                  refine takeN (v := ?_) 15 rfl (by kernel_rfl) (by kernel_rfl) (by kernel_rfl) (fun _ _ _ h => h) (by rfl) ?_ hHeld7 ?_
                  rotate_left
                  · intro w hSw; (try dsimp only at hSw); go_simp; with_reducible rfl
                  try simp only [Act.put, List.setIfInBounds_toArray, List.set_cons_zero, List.set_cons_succ]
                  refine takeN (v := ?_) 16 rfl (by kernel_rfl) (by kernel_rfl) (by kernel_rfl) (fun _ _ _ h => h) (by rfl) ?_ hHeld7 ?_
                  rotate_left
                  · intro w hSw; (try dsimp only at hSw); go_simp; with_reducible rfl
                  try simp only [Act.put, List.setIfInBounds_toArray, List.set_cons_zero, List.set_cons_succ]
                  refine takeN (v := ?_) 17 rfl (by kernel_rfl) (by kernel_rfl) (by kernel_rfl) (fun _ _ _ h => h) (by rfl) ?_ hHeld7 ?_
                  rotate_left
                  · intro w hSw; (try dsimp only at hSw); go_simp; with_reducible rfl
                  try simp only [Act.put, List.setIfInBounds_toArray, List.set_cons_zero, List.set_cons_succ]
                  refine takeN (v := ?_) 18 rfl (by kernel_rfl) (by kernel_rfl) (by kernel_rfl) (fun _ _ _ h => h) (by rfl) ?_ hHeld7 ?_
                  rotate_left
                  · intro w hSw; (try dsimp only at hSw); go_simp; with_reducible rfl
                  try simp only [Act.put, List.setIfInBounds_toArray, List.set_cons_zero, List.set_cons_succ]
                  refine wpAnyH_ready (rs := [19, 20]) (by kernel_rfl) (by simp) ?_
                  refine readyN rfl (fun K hK => ?_) ?_
                  · -- operation 19
                    go_simp
                    refine hK.out _ _ ?_ (fun hHeld8 => ?_)
                    · dsimp only
                    clear hK K hHeld7
                    try simp only [Act.put, List.setIfInBounds_toArray, List.set_cons_zero, List.set_cons_succ]
                    refine wpAnyH_ready (rs := [20]) (by kernel_rfl) (by simp) ?_
                    refine readyN rfl (fun K hK => ?_) ?_
                    · -- operation 20
                      go_simp
                      refine hK.out _ _ ?_ (fun hHeld9 => ?_)
                      · dsimp only
                      clear hK K hHeld8
                      try simp only [Act.put, List.setIfInBounds_toArray, List.set_cons_zero, List.set_cons_succ]
                      refine wpAnyH_ready (rs := [21]) (by kernel_rfl) (by simp) ?_
                      refine readyN rfl (fun K hK => ?_) ?_
                      · -- operation 21
                        go_simp
                        (go_at_call 22
                         first
                           | ((with_reducible refine (PA.out _ (.slice none 0 0) (.slice none 0 0) ByteArray.empty ByteArray.empty [] HM1.out (BS.nil _) (BS.nil _) (by decide)).mono ?_); rintro e w2 ⟨rfl, hm, hk⟩
                              rw [putA_not _ _ _ _ (by rw [E14.out]; decide)] at hm
                              rw [E14.out]
                              have HM2 := Lib.hid hm
                              have HB2 := Lib.hid (HB1.out.trans (hk.below (B := w.heap.size) HB1.out.size (fun i hi => by subst hi; exact HC.out))))
                           | ((with_reducible refine (PA.out (g7 w2) (f7 w2) (.slice none 0 0) (zp 257) ByteArray.empty [] (HM2.out.below (L7.out _)) (O7.out _).bs (BS.nil _) (by decide)).mono ?_); rintro e w3 ⟨rfl, hm, hk⟩
                              rw [putA_not _ _ _ _ (by rw [E19.out]; decide)] at hm
                              rw [E19.out]
                              have HM3 := Lib.hid hm
                              have HB3 := Lib.hid ((HB2.out.trans ((L7.out w2).mono HB2.out.size)).trans (hk.below (B := w.heap.size) (Nat.le_trans HB2.out.size (L7.out w2).size) (fun i hi => by subst hi; exact HC.out))))
                           | (first
                                | ((with_reducible refine (PA.out _ _ (f25 (w3.alloc (.cells #[.int .u8 97] 5 (1, 2)))) bA (zp 1025) [] ((HM3.out.alloc _).below (L25.out _)) ((BS.lit rfl _ ⟨#[97]⟩ _ rfl rfl (by decide)).below (L25.out _)) (O25.out _).bs (by decide)).mono ?_)
                                   have bx := below_and ((Below.refl w3.heap.size w3).alloc (Nat.le_refl _) (.cells #[.int .u8 97] 5 (1, 2))) (L25.out _))
                                | (have hm3 := ((HM3.out.alloc (.cells #[.int .u8 97] 5)).below (L25.out _)).keep (CW.out w3).1 (by have := blk_lt HM3.out.blk; omega) (by have := HM3.out.now.lt; omega) (by have := HM3.out.was.lt; omega)
                                   have ho3 := ((O25.out (w3.alloc (.cells #[.int .u8 97] 5))).keep (CW.out w3).1 (fun k hk h => by have := ((O25.out (w3.alloc (.cells #[.int .u8 97] 5))).base_le k hk).1; simp at this; omega)).bs
                                   have hk3 : BS (cw w3) (.slice (some ⟨w3.heap.size, 0, none⟩) 1 1) bA := BS.of_blk (CW.out w3).2 rfl rfl (by decide)
                                   (with_reducible refine (PA.out (cw w3) _ (f25 (w3.alloc (.cells #[.int .u8 97] 5))) bA (zp 1025) [] hm3 hk3 ho3 (by decide)).mono ?_)
                                   clear hm3 ho3 hk3
                                   have bx := (below_and ((Below.refl w3.heap.size w3).alloc (Nat.le_refl _) (.cells #[.int .u8 97] 5)) (L25.out _)).trans ((CW.out w3).1.below (B := w3.heap.size) (by have := (L25.out (w3.alloc (.cells #[.int .u8 97] 5))).size; simp at this; omega) (fun i hi => by subst hi; exact Nat.le_refl _)))
                                | ((with_reducible refine (PA.out _ _ (f25 w3) bA (zp 1025) [] ((HM3.out.below (L25.out _)).alloc _) (BS.lit rfl _ ⟨#[97]⟩ _ rfl rfl (by decide)) ((O25.out _).alloc _).bs (by decide)).mono ?_)
                                   have bx := ((L25.out w3).trans ((Below.refl _ _).alloc (L25.out w3).size (.cells #[.int .u8 97] 5 (1, 2)))))
                              rintro e w4 ⟨rfl, hm, hk⟩
                              rw [putA_not _ _ _ _ (by rw [E27.out]; decide)] at hm
                              rw [E27.out]
                              have HM4 := Lib.hid hm
                              have HB4 := Lib.hid ((HB3.out.trans (bx.mono HB3.out.size)).trans (hk.below (B := w.heap.size) (Nat.le_trans HB3.out.size bx.size) (fun i hi => by subst hi; exact HC.out)))
                              clear bx)
                           | (first
                                | ((with_reducible refine (PA.out _ (f56 w4) (f24 (g56 w4)) (zp 256) (zp 1024) [] ((HM4.out.below (L56.out _)).below (L24.out _)) ((O56.out _).bs.below (L24.out _)) (O24.out _).bs (by decide)).mono ?_)
                                   have bx := below_and (L56.out w4) (L24.out _))
                                | ((with_reducible refine (PA.out _ (f56 (g24 w4)) (f24 w4) (zp 256) (zp 1024) [] ((HM4.out.below (L24.out _)).below (L56.out _)) (O56.out _).bs ((O24.out _).bs.below (L56.out _)) (by decide)).mono ?_)
                                   have bx := below_and (L24.out w4) (L56.out _))
                              rintro e w5 ⟨rfl, hm, hk⟩
                              rw [A34.out] at hm
                              rw [E34.out]
                              have HM5 := Lib.hid hm
                              have HB5 := Lib.hid ((HB4.out.trans (bx.mono HB4.out.size)).trans (hk.below (B := w.heap.size) (Nat.le_trans HB4.out.size bx.size) (fun i hi => by subst hi; exact HC.out)))
                              clear bx)
                         clear hm hk)
                        go_wp2_with fail
                        refine hK.out _ _ ?_ (fun hHeld10 => ?_)
                        · dsimp only
                        clear hK K hHeld9
                        try simp only [Act.put, List.setIfInBounds_toArray, List.set_cons_zero, List.set_cons_succ]
                        refine takeN (v := ?_) 22 rfl (by kernel_rfl) (by kernel_rfl) (by kernel_rfl) (fun _ _ _ h => h) (by rfl) ?_ hHeld10 ?_
                        rotate_left
                        · intro w hSw; (try dsimp only at hSw); go_simp; with_reducible rfl
                        try simp only [Act.put, List.setIfInBounds_toArray, List.set_cons_zero, List.set_cons_succ]
                        refine takeN (v := ?_) 23 rfl (by kernel_rfl) (by kernel_rfl) (by kernel_rfl) (fun _ _ _ h => h) (by rfl) ?_ hHeld10 ?_
                        rotate_left
                        · intro w hSw; (try dsimp only at hSw); go_simp; with_reducible rfl
                        try simp only [Act.put, List.setIfInBounds_toArray, List.set_cons_zero, List.set_cons_succ]
                        refine wpAnyH_done (by kernel_rfl) ?_ _
                        go_wp2_with fail
                        go_meet
                        exact ⟨rfl, HM5, HB5⟩
                      exact AllReadyH.nil
                    exact AllReadyH.nil
                  refine readyN rfl (fun K hK => ?_) ?_
                  · -- operation 20
                    go_simp
                    refine hK.out _ _ ?_ (fun hHeld8 => ?_)
                    · dsimp only
                    clear hK K hHeld7
                    try simp only [Act.put, List.setIfInBounds_toArray, List.set_cons_zero, List.set_cons_succ]
                    refine wpAnyH_ready (rs := [19]) (by kernel_rfl) (by simp) ?_
                    refine readyN rfl (fun K hK => ?_) ?_
                    · -- operation 19
                      go_simp
                      refine hK.out _ _ ?_ (fun hHeld9 => ?_)
                      · dsimp only
                      clear hK K hHeld8
                      try simp only [Act.put, List.setIfInBounds_toArray, List.set_cons_zero, List.set_cons_succ]
                      refine wpAnyH_ready (rs := [21]) (by kernel_rfl) (by simp) ?_
                      refine readyN rfl (fun K hK => ?_) ?_
                      · -- operation 21
                        go_simp
                        (go_at_call 22
                         first
                           | ((with_reducible refine (PA.out _ (.slice none 0 0) (.slice none 0 0) ByteArray.empty ByteArray.empty [] HM1.out (BS.nil _) (BS.nil _) (by decide)).mono ?_); rintro e w2 ⟨rfl, hm, hk⟩
                              rw [putA_not _ _ _ _ (by rw [E14.out]; decide)] at hm
                              rw [E14.out]
                              have HM2 := Lib.hid hm
                              have HB2 := Lib.hid (HB1.out.trans (hk.below (B := w.heap.size) HB1.out.size (fun i hi => by subst hi; exact HC.out))))
                           | ((with_reducible refine (PA.out (g7 w2) (f7 w2) (.slice none 0 0) (zp 257) ByteArray.empty [] (HM2.out.below (L7.out _)) (O7.out _).bs (BS.nil _) (by decide)).mono ?_); rintro e w3 ⟨rfl, hm, hk⟩
                              rw [putA_not _ _ _ _ (by rw [E19.out]; decide)] at hm
                              rw [E19.out]
                              have HM3 := Lib.hid hm
                              have HB3 := Lib.hid ((HB2.out.trans ((L7.out w2).mono HB2.out.size)).trans (hk.below (B := w.heap.size) (Nat.le_trans HB2.out.size (L7.out w2).size) (fun i hi => by subst hi; exact HC.out))))
                           | (first
                                | ((with_reducible refine (PA.out _ _ (f25 (w3.alloc (.cells #[.int .u8 97] 5 (1, 2)))) bA (zp 1025) [] ((HM3.out.alloc _).below (L25.out _)) ((BS.lit rfl _ ⟨#[97]⟩ _ rfl rfl (by decide)).below (L25.out _)) (O25.out _).bs (by decide)).mono ?_)
                                   have bx := below_and ((Below.refl w3.heap.size w3).alloc (Nat.le_refl _) (.cells #[.int .u8 97] 5 (1, 2))) (L25.out _))
                                | (have hm3 := ((HM3.out.alloc (.cells #[.int .u8 97] 5)).below (L25.out _)).keep (CW.out w3).1 (by have := blk_lt HM3.out.blk; omega) (by have := HM3.out.now.lt; omega) (by have := HM3.out.was.lt; omega)
                                   have ho3 := ((O25.out (w3.alloc (.cells #[.int .u8 97] 5))).keep (CW.out w3).1 (fun k hk h => by have := ((O25.out (w3.alloc (.cells #[.int .u8 97] 5))).base_le k hk).1; simp at this; omega)).bs
                                   have hk3 : BS (cw w3) (.slice (some ⟨w3.heap.size, 0, none⟩) 1 1) bA := BS.of_blk (CW.out w3).2 rfl rfl (by decide)
                                   (with_reducible refine (PA.out (cw w3) _ (f25 (w3.alloc (.cells #[.int .u8 97] 5))) bA (zp 1025) [] hm3 hk3 ho3 (by decide)).mono ?_)
                                   clear hm3 ho3 hk3
                                   have bx := (below_and ((Below.refl w3.heap.size w3).alloc (Nat.le_refl _) (.cells #[.int .u8 97] 5)) (L25.out _)).trans ((CW.out w3).1.below (B := w3.heap.size) (by have := (L25.out (w3.alloc (.cells #[.int .u8 97] 5))).size; simp at this; omega) (fun i hi => by subst hi; exact Nat.le_refl _)))
                                | ((with_reducible refine (PA.out _ _ (f25 w3) bA (zp 1025) [] ((HM3.out.below (L25.out _)).alloc _) (BS.lit rfl _ ⟨#[97]⟩ _ rfl rfl (by decide)) ((O25.out _).alloc _).bs (by decide)).mono ?_)
                                   have bx := ((L25.out w3).trans ((Below.refl _ _).alloc (L25.out w3).size (.cells #[.int .u8 97] 5 (1, 2)))))
                              rintro e w4 ⟨rfl, hm, hk⟩
                              rw [putA_not _ _ _ _ (by rw [E27.out]; decide)] at hm
                              rw [E27.out]
                              have HM4 := Lib.hid hm
                              have HB4 := Lib.hid ((HB3.out.trans (bx.mono HB3.out.size)).trans (hk.below (B := w.heap.size) (Nat.le_trans HB3.out.size bx.size) (fun i hi => by subst hi; exact HC.out)))
                              clear bx)
                           | (first
                                | ((with_reducible refine (PA.out _ (f56 w4) (f24 (g56 w4)) (zp 256) (zp 1024) [] ((HM4.out.below (L56.out _)).below (L24.out _)) ((O56.out _).bs.below (L24.out _)) (O24.out _).bs (by decide)).mono ?_)
                                   have bx := below_and (L56.out w4) (L24.out _))
                                | ((with_reducible refine (PA.out _ (f56 (g24 w4)) (f24 w4) (zp 256) (zp 1024) [] ((HM4.out.below (L24.out _)).below (L56.out _)) (O56.out _).bs ((O24.out _).bs.below (L56.out _)) (by decide)).mono ?_)
                                   have bx := below_and (L24.out w4) (L56.out _))
                              rintro e w5 ⟨rfl, hm, hk⟩
                              rw [A34.out] at hm
                              rw [E34.out]
                              have HM5 := Lib.hid hm
                              have HB5 := Lib.hid ((HB4.out.trans (bx.mono HB4.out.size)).trans (hk.below (B := w.heap.size) (Nat.le_trans HB4.out.size bx.size) (fun i hi => by subst hi; exact HC.out)))
                              clear bx)
                         clear hm hk)
                        go_wp2_with fail
                        refine hK.out _ _ ?_ (fun hHeld10 => ?_)
                        · dsimp only
                        clear hK K hHeld9
                        try simp only [Act.put, List.setIfInBounds_toArray, List.set_cons_zero, List.set_cons_succ]
                        refine takeN (v := ?_) 22 rfl (by kernel_rfl) (by kernel_rfl) (by kernel_rfl) (fun _ _ _ h => h) (by rfl) ?_ hHeld10 ?_
                        rotate_left
                        · intro w hSw; (try dsimp only at hSw); go_simp; with_reducible rfl
                        try simp only [Act.put, List.setIfInBounds_toArray, List.set_cons_zero, List.set_cons_succ]
                        refine takeN (v := ?_) 23 rfl (by kernel_rfl) (by kernel_rfl) (by kernel_rfl) (fun _ _ _ h => h) (by rfl) ?_ hHeld10 ?_
                        rotate_left
                        · intro w hSw; (try dsimp only at hSw); go_simp; with_reducible rfl
                        try simp only [Act.put, List.setIfInBounds_toArray, List.set_cons_zero, List.set_cons_succ]
                        refine wpAnyH_done (by kernel_rfl) ?_ _
                        go_wp2_with fail
                        go_meet
                        exact ⟨rfl, HM5, HB5⟩
                      exact AllReadyH.nil
                    exact AllReadyH.nil
                  exact AllReadyH.nil
                exact AllReadyH.nil
              exact AllReadyH.nil
            exact AllReadyH.nil
          exact AllReadyH.nil
        exact AllReadyH.nil
      exact AllReadyH.nil
    exact AllReadyH.nil
  case rest =>
    obtain ⟨rfl, HM5, HB5⟩ := hcut
    obtain ⟨n0, hn0, hl0, HM6⟩ : ∃ n0, AL.ND n0 ∧ n0.length ≤ 5 ∧ Hid (MemIs wc p (-1) c1 c2 n0 []) := ⟨_, by simp [AL.ND, AL.keys], by simp, HM5⟩
    clear HM5 m7 m25 m56 m24 kc2 CW O7 O25 O56 O24 L7 L25 L56 L24 E14 E19 E27 E34 A34 PA HM1 HB1
    have N0 := Lib.hid hn0
    have N1 := Lib.hid (nd_put (k := bN) (v := be8 513) hn0)
    have N2 := Lib.hid (nd_put (k := bN) (v := b1) N1.out)
    have e1 : setE (-1) n0 bN 513 = 0 := by unfold setE; rw [if_neg (by decide)]; exact putE_ok _ _ _ (by decide) (by decide) (by rw [show (be8 513).size = 8 from be_size _ 8]; decide)
    have e2 : setA (-1) n0 bN 513 = AL.put bN (be8 513) n0 := by unfold setA; rw [if_neg (by decide)]; exact putA_ok _ _ _ (by decide) (by decide) (by rw [show (be8 513).size = 8 from be_size _ 8]; decide)
    have E1 := Lib.hid e1
    have E2 := Lib.hid e2
    obtain ⟨n1, hn1⟩ : ∃ n1, n1 = AL.put bN (be8 513) n0 := ⟨_, rfl⟩
    have l1 : n1.length ≤ 6 := by rw [hn1]; exact Nat.le_trans (put_length _ _ _) (by omega)
    have G1 := Lib.hid (show AL.get bN n1 = some (be8 513) by rw [hn1]; exact get_put hn0)
    rw [← hn1] at E2 N1 N2
    obtain ⟨n2, hn2⟩ : ∃ n2, n2 = AL.put bN b1 n1 := ⟨_, rfl⟩
    have G2 := Lib.hid (show AL.get bN n2 = some b1 by rw [hn2]; exact get_put N1.out)
    have A2 := Lib.hid (show putA (-1) n1 bN b1 = n2 by rw [hn2]; exact putA_ok _ _ _ (by decide) (by decide) (by decide))
    have E3 := Lib.hid (putE_ok n1 bN b1 (by decide) (by decide) (by decide))
    have l2 : n2.length ≤ 7 := by rw [hn2]; exact Nat.le_trans (put_length _ _ _) (by omega)
    rw [← hn2] at N2
    have G3 := Lib.hid (get_del (k := bN) N2.out)
    have L0 := Lib.hid hl0
    have L1 := Lib.hid l1
    have L2 := Lib.hid l2
    have Q1 := Lib.hid (show numOf (some (be8 513)) = 513 by
      have h8 : (be8 513).size = 8 := be_size _ 8
      have hv := valN_be8 513 (by decide) (by decide)
      simp only [numOf, h8, if_true]
      exact hv)
    have Q2 := Lib.hid (show numE (some (be8 513)) = 0 by simp only [numE, show (be8 513).size = 8 from be_size _ 8, if_true])
    have Q3 := Lib.hid (show numOf (some b1) = 0 by decide)
    have Q4 := Lib.hid (show numE (some b1) = 10 by decide)
    clear hn0 e1 e2 hn1 hn2 hl0 l1 l2
    go_wp2_with fail
    refine (set_any p (-1) c1 c2 n0 [] _ bN 513 (by decide) (by decide) _ (HM6.out.alloc _) (BS.lit rfl _ ⟨#[110]⟩ _ rfl rfl (by decide)) (by have := L0.out; omega)).mono ?_
    rintro e w6 ⟨rfl, hm, hk⟩
    rw [E2.out] at hm
    rw [E1.out]
    have HM7 := Lib.hid hm
    have HB7 := Lib.hid ((HB5.out.alloc HB5.out.size _).trans (hk.below (B := w.heap.size) (by have := HB5.out.size; simp; omega) (fun i hi => by subst hi; exact HC.out)))
    clear hm hk
    go_wp2_with fail
    refine (number_any p (-1) c1 c2 n1 [] _ bN _ (HM7.out.alloc _) (BS.lit rfl _ ⟨#[110]⟩ _ rfl rfl (by decide)) (fun v hv => by rw [G1.out] at hv; cases hv; rw [show (be8 513).size = 8 from be_size _ 8]; decide)).mono ?_
    rintro e w7 ⟨rfl, hb⟩
    rw [G1.out, Q1.out, Q2.out]
    have HM8 := Lib.hid ((HM7.out.alloc _).below hb)
    have HB8 := Lib.hid ((HB7.out.alloc HB7.out.size _).trans (hb.mono (by have := HB7.out.size; simp; omega)))
    clear hb
    go_wp2_with fail
    refine (put_any p (-1) c1 c2 n1 [] _ _ bN b1 _ ((HM8.out.alloc _).alloc _) ((BS.lit rfl _ ⟨#[110]⟩ _ rfl rfl (by decide)).alloc _) (BS.lit (by simp) _ ⟨#[49]⟩ _ rfl rfl (by decide)) (by have := L1.out; omega)).mono ?_
    rintro e w8 ⟨rfl, hm, hk⟩
    rw [A2.out] at hm
    rw [E3.out]
    have HM9 := Lib.hid hm
    have HB9 := Lib.hid (((HB8.out.alloc HB8.out.size _).alloc (by have := HB8.out.size; simp; omega) _).trans (hk.below (B := w.heap.size) (by have := HB8.out.size; simp; omega) (fun i hi => by subst hi; exact HC.out)))
    clear hm hk
    go_wp2_with fail
    refine (number_any p (-1) c1 c2 n2 [] _ bN _ (HM9.out.alloc _) (BS.lit rfl _ ⟨#[110]⟩ _ rfl rfl (by decide)) (fun v hv => by rw [G2.out] at hv; cases hv; decide)).mono ?_
    rintro e w9 ⟨rfl, hb⟩
    rw [G2.out, Q3.out, Q4.out]
    have HM10 := Lib.hid ((HM9.out.alloc _).below hb)
    have HB10 := Lib.hid ((HB9.out.alloc HB9.out.size _).trans (hb.mono (by have := HB9.out.size; simp; omega)))
    clear hb
    go_wp2_with fail
    refine (set_any p (-1) c1 c2 n2 [] _ bN 0 (by decide) (by decide) _ (HM10.out.alloc _) (BS.lit rfl _ ⟨#[110]⟩ _ rfl rfl (by decide)) (by have := L2.out; omega)).mono ?_
    rintro e w10 ⟨rfl, hm, hk⟩
    rw [show setA (-1) n2 bN 0 = AL.del bN n2 from rfl] at hm
    rw [show setE (-1) n2 bN 0 = 0 from rfl]
    have HM11 := Lib.hid hm
    have HB11 := Lib.hid ((HB10.out.alloc HB10.out.size _).trans (hk.below (B := w.heap.size) (by have := HB10.out.size; simp; omega) (fun i hi => by subst hi; exact HC.out)))
    clear hm hk
    go_wp2_with fail
    refine (get_any p (-1) c1 c2 (AL.del bN n2) [] _ bN _ (HM11.out.alloc _) (BS.lit rfl _ ⟨#[110]⟩ _ rfl rfl (by decide)) (fun v hv => by rw [G3.out] at hv; cases hv)).mono ?_
    rintro e w11 ⟨v11, rfl, _, hb⟩
    rw [G3.out]
    have HM12 := Lib.hid ((HM11.out.alloc _).below hb)
    have HB12 := Lib.hid ((HB11.out.alloc HB11.out.size _).trans (hb.mono (by have := HB11.out.size; simp; omega)))
    clear hb
    go_wp2_with fail
    refine (number_any p (-1) c1 c2 (AL.del bN n2) [] _ bN _ (HM12.out.alloc _) (BS.lit rfl _ ⟨#[110]⟩ _ rfl rfl (by decide)) (fun v hv => by rw [G3.out] at hv; cases hv)).mono ?_
    rintro e w12 ⟨rfl, hb⟩
    rw [G3.out, show numOf none = 0 from rfl, show numE none = 0 from rfl]
    have HB13 := Lib.hid ((HB12.out.alloc HB12.out.size _).trans (hb.mono (by have := HB12.out.size; simp; omega)))
    clear hb HM12 HM11 HM10 HM9 HM8 HM7
    go_wp2_with fail
    refine (key_any 1 (by decide) (by decide) (.slice none 0 0) [] _ (US.nil _) (by simp)).mono ?_
    rintro e w13 ⟨v13, rfl, ho, hb⟩
    obtain ⟨va, vc, rfl, _⟩ := ho.bs.len2 (n := 1) rfl
    have HB14 := Lib.hid (HB13.out.trans (hb.mono HB13.out.size))
    clear ho hb
    go_wp2_with fail
    refine (HG.out _).mono ?_
    rintro e wf ⟨rfl, hb⟩
    have HBF := Lib.hid (HB14.out.trans (hb.mono HB14.out.size))
    clear hb
    go_wp2
    go_ret
    exact ⟨rfl, HBF.out⟩
end Go.Proofs.Ytiadoimdohnebaa
