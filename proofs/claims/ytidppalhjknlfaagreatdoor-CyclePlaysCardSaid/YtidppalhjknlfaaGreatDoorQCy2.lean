/- cycle.segment, cycle.Plan, cycle.Tenant. -/
import Derived.Test.YtidppalhjknlfaaGreatDoorQCy1
import Derived.Test.YtidppalhjknlfaaGreatDoorQMRdB
import Derived.Deep.DeepCutAuto
namespace Go.Proofs.YtidppalhjknlfaaGreatDoor
open Go.RowKit
set_option maxRecDepth 100000
set_option maxHeartbeats 2000000
set_option linter.unusedVariables false
set_option linter.unusedSimpArgs false
/-- a store in memory that holds plans and tenants -/
def CB (w : World) (p b1 b2 : Nat) (ps : List Pl) (ts : List Tn) (m : Nat) : Prop := ∃ now, MemIs w p (-1) b1 b2 now [] ∧ CS now ps ts ∧ St m now ∧ m ≤ 1000000
theorem CB.below {w w' : World} {p b1 b2 m : Nat} {ps : List Pl} {ts : List Tn} (h : CB w p b1 b2 ps ts m) (hb : Below w.heap.size w w') : CB w' p b1 b2 ps ts m := by
  obtain ⟨now, h1, h2, h3, h4⟩ := h
  exact ⟨now, h1.below hb, h2, h3, h4⟩
theorem CB.b1lt {w : World} {p b1 b2 m : Nat} {ps : List Pl} {ts : List Tn} (h : CB w p b1 b2 ps ts m) : b1 < w.heap.size := by
  obtain ⟨now, h1, _⟩ := h
  obtain ⟨es, c, h1, _⟩ := h1.now
  exact blk_lt h1
theorem CB.mono {w : World} {p b1 b2 m m' : Nat} {ps : List Pl} {ts : List Tn} (h : CB w p b1 b2 ps ts m) (hm : m ≤ m') (hm' : m' ≤ 1000000) : CB w p b1 b2 ps ts m' := by
  obtain ⟨now, h1, h2, h3, h4⟩ := h
  exact ⟨now, h1, h2, h3.mono hm, hm'⟩
theorem put_ok (now : AL) (k v : ByteArray) (hk : 0 < k.size) (hk2 : k.size ≤ 256) (hv : v.size ≤ 1024) : putE (-1) now k v = 0 ∧ putA (-1) now k v = AL.put k v now := by
  have e : putE (-1) now k v = 0 := by
    unfold putE
    rw [if_neg (by omega), if_neg (by omega), if_neg (by omega)]
  exact ⟨e, by unfold putA; rw [if_pos e]⟩
theorem set_ok (now : AL) (k : ByteArray) (n : Int) (hn : n ≠ 0) (hk : 0 < k.size) (hk2 : k.size ≤ 256) : setE (-1) now k n = 0 ∧ setA (-1) now k n = AL.put k (be8 n) now := by
  obtain ⟨e1, e2⟩ := put_ok now k (be8 n) hk hk2 (by rw [show (be8 n).size = 8 from be_size n 8]; omega)
  unfold setE setA
  rw [if_neg hn, if_neg hn]
  exact ⟨e1, e2⟩
theorem cseg_any (p b1 b2 : Nat) (now was : AL) (t d i : Int) (ht : U32 t) (hd : -719162 ≤ d ∧ d ≤ 2932896) (hi : 1 ≤ i ∧ i ≤ 4294967295) (w : World) (hM : MemIs w p (-1) b1 b2 now was) (hl : now.length ≤ 9223372036854775807) :
    Calls Tryz.prog 33 #[sV p, .int .u32 t, .int .i64 d, .int .u32 i] w fun e w' => e = .returned (.int .i64 0) ∧ MemIs w' p (-1) b1 b2 (AL.put ((⟨d, i⟩ : Sg).key t) (be8 i) now) was ∧ Keep (fun i => i = b1) w w' := by
  have h0 := ht.1
  have h1 := ht.2
  have tw : IntKind.u64.wrap t = t := by rw [IntKind.wrap_u64]; omega
  have iw : IntKind.u64.wrap i = i := by rw [IntKind.wrap_u64]; omega
  have dw : wrap64 (d + 4294967296) = d + 4294967296 := by unfold wrap64; omega
  have dw2 : IntKind.u64.wrap (d + 4294967296) = d + 4294967296 := by rw [IntKind.wrap_u64]; omega
  have HK := Lib.hid fun (W : World) (T : TypeId) => key_any 115 (by decide) (by decide) (.slice (some ⟨W.heap.size, 0, none⟩) 2 2) [t, d + 4294967296] (W.alloc (.cells #[.int .u64 t, .int .u64 (d + 4294967296)] T)) (US.lit2 W t (d + 4294967296) h0 (by omega) (by omega) (by omega) T) (by simp)
  obtain ⟨e1, e2⟩ := set_ok now ((⟨d, i⟩ : Sg).key t) i (by omega) (by rw [show ((⟨d, i⟩ : Sg).key t).size = 17 from sk_size _ _]; omega) (by rw [show ((⟨d, i⟩ : Sg).key t).size = 17 from sk_size _ _]; omega)
  have hs := fun (W : World) (kv : Value) (hm : MemIs W p (-1) b1 b2 now was) (hk : BS W kv ((⟨d, i⟩ : Sg).key t)) => set_any p (-1) b1 b2 now was kv _ i (by omega) (by omega) W hm hk hl
  rw [e1, e2] at hs
  unfold sV pV at hs ⊢
  have HS := Lib.hid hs
  have HM := Lib.hid hM
  clear hM hl hs e1 e2
  go_enter Tryz.func33, Tryz.ntmps33
  go_wp2_with fail
  refine (HK.out w _).mono ?_
  rintro e w1 ⟨v1, rfl, ho, hb⟩
  have hb1 := below_and ((Below.refl w.heap.size w).alloc (Nat.le_refl _) _) hb
  have HB1 := Lib.hid hb1
  have HC := Lib.hid (HS.out w1 v1 (HM.out.below hb1) ho.bs)
  clear ho hb hb1
  go_wp2_with fail
  refine HC.out.mono ?_
  rintro e w2 ⟨rfl, hm, hk⟩
  have HM2 := Lib.hid hm
  have HK2 := Lib.hid ((Keep.ofBelow HB1.out (fun i => i = b1)).trans hk (fun i hi => .inl hi))
  clear hm hk
  go_wp2
  go_ret
  exact ⟨rfl, HM2.out, HK2.out⟩
def Pl.zero : Pl := ⟨0, 0, 0, 0, 0, 0, []⟩
theorem nil_get (b : Nat) (w : World) : (nilAhead 289 24 (.pointer (some ⟨b, 0, none⟩)) "Get").run Tryz.prog w = .ok (some false) w := by kernel_rfl
theorem cplan_no (p b1 b2 m : Nat) (ps : List Pl) (ts : List Tn) (i : Int) (hi : U32 i) (w : World) (h : CB w p b1 b2 ps ts m) (hf : pfind ps i = none) :
    Calls Tryz.prog 21 #[sV p, .int .u32 i] w fun e w' => e = .returned (.tuple #[Pl.zero.val (.slice none 0 0), .int .i64 4]) ∧ Below w.heap.size w w' := by
  obtain ⟨now, hM, hC, hS, hm⟩ := h
  have hg : AL.get (nk i) now = none := by rw [hC.plan i hi, hf]; rfl
  have h0 := hi.1
  have h1 := hi.2
  have tw : IntKind.u64.wrap i = i := by rw [IntKind.wrap_u64]; omega
  have hG := fun (W : World) (kv : Value) (hm : MemIs W p (-1) b1 b2 now []) (hk : BS W kv (nk i)) => get_any p (-1) b1 b2 now [] kv (nk i) W hm hk (fun v hv => by rw [hg] at hv; cases hv)
  rw [hg] at hG
  have na := nil_get p
  have hz := blk_new w (.cells #[.int .u32 0, .int .i64 0, .int .i64 0, .int .i64 0, .int .i64 0, .int .i64 0, .slice none 0 0] 35)
  have hb0 : Below w.heap.size w (w.alloc (.cells #[.int .u32 0, .int .i64 0, .int .i64 0, .int .i64 0, .int .i64 0, .int .i64 0, .slice none 0 0] 35)) := (Below.refl w.heap.size w).alloc (Nat.le_refl _) _
  have HZ := Lib.hid hz
  have HB := Lib.hid hb0
  have HM := Lib.hid (hM.below hb0.drew)
  obtain ⟨W, hW⟩ : ∃ W, W = w.alloc (.cells #[.int .u32 0, .int .i64 0, .int .i64 0, .int .i64 0, .int .i64 0, .int .i64 0, .slice none 0 0] 35) := ⟨_, rfl⟩
  rw [← hW] at HZ HB HM
  unfold sV Pl.val Pl.zero at *
  unfold pV at hG ⊢
  have HG := Lib.hid hG
  clear hM hC hS hm hf hg hG hz hb0
  go_enter Tryz.func21, Tryz.ntmps21
  go_upto_region 1 with fail
  rw [← hW]
  have hws : W.heap.size = w.heap.size + 1 := by rw [hW]; simp
  have HWS := Lib.hid hws
  have U1 := Lib.hid fun e : TypeId => show US (W.drew.alloc (.cells #[.int .u64 i] e)) (.slice (some ⟨W.heap.size, 0, none⟩) 1 1) [i] from US.lit1 W.drew i h0 (by omega) e
  clear hW hws
  refine wp_region_held_drew (S := (fun w' => True)) (by kernel_rfl) ?_ (fun hHeld0 => ?_)
  · dsimp only
  refine takeN (v := ?_) 0 rfl (by kernel_rfl) (by kernel_rfl) (by kernel_rfl) (fun _ _ _ h => h) (by rfl) ?_ hHeld0 ?_
  rotate_left
  · intro w hSw; (try dsimp only at hSw); go_simp; with_reducible rfl
  try simp only [Act.put, List.setIfInBounds_toArray, List.set_cons_zero, List.set_cons_succ]
  refine takeN (v := ?_) 1 rfl (by kernel_rfl) (by kernel_rfl) (by kernel_rfl) (fun _ _ _ h => h) (by rfl) ?_ hHeld0 ?_
  rotate_left
  · intro w hSw; (try dsimp only at hSw); go_simp; with_reducible rfl
  try simp only [Act.put, List.setIfInBounds_toArray, List.set_cons_zero, List.set_cons_succ]
  refine takeN (v := ?_) 2 rfl (by kernel_rfl) (by kernel_rfl) (by kernel_rfl) (fun _ _ _ h => h) (by rfl) ?_ hHeld0 ?_
  rotate_left
  · intro w hSw; (try dsimp only at hSw); go_simp; with_reducible rfl
  try simp only [Act.put, List.setIfInBounds_toArray, List.set_cons_zero, List.set_cons_succ]
  refine wpAnyH_ready (rs := [3, 5]) (by kernel_rfl) (by simp) ?_
  refine readyN rfl (fun K hK => ?_) ?_
  · -- operation 3
    go_simp
    refine hK.out _ _ ?_ (fun hHeld1 => ?_)
    · dsimp only
    clear hK K hHeld0
    try simp only [Act.put, List.setIfInBounds_toArray, List.set_cons_zero, List.set_cons_succ]
    refine wpAnyH_ready (rs := [4, 5]) (by kernel_rfl) (by simp) ?_
    refine readyN rfl (fun K hK => ?_) ?_
    · -- operation 4
      go_simp
      first
        | (go_at_call 28; refine (key_any 110 (by decide) (by decide) _ [i] _ (U1.out _) (by simp)).mono ?_; rintro e w4 ⟨v4, rfl, ho, hb⟩
           have HB4 := Lib.hid (show Below W.heap.size W w4 from ((Below.refl W.heap.size W).drew).trans (below_and ((Below.refl _ _).alloc (Nat.le_refl _) _) hb))
           have HO4 := Lib.hid (show BS w4 v4 (nk i) from ho.bs)
           have HM4 := Lib.hid (HM.out.below (w' := w4) (below_and ((Below.refl _ _).alloc (Nat.le_refl _) _) hb))
           clear ho hb)
        | (go_at_call 103; refine (HG.out w4 v4 HM4.out HO4.out).mono ?_; rintro e w5 ⟨v5, rfl, hm, hb⟩
           have hbs := hm.1
           have HV5 := Lib.hid hm.1
           have HB5 := Lib.hid (HB4.out.trans (hb.mono HB4.out.size))
           obtain ⟨a5, c5, rfl, _⟩ := hbs
           clear hm hb)
      go_wp2_with fail
      refine hK.out _ _ ?_ (fun hHeld2 => ?_)
      · dsimp only
      clear hK K hHeld1
      try simp only [Act.put, List.setIfInBounds_toArray, List.set_cons_zero, List.set_cons_succ]
      refine wpAnyH_ready (rs := [5]) (by kernel_rfl) (by simp) ?_
      refine readyN rfl (fun K hK => ?_) ?_
      · -- operation 5
        go_simp
        refine hK.out _ _ ?_ (fun hHeld3 => ?_)
        · dsimp only
        clear hK K hHeld2
        try simp only [Act.put, List.setIfInBounds_toArray, List.set_cons_zero, List.set_cons_succ]
        refine takeN (v := ?_) 6 rfl (by kernel_rfl) (by kernel_rfl) (by kernel_rfl) (fun _ _ _ h => h) (by rfl) ?_ hHeld3 ?_
        rotate_left
        · intro w hSw; (try dsimp only at hSw); go_simp; with_reducible rfl
        try simp only [Act.put, List.setIfInBounds_toArray, List.set_cons_zero, List.set_cons_succ]
        refine takeN (v := ?_) 7 rfl (by kernel_rfl) (by kernel_rfl) (by kernel_rfl) (fun _ _ _ h => h) (by rfl) ?_ hHeld3 ?_
        rotate_left
        · intro w hSw; (try dsimp only at hSw); go_simp; with_reducible rfl
        try simp only [Act.put, List.setIfInBounds_toArray, List.set_cons_zero, List.set_cons_succ]
        refine wpAnyH_ready (rs := [8]) (by kernel_rfl) (by simp) ?_
        refine readyN rfl (fun K hK => ?_) ?_
        · -- operation 8
          go_simp
          go_wp2_with (
              first
                | (go_at_call 28; refine (key_any 110 (by decide) (by decide) _ [i] _ (U1.out _) (by simp)).mono ?_; rintro e w4 ⟨v4, rfl, ho, hb⟩
                   have HB4 := Lib.hid (show Below W.heap.size W w4 from ((Below.refl W.heap.size W).drew).trans (below_and ((Below.refl _ _).alloc (Nat.le_refl _) _) hb))
                   have HO4 := Lib.hid (show BS w4 v4 (nk i) from ho.bs)
                   have HM4 := Lib.hid (HM.out.below (w' := w4) (below_and ((Below.refl _ _).alloc (Nat.le_refl _) _) hb))
                   clear ho hb)
                | (go_at_call 103; refine (HG.out w4 v4 HM4.out HO4.out).mono ?_; rintro e w5 ⟨v5, rfl, hm, hb⟩
                   have hbs := hm.1
                   have HV5 := Lib.hid hm.1
                   have HB5 := Lib.hid (HB4.out.trans (hb.mono HB4.out.size))
                   obtain ⟨a5, c5, rfl, _⟩ := hbs
                   clear hm hb))
          refine hK.out _ _ ?_ (fun hHeld4 => ?_)
          · dsimp only
          clear hK K hHeld3
          try simp only [Act.put, List.setIfInBounds_toArray, List.set_cons_zero, List.set_cons_succ]
          refine takeN (v := ?_) 9 rfl (by kernel_rfl) (by kernel_rfl) (by kernel_rfl) (fun _ _ _ h => h) (by rfl) ?_ hHeld4 ?_
          rotate_left
          · intro w hSw; (try dsimp only at hSw); go_simp; with_reducible rfl
          try simp only [Act.put, List.setIfInBounds_toArray, List.set_cons_zero, List.set_cons_succ]
          refine takeN (v := ?_) 10 rfl (by kernel_rfl) (by kernel_rfl) (by kernel_rfl) (fun _ _ _ h => h) (by rfl) ?_ hHeld4 ?_
          rotate_left
          · intro w hSw; (try dsimp only at hSw); go_simp; with_reducible rfl
          try simp only [Act.put, List.setIfInBounds_toArray, List.set_cons_zero, List.set_cons_succ]
          refine takeN (v := ?_) 11 rfl (by kernel_rfl) (by kernel_rfl) (by kernel_rfl) (fun _ _ _ h => h) (by rfl) ?_ hHeld4 ?_
          rotate_left
          · intro w hSw; (try dsimp only at hSw); go_simp; with_reducible rfl
          try simp only [Act.put, List.setIfInBounds_toArray, List.set_cons_zero, List.set_cons_succ]
          refine takeN (v := ?_) 12 rfl (by kernel_rfl) (by kernel_rfl) (by kernel_rfl) (fun _ _ _ h => h) (by rfl) ?_ hHeld4 ?_
          rotate_left
          · intro w hSw; (try dsimp only at hSw); go_simp; with_reducible rfl
          try simp only [Act.put, List.setIfInBounds_toArray, List.set_cons_zero, List.set_cons_succ]
          refine takeN (v := ?_) 13 rfl (by kernel_rfl) (by kernel_rfl) (by kernel_rfl) (fun _ _ _ h => h) (by rfl) ?_ hHeld4 ?_
          rotate_left
          · intro w hSw; (try dsimp only at hSw); go_simp; with_reducible rfl
          try simp only [Act.put, List.setIfInBounds_toArray, List.set_cons_zero, List.set_cons_succ]
          refine takeN (v := ?_) 14 rfl (by kernel_rfl) (by kernel_rfl) (by kernel_rfl) (fun _ _ _ h => h) (by rfl) ?_ hHeld4 ?_
          rotate_left
          · intro w hSw; (try dsimp only at hSw); go_simp; with_reducible rfl
          try simp only [Act.put, List.setIfInBounds_toArray, List.set_cons_zero, List.set_cons_succ]
          refine takeN (v := ?_) 15 rfl (by kernel_rfl) (by kernel_rfl) (by kernel_rfl) (fun _ _ _ h => h) (by rfl) ?_ hHeld4 ?_
          rotate_left
          · intro w hSw; (try dsimp only at hSw); go_simp; with_reducible rfl
          try simp only [Act.put, List.setIfInBounds_toArray, List.set_cons_zero, List.set_cons_succ]
          refine wpAnyH_done (by kernel_rfl) ?_ _
          have z5 := (Keep.ofBelow HB5.out (fun _ => False)).blk HZ.out (fun h => h)
          have k0 := blk_cell z5 0
          have k1 := blk_cell z5 1
          have k2 := blk_cell z5 2
          have k3 := blk_cell z5 3
          have k4 := blk_cell z5 4
          have k5 := blk_cell z5 5
          have k6 := blk_cell z5 6
          have f0 := blk_frozen z5 0
          have f1 := blk_frozen z5 1
          have f2 := blk_frozen z5 2
          have f3 := blk_frozen z5 3
          have f4 := blk_frozen z5 4
          have f5 := blk_frozen z5 5
          have f6 := blk_frozen z5 6
          have HZ5 := Lib.hid z5
          clear z5
          go_wp2
          obtain ⟨h9, hk9⟩ := set7 (x0 := .int .u32 0) (x1 := .int .i64 0) (x2 := .int .i64 0) (x3 := .int .i64 0) (x4 := .int .i64 0) (x5 := .int .i64 0) (x6 := .slice none 0 0) HZ5.out
          generalize (((((((w5.setCell ⟨w.heap.size, 0, none⟩ (.int .u32 0)).setCell ⟨w.heap.size, 1, none⟩ (.int .i64 0)).setCell ⟨w.heap.size, 2, none⟩ (.int .i64 0)).setCell ⟨w.heap.size, 3, none⟩ (.int .i64 0)).setCell ⟨w.heap.size, 4, none⟩ (.int .i64 0)).setCell ⟨w.heap.size, 5, none⟩ (.int .i64 0)).setCell ⟨w.heap.size, 6, none⟩ (.slice none 0 0)) = W9 at h9 hk9 ⊢
          have x0 : W9.cell? ⟨w.heap.size, 0, none⟩ = some (.int .u32 0) := blk_cell h9 0
          have x1 : W9.cell? ⟨w.heap.size, 1, none⟩ = some (.int .i64 0) := blk_cell h9 1
          have x2 : W9.cell? ⟨w.heap.size, 2, none⟩ = some (.int .i64 0) := blk_cell h9 2
          have x3 : W9.cell? ⟨w.heap.size, 3, none⟩ = some (.int .i64 0) := blk_cell h9 3
          have x4 : W9.cell? ⟨w.heap.size, 4, none⟩ = some (.int .i64 0) := blk_cell h9 4
          have x5 : W9.cell? ⟨w.heap.size, 5, none⟩ = some (.int .i64 0) := blk_cell h9 5
          have x6 : W9.cell? ⟨w.heap.size, 6, none⟩ = some (.slice none 0 0) := blk_cell h9 6
          refine bodyPost_ret (by simp [results, Tryz.results21, go_sem, x0, x1, x2, x3, x4, x5, x6]; try rfl) rfl ?_
          have hB5 := HB.out.trans (HB5.out.mono (by have := HWS.out; omega))
          exact ⟨rfl, hB5.trans (hk9.below (B := w.heap.size) hB5.size (fun i hi => by omega))⟩
        exact AllReadyH.nil
      exact AllReadyH.nil
    refine readyN rfl (fun K hK => ?_) ?_
    · -- operation 5
      go_simp
      refine hK.out _ _ ?_ (fun hHeld2 => ?_)
      · dsimp only
      clear hK K hHeld1
      try simp only [Act.put, List.setIfInBounds_toArray, List.set_cons_zero, List.set_cons_succ]
      refine takeN (v := ?_) 6 rfl (by kernel_rfl) (by kernel_rfl) (by kernel_rfl) (fun _ _ _ h => h) (by rfl) ?_ hHeld2 ?_
      rotate_left
      · intro w hSw; (try dsimp only at hSw); go_simp; with_reducible rfl
      try simp only [Act.put, List.setIfInBounds_toArray, List.set_cons_zero, List.set_cons_succ]
      refine takeN (v := ?_) 7 rfl (by kernel_rfl) (by kernel_rfl) (by kernel_rfl) (fun _ _ _ h => h) (by rfl) ?_ hHeld2 ?_
      rotate_left
      · intro w hSw; (try dsimp only at hSw); go_simp; with_reducible rfl
      try simp only [Act.put, List.setIfInBounds_toArray, List.set_cons_zero, List.set_cons_succ]
      refine wpAnyH_ready (rs := [4]) (by kernel_rfl) (by simp) ?_
      refine readyN rfl (fun K hK => ?_) ?_
      · -- operation 4
        go_simp
        first
          | (go_at_call 28; refine (key_any 110 (by decide) (by decide) _ [i] _ (U1.out _) (by simp)).mono ?_; rintro e w4 ⟨v4, rfl, ho, hb⟩
             have HB4 := Lib.hid (show Below W.heap.size W w4 from ((Below.refl W.heap.size W).drew).trans (below_and ((Below.refl _ _).alloc (Nat.le_refl _) _) hb))
             have HO4 := Lib.hid (show BS w4 v4 (nk i) from ho.bs)
             have HM4 := Lib.hid (HM.out.below (w' := w4) (below_and ((Below.refl _ _).alloc (Nat.le_refl _) _) hb))
             clear ho hb)
          | (go_at_call 103; refine (HG.out w4 v4 HM4.out HO4.out).mono ?_; rintro e w5 ⟨v5, rfl, hm, hb⟩
             have hbs := hm.1
             have HV5 := Lib.hid hm.1
             have HB5 := Lib.hid (HB4.out.trans (hb.mono HB4.out.size))
             obtain ⟨a5, c5, rfl, _⟩ := hbs
             clear hm hb)
        go_wp2_with fail
        refine hK.out _ _ ?_ (fun hHeld3 => ?_)
        · dsimp only
        clear hK K hHeld2
        try simp only [Act.put, List.setIfInBounds_toArray, List.set_cons_zero, List.set_cons_succ]
        refine wpAnyH_ready (rs := [8]) (by kernel_rfl) (by simp) ?_
        refine readyN rfl (fun K hK => ?_) ?_
        · -- operation 8
          go_simp
          go_wp2_with (
              first
                | (go_at_call 28; refine (key_any 110 (by decide) (by decide) _ [i] _ (U1.out _) (by simp)).mono ?_; rintro e w4 ⟨v4, rfl, ho, hb⟩
                   have HB4 := Lib.hid (show Below W.heap.size W w4 from ((Below.refl W.heap.size W).drew).trans (below_and ((Below.refl _ _).alloc (Nat.le_refl _) _) hb))
                   have HO4 := Lib.hid (show BS w4 v4 (nk i) from ho.bs)
                   have HM4 := Lib.hid (HM.out.below (w' := w4) (below_and ((Below.refl _ _).alloc (Nat.le_refl _) _) hb))
                   clear ho hb)
                | (go_at_call 103; refine (HG.out w4 v4 HM4.out HO4.out).mono ?_; rintro e w5 ⟨v5, rfl, hm, hb⟩
                   have hbs := hm.1
                   have HV5 := Lib.hid hm.1
                   have HB5 := Lib.hid (HB4.out.trans (hb.mono HB4.out.size))
                   obtain ⟨a5, c5, rfl, _⟩ := hbs
                   clear hm hb))
          refine hK.out _ _ ?_ (fun hHeld4 => ?_)
          · dsimp only
          clear hK K hHeld3
          try simp only [Act.put, List.setIfInBounds_toArray, List.set_cons_zero, List.set_cons_succ]
          refine takeN (v := ?_) 9 rfl (by kernel_rfl) (by kernel_rfl) (by kernel_rfl) (fun _ _ _ h => h) (by rfl) ?_ hHeld4 ?_
          rotate_left
          · intro w hSw; (try dsimp only at hSw); go_simp; with_reducible rfl
          try simp only [Act.put, List.setIfInBounds_toArray, List.set_cons_zero, List.set_cons_succ]
          refine takeN (v := ?_) 10 rfl (by kernel_rfl) (by kernel_rfl) (by kernel_rfl) (fun _ _ _ h => h) (by rfl) ?_ hHeld4 ?_
          rotate_left
          · intro w hSw; (try dsimp only at hSw); go_simp; with_reducible rfl
          try simp only [Act.put, List.setIfInBounds_toArray, List.set_cons_zero, List.set_cons_succ]
          refine takeN (v := ?_) 11 rfl (by kernel_rfl) (by kernel_rfl) (by kernel_rfl) (fun _ _ _ h => h) (by rfl) ?_ hHeld4 ?_
          rotate_left
          · intro w hSw; (try dsimp only at hSw); go_simp; with_reducible rfl
          try simp only [Act.put, List.setIfInBounds_toArray, List.set_cons_zero, List.set_cons_succ]
          refine takeN (v := ?_) 12 rfl (by kernel_rfl) (by kernel_rfl) (by kernel_rfl) (fun _ _ _ h => h) (by rfl) ?_ hHeld4 ?_
          rotate_left
          · intro w hSw; (try dsimp only at hSw); go_simp; with_reducible rfl
          try simp only [Act.put, List.setIfInBounds_toArray, List.set_cons_zero, List.set_cons_succ]
          refine takeN (v := ?_) 13 rfl (by kernel_rfl) (by kernel_rfl) (by kernel_rfl) (fun _ _ _ h => h) (by rfl) ?_ hHeld4 ?_
          rotate_left
          · intro w hSw; (try dsimp only at hSw); go_simp; with_reducible rfl
          try simp only [Act.put, List.setIfInBounds_toArray, List.set_cons_zero, List.set_cons_succ]
          refine takeN (v := ?_) 14 rfl (by kernel_rfl) (by kernel_rfl) (by kernel_rfl) (fun _ _ _ h => h) (by rfl) ?_ hHeld4 ?_
          rotate_left
          · intro w hSw; (try dsimp only at hSw); go_simp; with_reducible rfl
          try simp only [Act.put, List.setIfInBounds_toArray, List.set_cons_zero, List.set_cons_succ]
          refine takeN (v := ?_) 15 rfl (by kernel_rfl) (by kernel_rfl) (by kernel_rfl) (fun _ _ _ h => h) (by rfl) ?_ hHeld4 ?_
          rotate_left
          · intro w hSw; (try dsimp only at hSw); go_simp; with_reducible rfl
          try simp only [Act.put, List.setIfInBounds_toArray, List.set_cons_zero, List.set_cons_succ]
          refine wpAnyH_done (by kernel_rfl) ?_ _
          have z5 := (Keep.ofBelow HB5.out (fun _ => False)).blk HZ.out (fun h => h)
          have k0 := blk_cell z5 0
          have k1 := blk_cell z5 1
          have k2 := blk_cell z5 2
          have k3 := blk_cell z5 3
          have k4 := blk_cell z5 4
          have k5 := blk_cell z5 5
          have k6 := blk_cell z5 6
          have f0 := blk_frozen z5 0
          have f1 := blk_frozen z5 1
          have f2 := blk_frozen z5 2
          have f3 := blk_frozen z5 3
          have f4 := blk_frozen z5 4
          have f5 := blk_frozen z5 5
          have f6 := blk_frozen z5 6
          have HZ5 := Lib.hid z5
          clear z5
          go_wp2
          obtain ⟨h9, hk9⟩ := set7 (x0 := .int .u32 0) (x1 := .int .i64 0) (x2 := .int .i64 0) (x3 := .int .i64 0) (x4 := .int .i64 0) (x5 := .int .i64 0) (x6 := .slice none 0 0) HZ5.out
          generalize (((((((w5.setCell ⟨w.heap.size, 0, none⟩ (.int .u32 0)).setCell ⟨w.heap.size, 1, none⟩ (.int .i64 0)).setCell ⟨w.heap.size, 2, none⟩ (.int .i64 0)).setCell ⟨w.heap.size, 3, none⟩ (.int .i64 0)).setCell ⟨w.heap.size, 4, none⟩ (.int .i64 0)).setCell ⟨w.heap.size, 5, none⟩ (.int .i64 0)).setCell ⟨w.heap.size, 6, none⟩ (.slice none 0 0)) = W9 at h9 hk9 ⊢
          have x0 : W9.cell? ⟨w.heap.size, 0, none⟩ = some (.int .u32 0) := blk_cell h9 0
          have x1 : W9.cell? ⟨w.heap.size, 1, none⟩ = some (.int .i64 0) := blk_cell h9 1
          have x2 : W9.cell? ⟨w.heap.size, 2, none⟩ = some (.int .i64 0) := blk_cell h9 2
          have x3 : W9.cell? ⟨w.heap.size, 3, none⟩ = some (.int .i64 0) := blk_cell h9 3
          have x4 : W9.cell? ⟨w.heap.size, 4, none⟩ = some (.int .i64 0) := blk_cell h9 4
          have x5 : W9.cell? ⟨w.heap.size, 5, none⟩ = some (.int .i64 0) := blk_cell h9 5
          have x6 : W9.cell? ⟨w.heap.size, 6, none⟩ = some (.slice none 0 0) := blk_cell h9 6
          refine bodyPost_ret (by simp [results, Tryz.results21, go_sem, x0, x1, x2, x3, x4, x5, x6]; try rfl) rfl ?_
          have hB5 := HB.out.trans (HB5.out.mono (by have := HWS.out; omega))
          exact ⟨rfl, hB5.trans (hk9.below (B := w.heap.size) hB5.size (fun i hi => by omega))⟩
        exact AllReadyH.nil
      exact AllReadyH.nil
    exact AllReadyH.nil
  refine readyN rfl (fun K hK => ?_) ?_
  · -- operation 5
    go_simp
    refine hK.out _ _ ?_ (fun hHeld1 => ?_)
    · dsimp only
    clear hK K hHeld0
    try simp only [Act.put, List.setIfInBounds_toArray, List.set_cons_zero, List.set_cons_succ]
    refine takeN (v := ?_) 6 rfl (by kernel_rfl) (by kernel_rfl) (by kernel_rfl) (fun _ _ _ h => h) (by rfl) ?_ hHeld1 ?_
    rotate_left
    · intro w hSw; (try dsimp only at hSw); go_simp; with_reducible rfl
    try simp only [Act.put, List.setIfInBounds_toArray, List.set_cons_zero, List.set_cons_succ]
    refine takeN (v := ?_) 7 rfl (by kernel_rfl) (by kernel_rfl) (by kernel_rfl) (fun _ _ _ h => h) (by rfl) ?_ hHeld1 ?_
    rotate_left
    · intro w hSw; (try dsimp only at hSw); go_simp; with_reducible rfl
    try simp only [Act.put, List.setIfInBounds_toArray, List.set_cons_zero, List.set_cons_succ]
    refine wpAnyH_ready (rs := [3]) (by kernel_rfl) (by simp) ?_
    refine readyN rfl (fun K hK => ?_) ?_
    · -- operation 3
      go_simp
      refine hK.out _ _ ?_ (fun hHeld2 => ?_)
      · dsimp only
      clear hK K hHeld1
      try simp only [Act.put, List.setIfInBounds_toArray, List.set_cons_zero, List.set_cons_succ]
      refine wpAnyH_ready (rs := [4]) (by kernel_rfl) (by simp) ?_
      refine readyN rfl (fun K hK => ?_) ?_
      · -- operation 4
        go_simp
        first
          | (go_at_call 28; refine (key_any 110 (by decide) (by decide) _ [i] _ (U1.out _) (by simp)).mono ?_; rintro e w4 ⟨v4, rfl, ho, hb⟩
             have HB4 := Lib.hid (show Below W.heap.size W w4 from ((Below.refl W.heap.size W).drew).trans (below_and ((Below.refl _ _).alloc (Nat.le_refl _) _) hb))
             have HO4 := Lib.hid (show BS w4 v4 (nk i) from ho.bs)
             have HM4 := Lib.hid (HM.out.below (w' := w4) (below_and ((Below.refl _ _).alloc (Nat.le_refl _) _) hb))
             clear ho hb)
          | (go_at_call 103; refine (HG.out w4 v4 HM4.out HO4.out).mono ?_; rintro e w5 ⟨v5, rfl, hm, hb⟩
             have hbs := hm.1
             have HV5 := Lib.hid hm.1
             have HB5 := Lib.hid (HB4.out.trans (hb.mono HB4.out.size))
             obtain ⟨a5, c5, rfl, _⟩ := hbs
             clear hm hb)
        go_wp2_with fail
        refine hK.out _ _ ?_ (fun hHeld3 => ?_)
        · dsimp only
        clear hK K hHeld2
        try simp only [Act.put, List.setIfInBounds_toArray, List.set_cons_zero, List.set_cons_succ]
        refine wpAnyH_ready (rs := [8]) (by kernel_rfl) (by simp) ?_
        refine readyN rfl (fun K hK => ?_) ?_
        · -- operation 8
          go_simp
          go_wp2_with (
              first
                | (go_at_call 28; refine (key_any 110 (by decide) (by decide) _ [i] _ (U1.out _) (by simp)).mono ?_; rintro e w4 ⟨v4, rfl, ho, hb⟩
                   have HB4 := Lib.hid (show Below W.heap.size W w4 from ((Below.refl W.heap.size W).drew).trans (below_and ((Below.refl _ _).alloc (Nat.le_refl _) _) hb))
                   have HO4 := Lib.hid (show BS w4 v4 (nk i) from ho.bs)
                   have HM4 := Lib.hid (HM.out.below (w' := w4) (below_and ((Below.refl _ _).alloc (Nat.le_refl _) _) hb))
                   clear ho hb)
                | (go_at_call 103; refine (HG.out w4 v4 HM4.out HO4.out).mono ?_; rintro e w5 ⟨v5, rfl, hm, hb⟩
                   have hbs := hm.1
                   have HV5 := Lib.hid hm.1
                   have HB5 := Lib.hid (HB4.out.trans (hb.mono HB4.out.size))
                   obtain ⟨a5, c5, rfl, _⟩ := hbs
                   clear hm hb))
          refine hK.out _ _ ?_ (fun hHeld4 => ?_)
          · dsimp only
          clear hK K hHeld3
          try simp only [Act.put, List.setIfInBounds_toArray, List.set_cons_zero, List.set_cons_succ]
          refine takeN (v := ?_) 9 rfl (by kernel_rfl) (by kernel_rfl) (by kernel_rfl) (fun _ _ _ h => h) (by rfl) ?_ hHeld4 ?_
          rotate_left
          · intro w hSw; (try dsimp only at hSw); go_simp; with_reducible rfl
          try simp only [Act.put, List.setIfInBounds_toArray, List.set_cons_zero, List.set_cons_succ]
          refine takeN (v := ?_) 10 rfl (by kernel_rfl) (by kernel_rfl) (by kernel_rfl) (fun _ _ _ h => h) (by rfl) ?_ hHeld4 ?_
          rotate_left
          · intro w hSw; (try dsimp only at hSw); go_simp; with_reducible rfl
          try simp only [Act.put, List.setIfInBounds_toArray, List.set_cons_zero, List.set_cons_succ]
          refine takeN (v := ?_) 11 rfl (by kernel_rfl) (by kernel_rfl) (by kernel_rfl) (fun _ _ _ h => h) (by rfl) ?_ hHeld4 ?_
          rotate_left
          · intro w hSw; (try dsimp only at hSw); go_simp; with_reducible rfl
          try simp only [Act.put, List.setIfInBounds_toArray, List.set_cons_zero, List.set_cons_succ]
          refine takeN (v := ?_) 12 rfl (by kernel_rfl) (by kernel_rfl) (by kernel_rfl) (fun _ _ _ h => h) (by rfl) ?_ hHeld4 ?_
          rotate_left
          · intro w hSw; (try dsimp only at hSw); go_simp; with_reducible rfl
          try simp only [Act.put, List.setIfInBounds_toArray, List.set_cons_zero, List.set_cons_succ]
          refine takeN (v := ?_) 13 rfl (by kernel_rfl) (by kernel_rfl) (by kernel_rfl) (fun _ _ _ h => h) (by rfl) ?_ hHeld4 ?_
          rotate_left
          · intro w hSw; (try dsimp only at hSw); go_simp; with_reducible rfl
          try simp only [Act.put, List.setIfInBounds_toArray, List.set_cons_zero, List.set_cons_succ]
          refine takeN (v := ?_) 14 rfl (by kernel_rfl) (by kernel_rfl) (by kernel_rfl) (fun _ _ _ h => h) (by rfl) ?_ hHeld4 ?_
          rotate_left
          · intro w hSw; (try dsimp only at hSw); go_simp; with_reducible rfl
          try simp only [Act.put, List.setIfInBounds_toArray, List.set_cons_zero, List.set_cons_succ]
          refine takeN (v := ?_) 15 rfl (by kernel_rfl) (by kernel_rfl) (by kernel_rfl) (fun _ _ _ h => h) (by rfl) ?_ hHeld4 ?_
          rotate_left
          · intro w hSw; (try dsimp only at hSw); go_simp; with_reducible rfl
          try simp only [Act.put, List.setIfInBounds_toArray, List.set_cons_zero, List.set_cons_succ]
          refine wpAnyH_done (by kernel_rfl) ?_ _
          have z5 := (Keep.ofBelow HB5.out (fun _ => False)).blk HZ.out (fun h => h)
          have k0 := blk_cell z5 0
          have k1 := blk_cell z5 1
          have k2 := blk_cell z5 2
          have k3 := blk_cell z5 3
          have k4 := blk_cell z5 4
          have k5 := blk_cell z5 5
          have k6 := blk_cell z5 6
          have f0 := blk_frozen z5 0
          have f1 := blk_frozen z5 1
          have f2 := blk_frozen z5 2
          have f3 := blk_frozen z5 3
          have f4 := blk_frozen z5 4
          have f5 := blk_frozen z5 5
          have f6 := blk_frozen z5 6
          have HZ5 := Lib.hid z5
          clear z5
          go_wp2
          obtain ⟨h9, hk9⟩ := set7 (x0 := .int .u32 0) (x1 := .int .i64 0) (x2 := .int .i64 0) (x3 := .int .i64 0) (x4 := .int .i64 0) (x5 := .int .i64 0) (x6 := .slice none 0 0) HZ5.out
          generalize (((((((w5.setCell ⟨w.heap.size, 0, none⟩ (.int .u32 0)).setCell ⟨w.heap.size, 1, none⟩ (.int .i64 0)).setCell ⟨w.heap.size, 2, none⟩ (.int .i64 0)).setCell ⟨w.heap.size, 3, none⟩ (.int .i64 0)).setCell ⟨w.heap.size, 4, none⟩ (.int .i64 0)).setCell ⟨w.heap.size, 5, none⟩ (.int .i64 0)).setCell ⟨w.heap.size, 6, none⟩ (.slice none 0 0)) = W9 at h9 hk9 ⊢
          have x0 : W9.cell? ⟨w.heap.size, 0, none⟩ = some (.int .u32 0) := blk_cell h9 0
          have x1 : W9.cell? ⟨w.heap.size, 1, none⟩ = some (.int .i64 0) := blk_cell h9 1
          have x2 : W9.cell? ⟨w.heap.size, 2, none⟩ = some (.int .i64 0) := blk_cell h9 2
          have x3 : W9.cell? ⟨w.heap.size, 3, none⟩ = some (.int .i64 0) := blk_cell h9 3
          have x4 : W9.cell? ⟨w.heap.size, 4, none⟩ = some (.int .i64 0) := blk_cell h9 4
          have x5 : W9.cell? ⟨w.heap.size, 5, none⟩ = some (.int .i64 0) := blk_cell h9 5
          have x6 : W9.cell? ⟨w.heap.size, 6, none⟩ = some (.slice none 0 0) := blk_cell h9 6
          refine bodyPost_ret (by simp [results, Tryz.results21, go_sem, x0, x1, x2, x3, x4, x5, x6]; try rfl) rfl ?_
          have hB5 := HB.out.trans (HB5.out.mono (by have := HWS.out; omega))
          exact ⟨rfl, hB5.trans (hk9.below (B := w.heap.size) hB5.size (fun i hi => by omega))⟩
        exact AllReadyH.nil
      exact AllReadyH.nil
    exact AllReadyH.nil
  exact AllReadyH.nil
end Go.Proofs.YtidppalhjknlfaaGreatDoor
