/- The walk of the law's one (chapter 16). -/
import Derived.Test.YtiadoimdohnebaaMap16p
namespace Go.Proofs.Ytiadoimdohnebaa
open Go.RowKit
set_option maxRecDepth 100000
set_option maxHeartbeats 8000000
set_option linter.unusedVariables false
set_option linter.unusedSimpArgs false
theorem num_list (n : Int) : (keyS 0 [n]).extract 1 9 = be8 n := by
  refine ba_ext ?_
  rw [extract_list]
  have e : keyS 0 [n] = bOne 0 ++ be8 n := rfl
  rw [e, append_list]
  have h1 : (bOne 0).data.toList.length = 1 := rfl
  rw [List.drop_append, h1]
  have h2 := be8_len n
  simp [bOne]
  rw [List.take_of_length_le (by rw [be8_len]; omega)]
theorem rnum_any (n : Int) (h0 : 0 ≤ n) (h1 : n ≤ 18446744073709551615) (w : World) : Calls Try.prog 68 #[.int .u64 n] w fun e w' => e = .returned (.string (be8 n)) ∧ Below w.heap.size w w' := by
  have hb : Below w.heap.size w (w.alloc (.cells #[.int .u64 n] 42)) := (Below.refl _ _).alloc (Nat.le_refl _) _
  have HB := Lib.hid hb
  have HK := Lib.hid (rkey_any 0 (by decide) (by decide) _ [n] _ (US.lit1 w n h0 h1 42) (by simp))
  have hsz : (keyS 0 [n]).size = 9 := by rw [keyS_size]; rfl
  have hsl : ∀ W, (Instr.slice 9 (.string (keyS 0 [n])) (some (.int .i64 1)) none none).run Try.prog W = .ok (.string (be8 n)) W := fun W => by
    rw [run_slice_string_l (P := Try.prog) W 9 (keyS 0 [n]) uStr .i64 1 (by omega) (by omega), hsz]
    rw [show (1 : Int).toNat = 1 from rfl, num_list]
  obtain ⟨K, hK⟩ : ∃ K, K = keyS 0 [n] := ⟨_, rfl⟩
  rw [← hK] at HK hsl
  obtain ⟨r, hr⟩ : ∃ r, r = be8 n := ⟨_, rfl⟩
  rw [← hr] at hsl ⊢
  clear hb hsz hK hr
  go_enter Try.func68, Try.ntmps68
  go_wp2_with fail
  refine HK.out.mono ?_
  rintro e w1 ⟨rfl, hb⟩
  have HB1 := Lib.hid (HB.out.trans (hb.mono HB.out.size))
  clear hb HK
  go_wp2_with fail
  go_ret
  exact ⟨rfl, HB1.out⟩
theorem M16Is.row_ne {w : World} {B q : Nat} {vL vZ : Value} {M : M16} (h : M16Is w B q vL vZ M) {i : Nat} (hi : i = q ∨ vL.ownBlock = some i ∨ vZ.ownBlock = some i) : ∃ c e, (e = 77 ∨ e = 117) ∧ w.heap[i]? = some (.cells c e (0, 0)) := by
  rcases hi with rfl | hi | hi
  · exact ⟨_, _, .inl rfl, h.blk⟩
  · obtain ⟨_, _, c, hc⟩ := rowk_blk h.rowL hi; exact ⟨c, _, .inr rfl, hc⟩
  · obtain ⟨_, _, c, hc⟩ := rowk_blk h.rowZ hi; exact ⟨c, _, .inr rfl, hc⟩
theorem M16Is.memk {w w' : World} {B q : Nat} {vL vZ : Value} {M : M16} {p b1 b2 : Nat} {room : Int} {now was : AL} (h : M16Is w B q vL vZ M) (hM : MemIs w p room b1 b2 now was) (hk : Keep (fun i => i = b1 ∨ i = p) w w') : M16Is w' B q vL vZ M := by
  have hne : ∀ i, (i = q ∨ vL.ownBlock = some i ∨ vZ.ownBlock = some i) → ¬ (i = b1 ∨ i = p) := fun i hi => by
    obtain ⟨c, e, he, hc⟩ := h.row_ne hi
    rintro (rfl | rfl)
    · obtain ⟨es, c', h1, _⟩ := hM.now; rw [h1] at hc; cases hc
    · rw [hM.blk] at hc; simp only [Option.some.injEq, Obj.cells.injEq] at hc; rw [← hc.2.1] at he; exact absurd he (by decide)
  exact h.keep hk (hne q (.inl rfl)) (fun i hi => hne i (.inr (.inl hi))) (fun i hi => hne i (.inr (.inr hi)))
theorem MemIs.mapk {w w' : World} {B q : Nat} {vL vZ : Value} {M : M16} {p b1 b2 : Nat} {room : Int} {now was : AL} (hM : MemIs w p room b1 b2 now was) (h : M16Is w B q vL vZ M) (hk : Keep (fun i => i = q) w w') : MemIs w' p room b1 b2 now was := by
  refine hM.keep hk (fun e => ?_) (fun e => ?_) (fun e => ?_)
  · have hc := h.blk; rw [← e, hM.blk] at hc; simp only [Option.some.injEq, Obj.cells.injEq] at hc; exact absurd hc.2.1 (by decide)
  · obtain ⟨es, c', h1, _⟩ := hM.now; have hc := h.blk; rw [← e, h1] at hc; cases hc
  · obtain ⟨es, c', h1, _⟩ := hM.was; have hc := h.blk; rw [← e, h1] at hc; cases hc
/-- the map in memory, and the document's -/
def KS (B : Nat) (w : World) (p q : Nat) (room : Int) (now was : AL) : Prop := ∃ b1 b2 vL vZ M, MemIs w p room b1 b2 now was ∧ B ≤ p ∧ B ≤ b1 ∧ M16Is w B q vL vZ M ∧ RelM room now was M
theorem KS.below {B : Nat} {w w' : World} {p q : Nat} {room : Int} {now was : AL} (h : KS B w p q room now was) (hb : Below w.heap.size w w') : KS B w' p q room now was := by
  obtain ⟨b1, b2, vL, vZ, M, h1, h2, h3, h4, h5⟩ := h
  exact ⟨b1, b2, vL, vZ, M, h1.below hb, h2, h3, h4.below hb, h5⟩
def Box4 (w : World) (n : Nat) (d : Int) (k v : ByteArray) (x : Int) : Prop := w.heap[n]? = some (.cells #[.int .u8 d, .string k, .string v, .int .u64 x] 80 (0, 0))
theorem Box4.keep {F : Nat → Prop} {w w' : World} {n : Nat} {d : Int} {k v : ByteArray} {x : Int} (h : Box4 w n d k v x) (hk : Keep F w w') (hF : ¬ F n) : Box4 w' n d k v x := hk.blk h hF
theorem Box4.below {w w' : World} {n : Nat} {d : Int} {k v : ByteArray} {x : Int} (h : Box4 w n d k v x) (hb : Below w.heap.size w w') : Box4 w' n d k v x := h.keep (Keep.ofBelow hb (fun _ => False)) (fun h => h)
theorem Box4.cells {w : World} {n : Nat} {d : Int} {k v : ByteArray} {x : Int} (h : Box4 w n d k v x) : w.cell? ⟨n, 0, none⟩ = some (.int .u8 d) ∧ w.cell? ⟨n, 1, none⟩ = some (.string k) ∧ w.cell? ⟨n, 2, none⟩ = some (.string v) ∧ w.cell? ⟨n, 3, none⟩ = some (.int .u64 x) := by
  refine ⟨?_, ?_, ?_, ?_⟩ <;> (rw [blk_cell h]; rfl)
theorem Box4.ne {w : World} {n : Nat} {d : Int} {k v : ByteArray} {x : Int} (h : Box4 w n d k v x) {p b1 b2 : Nat} {room : Int} {now was : AL} (hM : MemIs w p room b1 b2 now was) : ¬ (n = b1 ∨ n = p) := by
  unfold Box4 at h
  rintro (rfl | rfl)
  · obtain ⟨es, c', h1, _⟩ := hM.now; rw [h1] at h; cases h
  · rw [hM.blk] at h; simp only [Option.some.injEq, Obj.cells.injEq] at h; exact absurd h.2.1 (by decide)
theorem Box4.neq {w : World} {n : Nat} {d : Int} {k v : ByteArray} {x : Int} (h : Box4 w n d k v x) {B q : Nat} {vL vZ : Value} {M : M16} (hx : M16Is w B q vL vZ M) : ¬ n = q := by
  unfold Box4 at h
  rintro rfl
  rw [hx.blk] at h; simp only [Option.some.injEq, Obj.cells.injEq] at h; exact absurd h.2.1 (by decide)
theorem conv_ex16 (s : ByteArray) (hs : s.size ≤ 9223372036854775807) : ∃ (f : World → Value) (g : World → World),
    (∀ W, (convert 9 23 (.string s)).run Try.prog W = .ok (f W) (g W)) ∧ (∀ W, BS (g W) (f W) s) ∧ ∀ W, Below W.heap.size W (g W) :=
  ⟨_, _, fun W => Lib.run_convert_string_bytes (P := Try.prog) W 9 23 5 s uStr uBytes uByte, fun W => BS.bytes W 5 s hs, fun W => bytes_below W 5 s⟩
theorem one_any (B p q : Nat) (room : Int) (now was : AL) (m : Nat) (a : A16) (w : World) (hK : KS B w p q room now was) (hA : a.Ok) (hN : St m now) (hW : St m was) (hm : m ≤ 1000) (hk : a.key.size ≤ 400) (hv : a.val.size ≤ 1200) :
    Calls Try.prog 40 #[pV p, mV q, a16 a] w fun e w' => e = .returned (.bool true) ∧ ∃ now' was', KS B w' p q room now' was' ∧ St (m + 1) now' ∧ St (m + 1) was' ∧ Below B w w' := by
  obtain ⟨d, k, v, x⟩ := a
  have hd := hA.d
  have hx := hA.n
  have hkM := hA.k
  have hvM := hA.v
  simp only at hd hk hv hx hkM hvM
  obtain ⟨b1, b2, vL, vZ, M, hMem, hp, hb1, hMap, hRel⟩ := hK
  have hq : B ≤ q := hMap.low
  have hBw : B ≤ w.heap.size := Nat.le_trans hp (Nat.le_of_lt (blk_lt hMem.blk))
  obtain ⟨fb, gb, eb, sb, lb⟩ := conv_ex16 k (by omega)
  have hbx0 : Box4 (w.alloc (.cells #[.int .u8 d, .string k, .string v, .int .u64 x] 80)) w.heap.size d k v x := blk_new w _
  have hal : Below w.heap.size w (w.alloc (.cells #[.int .u8 d, .string k, .string v, .int .u64 x] 80)) := (Below.refl _ _).alloc (Nat.le_refl _) _
  have kc := eb (w.alloc (.cells #[.int .u8 d, .string k, .string v, .int .u64 x] 80))
  have hks := sb (w.alloc (.cells #[.int .u8 d, .string k, .string v, .int .u64 x] 80))
  have hbk := lb (w.alloc (.cells #[.int .u8 d, .string k, .string v, .int .u64 x] 80))
  obtain ⟨kv, hkv⟩ : ∃ kv, kv = fb (w.alloc (.cells #[.int .u8 d, .string k, .string v, .int .u64 x] 80)) := ⟨_, rfl⟩
  obtain ⟨wk, hwk⟩ : ∃ wk, wk = gb (w.alloc (.cells #[.int .u8 d, .string k, .string v, .int .u64 x] 80)) := ⟨_, rfl⟩
  rw [← hkv, ← hwk] at kc
  rw [← hkv, ← hwk] at hks
  rw [← hwk] at hbk
  obtain ⟨ka, kcap, rfl⟩ := hks.len
  have hb : Below w.heap.size w wk := below_and hal hbk
  have hbx := hbx0.below hbk
  obtain ⟨c0, c1, c2, c3⟩ := hbx.cells
  have HBX := Lib.hid hbx
  have HKS := Lib.hid hks
  have HM := Lib.hid (hMem.below hb)
  have HX := Lib.hid (hMap.below hb)
  have HR := Lib.hid hRel
  have HN := Lib.hid hN
  have HW := Lib.hid hW
  have HB := Lib.hid (hb.mono hBw)
  have HML := Lib.hid (show M.L.length ≤ 1000 by rw [hRel.L, srt_len]; have := hN.len; omega)
  have HGV := Lib.hid (show ∀ u, AL.get k now = some u → u.size ≤ 9223372036854775807 from fun u hu => by have := hN.get hu; omega)
  have hl : now.length ≤ 9223372036854775807 := by have := hN.len; omega
  have HG := Lib.hid (srt_at hN.nd k)
  clear hal hbx0 hkv hwk hb hbk hks hbx hMem hMap hRel hN hW eb sb lb hA
  unfold a16 pV mV
  obtain ⟨r, hrr⟩ : ∃ r, d % 9 = r := ⟨_, rfl⟩
  have hr9 : r = 0 ∨ r = 1 ∨ r = 2 ∨ r = 3 ∨ r = 4 ∨ r = 5 ∨ r = 6 ∨ r = 7 ∨ r = 8 := by omega
  rcases hr9 with rfl | rfl | rfl | rfl | rfl | rfl | rfl | rfl | rfl
  · obtain ⟨fv, gv, ev, sv, lv⟩ := conv_ex16 v (by omega)
    have SV := Lib.hid sv
    have LV := Lib.hid lv
    have hMd : MemIs wk.drew p room b1 b2 now was := HM.out.below ((Below.refl _ _).drew)
    have hXd : M16Is wk.drew B q vL vZ M := HX.out.below ((Below.refl _ _).drew)
    have hBd : Box4 wk.drew w.heap.size d k v x := HBX.out.below ((Below.refl _ _).drew)
    have hKd : BS wk.drew (.slice ka k.size kcap) k := HKS.out
    have hrp := HR.out.putE HN.out.nd k v
    obtain ⟨E, hE⟩ : ∃ E, E = putE room now k v := ⟨_, rfl⟩
    have pa := put_any p room b1 b2 now was (.slice ka k.size kcap) (fv wk.drew) k v (gv wk.drew) (hMd.below (lv _)) (hKd.below (lv _)) (sv _) hl
    have pb := fun (W : World) (hx : M16Is W B q vL vZ M) => rput_any k v hx (by have := HML.out; omega) hkM hvM
    rw [← hE] at pa hrp
    simp only [hrp.1] at pb
    simp only [pV] at pa
    simp only [mV] at pb
    have PA := Lib.hid pa
    have PB := Lib.hid pb
    have HREL := Lib.hid hrp.2
    have HSN := Lib.hid (HN.out.putA room k v)
    have HFB := Lib.hid (show Below wk.drew.heap.size wk.drew (gv wk.drew) from lv _)
    have S0 := Lib.hid hBd.cells
    have BXD := Lib.hid hBd
    have HMD := Lib.hid hMd
    have HXD := Lib.hid hXd
    have HBD := Lib.hid (show Below B w wk.drew from HB.out.drew)
    clear pa pb hrp hE hMd hXd hBd hKd sv lv
    go_enter Try.func40, Try.ntmps40
    go_wp2_with fail
    refine wp_region_held_drew (S := (fun w' => w'.cell? ⟨w.heap.size, 0, none⟩ = some (.int .u8 d) ∧ w'.cell? ⟨w.heap.size, 1, none⟩ = some (.string k) ∧ w'.cell? ⟨w.heap.size, 2, none⟩ = some (.string v) ∧ w'.cell? ⟨w.heap.size, 3, none⟩ = some (.int .u64 x))) (by kernel_rfl) ?_ (fun hHeld0 => ?_)
    · (try dsimp only)
      first | exact S0.out | exact (BXD.out.below HFB.out).cells | exact SZ2 | exact SZ
    refine takeN (v := ?_) 0 rfl (by kernel_rfl) (by kernel_rfl) (by kernel_rfl) (fun _ _ _ h => h) (by rfl) ?_ hHeld0 ?_
    rotate_left
    · intro w hSw; (try dsimp only at hSw); go_simp; with_reducible rfl
    try simp only [Act.put, List.setIfInBounds_toArray, List.set_cons_zero, List.set_cons_succ]
    refine takeN (v := ?_) 1 rfl (by kernel_rfl) (by kernel_rfl) (by kernel_rfl) (fun _ _ _ h => h) (by rfl) ?_ hHeld0 ?_
    rotate_left
    · intro w hSw; (try dsimp only at hSw); go_simp; with_reducible rfl
    try simp only [Act.put, List.setIfInBounds_toArray, List.set_cons_zero, List.set_cons_succ]
    refine takeN (v := ?_) 2 rfl (by kernel_rfl) (by kernel_rfl) (by kernel_rfl) (fun _ _ _ h => h) (by rfl) ?_ hHeld0 ?_
    rotate_left
    · intro w hSw; (try dsimp only at hSw); go_simp; with_reducible rfl
    try simp only [Act.put, List.setIfInBounds_toArray, List.set_cons_zero, List.set_cons_succ]
    refine takeN (v := ?_) 3 rfl (by kernel_rfl) (by kernel_rfl) (by kernel_rfl) (fun _ _ _ h => h) (by rfl) ?_ hHeld0 ?_
    rotate_left
    · intro w hSw; (try dsimp only at hSw); go_simp; with_reducible rfl
    try simp only [Act.put, List.setIfInBounds_toArray, List.set_cons_zero, List.set_cons_succ]
    refine takeN (v := ?_) 6 rfl (by kernel_rfl) (by kernel_rfl) (by kernel_rfl) (fun _ _ _ h => h) (by rfl) ?_ hHeld0 ?_
    rotate_left
    · intro w hSw; (try dsimp only at hSw); go_simp; with_reducible rfl
    try simp only [Act.put, List.setIfInBounds_toArray, List.set_cons_zero, List.set_cons_succ]
    refine takeN (v := ?_) 7 rfl (by kernel_rfl) (by kernel_rfl) (by kernel_rfl) (fun _ _ _ h => h) (by rfl) ?_ hHeld0 ?_
    rotate_left
    · intro w hSw; (try dsimp only at hSw); go_simp; with_reducible rfl
    try simp only [Act.put, List.setIfInBounds_toArray, List.set_cons_zero, List.set_cons_succ]
    refine takeN (v := ?_) 8 rfl (by kernel_rfl) (by kernel_rfl) (by kernel_rfl) (fun _ _ _ h => h) (by rfl) ?_ hHeld0 ?_
    rotate_left
    · intro w hSw; (try dsimp only at hSw); go_simp; with_reducible rfl
    try simp only [Act.put, List.setIfInBounds_toArray, List.set_cons_zero, List.set_cons_succ]
    refine takeN (v := ?_) 9 rfl (by kernel_rfl) (by kernel_rfl) (by kernel_rfl) (fun _ _ _ h => h) (by rfl) ?_ hHeld0 ?_
    rotate_left
    · intro w hSw; (try dsimp only at hSw); go_simp; with_reducible rfl
    try simp only [Act.put, List.setIfInBounds_toArray, List.set_cons_zero, List.set_cons_succ]
    refine takeN (v := ?_) 10 rfl (by kernel_rfl) (by kernel_rfl) (by kernel_rfl) (fun _ _ _ h => h) (by rfl) ?_ hHeld0 ?_
    rotate_left
    · intro w hSw; (try dsimp only at hSw); go_simp; with_reducible rfl
    try simp only [Act.put, List.setIfInBounds_toArray, List.set_cons_zero, List.set_cons_succ]
    refine wpAnyH_ready (rs := [4]) (by kernel_rfl) (by simp) ?_
    refine readyN rfl (fun K hK => ?_) ?_
    · -- operation 4
      go_simp
      refine hK.out _ _ ?_ (fun hHeld1 => ?_)
      · (try dsimp only)
        first | exact S0.out | exact (BXD.out.below HFB.out).cells | exact SZ2 | exact SZ
      clear hK K hHeld0
      try simp only [Act.put, List.setIfInBounds_toArray, List.set_cons_zero, List.set_cons_succ]
      refine wpAnyH_ready (rs := [5]) (by kernel_rfl) (by simp) ?_
      refine readyN rfl (fun K hK => ?_) ?_
      · -- operation 5
        go_simp
        first
          | (go_at_call 22
             refine PA.out.mono ?_
             rintro e w5 ⟨rfl, hm5, hk5⟩
             have hk5' := hk5.mono (G := fun i => i = b1 ∨ i = p) (fun i hi => .inl hi)
             have hxm := (HXD.out.below HFB.out).memk (HMD.out.below HFB.out) hk5'
             have hbx5 := (BXD.out.below HFB.out).keep hk5' ((BXD.out.below HFB.out).ne (HMD.out.below HFB.out))
             have SZ := hbx5.cells
             have BX5 := Lib.hid hbx5
             have HX5 := Lib.hid hxm
             have HM5 := Lib.hid hm5
             have HB5 := Lib.hid ((HBD.out.trans (HFB.out.mono HBD.out.size |> fun h => h.mono hBw)).trans (hk5.below (B := B) (Nat.le_trans (Nat.le_trans hBw (Nat.le_refl _)) (Nat.le_trans (show w.heap.size ≤ wk.drew.heap.size from HBD.out.size) HFB.out.size)) (fun i hi => by subst hi; exact hb1)))
             clear hm5 hk5 hk5' hxm hbx5)
          | (go_at_call 61
             refine (PB.out _ HX5.out).mono ?_
             rintro e w6 ⟨rfl, ⟨vL6, hx6⟩, hk6⟩
             have SZ2 := (BX5.out.keep hk6 (BX5.out.neq HX5.out)).cells
             have HX6 := Lib.hid hx6
             have HM6 := Lib.hid (HM5.out.mapk HX5.out hk6)
             have HB6 := Lib.hid (HB5.out.trans (hk6.below (B := B) (Nat.le_trans hBw HB5.out.size) (fun i hi => by subst hi; exact hq)))
             clear hx6 hk6)
        go_wp2_with fail
        refine hK.out _ _ ?_ (fun hHeld2 => ?_)
        · (try dsimp only)
          first | exact S0.out | exact (BXD.out.below HFB.out).cells | exact SZ2 | exact SZ
        clear hK K hHeld1
        try simp only [Act.put, List.setIfInBounds_toArray, List.set_cons_zero, List.set_cons_succ]
        refine wpAnyH_ready (rs := [11]) (by kernel_rfl) (by simp) ?_
        refine readyN rfl (fun K hK => ?_) ?_
        · -- operation 11
          go_simp
          first
            | (go_at_call 22
               refine PA.out.mono ?_
               rintro e w5 ⟨rfl, hm5, hk5⟩
               have hk5' := hk5.mono (G := fun i => i = b1 ∨ i = p) (fun i hi => .inl hi)
               have hxm := (HXD.out.below HFB.out).memk (HMD.out.below HFB.out) hk5'
               have hbx5 := (BXD.out.below HFB.out).keep hk5' ((BXD.out.below HFB.out).ne (HMD.out.below HFB.out))
               have SZ := hbx5.cells
               have BX5 := Lib.hid hbx5
               have HX5 := Lib.hid hxm
               have HM5 := Lib.hid hm5
               have HB5 := Lib.hid ((HBD.out.trans (HFB.out.mono HBD.out.size |> fun h => h.mono hBw)).trans (hk5.below (B := B) (Nat.le_trans (Nat.le_trans hBw (Nat.le_refl _)) (Nat.le_trans (show w.heap.size ≤ wk.drew.heap.size from HBD.out.size) HFB.out.size)) (fun i hi => by subst hi; exact hb1)))
               clear hm5 hk5 hk5' hxm hbx5)
            | (go_at_call 61
               refine (PB.out _ HX5.out).mono ?_
               rintro e w6 ⟨rfl, ⟨vL6, hx6⟩, hk6⟩
               have SZ2 := (BX5.out.keep hk6 (BX5.out.neq HX5.out)).cells
               have HX6 := Lib.hid hx6
               have HM6 := Lib.hid (HM5.out.mapk HX5.out hk6)
               have HB6 := Lib.hid (HB5.out.trans (hk6.below (B := B) (Nat.le_trans hBw HB5.out.size) (fun i hi => by subst hi; exact hq)))
               clear hx6 hk6)
          go_wp2_with fail
          refine hK.out _ _ ?_ (fun hHeld3 => ?_)
          · (try dsimp only)
            first | exact S0.out | exact (BXD.out.below HFB.out).cells | exact SZ2 | exact SZ
          clear hK K hHeld2
          try simp only [Act.put, List.setIfInBounds_toArray, List.set_cons_zero, List.set_cons_succ]
          refine takeN (v := ?_) 12 rfl (by kernel_rfl) (by kernel_rfl) (by kernel_rfl) (fun _ _ _ h => h) (by rfl) ?_ hHeld3 ?_
          rotate_left
          · intro w hSw; (try dsimp only at hSw); go_simp; with_reducible rfl
          try simp only [Act.put, List.setIfInBounds_toArray, List.set_cons_zero, List.set_cons_succ]
          refine takeN (v := ?_) 13 rfl (by kernel_rfl) (by kernel_rfl) (by kernel_rfl) (fun _ _ _ h => h) (by rfl) ?_ hHeld3 ?_
          rotate_left
          · intro w hSw; (try dsimp only at hSw); go_simp; with_reducible rfl
          try simp only [Act.put, List.setIfInBounds_toArray, List.set_cons_zero, List.set_cons_succ]
          refine wpAnyH_done (by kernel_rfl) ?_ _
          go_wp2_with fail
          go_ret
          exact ⟨rfl, _, _, ⟨b1, b2, _, _, _, HM6.out, hp, hb1, HX6.out, HREL.out⟩, HSN.out, HW.out.mono (by omega), HB6.out⟩
        exact AllReadyH.nil
      exact AllReadyH.nil
    exact AllReadyH.nil
  · go_enter Try.func40, Try.ntmps40
    go_wp2_with fail
    refine (get_any p room b1 b2 now was _ k wk HM.out HKS.out HGV.out).mono ?_
    rintro e w5 ⟨u, rfl, hmine, hb⟩
    obtain ⟨ua, uc, rfl⟩ := hmine.1.len
    have HM5 := Lib.hid (HM.out.below hb)
    have HX5 := Lib.hid (HX.out.below hb)
    have HB5 := Lib.hid (HB.out.trans (hb.mono (Nat.le_trans hBw HB.out.size)))
    obtain ⟨d0, d1, d2, d3⟩ := (HBX.out.below hb).cells
    have hrg := rget_any k HX5.out (by have := HML.out; omega)
    rw [show getR k M.L = AL.get k now by rw [HR.out.L]; exact HG.out.1] at hrg
    have hms := hmine.1
    obtain ⟨S, hS⟩ : ∃ S, S = (AL.get k now).getD ByteArray.empty := ⟨_, rfl⟩
    obtain ⟨T, hT⟩ : ∃ T, T = (AL.get k now).isSome := ⟨_, rfl⟩
    rw [← hS, ← hT] at hrg
    rw [← hS] at hms
    rw [← hS, ← hT]
    unfold mV at hrg
    have HRG := Lib.hid hrg
    have HMS := Lib.hid hms
    have n1 : (S.toList == S.toList) = true := beq_iff_eq.2 rfl
    clear hmine hb hrg hS hT hms
    go_wp2_with fail
    refine HRG.out.mono ?_
    rintro e w6 ⟨rfl, hb⟩
    have hs6 := (HMS.out.below hb).string (P := Try.prog) 23 5 9 uBytes uByte uStr
    have HM6 := Lib.hid (HM5.out.below hb)
    have HX6 := Lib.hid (HX5.out.below hb)
    have HB6 := Lib.hid (HB5.out.trans (hb.mono (Nat.le_trans hBw HB5.out.size)))
    clear hb HRG
    go_wp2_with fail
    go_ret
    exact ⟨rfl, now, was, ⟨b1, b2, _, _, _, HM6.out, hp, hb1, HX6.out, HR.out⟩, HN.out.mono (by omega), HW.out.mono (by omega), HB6.out⟩
  · go_enter Try.func40, Try.ntmps40
    go_wp2_with fail
    refine (delete_any p room b1 b2 now was _ k wk HM.out HKS.out).mono ?_
    rintro e w5 ⟨rfl, hm5, hk5⟩
    have hk5' := hk5.mono (G := fun i => i = b1 ∨ i = p) (fun i hi => .inl hi)
    have HM5 := Lib.hid hm5
    have HX5 := Lib.hid (HX.out.memk HM.out hk5')
    have HB5 := Lib.hid (HB.out.trans (hk5.below (B := B) (Nat.le_trans hBw HB.out.size) (fun i hi => by subst hi; exact hb1)))
    obtain ⟨d0, d1, d2, d3⟩ := (HBX.out.keep hk5' (HBX.out.ne HM.out)).cells
    have hrd := rdel_any k HX5.out (by have := HML.out; omega)
    rw [show isP k M.L = (AL.get k now).isSome by rw [HR.out.L]; exact HG.out.2] at hrd
    obtain ⟨T, hT⟩ : ∃ T, T = (AL.get k now).isSome := ⟨_, rfl⟩
    rw [← hT] at hrd ⊢
    unfold mV at hrd
    have HRD := Lib.hid hrd
    clear hm5 hk5 hk5' hrd hT
    go_wp2_with fail
    refine HRD.out.mono ?_
    rintro e w6 ⟨rfl, ⟨vL6, hx6⟩, hk6⟩
    have HX6 := Lib.hid hx6
    have HM6 := Lib.hid (HM5.out.mapk HX5.out hk6)
    have HB6 := Lib.hid (HB5.out.trans (hk6.below (B := B) (Nat.le_trans hBw HB5.out.size) (fun i hi => by subst hi; exact hq)))
    have HDL := Lib.hid (show delR k M.L = AL.srt (AL.del k now) by rw [HR.out.L]; exact del_srt HN.out.nd k)
    clear hx6 hk6 HRD
    go_wp2_with fail
    go_ret
    exact ⟨rfl, AL.del k now, was, ⟨b1, b2, _, _, _, HM6.out, hp, hb1, HX6.out, ⟨HR.out.room, HDL.out, HR.out.Z⟩⟩, (HN.out.del k).mono (by omega), HW.out.mono (by omega), HB6.out⟩
  · obtain ⟨fv, gv, ev, sv, lv⟩ := conv_ex16 v (by omega)
    have SV := Lib.hid sv
    have LV := Lib.hid lv
    clear sv lv
    go_enter Try.func40, Try.ntmps40
    go_wp2_with fail
    refine (range_any p room b1 b2 now was _ (fv wk) k v (gv wk) (HM.out.below (LV.out wk)) (HKS.out.below (LV.out wk)) (SV.out wk) (HN.out.sml (by omega)) HN.out.nd).mono ?_
    rintro e w5 ⟨u, rfl, hps, hb⟩
    have hpr := hps.pr
    have hpr' := hpr
    obtain ⟨ua, uc, rfl, _⟩ := hpr'
    have hbb := below_and (LV.out wk) hb
    have HP5 := Lib.hid hpr
    have HM5 := Lib.hid (HM.out.below hbb)
    have HX5 := Lib.hid (HX.out.below hbb)
    have HB5 := Lib.hid (HB.out.trans (hbb.mono (Nat.le_trans hBw HB.out.size)))
    obtain ⟨d0, d1, d2, d3⟩ := (HBX.out.below hbb).cells
    have hrr := rrange_any k v HX5.out (by have := HML.out; omega)
    rw [show (M.L.filter fun q => selB k v q.1) = AL.range k v now by rw [HR.out.L]; rfl] at hrr
    have hrl : (AL.range k v now).length ≤ 1000000 := Nat.le_trans (range_len _ _ _) (by have := HN.out.len; omega)
    obtain ⟨S, hS⟩ : ∃ S, S = AL.range k v now := ⟨_, rfl⟩
    rw [← hS] at hrr HP5 hrl
    rw [← hS]
    unfold mV at hrr
    have HRR := Lib.hid hrr
    clear hps hpr hb hbb hrr hS
    go_wp2_with fail
    refine HRR.out.mono ?_
    rintro e w6 ⟨y, rfl, hqr, hb⟩
    have HQ6 := Lib.hid hqr
    have HP6 := Lib.hid (HP5.out.below hb)
    have HM6 := Lib.hid (HM5.out.below hb)
    have HX6 := Lib.hid (HX5.out.below hb)
    have HB6 := Lib.hid (HB5.out.trans (hb.mono (Nat.le_trans hBw HB5.out.size)))
    clear hqr hb HRR
    go_wp2_with fail
    refine (pairs_any _ _ S w6 HP6.out HQ6.out hrl).mono ?_
    rintro e w7 ⟨rfl, hb⟩
    have HM7 := Lib.hid (HM6.out.below hb)
    have HX7 := Lib.hid (HX6.out.below hb)
    have HB7 := Lib.hid (HB6.out.trans (hb.mono (Nat.le_trans hBw HB6.out.size)))
    clear hb
    go_wp2_with fail
    go_ret
    exact ⟨rfl, now, was, ⟨b1, b2, _, _, _, HM7.out, hp, hb1, HX7.out, HR.out⟩, HN.out.mono (by omega), HW.out.mono (by omega), HB7.out⟩
  · go_enter Try.func40, Try.ntmps40
    go_wp2_with fail
    refine (rcommit_any HX.out).mono ?_
    rintro e w5 ⟨rfl, hx5, hk5⟩
    have HX5 := Lib.hid hx5
    have HM5 := Lib.hid (HM.out.mapk HX.out hk5)
    have HB5 := Lib.hid (HB.out.trans (hk5.below (B := B) (Nat.le_trans hBw HB.out.size) (fun i hi => by subst hi; exact hq)))
    clear hx5 hk5
    go_wp2_with fail
    refine (commit_any p room b1 b2 now was w5 HM5.out).mono ?_
    rintro e w6 ⟨rfl, b3, hb3, hm6, hk6⟩
    have HX6 := Lib.hid (HX5.out.memk HM5.out (hk6.mono (fun i hi => .inr hi)))
    have HM6 := Lib.hid hm6
    have HB6 := Lib.hid (HB5.out.trans (hk6.below (B := B) (Nat.le_trans hBw HB5.out.size) (fun i hi => by subst hi; exact hp)))
    clear hm6 hk6 hb3
    go_wp2_with fail
    go_ret
    exact ⟨rfl, now, now, ⟨b1, b3, _, _, _, HM6.out, hp, hb1, HX6.out, ⟨HR.out.room, HR.out.L, HR.out.L⟩⟩, HN.out.mono (by omega), HN.out.mono (by omega), HB6.out⟩
  · go_enter Try.func40, Try.ntmps40
    go_wp2_with fail
    refine (rabort_any HX.out).mono ?_
    rintro e w5 ⟨rfl, hx5, hk5⟩
    have HX5 := Lib.hid hx5
    have HM5 := Lib.hid (HM.out.mapk HX.out hk5)
    have HB5 := Lib.hid (HB.out.trans (hk5.below (B := B) (Nat.le_trans hBw HB.out.size) (fun i hi => by subst hi; exact hq)))
    clear hx5 hk5
    go_wp2_with fail
    refine (abort_any p room b1 b2 now was w5 HM5.out).mono ?_
    rintro e w6 ⟨rfl, b3, hb3, hm6, hk6⟩
    have HX6 := Lib.hid (HX5.out.memk HM5.out (hk6.mono (fun i hi => .inr hi)))
    have HM6 := Lib.hid hm6
    have HB6 := Lib.hid (HB5.out.trans (hk6.below (B := B) (Nat.le_trans hBw HB5.out.size) (fun i hi => by subst hi; exact hp)))
    have hb3' : B ≤ b3 := Nat.le_trans (Nat.le_trans hBw HB5.out.size) hb3
    clear hm6 hk6 hb3
    go_wp2_with fail
    go_ret
    exact ⟨rfl, was, was, ⟨b3, b2, _, _, _, HM6.out, hp, hb3', HX6.out, ⟨HR.out.room, HR.out.Z, HR.out.Z⟩⟩, HW.out.mono (by omega), HW.out.mono (by omega), HB6.out⟩
  · go_enter Try.func40, Try.ntmps40
    go_wp2_with fail
    have hsc := scan_any p room b1 b2 now was _ k wk HM.out HKS.out (HN.out.sml (by omega)) HN.out.nd
    simp only [sV, pV] at hsc
    refine hsc.mono ?_
    rintro e w5 ⟨u, rfl, hpr, hb⟩
    have hpr' := hpr
    obtain ⟨ua, uc, rfl, _⟩ := hpr'
    have HP5 := Lib.hid hpr
    have HM5 := Lib.hid (HM.out.below hb)
    have HX5 := Lib.hid (HX.out.below hb)
    have HB5 := Lib.hid (HB.out.trans (hb.mono (Nat.le_trans hBw HB.out.size)))
    obtain ⟨d0, d1, d2, d3⟩ := (HBX.out.below hb).cells
    have hrr := rscan_any k hkM HX5.out (by have := HML.out; omega) (fun y hy => by rw [HR.out.L] at hy; exact (HN.out.small y ((srt_perm now).mem_iff.1 hy)).1)
    rw [show (M.L.filter fun q => pre k q.1) = AL.scan k now by rw [HR.out.L]; rfl] at hrr
    have hrl : (AL.scan k now).length ≤ 1000000 := Nat.le_trans (scan_len _ _) (by have := HN.out.len; omega)
    obtain ⟨S, hS⟩ : ∃ S, S = AL.scan k now := ⟨_, rfl⟩
    rw [← hS] at hrr HP5 hrl
    rw [← hS]
    unfold mV at hrr
    have HRR := Lib.hid hrr
    clear hpr hb hrr hS hsc
    go_wp2_with fail
    refine HRR.out.mono ?_
    rintro e w6 ⟨y, rfl, hqr, hb⟩
    have HQ6 := Lib.hid hqr
    have HP6 := Lib.hid (HP5.out.below hb)
    have HM6 := Lib.hid (HM5.out.below hb)
    have HX6 := Lib.hid (HX5.out.below hb)
    have HB6 := Lib.hid (HB5.out.trans (hb.mono (Nat.le_trans hBw HB5.out.size)))
    clear hqr hb HRR
    go_wp2_with fail
    refine (pairs_any _ _ S w6 HP6.out HQ6.out hrl).mono ?_
    rintro e w7 ⟨rfl, hb⟩
    have HM7 := Lib.hid (HM6.out.below hb)
    have HX7 := Lib.hid (HX6.out.below hb)
    have HB7 := Lib.hid (HB6.out.trans (hb.mono (Nat.le_trans hBw HB6.out.size)))
    clear hb
    go_wp2_with fail
    go_ret
    exact ⟨rfl, now, was, ⟨b1, b2, _, _, _, HM7.out, hp, hb1, HX7.out, HR.out⟩, HN.out.mono (by omega), HW.out.mono (by omega), HB7.out⟩
  · cases hgg : AL.get k now with
    | none =>
      have HGG := Lib.hid hgg
      clear hgg
      have HS8 := Lib.hid (show ByteArray.empty.size ≤ 8 by decide)
      go_enter Try.func40, Try.ntmps40
      go_wp2_with fail
      have hnm := number_any p room b1 b2 now was _ k wk HM.out HKS.out HGV.out
      rw [HGG.out] at hnm
      simp only [sV, pV] at hnm
      refine hnm.mono ?_
      rintro e w5 ⟨rfl, hb⟩
      have HM5 := Lib.hid (HM.out.below hb)
      have HX5 := Lib.hid (HX.out.below hb)
      have HB5 := Lib.hid (HB.out.trans (hb.mono (Nat.le_trans hBw HB.out.size)))
      obtain ⟨d0, d1, d2, d3⟩ := (HBX.out.below hb).cells
      have hrg := rget_any k HX5.out (by have := HML.out; omega)
      rw [show getR k M.L = none by rw [HR.out.L, ← HGG.out]; exact HG.out.1] at hrg
      unfold mV at hrg
      have HRG := Lib.hid hrg
      clear hb hrg hnm
      have e1 : numOf none = 0 := rfl
      have e2 : numE none = 0 := rfl
      rw [e1, e2]
      go_wp2_with fail
      refine HRG.out.mono ?_
      rintro e w6 ⟨rfl, hb⟩
      have HM6 := Lib.hid (HM5.out.below hb)
      have HX6 := Lib.hid (HX5.out.below hb)
      have HB6 := Lib.hid (HB5.out.trans (hb.mono (Nat.le_trans hBw HB5.out.size)))
      clear hb HRG
      simp only [Option.getD_none, Option.isSome_none]
      go_wp2_with fail
      refine (value_any _ HS8.out w6).mono ?_
      rintro e w7 ⟨rfl, hw⟩
      obtain rfl := hw.symm
      rw [show ((valN ByteArray.empty.data.toList : Nat) : Int) = 0 from rfl]
      go_wp2_with fail
      go_ret
      exact ⟨rfl, now, was, ⟨b1, b2, _, _, _, HM6.out, hp, hb1, HX6.out, HR.out⟩, HN.out.mono (by omega), HW.out.mono (by omega), HB6.out⟩

    | some s =>
      have HGG := Lib.hid hgg
      have hsm := HN.out.get hgg
      clear hgg
      by_cases hs8 : s.size = 8
      · have HS8 := Lib.hid (show s.size ≤ 8 by omega)
        go_enter Try.func40, Try.ntmps40
        go_wp2_with fail
        have hnm := number_any p room b1 b2 now was _ k wk HM.out HKS.out HGV.out
        rw [HGG.out] at hnm
        simp only [sV, pV] at hnm
        refine hnm.mono ?_
        rintro e w5 ⟨rfl, hb⟩
        have HM5 := Lib.hid (HM.out.below hb)
        have HX5 := Lib.hid (HX.out.below hb)
        have HB5 := Lib.hid (HB.out.trans (hb.mono (Nat.le_trans hBw HB.out.size)))
        obtain ⟨d0, d1, d2, d3⟩ := (HBX.out.below hb).cells
        have hrg := rget_any k HX5.out (by have := HML.out; omega)
        rw [show getR k M.L = some s by rw [HR.out.L, ← HGG.out]; exact HG.out.1] at hrg
        unfold mV at hrg
        have HRG := Lib.hid hrg
        clear hb hrg hnm
        have e1 : numOf (some s) = valN s.data.toList := by unfold numOf; simp only; rw [if_pos hs8]
        have e2 : numE (some s) = 0 := by unfold numE; simp only; rw [if_pos hs8]
        rw [e1, e2]
        have j1 : ((s.size : Int) == 8) = true := beq_iff_eq.2 (by omega)
        go_wp2_with fail
        refine HRG.out.mono ?_
        rintro e w6 ⟨rfl, hb⟩
        have HM6 := Lib.hid (HM5.out.below hb)
        have HX6 := Lib.hid (HX5.out.below hb)
        have HB6 := Lib.hid (HB5.out.trans (hb.mono (Nat.le_trans hBw HB5.out.size)))
        clear hb HRG
        simp only [Option.getD_some, Option.isSome_some]
        clear hs8
        go_wp2_with fail
        refine (value_any _ HS8.out w6).mono ?_
        rintro e w7 ⟨rfl, hw⟩
        obtain rfl := hw.symm
        go_wp2_with fail
        go_ret
        exact ⟨rfl, now, was, ⟨b1, b2, _, _, _, HM6.out, hp, hb1, HX6.out, HR.out⟩, HN.out.mono (by omega), HW.out.mono (by omega), HB6.out⟩
      · go_enter Try.func40, Try.ntmps40
        go_wp2_with fail
        have hnm := number_any p room b1 b2 now was _ k wk HM.out HKS.out HGV.out
        rw [HGG.out] at hnm
        simp only [sV, pV] at hnm
        refine hnm.mono ?_
        rintro e w5 ⟨rfl, hb⟩
        have HM5 := Lib.hid (HM.out.below hb)
        have HX5 := Lib.hid (HX.out.below hb)
        have HB5 := Lib.hid (HB.out.trans (hb.mono (Nat.le_trans hBw HB.out.size)))
        obtain ⟨d0, d1, d2, d3⟩ := (HBX.out.below hb).cells
        have hrg := rget_any k HX5.out (by have := HML.out; omega)
        rw [show getR k M.L = some s by rw [HR.out.L, ← HGG.out]; exact HG.out.1] at hrg
        unfold mV at hrg
        have HRG := Lib.hid hrg
        clear hb hrg hnm
        have e1 : numOf (some s) = 0 := by unfold numOf; simp only; rw [if_neg hs8]
        have e2 : numE (some s) = 10 := by unfold numE; simp only; rw [if_neg hs8]
        rw [e1, e2]
        have j1 : ((s.size : Int) == 8) = false := beq_eq_false_iff_ne.2 (by omega)
        go_wp2_with fail
        refine HRG.out.mono ?_
        rintro e w6 ⟨rfl, hb⟩
        have HM6 := Lib.hid (HM5.out.below hb)
        have HX6 := Lib.hid (HX5.out.below hb)
        have HB6 := Lib.hid (HB5.out.trans (hb.mono (Nat.le_trans hBw HB5.out.size)))
        clear hb HRG
        simp only [Option.getD_some, Option.isSome_some]
        go_wp2_with fail
        go_ret
        exact ⟨rfl, now, was, ⟨b1, b2, _, _, _, HM6.out, hp, hb1, HX6.out, HR.out⟩, HN.out.mono (by omega), HW.out.mono (by omega), HB6.out⟩
  · have hst := set_any p room b1 b2 now was (.slice ka k.size kcap) k x hx.1 hx.2 wk HM.out HKS.out hl
    simp only [sV, pV] at hst
    by_cases hx0 : x = 0
    · have e1 : setE room now k x = 0 := by unfold setE; rw [if_pos hx0]
      have e2 : setA room now k x = AL.del k now := by unfold setA; rw [if_pos hx0]
      rw [e1, e2] at hst
      have HST := Lib.hid hst
      have j1 : (x == 0) = true := beq_iff_eq.2 hx0
      clear hst e1 e2 hx0
      go_enter Try.func40, Try.ntmps40
      go_wp2_with fail

      refine HST.out.mono ?_
      rintro e w5 ⟨rfl, hm5, hk5⟩
      have hk5' := hk5.mono (G := fun i => i = b1 ∨ i = p) (fun i hi => .inl hi)
      have HM5 := Lib.hid hm5
      have HX5 := Lib.hid (HX.out.memk HM.out hk5')
      have HB5 := Lib.hid (HB.out.trans (hk5.below (B := B) (Nat.le_trans hBw HB.out.size) (fun i hi => by subst hi; exact hb1)))
      obtain ⟨d0, d1, d2, d3⟩ := (HBX.out.keep hk5' (HBX.out.ne HM.out)).cells
      have hrd := rdel_any k HX5.out (by have := HML.out; omega)
      obtain ⟨T, hT⟩ : ∃ T, T = isP k M.L := ⟨_, rfl⟩
      rw [← hT] at hrd
      unfold mV at hrd
      have HRD := Lib.hid hrd
      clear hm5 hk5 hk5' hrd hT HST
      go_wp2_with fail
      refine HRD.out.mono ?_
      rintro e w6 ⟨rfl, ⟨vL6, hx6⟩, hk6⟩
      have HX6 := Lib.hid hx6
      have HM6 := Lib.hid (HM5.out.mapk HX5.out hk6)
      have HB6 := Lib.hid (HB5.out.trans (hk6.below (B := B) (Nat.le_trans hBw HB5.out.size) (fun i hi => by subst hi; exact hq)))
      have HDL := Lib.hid (show delR k M.L = AL.srt (AL.del k now) by rw [HR.out.L]; exact del_srt HN.out.nd k)
      clear hx6 hk6 HRD
      go_wp2_with fail
      go_ret
      exact ⟨rfl, AL.del k now, was, ⟨b1, b2, _, _, _, HM6.out, hp, hb1, HX6.out, ⟨HR.out.room, HDL.out, HR.out.Z⟩⟩, (HN.out.del k).mono (by omega), HW.out.mono (by omega), HB6.out⟩
    · have e1 : setE room now k x = putE room now k (be8 x) := by unfold setE; rw [if_neg hx0]
      have e2 : setA room now k x = putA room now k (be8 x) := by unfold setA; rw [if_neg hx0]
      have hrp := HR.out.putE HN.out.nd k (be8 x)
      obtain ⟨E, hE⟩ : ∃ E, E = putE room now k (be8 x) := ⟨_, rfl⟩
      rw [e1, e2, ← hE] at hst
      rw [← hE] at hrp
      have pb := fun (W : World) (hx' : M16Is W B q vL vZ M) => rput_any k (be8 x) hx' (by have := HML.out; omega) hkM (by show (be x 8).size ≤ _; rw [be_size]; decide)
      simp only [hrp.1] at pb
      simp only [mV] at pb
      have PB := Lib.hid pb
      have HRN := Lib.hid (fun W => rnum_any x hx.1 hx.2 W)
      obtain ⟨nb, hnb⟩ : ∃ nb, nb = be8 x := ⟨_, rfl⟩
      have HREL := Lib.hid hrp.2
      have HSN := Lib.hid (HN.out.putA room k (be8 x))
      rw [← hnb] at PB HRN hst HREL HSN
      have HST := Lib.hid hst
      have j1 : (x == 0) = false := beq_eq_false_iff_ne.2 hx0
      clear hst e1 e2 hx0 hrp pb hE hnb
      go_enter Try.func40, Try.ntmps40
      go_wp2_with fail

      refine HST.out.mono ?_
      rintro e w5 ⟨rfl, hm5, hk5⟩
      have hk5' := hk5.mono (G := fun i => i = b1 ∨ i = p) (fun i hi => .inl hi)
      have hx5 := HX.out.memk HM.out hk5'
      have hbx5 := HBX.out.keep hk5' (HBX.out.ne HM.out)
      have HM5 := Lib.hid hm5
      have HX5 := Lib.hid (show M16Is w5.drew B q vL vZ M from hx5.below ((Below.refl _ _).drew))
      have HMD := Lib.hid (show MemIs w5.drew p room b1 b2 (putA room now k nb) was from hm5.below ((Below.refl _ _).drew))
      have HB5 := Lib.hid (show Below B w w5.drew from (HB.out.trans (hk5.below (B := B) (Nat.le_trans hBw HB.out.size) (fun i hi => by subst hi; exact hb1))).drew)
      have BX5 := Lib.hid (show Box4 w5.drew w.heap.size d k v x from hbx5.below ((Below.refl _ _).drew))
      have S5 := Lib.hid BX5.out.cells
      obtain ⟨d0, d1, d2, d3⟩ := hbx5.cells
      clear hm5 hk5 hk5' hx5 hbx5 HST
      go_wp2_with fail
      refine wp_region_held_drew (S := (fun w' => w'.cell? ⟨w.heap.size, 0, none⟩ = some (.int .u8 d) ∧ w'.cell? ⟨w.heap.size, 1, none⟩ = some (.string k) ∧ w'.cell? ⟨w.heap.size, 2, none⟩ = some (.string v) ∧ w'.cell? ⟨w.heap.size, 3, none⟩ = some (.int .u64 x))) (by kernel_rfl) ?_ (fun hHeld0 => ?_)
      · (try dsimp only)
        first | exact S5.out | exact SZ2 | exact SZ
      refine takeN (v := ?_) 0 rfl (by kernel_rfl) (by kernel_rfl) (by kernel_rfl) (fun _ _ _ h => h) (by rfl) ?_ hHeld0 ?_
      rotate_left
      · intro w hSw; (try dsimp only at hSw); go_simp; with_reducible rfl
      try simp only [Act.put, List.setIfInBounds_toArray, List.set_cons_zero, List.set_cons_succ]
      refine takeN (v := ?_) 1 rfl (by kernel_rfl) (by kernel_rfl) (by kernel_rfl) (fun _ _ _ h => h) (by rfl) ?_ hHeld0 ?_
      rotate_left
      · intro w hSw; (try dsimp only at hSw); go_simp; with_reducible rfl
      try simp only [Act.put, List.setIfInBounds_toArray, List.set_cons_zero, List.set_cons_succ]
      refine takeN (v := ?_) 2 rfl (by kernel_rfl) (by kernel_rfl) (by kernel_rfl) (fun _ _ _ h => h) (by rfl) ?_ hHeld0 ?_
      rotate_left
      · intro w hSw; (try dsimp only at hSw); go_simp; with_reducible rfl
      try simp only [Act.put, List.setIfInBounds_toArray, List.set_cons_zero, List.set_cons_succ]
      refine takeN (v := ?_) 3 rfl (by kernel_rfl) (by kernel_rfl) (by kernel_rfl) (fun _ _ _ h => h) (by rfl) ?_ hHeld0 ?_
      rotate_left
      · intro w hSw; (try dsimp only at hSw); go_simp; with_reducible rfl
      try simp only [Act.put, List.setIfInBounds_toArray, List.set_cons_zero, List.set_cons_succ]
      refine takeN (v := ?_) 4 rfl (by kernel_rfl) (by kernel_rfl) (by kernel_rfl) (fun _ _ _ h => h) (by rfl) ?_ hHeld0 ?_
      rotate_left
      · intro w hSw; (try dsimp only at hSw); go_simp; with_reducible rfl
      try simp only [Act.put, List.setIfInBounds_toArray, List.set_cons_zero, List.set_cons_succ]
      refine takeN (v := ?_) 5 rfl (by kernel_rfl) (by kernel_rfl) (by kernel_rfl) (fun _ _ _ h => h) (by rfl) ?_ hHeld0 ?_
      rotate_left
      · intro w hSw; (try dsimp only at hSw); go_simp; with_reducible rfl
      try simp only [Act.put, List.setIfInBounds_toArray, List.set_cons_zero, List.set_cons_succ]
      refine wpAnyH_ready (rs := [6]) (by kernel_rfl) (by simp) ?_
      refine readyN rfl (fun K hK => ?_) ?_
      · -- operation 6
        go_simp
        first
          | (go_at_call 68
             refine (HRN.out _).mono ?_
             rintro e w6 ⟨rfl, hb6⟩
             have SZ := (BX5.out.below hb6).cells
             have BX6 := Lib.hid (BX5.out.below hb6)
             have HX6 := Lib.hid (HX5.out.below hb6)
             have HM6 := Lib.hid (HMD.out.below hb6)
             have HB6 := Lib.hid (HB5.out.trans (hb6.mono (Nat.le_trans hBw HB5.out.size)))
             clear hb6)
          | (go_at_call 61
             refine (PB.out _ HX6.out).mono ?_
             rintro e w7 ⟨rfl, ⟨vL7, hx7⟩, hk7⟩
             have SZ2 := (BX6.out.keep hk7 (BX6.out.neq HX6.out)).cells
             have HX7 := Lib.hid hx7
             have HM7 := Lib.hid (HM6.out.mapk HX6.out hk7)
             have HB7 := Lib.hid (HB6.out.trans (hk7.below (B := B) (Nat.le_trans hBw HB6.out.size) (fun i hi => by subst hi; exact hq)))
             clear hx7 hk7)
        go_wp2_with fail
        refine hK.out _ _ ?_ (fun hHeld1 => ?_)
        · (try dsimp only)
          first | exact S5.out | exact SZ2 | exact SZ
        clear hK K hHeld0
        try simp only [Act.put, List.setIfInBounds_toArray, List.set_cons_zero, List.set_cons_succ]
        refine wpAnyH_ready (rs := [7]) (by kernel_rfl) (by simp) ?_
        refine readyN rfl (fun K hK => ?_) ?_
        · -- operation 7
          go_simp
          first
            | (go_at_call 68
               refine (HRN.out _).mono ?_
               rintro e w6 ⟨rfl, hb6⟩
               have SZ := (BX5.out.below hb6).cells
               have BX6 := Lib.hid (BX5.out.below hb6)
               have HX6 := Lib.hid (HX5.out.below hb6)
               have HM6 := Lib.hid (HMD.out.below hb6)
               have HB6 := Lib.hid (HB5.out.trans (hb6.mono (Nat.le_trans hBw HB5.out.size)))
               clear hb6)
            | (go_at_call 61
               refine (PB.out _ HX6.out).mono ?_
               rintro e w7 ⟨rfl, ⟨vL7, hx7⟩, hk7⟩
               have SZ2 := (BX6.out.keep hk7 (BX6.out.neq HX6.out)).cells
               have HX7 := Lib.hid hx7
               have HM7 := Lib.hid (HM6.out.mapk HX6.out hk7)
               have HB7 := Lib.hid (HB6.out.trans (hk7.below (B := B) (Nat.le_trans hBw HB6.out.size) (fun i hi => by subst hi; exact hq)))
               clear hx7 hk7)
          go_wp2_with fail
          refine hK.out _ _ ?_ (fun hHeld2 => ?_)
          · (try dsimp only)
            first | exact S5.out | exact SZ2 | exact SZ
          clear hK K hHeld1
          try simp only [Act.put, List.setIfInBounds_toArray, List.set_cons_zero, List.set_cons_succ]
          refine takeN (v := ?_) 8 rfl (by kernel_rfl) (by kernel_rfl) (by kernel_rfl) (fun _ _ _ h => h) (by rfl) ?_ hHeld2 ?_
          rotate_left
          · intro w hSw; (try dsimp only at hSw); go_simp; with_reducible rfl
          try simp only [Act.put, List.setIfInBounds_toArray, List.set_cons_zero, List.set_cons_succ]
          refine takeN (v := ?_) 9 rfl (by kernel_rfl) (by kernel_rfl) (by kernel_rfl) (fun _ _ _ h => h) (by rfl) ?_ hHeld2 ?_
          rotate_left
          · intro w hSw; (try dsimp only at hSw); go_simp; with_reducible rfl
          try simp only [Act.put, List.setIfInBounds_toArray, List.set_cons_zero, List.set_cons_succ]
          refine wpAnyH_done (by kernel_rfl) ?_ _
          go_wp2_with fail
          go_ret
          exact ⟨rfl, _, _, ⟨b1, b2, _, _, _, HM7.out, hp, hb1, HX7.out, HREL.out⟩, HSN.out, HW.out.mono (by omega), HB7.out⟩
        exact AllReadyH.nil
      exact AllReadyH.nil
end Go.Proofs.Ytiadoimdohnebaa
