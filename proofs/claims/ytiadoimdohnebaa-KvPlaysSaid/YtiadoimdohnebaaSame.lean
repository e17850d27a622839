/- The walk of quitrentlaw16's same: one act on two stores that hold the same. -/
import Derived.Test.YtiadoimdohnebaaActLaw
import Derived.Deep.RegionWith
import Derived.Deep.RegionHeld3
import Derived.Test.YtiadoimdohnebaaReg
namespace Go.Proofs.Ytiadoimdohnebaa
open Go.RowKit
set_option maxRecDepth 100000
set_option linter.unusedVariables false
set_option linter.unusedSimpArgs false
set_option maxHeartbeats 4000000
structure Two (w : World) (B p b1 b2 p' b1' b2' : Nat) (now was : AL) : Prop where
  a : MemIs w p (-1) b1 b2 now was
  b : MemIs w p' (-1) b1' b2' now was
  ne : p ≠ p' ∧ b1 ≠ b1' ∧ b1 ≠ b2' ∧ b2 ≠ b1' ∧ b2 ≠ b2'
  base : B ≤ p ∧ B ≤ b1 ∧ B ≤ b2 ∧ B ≤ p' ∧ B ≤ b1' ∧ B ≤ b2'
theorem MemIs.apart {w : World} {p b1 b2 q c1 c2 : Nat} {r s : Int} {now was now' was' : AL} (h : MemIs w p r b1 b2 now was) (k : MemIs w q s c1 c2 now' was') : b1 ≠ q ∧ b2 ≠ q := by
  constructor
  · intro e; subst e
    obtain ⟨es, c, h1, _⟩ := h.now
    rw [k.blk] at h1; cases h1
  · intro e; subst e
    obtain ⟨es, c, h1, _⟩ := h.was
    rw [k.blk] at h1; cases h1
theorem Two.below {w w' : World} {B p b1 b2 p' b1' b2' : Nat} {now was : AL} (h : Two w B p b1 b2 p' b1' b2' now was) (hb : Below w.heap.size w w') : Two w' B p b1 b2 p' b1' b2' now was := ⟨h.a.below hb, h.b.below hb, h.ne, h.base⟩
theorem Two.keepB {w w1 : World} {B p b1 b2 p' b1' b2' : Nat} {now was : AL} (h : Two w B p b1 b2 p' b1' b2' now was) (hk : Keep (fun i => i = b1) w w1) : MemIs w1 p' (-1) b1' b2' now was :=
  h.b.keep hk (fun e => (h.a.apart h.b).1 e.symm) (fun e => h.ne.2.1 e.symm) (fun e => h.ne.2.2.1 e.symm)
theorem Two.keepBp {w w1 : World} {B p b1 b2 p' b1' b2' : Nat} {now was : AL} (h : Two w B p b1 b2 p' b1' b2' now was) (hk : Keep (fun i => i = p) w w1) : MemIs w1 p' (-1) b1' b2' now was :=
  h.b.keep hk (fun e => h.ne.1 e.symm) (fun e => (h.b.apart h.a).1 e) (fun e => (h.b.apart h.a).2 e)
theorem Two.keepA {w w1 : World} {B p b1 b2 p' b1' b2' : Nat} {now was now1 was1 : AL} (h : Two w B p b1 b2 p' b1' b2' now was) (ha : MemIs w p (-1) b1 b2 now1 was1) (hk : Keep (fun i => i = b1') w w1) : MemIs w1 p (-1) b1 b2 now1 was1 :=
  ha.keep hk (fun e => (h.b.apart h.a).1 e.symm) h.ne.2.1 h.ne.2.2.2.1
theorem bs_keep_now {w w1 : World} {p b1 b2 : Nat} {r : Int} {now was : AL} {v : Value} {s : ByteArray} (h : MemIs w p r b1 b2 now was) (hb : BS w v s) (hk : Keep (fun i => i = b1) w w1) : BS w1 v s :=
  hb.keep hk (fun b o x hc e => by subst e; rw [h.now.nocell] at hc; cases hc)
def a16 (a : A16) : Value := .agg #[.int .u8 a.doo, .string a.key, .string a.val, .int .u64 a.n]
theorem same_any (B p b1 b2 p' b1' b2' : Nat) (now was : AL) (m : Nat) (a : A16) (w : World) (hT : Two w B p b1 b2 p' b1' b2' now was) (hA : a.Ok) (hN : St m now) (hW : St m was) (hm : m ≤ 1000) (hk : a.key.size ≤ 400) (hv : a.val.size ≤ 1200) :
    Calls Try.prog 42 #[sV p, sV p', a16 a] w fun e w' => e = .returned (.bool true) ∧ ∃ b1 b2 b1' b2' now' was', Two w' B p b1 b2 p' b1' b2' now' was' ∧ St (m + 1) now' ∧ St (m + 1) was' ∧ Below B w w' := by
  have HT := Lib.hid hT
  have HN := Lib.hid hN
  have HW := Lib.hid hW
  obtain ⟨d, k, v, n⟩ := a
  have hd := hA.d
  have hnn := Lib.hid hA.n
  simp only at hd hk hv
  unfold a16 sV pV
  have hr : d % 9 = 0 ∨ d % 9 = 1 ∨ d % 9 = 2 ∨ d % 9 = 4 ∨ d % 9 = 5 ∨ d % 9 = 7 ∨ d % 9 = 8 ∨ d % 9 = 3 ∨ d % 9 = 6 := by omega
  have hB := Lib.hid (show B ≤ w.heap.size by have := hT.base.1; have := blk_lt hT.a.blk; omega)
  have hkm : k.size ≤ 9223372036854775807 := by omega
  have kc := Lib.run_convert_string_bytes (P := Try.prog) (w.alloc (.cells #[.int .u8 d, .string k, .string v, .int .u64 n] 80)) 9 23 5 k uStr uBytes uByte
  have HK := Lib.hid (BS.bytes (w.alloc (.cells #[.int .u8 d, .string k, .string v, .int .u64 n] 80)) 5 k hkm)
  have hb := below_and ((Below.refl w.heap.size w).alloc (Nat.le_refl _) (.cells #[.int .u8 d, .string k, .string v, .int .u64 n] 80)) (bytes_below _ 5 k)
  have hbx : (Lib.bytesWorld (w.alloc (.cells #[.int .u8 d, .string k, .string v, .int .u64 n] 80)) 5 k).heap[w.heap.size]? = some (.cells #[.int .u8 d, .string k, .string v, .int .u64 n] 80 (0, 0)) :=
    (Keep.ofBelow (bytes_below _ 5 k) (fun _ => False)).blk (blk_new w _) (fun h => h)
  obtain ⟨gc, hgc⟩ : ∃ gc, gc = grownCap (w.alloc (.cells #[.int .u8 d, .string k, .string v, .int .u64 n] 80)) k.size 0 5 := ⟨_, rfl⟩
  obtain ⟨wk, hwk⟩ : ∃ wk, wk = Lib.bytesWorld (w.alloc (.cells #[.int .u8 d, .string k, .string v, .int .u64 n] 80)) 5 k := ⟨_, rfl⟩
  rw [← hwk, ← hgc] at kc HK
  rw [← hwk] at hb hbx
  rw [show (w.alloc (.cells #[.int .u8 d, .string k, .string v, .int .u64 n] 80)).heap.size = w.heap.size + 1 by simp] at kc HK
  have c0 : wk.cell? ⟨w.heap.size, 0, none⟩ = some (.int .u8 d) := by rw [blk_cell hbx]; rfl
  have c2 : wk.cell? ⟨w.heap.size, 2, none⟩ = some (.string v) := by rw [blk_cell hbx]; rfl
  have c3 : wk.cell? ⟨w.heap.size, 3, none⟩ = some (.int .u64 n) := by rw [blk_cell hbx]; rfl
  have HT1 := Lib.hid (hT.below hb)
  have HB1 := Lib.hid (hb.mono hB.out)
  have HBX := Lib.hid hbx
  clear hwk hgc hb hbx hT hA hN hW HT hkm
  obtain ⟨r, hrr⟩ : ∃ r, r = d % 9 := ⟨_, rfl⟩
  rw [← hrr] at hr
  rcases hr with h | h | h | h | h | h | h | h | h
  · rw [hrr] at h
    have hvm : v.size ≤ 9223372036854775807 := by omega
    have hl : now.length ≤ 9223372036854775807 := by have := HN.out.len; omega
    have HTd := Lib.hid (show Two wk.drew B p b1 b2 p' b1' b2' now was from HT1.out.below ((Below.refl _ _).drew))
    have HKd : Hid (BS wk.drew _ k) := HK
    have HBd := Lib.hid (show Below B w wk.drew from HB1.out.drew)
    have cx0 : wk.drew.cell? ⟨w.heap.size, 2, none⟩ = some (.string v) := c2
    have hne1 : ¬ (w.heap.size = b1) := fun e => by have h' := c3; rw [e, HT1.out.a.now.nocell] at h'; cases h'
    have hne2 : ¬ (w.heap.size = b1') := fun e => by have h' := c3; rw [e, HT1.out.b.now.nocell] at h'; cases h'
    have N1 := Lib.hid hne1
    have N2 := Lib.hid hne2
    obtain ⟨bv, bw, kG, g2, g3⟩ : ∃ (bv : World → Value) (bw : World → World), (∀ W, (convert 9 23 (.string v)).run Try.prog W = .ok (bv W) (bw W)) ∧ (∀ W, BS (bw W) (bv W) v) ∧ ∀ W, Below W.heap.size W (bw W) :=
      ⟨_, _, fun W => Lib.run_convert_string_bytes (P := Try.prog) W 9 23 5 v uStr uBytes uByte, fun W => BS.bytes W 5 v hvm, fun W => bytes_below W 5 v⟩
    have G2 := Lib.hid g2
    have G3 := Lib.hid g3
    have F1 := Lib.hid (g3 wk.drew)
    have F2 := Lib.hid (below_and (g3 wk.drew) (g3 (bw wk.drew)))
    have cx1 := (Keep.ofBelow F1.out (fun _ => False)).cell cx0 (fun h => h)
    have cx2 := (Keep.ofBelow F2.out (fun _ => False)).cell cx0 (fun h => h)
    have S1 := Lib.hid (g2 wk.drew)
    have S21 := Lib.hid ((g2 wk.drew).below (g3 (bw wk.drew)))
    have S22 := Lib.hid (g2 (bw wk.drew))
    obtain ⟨E, hE⟩ : ∃ E, E = putE (-1) now k v := ⟨_, rfl⟩
    have HE := Lib.hid hE
    have hb0 := Lib.hid (show B ≤ wk.drew.heap.size by have := HTd.out.base.1; have := blk_lt HTd.out.a.blk; omega)
    have pa := fun (W : World) (x : Value) (hb : Below wk.drew.heap.size wk.drew W) (hs : BS W x v) => put_any p (-1) b1 b2 now was _ x k v W (HTd.out.below hb).a (HKd.out.below hb) hs hl
    have pb := fun (W : World) (x y : Value) (h1 : MemIs W p' (-1) b1' b2' now was) (h2 : BS W y k) (h3 : BS W x v) => put_any p' (-1) b1' b2' now was y x k v W h1 h2 h3 hl
    simp only [pV] at pa pb
    have PA := Lib.hid pa
    have PB := Lib.hid pb
    clear pa pb
    clear hne1 hne2 hE g2 g3
    go_enter Try.func42, Try.ntmps42
    go_wp2_with fail
    refine wp_region_held_drew (S := (fun w' => w'.cell? ⟨w.heap.size, 2, none⟩ = some (.string v))) (by kernel_rfl) ?_ (fun hHeld0 => ?_)
    · (try dsimp only)
      first | exact cx0 | exact cx1 | exact cx2 | exact cy | exact cyb | exact cz
    refine takeN (v := ?_) 0 rfl (by kernel_rfl) (by kernel_rfl) (by kernel_rfl) (fun _ _ _ h => h) (by rfl) ?_ hHeld0 ?_
    rotate_left
    · intro w hSw; (try dsimp only at hSw); go_simp; with_reducible rfl
    try simp only [Act.put, List.setIfInBounds_toArray, List.set_cons_zero, List.set_cons_succ]
    refine takeN (v := ?_) 1 rfl (by kernel_rfl) (by kernel_rfl) (by kernel_rfl) (fun _ _ _ h => h) (by rfl) ?_ hHeld0 ?_
    rotate_left
    · intro w hSw; (try dsimp only at hSw); go_simp; with_reducible rfl
    try simp only [Act.put, List.setIfInBounds_toArray, List.set_cons_zero, List.set_cons_succ]
    refine takeN (v := ?_) 2 rfl (by kernel_rfl) (by kernel_rfl) (by kernel_rfl) (fun _ _ _ h => h) (by rfl) ?_ hHeld0 ?_
    rotate_left
    · intro w hSw; (try dsimp only at hSw); go_simp; with_reducible rfl
    try simp only [Act.put, List.setIfInBounds_toArray, List.set_cons_zero, List.set_cons_succ]
    refine takeN (v := ?_) 3 rfl (by kernel_rfl) (by kernel_rfl) (by kernel_rfl) (fun _ _ _ h => h) (by rfl) ?_ hHeld0 ?_
    rotate_left
    · intro w hSw; (try dsimp only at hSw); go_simp; with_reducible rfl
    try simp only [Act.put, List.setIfInBounds_toArray, List.set_cons_zero, List.set_cons_succ]
    refine takeN (v := ?_) 6 rfl (by kernel_rfl) (by kernel_rfl) (by kernel_rfl) (fun _ _ _ h => h) (by rfl) ?_ hHeld0 ?_
    rotate_left
    · intro w hSw; (try dsimp only at hSw); go_simp; with_reducible rfl
    try simp only [Act.put, List.setIfInBounds_toArray, List.set_cons_zero, List.set_cons_succ]
    refine takeN (v := ?_) 7 rfl (by kernel_rfl) (by kernel_rfl) (by kernel_rfl) (fun _ _ _ h => h) (by rfl) ?_ hHeld0 ?_
    rotate_left
    · intro w hSw; (try dsimp only at hSw); go_simp; with_reducible rfl
    try simp only [Act.put, List.setIfInBounds_toArray, List.set_cons_zero, List.set_cons_succ]
    refine takeN (v := ?_) 8 rfl (by kernel_rfl) (by kernel_rfl) (by kernel_rfl) (fun _ _ _ h => h) (by rfl) ?_ hHeld0 ?_
    rotate_left
    · intro w hSw; (try dsimp only at hSw); go_simp; with_reducible rfl
    try simp only [Act.put, List.setIfInBounds_toArray, List.set_cons_zero, List.set_cons_succ]
    refine takeN (v := ?_) 9 rfl (by kernel_rfl) (by kernel_rfl) (by kernel_rfl) (fun _ _ _ h => h) (by rfl) ?_ hHeld0 ?_
    rotate_left
    · intro w hSw; (try dsimp only at hSw); go_simp; with_reducible rfl
    try simp only [Act.put, List.setIfInBounds_toArray, List.set_cons_zero, List.set_cons_succ]
    refine wpAnyH_ready (rs := [4, 10]) (by kernel_rfl) (by simp) ?_
    refine readyN rfl (fun K hK => ?_) ?_
    · -- operation 4
      go_simp
      refine hK.out _ _ ?_ (fun hHeld1 => ?_)
      · (try dsimp only)
        first | exact cx0 | exact cx1 | exact cx2 | exact cy | exact cyb | exact cz
      clear hK K hHeld0
      try simp only [Act.put, List.setIfInBounds_toArray, List.set_cons_zero, List.set_cons_succ]
      refine wpAnyH_ready (rs := [5, 10]) (by kernel_rfl) (by simp) ?_
      refine readyN rfl (fun K hK => ?_) ?_
      · -- operation 5
        go_simp
        go_wp2_with (
            first
              | (go_at_call_of 22 (Value.pointer (some ⟨p, 0, none⟩))
                 first
                   | ((with_reducible refine (PA.out (bw wk.drew) (bv wk.drew) F1.out S1.out).mono ?_); rintro e w1 ⟨rfl, hm1, hk1⟩
                      have HVo := Lib.hid trivial
                      have cy := hk1.cell cx1 N1.out
                      have HTB := Lib.hid ((HTd.out.below F1.out).keepB hk1)
                      have HK2 := Lib.hid (bs_keep_now (HTd.out.below F1.out).a (HKd.out.below F1.out) hk1)
                      have HB2 := Lib.hid ((HBd.out.trans (F1.out.mono hb0.out)).trans (hk1.below (B := B) (by have := F1.out.size; have := hb0.out; omega) (fun i hi => by subst hi; exact HTd.out.base.2.1))))
                   | ((with_reducible refine (PA.out (bw (bw wk.drew)) (bv wk.drew) F2.out S21.out).mono ?_); rintro e w1 ⟨rfl, hm1, hk1⟩
                      have HVo := Lib.hid (bs_keep_now (HTd.out.below F2.out).a S22.out hk1)
                      have cy := hk1.cell cx2 N1.out
                      have HTB := Lib.hid ((HTd.out.below F2.out).keepB hk1)
                      have HK2 := Lib.hid (bs_keep_now (HTd.out.below F2.out).a (HKd.out.below F2.out) hk1)
                      have HB2 := Lib.hid ((HBd.out.trans (F2.out.mono hb0.out)).trans (hk1.below (B := B) (by have := F2.out.size; have := hb0.out; omega) (fun i hi => by subst hi; exact HTd.out.base.2.1))))
                   | ((with_reducible refine (PA.out (bw (bw wk.drew)) (bv (bw wk.drew)) F2.out S22.out).mono ?_); rintro e w1 ⟨rfl, hm1, hk1⟩
                      have HVo := Lib.hid (bs_keep_now (HTd.out.below F2.out).a S21.out hk1)
                      have cy := hk1.cell cx2 N1.out
                      have HTB := Lib.hid ((HTd.out.below F2.out).keepB hk1)
                      have HK2 := Lib.hid (bs_keep_now (HTd.out.below F2.out).a (HKd.out.below F2.out) hk1)
                      have HB2 := Lib.hid ((HBd.out.trans (F2.out.mono hb0.out)).trans (hk1.below (B := B) (by have := F2.out.size; have := hb0.out; omega) (fun i hi => by subst hi; exact HTd.out.base.2.1))))
                 have HA1 := Lib.hid hm1
                 have cyb := (Keep.ofBelow (G3.out w1) (fun _ => False)).cell cy (fun h => h)
                 rw [← HE.out]
                 clear hm1 hk1)
              | (go_at_call_of 22 (Value.pointer (some ⟨p', 0, none⟩))
                 first
                   | ((with_reducible refine (PB.out (bw w1) (bv w1) _ (HTB.out.below (G3.out w1)) (HK2.out.below (G3.out w1)) (G2.out w1)).mono ?_); rintro e w2 ⟨rfl, hm2, hk2⟩
                      have cz := hk2.cell cyb N2.out
                      have HF := Lib.hid (show Two w2 B p b1 b2 p' b1' b2' (putA (-1) now k v) was from ⟨(HA1.out.below (G3.out w1)).keep hk2 (fun e => (HTB.out.apart HA1.out).1 e.symm) HTd.out.ne.2.1 HTd.out.ne.2.2.2.1, hm2, HTd.out.ne, HTd.out.base⟩)
                      have HB3 := Lib.hid ((HB2.out.trans ((G3.out w1).mono (by have := HTd.out.base; have := blk_lt HA1.out.blk; omega))).trans (hk2.below (B := B) (by have := (G3.out w1).size; have := HTd.out.base; have := blk_lt HA1.out.blk; omega) (fun i hi => by subst hi; exact HTd.out.base.2.2.2.2.1))))
                   | ((with_reducible refine (PB.out w1 _ _ HTB.out HK2.out HVo.out).mono ?_); rintro e w2 ⟨rfl, hm2, hk2⟩
                      have cz := hk2.cell cy N2.out
                      have HF := Lib.hid (show Two w2 B p b1 b2 p' b1' b2' (putA (-1) now k v) was from ⟨HA1.out.keep hk2 (fun e => (HTB.out.apart HA1.out).1 e.symm) HTd.out.ne.2.1 HTd.out.ne.2.2.2.1, hm2, HTd.out.ne, HTd.out.base⟩)
                      have HB3 := Lib.hid (HB2.out.trans (hk2.below (B := B) (by have := HTd.out.base; have := blk_lt HA1.out.blk; omega) (fun i hi => by subst hi; exact HTd.out.base.2.2.2.2.1))))
                 rw [← HE.out]
                 clear hm2 hk2))
        refine hK.out _ _ ?_ (fun hHeld2 => ?_)
        · (try dsimp only)
          first | exact cx0 | exact cx1 | exact cx2 | exact cy | exact cyb | exact cz
        clear hK K hHeld1
        try simp only [Act.put, List.setIfInBounds_toArray, List.set_cons_zero, List.set_cons_succ]
        refine wpAnyH_ready (rs := [10]) (by kernel_rfl) (by simp) ?_
        refine readyN rfl (fun K hK => ?_) ?_
        · -- operation 10
          go_simp
          refine hK.out _ _ ?_ (fun hHeld3 => ?_)
          · (try dsimp only)
            first | exact cx0 | exact cx1 | exact cx2 | exact cy | exact cyb | exact cz
          clear hK K hHeld2
          try simp only [Act.put, List.setIfInBounds_toArray, List.set_cons_zero, List.set_cons_succ]
          refine wpAnyH_ready (rs := [11]) (by kernel_rfl) (by simp) ?_
          refine readyN rfl (fun K hK => ?_) ?_
          · -- operation 11
            go_simp
            go_wp2_with (
                first
                  | (go_at_call_of 22 (Value.pointer (some ⟨p, 0, none⟩))
                     first
                       | ((with_reducible refine (PA.out (bw wk.drew) (bv wk.drew) F1.out S1.out).mono ?_); rintro e w1 ⟨rfl, hm1, hk1⟩
                          have HVo := Lib.hid trivial
                          have cy := hk1.cell cx1 N1.out
                          have HTB := Lib.hid ((HTd.out.below F1.out).keepB hk1)
                          have HK2 := Lib.hid (bs_keep_now (HTd.out.below F1.out).a (HKd.out.below F1.out) hk1)
                          have HB2 := Lib.hid ((HBd.out.trans (F1.out.mono hb0.out)).trans (hk1.below (B := B) (by have := F1.out.size; have := hb0.out; omega) (fun i hi => by subst hi; exact HTd.out.base.2.1))))
                       | ((with_reducible refine (PA.out (bw (bw wk.drew)) (bv wk.drew) F2.out S21.out).mono ?_); rintro e w1 ⟨rfl, hm1, hk1⟩
                          have HVo := Lib.hid (bs_keep_now (HTd.out.below F2.out).a S22.out hk1)
                          have cy := hk1.cell cx2 N1.out
                          have HTB := Lib.hid ((HTd.out.below F2.out).keepB hk1)
                          have HK2 := Lib.hid (bs_keep_now (HTd.out.below F2.out).a (HKd.out.below F2.out) hk1)
                          have HB2 := Lib.hid ((HBd.out.trans (F2.out.mono hb0.out)).trans (hk1.below (B := B) (by have := F2.out.size; have := hb0.out; omega) (fun i hi => by subst hi; exact HTd.out.base.2.1))))
                       | ((with_reducible refine (PA.out (bw (bw wk.drew)) (bv (bw wk.drew)) F2.out S22.out).mono ?_); rintro e w1 ⟨rfl, hm1, hk1⟩
                          have HVo := Lib.hid (bs_keep_now (HTd.out.below F2.out).a S21.out hk1)
                          have cy := hk1.cell cx2 N1.out
                          have HTB := Lib.hid ((HTd.out.below F2.out).keepB hk1)
                          have HK2 := Lib.hid (bs_keep_now (HTd.out.below F2.out).a (HKd.out.below F2.out) hk1)
                          have HB2 := Lib.hid ((HBd.out.trans (F2.out.mono hb0.out)).trans (hk1.below (B := B) (by have := F2.out.size; have := hb0.out; omega) (fun i hi => by subst hi; exact HTd.out.base.2.1))))
                     have HA1 := Lib.hid hm1
                     have cyb := (Keep.ofBelow (G3.out w1) (fun _ => False)).cell cy (fun h => h)
                     rw [← HE.out]
                     clear hm1 hk1)
                  | (go_at_call_of 22 (Value.pointer (some ⟨p', 0, none⟩))
                     first
                       | ((with_reducible refine (PB.out (bw w1) (bv w1) _ (HTB.out.below (G3.out w1)) (HK2.out.below (G3.out w1)) (G2.out w1)).mono ?_); rintro e w2 ⟨rfl, hm2, hk2⟩
                          have cz := hk2.cell cyb N2.out
                          have HF := Lib.hid (show Two w2 B p b1 b2 p' b1' b2' (putA (-1) now k v) was from ⟨(HA1.out.below (G3.out w1)).keep hk2 (fun e => (HTB.out.apart HA1.out).1 e.symm) HTd.out.ne.2.1 HTd.out.ne.2.2.2.1, hm2, HTd.out.ne, HTd.out.base⟩)
                          have HB3 := Lib.hid ((HB2.out.trans ((G3.out w1).mono (by have := HTd.out.base; have := blk_lt HA1.out.blk; omega))).trans (hk2.below (B := B) (by have := (G3.out w1).size; have := HTd.out.base; have := blk_lt HA1.out.blk; omega) (fun i hi => by subst hi; exact HTd.out.base.2.2.2.2.1))))
                       | ((with_reducible refine (PB.out w1 _ _ HTB.out HK2.out HVo.out).mono ?_); rintro e w2 ⟨rfl, hm2, hk2⟩
                          have cz := hk2.cell cy N2.out
                          have HF := Lib.hid (show Two w2 B p b1 b2 p' b1' b2' (putA (-1) now k v) was from ⟨HA1.out.keep hk2 (fun e => (HTB.out.apart HA1.out).1 e.symm) HTd.out.ne.2.1 HTd.out.ne.2.2.2.1, hm2, HTd.out.ne, HTd.out.base⟩)
                          have HB3 := Lib.hid (HB2.out.trans (hk2.below (B := B) (by have := HTd.out.base; have := blk_lt HA1.out.blk; omega) (fun i hi => by subst hi; exact HTd.out.base.2.2.2.2.1))))
                     rw [← HE.out]
                     clear hm2 hk2))
            refine hK.out _ _ ?_ (fun hHeld4 => ?_)
            · (try dsimp only)
              first | exact cx0 | exact cx1 | exact cx2 | exact cy | exact cyb | exact cz
            clear hK K hHeld3
            try simp only [Act.put, List.setIfInBounds_toArray, List.set_cons_zero, List.set_cons_succ]
            refine takeN (v := ?_) 12 rfl (by kernel_rfl) (by kernel_rfl) (by kernel_rfl) (fun _ _ _ h => h) (by rfl) ?_ hHeld4 ?_
            rotate_left
            · intro w hSw; (try dsimp only at hSw); go_simp; with_reducible rfl
            try simp only [Act.put, List.setIfInBounds_toArray, List.set_cons_zero, List.set_cons_succ]
            refine takeN (v := ?_) 13 rfl (by kernel_rfl) (by kernel_rfl) (by kernel_rfl) (fun _ _ _ h => h) (by rfl) ?_ hHeld4 ?_
            rotate_left
            · intro w hSw; (try dsimp only at hSw); go_simp; with_reducible rfl
            try simp only [Act.put, List.setIfInBounds_toArray, List.set_cons_zero, List.set_cons_succ]
            refine wpAnyH_done (by kernel_rfl) ?_ _
            go_wp2
            go_ret
            exact ⟨by simp, _, _, _, _, _, _, HF.out, HN.out.putA _ _ _, HW.out.mono (by omega), HB3.out⟩
          exact AllReadyH.nil
        exact AllReadyH.nil
      refine readyN rfl (fun K hK => ?_) ?_
      · -- operation 10
        go_simp
        refine hK.out _ _ ?_ (fun hHeld2 => ?_)
        · (try dsimp only)
          first | exact cx0 | exact cx1 | exact cx2 | exact cy | exact cyb | exact cz
        clear hK K hHeld1
        try simp only [Act.put, List.setIfInBounds_toArray, List.set_cons_zero, List.set_cons_succ]
        refine wpAnyH_ready (rs := [5]) (by kernel_rfl) (by simp) ?_
        refine readyN rfl (fun K hK => ?_) ?_
        · -- operation 5
          go_simp
          go_wp2_with (
              first
                | (go_at_call_of 22 (Value.pointer (some ⟨p, 0, none⟩))
                   first
                     | ((with_reducible refine (PA.out (bw wk.drew) (bv wk.drew) F1.out S1.out).mono ?_); rintro e w1 ⟨rfl, hm1, hk1⟩
                        have HVo := Lib.hid trivial
                        have cy := hk1.cell cx1 N1.out
                        have HTB := Lib.hid ((HTd.out.below F1.out).keepB hk1)
                        have HK2 := Lib.hid (bs_keep_now (HTd.out.below F1.out).a (HKd.out.below F1.out) hk1)
                        have HB2 := Lib.hid ((HBd.out.trans (F1.out.mono hb0.out)).trans (hk1.below (B := B) (by have := F1.out.size; have := hb0.out; omega) (fun i hi => by subst hi; exact HTd.out.base.2.1))))
                     | ((with_reducible refine (PA.out (bw (bw wk.drew)) (bv wk.drew) F2.out S21.out).mono ?_); rintro e w1 ⟨rfl, hm1, hk1⟩
                        have HVo := Lib.hid (bs_keep_now (HTd.out.below F2.out).a S22.out hk1)
                        have cy := hk1.cell cx2 N1.out
                        have HTB := Lib.hid ((HTd.out.below F2.out).keepB hk1)
                        have HK2 := Lib.hid (bs_keep_now (HTd.out.below F2.out).a (HKd.out.below F2.out) hk1)
                        have HB2 := Lib.hid ((HBd.out.trans (F2.out.mono hb0.out)).trans (hk1.below (B := B) (by have := F2.out.size; have := hb0.out; omega) (fun i hi => by subst hi; exact HTd.out.base.2.1))))
                     | ((with_reducible refine (PA.out (bw (bw wk.drew)) (bv (bw wk.drew)) F2.out S22.out).mono ?_); rintro e w1 ⟨rfl, hm1, hk1⟩
                        have HVo := Lib.hid (bs_keep_now (HTd.out.below F2.out).a S21.out hk1)
                        have cy := hk1.cell cx2 N1.out
                        have HTB := Lib.hid ((HTd.out.below F2.out).keepB hk1)
                        have HK2 := Lib.hid (bs_keep_now (HTd.out.below F2.out).a (HKd.out.below F2.out) hk1)
                        have HB2 := Lib.hid ((HBd.out.trans (F2.out.mono hb0.out)).trans (hk1.below (B := B) (by have := F2.out.size; have := hb0.out; omega) (fun i hi => by subst hi; exact HTd.out.base.2.1))))
                   have HA1 := Lib.hid hm1
                   have cyb := (Keep.ofBelow (G3.out w1) (fun _ => False)).cell cy (fun h => h)
                   rw [← HE.out]
                   clear hm1 hk1)
                | (go_at_call_of 22 (Value.pointer (some ⟨p', 0, none⟩))
                   first
                     | ((with_reducible refine (PB.out (bw w1) (bv w1) _ (HTB.out.below (G3.out w1)) (HK2.out.below (G3.out w1)) (G2.out w1)).mono ?_); rintro e w2 ⟨rfl, hm2, hk2⟩
                        have cz := hk2.cell cyb N2.out
                        have HF := Lib.hid (show Two w2 B p b1 b2 p' b1' b2' (putA (-1) now k v) was from ⟨(HA1.out.below (G3.out w1)).keep hk2 (fun e => (HTB.out.apart HA1.out).1 e.symm) HTd.out.ne.2.1 HTd.out.ne.2.2.2.1, hm2, HTd.out.ne, HTd.out.base⟩)
                        have HB3 := Lib.hid ((HB2.out.trans ((G3.out w1).mono (by have := HTd.out.base; have := blk_lt HA1.out.blk; omega))).trans (hk2.below (B := B) (by have := (G3.out w1).size; have := HTd.out.base; have := blk_lt HA1.out.blk; omega) (fun i hi => by subst hi; exact HTd.out.base.2.2.2.2.1))))
                     | ((with_reducible refine (PB.out w1 _ _ HTB.out HK2.out HVo.out).mono ?_); rintro e w2 ⟨rfl, hm2, hk2⟩
                        have cz := hk2.cell cy N2.out
                        have HF := Lib.hid (show Two w2 B p b1 b2 p' b1' b2' (putA (-1) now k v) was from ⟨HA1.out.keep hk2 (fun e => (HTB.out.apart HA1.out).1 e.symm) HTd.out.ne.2.1 HTd.out.ne.2.2.2.1, hm2, HTd.out.ne, HTd.out.base⟩)
                        have HB3 := Lib.hid (HB2.out.trans (hk2.below (B := B) (by have := HTd.out.base; have := blk_lt HA1.out.blk; omega) (fun i hi => by subst hi; exact HTd.out.base.2.2.2.2.1))))
                   rw [← HE.out]
                   clear hm2 hk2))
          refine hK.out _ _ ?_ (fun hHeld3 => ?_)
          · (try dsimp only)
            first | exact cx0 | exact cx1 | exact cx2 | exact cy | exact cyb | exact cz
          clear hK K hHeld2
          try simp only [Act.put, List.setIfInBounds_toArray, List.set_cons_zero, List.set_cons_succ]
          refine wpAnyH_ready (rs := [11]) (by kernel_rfl) (by simp) ?_
          refine readyN rfl (fun K hK => ?_) ?_
          · -- operation 11
            go_simp
            go_wp2_with (
                first
                  | (go_at_call_of 22 (Value.pointer (some ⟨p, 0, none⟩))
                     first
                       | ((with_reducible refine (PA.out (bw wk.drew) (bv wk.drew) F1.out S1.out).mono ?_); rintro e w1 ⟨rfl, hm1, hk1⟩
                          have HVo := Lib.hid trivial
                          have cy := hk1.cell cx1 N1.out
                          have HTB := Lib.hid ((HTd.out.below F1.out).keepB hk1)
                          have HK2 := Lib.hid (bs_keep_now (HTd.out.below F1.out).a (HKd.out.below F1.out) hk1)
                          have HB2 := Lib.hid ((HBd.out.trans (F1.out.mono hb0.out)).trans (hk1.below (B := B) (by have := F1.out.size; have := hb0.out; omega) (fun i hi => by subst hi; exact HTd.out.base.2.1))))
                       | ((with_reducible refine (PA.out (bw (bw wk.drew)) (bv wk.drew) F2.out S21.out).mono ?_); rintro e w1 ⟨rfl, hm1, hk1⟩
                          have HVo := Lib.hid (bs_keep_now (HTd.out.below F2.out).a S22.out hk1)
                          have cy := hk1.cell cx2 N1.out
                          have HTB := Lib.hid ((HTd.out.below F2.out).keepB hk1)
                          have HK2 := Lib.hid (bs_keep_now (HTd.out.below F2.out).a (HKd.out.below F2.out) hk1)
                          have HB2 := Lib.hid ((HBd.out.trans (F2.out.mono hb0.out)).trans (hk1.below (B := B) (by have := F2.out.size; have := hb0.out; omega) (fun i hi => by subst hi; exact HTd.out.base.2.1))))
                       | ((with_reducible refine (PA.out (bw (bw wk.drew)) (bv (bw wk.drew)) F2.out S22.out).mono ?_); rintro e w1 ⟨rfl, hm1, hk1⟩
                          have HVo := Lib.hid (bs_keep_now (HTd.out.below F2.out).a S21.out hk1)
                          have cy := hk1.cell cx2 N1.out
                          have HTB := Lib.hid ((HTd.out.below F2.out).keepB hk1)
                          have HK2 := Lib.hid (bs_keep_now (HTd.out.below F2.out).a (HKd.out.below F2.out) hk1)
                          have HB2 := Lib.hid ((HBd.out.trans (F2.out.mono hb0.out)).trans (hk1.below (B := B) (by have := F2.out.size; have := hb0.out; omega) (fun i hi => by subst hi; exact HTd.out.base.2.1))))
                     have HA1 := Lib.hid hm1
                     have cyb := (Keep.ofBelow (G3.out w1) (fun _ => False)).cell cy (fun h => h)
                     rw [← HE.out]
                     clear hm1 hk1)
                  | (go_at_call_of 22 (Value.pointer (some ⟨p', 0, none⟩))
                     first
                       | ((with_reducible refine (PB.out (bw w1) (bv w1) _ (HTB.out.below (G3.out w1)) (HK2.out.below (G3.out w1)) (G2.out w1)).mono ?_); rintro e w2 ⟨rfl, hm2, hk2⟩
                          have cz := hk2.cell cyb N2.out
                          have HF := Lib.hid (show Two w2 B p b1 b2 p' b1' b2' (putA (-1) now k v) was from ⟨(HA1.out.below (G3.out w1)).keep hk2 (fun e => (HTB.out.apart HA1.out).1 e.symm) HTd.out.ne.2.1 HTd.out.ne.2.2.2.1, hm2, HTd.out.ne, HTd.out.base⟩)
                          have HB3 := Lib.hid ((HB2.out.trans ((G3.out w1).mono (by have := HTd.out.base; have := blk_lt HA1.out.blk; omega))).trans (hk2.below (B := B) (by have := (G3.out w1).size; have := HTd.out.base; have := blk_lt HA1.out.blk; omega) (fun i hi => by subst hi; exact HTd.out.base.2.2.2.2.1))))
                       | ((with_reducible refine (PB.out w1 _ _ HTB.out HK2.out HVo.out).mono ?_); rintro e w2 ⟨rfl, hm2, hk2⟩
                          have cz := hk2.cell cy N2.out
                          have HF := Lib.hid (show Two w2 B p b1 b2 p' b1' b2' (putA (-1) now k v) was from ⟨HA1.out.keep hk2 (fun e => (HTB.out.apart HA1.out).1 e.symm) HTd.out.ne.2.1 HTd.out.ne.2.2.2.1, hm2, HTd.out.ne, HTd.out.base⟩)
                          have HB3 := Lib.hid (HB2.out.trans (hk2.below (B := B) (by have := HTd.out.base; have := blk_lt HA1.out.blk; omega) (fun i hi => by subst hi; exact HTd.out.base.2.2.2.2.1))))
                     rw [← HE.out]
                     clear hm2 hk2))
            refine hK.out _ _ ?_ (fun hHeld4 => ?_)
            · (try dsimp only)
              first | exact cx0 | exact cx1 | exact cx2 | exact cy | exact cyb | exact cz
            clear hK K hHeld3
            try simp only [Act.put, List.setIfInBounds_toArray, List.set_cons_zero, List.set_cons_succ]
            refine takeN (v := ?_) 12 rfl (by kernel_rfl) (by kernel_rfl) (by kernel_rfl) (fun _ _ _ h => h) (by rfl) ?_ hHeld4 ?_
            rotate_left
            · intro w hSw; (try dsimp only at hSw); go_simp; with_reducible rfl
            try simp only [Act.put, List.setIfInBounds_toArray, List.set_cons_zero, List.set_cons_succ]
            refine takeN (v := ?_) 13 rfl (by kernel_rfl) (by kernel_rfl) (by kernel_rfl) (fun _ _ _ h => h) (by rfl) ?_ hHeld4 ?_
            rotate_left
            · intro w hSw; (try dsimp only at hSw); go_simp; with_reducible rfl
            try simp only [Act.put, List.setIfInBounds_toArray, List.set_cons_zero, List.set_cons_succ]
            refine wpAnyH_done (by kernel_rfl) ?_ _
            go_wp2
            go_ret
            exact ⟨by simp, _, _, _, _, _, _, HF.out, HN.out.putA _ _ _, HW.out.mono (by omega), HB3.out⟩
          exact AllReadyH.nil
        exact AllReadyH.nil
      exact AllReadyH.nil
    refine readyN rfl (fun K hK => ?_) ?_
    · -- operation 10
      go_simp
      refine hK.out _ _ ?_ (fun hHeld1 => ?_)
      · (try dsimp only)
        first | exact cx0 | exact cx1 | exact cx2 | exact cy | exact cyb | exact cz
      clear hK K hHeld0
      try simp only [Act.put, List.setIfInBounds_toArray, List.set_cons_zero, List.set_cons_succ]
      refine wpAnyH_ready (rs := [4]) (by kernel_rfl) (by simp) ?_
      refine readyN rfl (fun K hK => ?_) ?_
      · -- operation 4
        go_simp
        refine hK.out _ _ ?_ (fun hHeld2 => ?_)
        · (try dsimp only)
          first | exact cx0 | exact cx1 | exact cx2 | exact cy | exact cyb | exact cz
        clear hK K hHeld1
        try simp only [Act.put, List.setIfInBounds_toArray, List.set_cons_zero, List.set_cons_succ]
        refine wpAnyH_ready (rs := [5]) (by kernel_rfl) (by simp) ?_
        refine readyN rfl (fun K hK => ?_) ?_
        · -- operation 5
          go_simp
          go_wp2_with (
              first
                | (go_at_call_of 22 (Value.pointer (some ⟨p, 0, none⟩))
                   first
                     | ((with_reducible refine (PA.out (bw wk.drew) (bv wk.drew) F1.out S1.out).mono ?_); rintro e w1 ⟨rfl, hm1, hk1⟩
                        have HVo := Lib.hid trivial
                        have cy := hk1.cell cx1 N1.out
                        have HTB := Lib.hid ((HTd.out.below F1.out).keepB hk1)
                        have HK2 := Lib.hid (bs_keep_now (HTd.out.below F1.out).a (HKd.out.below F1.out) hk1)
                        have HB2 := Lib.hid ((HBd.out.trans (F1.out.mono hb0.out)).trans (hk1.below (B := B) (by have := F1.out.size; have := hb0.out; omega) (fun i hi => by subst hi; exact HTd.out.base.2.1))))
                     | ((with_reducible refine (PA.out (bw (bw wk.drew)) (bv wk.drew) F2.out S21.out).mono ?_); rintro e w1 ⟨rfl, hm1, hk1⟩
                        have HVo := Lib.hid (bs_keep_now (HTd.out.below F2.out).a S22.out hk1)
                        have cy := hk1.cell cx2 N1.out
                        have HTB := Lib.hid ((HTd.out.below F2.out).keepB hk1)
                        have HK2 := Lib.hid (bs_keep_now (HTd.out.below F2.out).a (HKd.out.below F2.out) hk1)
                        have HB2 := Lib.hid ((HBd.out.trans (F2.out.mono hb0.out)).trans (hk1.below (B := B) (by have := F2.out.size; have := hb0.out; omega) (fun i hi => by subst hi; exact HTd.out.base.2.1))))
                     | ((with_reducible refine (PA.out (bw (bw wk.drew)) (bv (bw wk.drew)) F2.out S22.out).mono ?_); rintro e w1 ⟨rfl, hm1, hk1⟩
                        have HVo := Lib.hid (bs_keep_now (HTd.out.below F2.out).a S21.out hk1)
                        have cy := hk1.cell cx2 N1.out
                        have HTB := Lib.hid ((HTd.out.below F2.out).keepB hk1)
                        have HK2 := Lib.hid (bs_keep_now (HTd.out.below F2.out).a (HKd.out.below F2.out) hk1)
                        have HB2 := Lib.hid ((HBd.out.trans (F2.out.mono hb0.out)).trans (hk1.below (B := B) (by have := F2.out.size; have := hb0.out; omega) (fun i hi => by subst hi; exact HTd.out.base.2.1))))
                   have HA1 := Lib.hid hm1
                   have cyb := (Keep.ofBelow (G3.out w1) (fun _ => False)).cell cy (fun h => h)
                   rw [← HE.out]
                   clear hm1 hk1)
                | (go_at_call_of 22 (Value.pointer (some ⟨p', 0, none⟩))
                   first
                     | ((with_reducible refine (PB.out (bw w1) (bv w1) _ (HTB.out.below (G3.out w1)) (HK2.out.below (G3.out w1)) (G2.out w1)).mono ?_); rintro e w2 ⟨rfl, hm2, hk2⟩
                        have cz := hk2.cell cyb N2.out
                        have HF := Lib.hid (show Two w2 B p b1 b2 p' b1' b2' (putA (-1) now k v) was from ⟨(HA1.out.below (G3.out w1)).keep hk2 (fun e => (HTB.out.apart HA1.out).1 e.symm) HTd.out.ne.2.1 HTd.out.ne.2.2.2.1, hm2, HTd.out.ne, HTd.out.base⟩)
                        have HB3 := Lib.hid ((HB2.out.trans ((G3.out w1).mono (by have := HTd.out.base; have := blk_lt HA1.out.blk; omega))).trans (hk2.below (B := B) (by have := (G3.out w1).size; have := HTd.out.base; have := blk_lt HA1.out.blk; omega) (fun i hi => by subst hi; exact HTd.out.base.2.2.2.2.1))))
                     | ((with_reducible refine (PB.out w1 _ _ HTB.out HK2.out HVo.out).mono ?_); rintro e w2 ⟨rfl, hm2, hk2⟩
                        have cz := hk2.cell cy N2.out
                        have HF := Lib.hid (show Two w2 B p b1 b2 p' b1' b2' (putA (-1) now k v) was from ⟨HA1.out.keep hk2 (fun e => (HTB.out.apart HA1.out).1 e.symm) HTd.out.ne.2.1 HTd.out.ne.2.2.2.1, hm2, HTd.out.ne, HTd.out.base⟩)
                        have HB3 := Lib.hid (HB2.out.trans (hk2.below (B := B) (by have := HTd.out.base; have := blk_lt HA1.out.blk; omega) (fun i hi => by subst hi; exact HTd.out.base.2.2.2.2.1))))
                   rw [← HE.out]
                   clear hm2 hk2))
          refine hK.out _ _ ?_ (fun hHeld3 => ?_)
          · (try dsimp only)
            first | exact cx0 | exact cx1 | exact cx2 | exact cy | exact cyb | exact cz
          clear hK K hHeld2
          try simp only [Act.put, List.setIfInBounds_toArray, List.set_cons_zero, List.set_cons_succ]
          refine wpAnyH_ready (rs := [11]) (by kernel_rfl) (by simp) ?_
          refine readyN rfl (fun K hK => ?_) ?_
          · -- operation 11
            go_simp
            go_wp2_with (
                first
                  | (go_at_call_of 22 (Value.pointer (some ⟨p, 0, none⟩))
                     first
                       | ((with_reducible refine (PA.out (bw wk.drew) (bv wk.drew) F1.out S1.out).mono ?_); rintro e w1 ⟨rfl, hm1, hk1⟩
                          have HVo := Lib.hid trivial
                          have cy := hk1.cell cx1 N1.out
                          have HTB := Lib.hid ((HTd.out.below F1.out).keepB hk1)
                          have HK2 := Lib.hid (bs_keep_now (HTd.out.below F1.out).a (HKd.out.below F1.out) hk1)
                          have HB2 := Lib.hid ((HBd.out.trans (F1.out.mono hb0.out)).trans (hk1.below (B := B) (by have := F1.out.size; have := hb0.out; omega) (fun i hi => by subst hi; exact HTd.out.base.2.1))))
                       | ((with_reducible refine (PA.out (bw (bw wk.drew)) (bv wk.drew) F2.out S21.out).mono ?_); rintro e w1 ⟨rfl, hm1, hk1⟩
                          have HVo := Lib.hid (bs_keep_now (HTd.out.below F2.out).a S22.out hk1)
                          have cy := hk1.cell cx2 N1.out
                          have HTB := Lib.hid ((HTd.out.below F2.out).keepB hk1)
                          have HK2 := Lib.hid (bs_keep_now (HTd.out.below F2.out).a (HKd.out.below F2.out) hk1)
                          have HB2 := Lib.hid ((HBd.out.trans (F2.out.mono hb0.out)).trans (hk1.below (B := B) (by have := F2.out.size; have := hb0.out; omega) (fun i hi => by subst hi; exact HTd.out.base.2.1))))
                       | ((with_reducible refine (PA.out (bw (bw wk.drew)) (bv (bw wk.drew)) F2.out S22.out).mono ?_); rintro e w1 ⟨rfl, hm1, hk1⟩
                          have HVo := Lib.hid (bs_keep_now (HTd.out.below F2.out).a S21.out hk1)
                          have cy := hk1.cell cx2 N1.out
                          have HTB := Lib.hid ((HTd.out.below F2.out).keepB hk1)
                          have HK2 := Lib.hid (bs_keep_now (HTd.out.below F2.out).a (HKd.out.below F2.out) hk1)
                          have HB2 := Lib.hid ((HBd.out.trans (F2.out.mono hb0.out)).trans (hk1.below (B := B) (by have := F2.out.size; have := hb0.out; omega) (fun i hi => by subst hi; exact HTd.out.base.2.1))))
                     have HA1 := Lib.hid hm1
                     have cyb := (Keep.ofBelow (G3.out w1) (fun _ => False)).cell cy (fun h => h)
                     rw [← HE.out]
                     clear hm1 hk1)
                  | (go_at_call_of 22 (Value.pointer (some ⟨p', 0, none⟩))
                     first
                       | ((with_reducible refine (PB.out (bw w1) (bv w1) _ (HTB.out.below (G3.out w1)) (HK2.out.below (G3.out w1)) (G2.out w1)).mono ?_); rintro e w2 ⟨rfl, hm2, hk2⟩
                          have cz := hk2.cell cyb N2.out
                          have HF := Lib.hid (show Two w2 B p b1 b2 p' b1' b2' (putA (-1) now k v) was from ⟨(HA1.out.below (G3.out w1)).keep hk2 (fun e => (HTB.out.apart HA1.out).1 e.symm) HTd.out.ne.2.1 HTd.out.ne.2.2.2.1, hm2, HTd.out.ne, HTd.out.base⟩)
                          have HB3 := Lib.hid ((HB2.out.trans ((G3.out w1).mono (by have := HTd.out.base; have := blk_lt HA1.out.blk; omega))).trans (hk2.below (B := B) (by have := (G3.out w1).size; have := HTd.out.base; have := blk_lt HA1.out.blk; omega) (fun i hi => by subst hi; exact HTd.out.base.2.2.2.2.1))))
                       | ((with_reducible refine (PB.out w1 _ _ HTB.out HK2.out HVo.out).mono ?_); rintro e w2 ⟨rfl, hm2, hk2⟩
                          have cz := hk2.cell cy N2.out
                          have HF := Lib.hid (show Two w2 B p b1 b2 p' b1' b2' (putA (-1) now k v) was from ⟨HA1.out.keep hk2 (fun e => (HTB.out.apart HA1.out).1 e.symm) HTd.out.ne.2.1 HTd.out.ne.2.2.2.1, hm2, HTd.out.ne, HTd.out.base⟩)
                          have HB3 := Lib.hid (HB2.out.trans (hk2.below (B := B) (by have := HTd.out.base; have := blk_lt HA1.out.blk; omega) (fun i hi => by subst hi; exact HTd.out.base.2.2.2.2.1))))
                     rw [← HE.out]
                     clear hm2 hk2))
            refine hK.out _ _ ?_ (fun hHeld4 => ?_)
            · (try dsimp only)
              first | exact cx0 | exact cx1 | exact cx2 | exact cy | exact cyb | exact cz
            clear hK K hHeld3
            try simp only [Act.put, List.setIfInBounds_toArray, List.set_cons_zero, List.set_cons_succ]
            refine takeN (v := ?_) 12 rfl (by kernel_rfl) (by kernel_rfl) (by kernel_rfl) (fun _ _ _ h => h) (by rfl) ?_ hHeld4 ?_
            rotate_left
            · intro w hSw; (try dsimp only at hSw); go_simp; with_reducible rfl
            try simp only [Act.put, List.setIfInBounds_toArray, List.set_cons_zero, List.set_cons_succ]
            refine takeN (v := ?_) 13 rfl (by kernel_rfl) (by kernel_rfl) (by kernel_rfl) (fun _ _ _ h => h) (by rfl) ?_ hHeld4 ?_
            rotate_left
            · intro w hSw; (try dsimp only at hSw); go_simp; with_reducible rfl
            try simp only [Act.put, List.setIfInBounds_toArray, List.set_cons_zero, List.set_cons_succ]
            refine wpAnyH_done (by kernel_rfl) ?_ _
            go_wp2
            go_ret
            exact ⟨by simp, _, _, _, _, _, _, HF.out, HN.out.putA _ _ _, HW.out.mono (by omega), HB3.out⟩
          exact AllReadyH.nil
        exact AllReadyH.nil
      exact AllReadyH.nil
    exact AllReadyH.nil
  · rw [hrr] at h
    have hvs := Lib.hid (show ∀ u, AL.get k now = some u → u.size ≤ 9223372036854775807 from fun u hu => by have := HN.out.get hu; omega)
    go_enter Try.func42, Try.ntmps42
    go_wp2_with fail
    refine (get_any p (-1) b1 b2 now was _ k wk HT1.out.a HK.out hvs.out).mono ?_
    rintro e w1 ⟨v1, rfl, hm1, hb1⟩
    have HT2 := Lib.hid (HT1.out.below hb1)
    have HB2 := Lib.hid (HB1.out.trans (hb1.mono (Nat.le_trans hB.out (Nat.le_of_lt (blk_lt HBX.out) |> fun h => by have := HT1.out.base; have := blk_lt HT1.out.a.blk; omega))))
    have HK2 := Lib.hid (HK.out.below hb1)
    have HV1 := Lib.hid hm1.1
    clear hm1 hb1
    go_wp2_with fail
    refine (get_any p' (-1) b1' b2' now was _ k w1 HT2.out.b HK2.out hvs.out).mono ?_
    rintro e w2 ⟨v2, rfl, hm2, hb2⟩
    have HT3 := Lib.hid (HT2.out.below hb2)
    have HB3 := Lib.hid (HB2.out.trans (hb2.mono (by have := HT2.out.base; have := blk_lt HT2.out.a.blk; omega)))
    have cv1 := (HV1.out.below hb2).string (P := Try.prog) 23 5 9 uBytes uByte uStr
    have cv2 := hm2.1.string (P := Try.prog) 23 5 9 uBytes uByte uStr
    obtain ⟨g, hg⟩ : ∃ g, g = (AL.get k now).getD ByteArray.empty := ⟨_, rfl⟩
    rw [← hg] at cv1 cv2
    have q1 : (g.toList == g.toList) = true := by simp
    clear hm2 hb2 hg HV1
    go_wp2
    go_ret
    exact ⟨by simp, _, _, _, _, _, _, HT3.out, HN.out.mono (by omega), HW.out.mono (by omega), HB3.out⟩
  · rw [hrr] at h
    go_enter Try.func42, Try.ntmps42
    go_wp2_with fail
    refine (delete_any p (-1) b1 b2 now was _ k wk HT1.out.a HK.out).mono ?_
    rintro e w1 ⟨rfl, hm1, hk1⟩
    have HA1 := Lib.hid hm1
    have HTB := Lib.hid (HT1.out.keepB hk1)
    have HK2 := Lib.hid (bs_keep_now HT1.out.a HK.out hk1)
    have HB2 := Lib.hid (HB1.out.trans (hk1.below (B := B) (by have := HT1.out.base; have := blk_lt HT1.out.a.blk; omega) (fun i hi => by subst hi; exact HT1.out.base.2.1)))
    clear hm1 hk1
    go_wp2_with fail
    refine (delete_any p' (-1) b1' b2' now was _ k w1 HTB.out HK2.out).mono ?_
    rintro e w2 ⟨rfl, hm2, hk2⟩
    have HF := Lib.hid (show Two w2 B p b1 b2 p' b1' b2' (AL.del k now) was from ⟨HA1.out.keep hk2 (fun e => (HTB.out.apart HA1.out).1 e.symm) HT1.out.ne.2.1 HT1.out.ne.2.2.2.1, hm2, HT1.out.ne, HT1.out.base⟩)
    have HB3 := Lib.hid (HB2.out.trans (hk2.below (B := B) (by have := HT1.out.base; have := blk_lt HA1.out.blk; omega) (fun i hi => by subst hi; exact HT1.out.base.2.2.2.2.1)))
    clear hm2 hk2
    generalize (AL.get k now).isSome = g
    go_wp2
    go_ret
    exact ⟨by simp, _, _, _, _, _, _, HF.out, (HN.out.del k).mono (by omega), HW.out.mono (by omega), HB3.out⟩
  · rw [hrr] at h
    go_enter Try.func42, Try.ntmps42
    go_wp2_with fail
    refine (commit_any p (-1) b1 b2 now was wk HT1.out.a).mono ?_
    rintro e w1 ⟨rfl, b3, hb3, hm1, hk1⟩
    have HA1 := Lib.hid hm1
    have HTB := Lib.hid (HT1.out.keepBp hk1)
    have HB2 := Lib.hid (HB1.out.trans (hk1.below (B := B) (by have := HT1.out.base; have := blk_lt HT1.out.a.blk; omega) (fun i hi => by subst hi; exact HT1.out.base.1)))
    have H3 := Lib.hid hb3
    have HS1 := Lib.hid hk1.size
    clear hm1 hk1 hb3
    go_wp2_with fail
    refine (commit_any p' (-1) b1' b2' now was w1 HTB.out).mono ?_
    rintro e w2 ⟨rfl, b3', hb3', hm2, hk2⟩
    have HF := Lib.hid (show Two w2 B p b1 b3 p' b1' b3' now now from ⟨HA1.out.keep hk2 (fun e => HT1.out.ne.1 e) (fun e => (HA1.out.apart HTB.out).1 e) (fun e => (HA1.out.apart HTB.out).2 e), hm2,
      ⟨HT1.out.ne.1, HT1.out.ne.2.1, by have := HA1.out.now.lt; omega, by have := HT1.out.b.now.lt; have := H3.out; omega, by have := HA1.out.was.lt; omega⟩,
      ⟨HT1.out.base.1, HT1.out.base.2.1, by have := HT1.out.base.1; have := blk_lt HT1.out.a.blk; have := H3.out; omega, HT1.out.base.2.2.2.1, HT1.out.base.2.2.2.2.1, by have := HT1.out.base.1; have := blk_lt HA1.out.blk; omega⟩⟩)
    have HB3 := Lib.hid (HB2.out.trans (hk2.below (B := B) (by have := HT1.out.base; have := blk_lt HA1.out.blk; omega) (fun i hi => by subst hi; exact HT1.out.base.2.2.2.1)))
    clear hm2 hk2 hb3'
    go_wp2
    go_ret
    exact ⟨by simp, _, _, _, _, _, _, HF.out, HN.out.mono (by omega), HN.out.mono (by omega), HB3.out⟩
  · rw [hrr] at h
    go_enter Try.func42, Try.ntmps42
    go_wp2_with fail
    refine (abort_any p (-1) b1 b2 now was wk HT1.out.a).mono ?_
    rintro e w1 ⟨rfl, b3, hb3, hm1, hk1⟩
    have HA1 := Lib.hid hm1
    have HTB := Lib.hid (HT1.out.keepBp hk1)
    have HB2 := Lib.hid (HB1.out.trans (hk1.below (B := B) (by have := HT1.out.base; have := blk_lt HT1.out.a.blk; omega) (fun i hi => by subst hi; exact HT1.out.base.1)))
    have H3 := Lib.hid hb3
    clear hm1 hk1 hb3
    go_wp2_with fail
    refine (abort_any p' (-1) b1' b2' now was w1 HTB.out).mono ?_
    rintro e w2 ⟨rfl, b3', hb3', hm2, hk2⟩
    have HF := Lib.hid (show Two w2 B p b3 b2 p' b3' b2' was was from ⟨HA1.out.keep hk2 (fun e => HT1.out.ne.1 e) (fun e => (HA1.out.apart HTB.out).1 e) (fun e => (HA1.out.apart HTB.out).2 e), hm2,
      ⟨HT1.out.ne.1, by have := HA1.out.now.lt; omega, by have := HT1.out.b.was.lt; have := H3.out; omega, by have := HA1.out.was.lt; omega, HT1.out.ne.2.2.2.2⟩,
      ⟨HT1.out.base.1, by have := HT1.out.base.1; have := blk_lt HT1.out.a.blk; have := H3.out; omega, HT1.out.base.2.2.1, HT1.out.base.2.2.2.1, by have := HT1.out.base.1; have := blk_lt HA1.out.blk; omega, HT1.out.base.2.2.2.2.2⟩⟩)
    have HB3 := Lib.hid (HB2.out.trans (hk2.below (B := B) (by have := HT1.out.base; have := blk_lt HA1.out.blk; omega) (fun i hi => by subst hi; exact HT1.out.base.2.2.2.1)))
    clear hm2 hk2 hb3'
    go_wp2
    go_ret
    exact ⟨by simp, _, _, _, _, _, _, HF.out, HW.out.mono (by omega), HW.out.mono (by omega), HB3.out⟩
  · rw [hrr] at h
    have hvs := Lib.hid (show ∀ u, AL.get k now = some u → u.size ≤ 9223372036854775807 from fun u hu => by have := HN.out.get hu; omega)
    go_enter Try.func42, Try.ntmps42
    go_wp2_with fail
    refine (number_any p (-1) b1 b2 now was _ k wk HT1.out.a HK.out hvs.out).mono ?_
    rintro e w1 ⟨rfl, hb1⟩
    have HT2 := Lib.hid (HT1.out.below hb1)
    have HB2 := Lib.hid (HB1.out.trans (hb1.mono (by have := HT1.out.base; have := blk_lt HT1.out.a.blk; omega)))
    have HK2 := Lib.hid (HK.out.below hb1)
    clear hb1
    go_wp2_with fail
    refine (number_any p' (-1) b1' b2' now was _ k w1 HT2.out.b HK2.out hvs.out).mono ?_
    rintro e w2 ⟨rfl, hb2⟩
    have HT3 := Lib.hid (HT2.out.below hb2)
    have HB3 := Lib.hid (HB2.out.trans (hb2.mono (by have := HT2.out.base; have := blk_lt HT2.out.a.blk; omega)))
    clear hb2
    generalize numOf (AL.get k now) = g1
    generalize numE (AL.get k now) = g2
    go_wp2
    go_ret
    exact ⟨by simp, _, _, _, _, _, _, HT3.out, HN.out.mono (by omega), HW.out.mono (by omega), HB3.out⟩
  · rw [hrr] at h
    have HTd := Lib.hid (show Two wk.drew B p b1 b2 p' b1' b2' now was from HT1.out.below ((Below.refl _ _).drew))
    have HKd : Hid (BS wk.drew _ k) := HK
    have hl : now.length ≤ 9223372036854775807 := by have := HN.out.len; omega
    have c3d : wk.drew.cell? ⟨w.heap.size, 3, none⟩ = some (.int .u64 n) := c3
    have hne1 : ¬ (w.heap.size = b1) := fun e => by have h' := c3; rw [e, HT1.out.a.now.nocell] at h'; cases h'
    have hne2 : ¬ (w.heap.size = b1') := fun e => by have h' := c3; rw [e, HT1.out.b.now.nocell] at h'; cases h'
    have N1 := Lib.hid hne1
    have N2 := Lib.hid hne2
    have HBd := Lib.hid (show Below B w wk.drew from HB1.out.drew)
    obtain ⟨E, hE⟩ : ∃ E, E = setE (-1) now k n := ⟨_, rfl⟩
    have HE := Lib.hid hE
    clear hne1 hne2 hE
    go_enter Try.func42, Try.ntmps42
    go_wp2_with fail
    go_region_held3 (fun w' => w'.cell? ⟨w.heap.size, 3, none⟩ = some (.int .u64 n)) (first | exact c33 | exact c32 | go_keep)
      (first
        | (go_at_call_of 27 (Value.iface 29 (.pointer (some ⟨p, 0, none⟩))); refine (set_any p (-1) b1 b2 now was _ k n hnn.out.1 hnn.out.2 wk.drew HTd.out.a HKd.out hl).mono ?_; rintro e w1 ⟨rfl, hm1, hk1⟩
           have c32 := hk1.cell c3d N1.out
           have HA1 := Lib.hid hm1
           have HTB := Lib.hid (HTd.out.keepB hk1)
           have HK2 := Lib.hid (bs_keep_now HTd.out.a HKd.out hk1)
           have HB2 := Lib.hid (HBd.out.trans (hk1.below (B := B) (by have := HTd.out.base; have := blk_lt HTd.out.a.blk; omega) (fun i hi => by subst hi; exact HTd.out.base.2.1)))
           rw [← HE.out]
           clear hm1 hk1)
        | (go_at_call_of 27 (Value.iface 29 (.pointer (some ⟨p', 0, none⟩))); refine (set_any p' (-1) b1' b2' now was _ k n hnn.out.1 hnn.out.2 w1 HTB.out HK2.out hl).mono ?_; rintro e w2 ⟨rfl, hm2, hk2⟩
           have c33 := hk2.cell c32 N2.out
           have HF := Lib.hid (show Two w2 B p b1 b2 p' b1' b2' (setA (-1) now k n) was from ⟨HA1.out.keep hk2 (fun e => (HTB.out.apart HA1.out).1 e.symm) HTd.out.ne.2.1 HTd.out.ne.2.2.2.1, hm2, HTd.out.ne, HTd.out.base⟩)
           have HB3 := Lib.hid (HB2.out.trans (hk2.below (B := B) (by have := HTd.out.base; have := blk_lt HA1.out.blk; omega) (fun i hi => by subst hi; exact HTd.out.base.2.2.2.2.1)))
           rw [← HE.out]
           clear hm2 hk2))
    go_wp2
    go_ret
    exact ⟨by simp, _, _, _, _, _, _, HF.out, HN.out.setA _ _ _, HW.out.mono (by omega), HB3.out⟩
  · rw [hrr] at h
    go_enter Try.func42, Try.ntmps42
    go_wp2_with fail
    refine (scan_any p (-1) b1 b2 now was _ k wk HT1.out.a HK.out (HN.out.sml (by omega)) HN.out.nd).mono ?_
    rintro e w1 ⟨v1, rfl, hm1, hb1⟩
    obtain ⟨sa1, sc1, rfl, _⟩ := hm1
    have HT2 := Lib.hid (HT1.out.below hb1)
    have HB2 := Lib.hid (HB1.out.trans (hb1.mono (by have := HT1.out.base; have := blk_lt HT1.out.a.blk; omega)))
    have HK2 := Lib.hid (HK.out.below hb1)
    clear hb1
    go_wp2_with fail
    refine (scan_any p' (-1) b1' b2' now was _ k w1 HT2.out.b HK2.out (HN.out.sml (by omega)) HN.out.nd).mono ?_
    rintro e w2 ⟨v2, rfl, hm2, hb2⟩
    obtain ⟨sa2, sc2, rfl, _⟩ := hm2
    have HT3 := Lib.hid (HT2.out.below hb2)
    have HB3 := Lib.hid (HB2.out.trans (hb2.mono (by have := HT2.out.base; have := blk_lt HT2.out.a.blk; omega)))
    clear hb2
    generalize (AL.scan k now).length = g
    go_wp2
    go_ret
    exact ⟨by simp, _, _, _, _, _, _, HT3.out, HN.out.mono (by omega), HW.out.mono (by omega), HB3.out⟩
  · rw [hrr] at h
    go_enter Try.func42, Try.ntmps42
    go_wp2_with fail
    refine (scan_any p (-1) b1 b2 now was _ k wk HT1.out.a HK.out (HN.out.sml (by omega)) HN.out.nd).mono ?_
    rintro e w1 ⟨v1, rfl, hm1, hb1⟩
    obtain ⟨sa1, sc1, rfl, _⟩ := hm1
    have HT2 := Lib.hid (HT1.out.below hb1)
    have HB2 := Lib.hid (HB1.out.trans (hb1.mono (by have := HT1.out.base; have := blk_lt HT1.out.a.blk; omega)))
    have HK2 := Lib.hid (HK.out.below hb1)
    clear hb1
    go_wp2_with fail
    refine (scan_any p' (-1) b1' b2' now was _ k w1 HT2.out.b HK2.out (HN.out.sml (by omega)) HN.out.nd).mono ?_
    rintro e w2 ⟨v2, rfl, hm2, hb2⟩
    obtain ⟨sa2, sc2, rfl, _⟩ := hm2
    have HT3 := Lib.hid (HT2.out.below hb2)
    have HB3 := Lib.hid (HB2.out.trans (hb2.mono (by have := HT2.out.base; have := blk_lt HT2.out.a.blk; omega)))
    clear hb2
    generalize (AL.scan k now).length = g
    go_wp2
    go_ret
    exact ⟨by simp, _, _, _, _, _, _, HT3.out, HN.out.mono (by omega), HW.out.mono (by omega), HB3.out⟩
end Go.Proofs.Ytiadoimdohnebaa
