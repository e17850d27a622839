/- The walk of store.Open. -/
import Derived.Test.YtlmngghkhnnaeaaQMStL1
namespace Go.Proofs.Ytlmngghkhnnaeaa
open Go.RowKit
set_option maxRecDepth 100000
set_option maxHeartbeats 1500000
set_option linter.unusedVariables false
set_option linter.unusedSimpArgs false
theorem open_nil (w : World) : Calls Try.prog 12 #[.pointer none] w fun e w' => e = .returned (.tuple #[.pointer none, .int .i64 8]) ∧ w' = w := by
  go_enter Try.func12, Try.ntmps12
  go_wp2
  go_ret2
  exact ⟨rfl, rfl⟩
section
variable {pd bl bw : Nat} {ov : Value} {D : DS}
theorem open_dead (w : World) (hD : DiskIs w pd bl bw ov D) (hd : D.dead = true) : Calls Try.prog 12 #[dV pd] w fun e w' => e = .returned (.tuple #[.pointer none, .int .i64 9]) ∧ w' = w := by
  have H := Lib.hid (dead_any w hD)
  rw [hd] at H
  unfold dV at *
  clear hD hd
  go_enter Try.func12, Try.ntmps12
  go_wp2_with (go_at_call 43; refine H.out.mono ?_; rintro e w1 ⟨rfl, hw⟩; obtain rfl := hw.symm)
  go_ret2
  exact ⟨rfl, rfl⟩
theorem open_small (w : World) (hD : DiskIs w pd bl bw ov D) (hd : D.dead = false) (hn : D.L.length < 4) : Calls Try.prog 12 #[dV pd] w fun e w' => e = .returned (.tuple #[.pointer none, .int .i64 1]) ∧ w' = w := by
  have H := Lib.hid (dead_any w hD)
  have HS := Lib.hid (size_any w hD)
  rw [hd] at H
  obtain ⟨n, hnn⟩ : ∃ n, n = D.L.length := ⟨_, rfl⟩
  rw [← hnn] at HS hn
  have i1 : decide ((n : Int) < 4) = true := decide_eq_true (by omega)
  have i2 : (n : Int) < 4 := by omega
  unfold dV at *
  clear hD hd hnn hn
  go_enter Try.func12, Try.ntmps12
  go_wp2_with (first
    | (go_at_call 43; refine H.out.mono ?_; rintro e w1 ⟨rfl, hw⟩; obtain rfl := hw.symm)
    | (go_at_call 44; refine HS.out.mono ?_; rintro e w1 ⟨rfl, hw⟩; obtain rfl := hw.symm))
  go_ret2
  exact ⟨rfl, rfl⟩
def opN (R : Int → ByteArray) (n : Nat) : Nat → OpS
  | 0 => op0 n
  | j + 1 => opStep R n j (opN R n j)
def noV : Nat → Prop := fun _ => False
def opArr (m : StM) (o : OpS) (pd : Nat) : Array Value := #[.int .i64 o.st.root, .slice (some ⟨m.bt, 0, none⟩) o.st.taken.length m.ct, .slice (some ⟨m.bh, 0, none⟩) o.st.held.length m.ch, .map (some m.bf), .bool o.st.touched,
  dV pd, .int .i64 0, .slice none 0 0, .slice none 0 0, .map none, .bool false, .slice none 0 0, .int .i64 o.head, .int .u64 o.stamp, .bool false]
/-- the store under way -/
structure OpAt (w W : World) (p pd n : Nat) (m : StM) (o : OpS) : Prop where
  blk : W.heap[p]? = some (.cells (opArr m o pd) 62 (0, 0))
  st : StIs W noV m o.st
  below : Below w.heap.size w W
  lo : w.heap.size ≤ p
  mlo : ∀ i, m.blk i → w.heap.size ≤ i
  len : o.st.taken.length = n
theorem q0 (w : World) (a b c d : Obj) : ((((w.alloc a).alloc b).alloc c).alloc d).drew.heap[w.heap.size]? = some a := blk_alloc (blk_alloc (blk_alloc (blk_new _ _) _) _) _
theorem q1 (w : World) (a b c d : Obj) : ((((w.alloc a).alloc b).alloc c).alloc d).drew.heap[w.heap.size + 1]? = some b := blk_alloc (blk_alloc (blk_newAt (by simp) _) _) _
theorem q2 (w : World) (a b c d : Obj) : ((((w.alloc a).alloc b).alloc c).alloc d).drew.heap[w.heap.size + 1 + 1]? = some c := blk_alloc (blk_newAt (by simp) _) _
theorem opAt0 {w : World} {a b c : Obj} {bt bh bf n : Nat} {mc : Array Value} (hmc : mc = madeCells #[Value.bool false] n) (h4 : 4 ≤ n) (hn : n ≤ 4096)
    (h1 : ((((w.alloc a).alloc b).alloc c).alloc (.cells #[.int .i64 0, .slice (some ⟨bt, 0, none⟩) n n, .slice (some ⟨bh, 0, none⟩) n n, .map (some bf), .bool false, dV pd, .int .i64 0, .slice none 0 0, .slice none 0 0, .map none, .bool false, .slice none 0 0, .int .i64 (-1), .int .u64 0, .bool false] 62 (0, 0))).drew.heap[bt]? = some (.cells mc 4 (0, 0)))
    (h2 : ((((w.alloc a).alloc b).alloc c).alloc (.cells #[.int .i64 0, .slice (some ⟨bt, 0, none⟩) n n, .slice (some ⟨bh, 0, none⟩) n n, .map (some bf), .bool false, dV pd, .int .i64 0, .slice none 0 0, .slice none 0 0, .map none, .bool false, .slice none 0 0, .int .i64 (-1), .int .u64 0, .bool false] 62 (0, 0))).drew.heap[bh]? = some (.cells mc 4 (0, 0)))
    (h3 : ((((w.alloc a).alloc b).alloc c).alloc (.cells #[.int .i64 0, .slice (some ⟨bt, 0, none⟩) n n, .slice (some ⟨bh, 0, none⟩) n n, .map (some bf), .bool false, dV pd, .int .i64 0, .slice none 0 0, .slice none 0 0, .map none, .bool false, .slice none 0 0, .int .i64 (-1), .int .u64 0, .bool false] 62 (0, 0))).drew.heap[bf]? = some (.map #[] 0))
    (hb : w.heap.size ≤ bt ∧ w.heap.size ≤ bh ∧ w.heap.size ≤ bf ∧ bt ≠ bh) :
    ∃ m, OpAt w ((((w.alloc a).alloc b).alloc c).alloc (.cells #[.int .i64 0, .slice (some ⟨bt, 0, none⟩) n n, .slice (some ⟨bh, 0, none⟩) n n, .map (some bf), .bool false, dV pd, .int .i64 0, .slice none 0 0, .slice none 0 0, .map none, .bool false, .slice none 0 0, .int .i64 (-1), .int .u64 0, .bool false] 62 (0, 0))).drew (w.heap.size + 1 + 1 + 1) pd n m (op0 n) := by
  obtain ⟨d, hd⟩ : ∃ d : Obj, d = .cells #[.int .i64 0, .slice (some ⟨bt, 0, none⟩) n n, .slice (some ⟨bh, 0, none⟩) n n, .map (some bf), .bool false, dV pd, .int .i64 0, .slice none 0 0, .slice none 0 0, .map none, .bool false, .slice none 0 0, .int .i64 (-1), .int .u64 0, .bool false] 62 (0, 0) := ⟨_, rfl⟩
  rw [← hd] at h1 h2 h3 ⊢
  have hbl : Below w.heap.size w ((((w.alloc a).alloc b).alloc c).alloc d).drew := ((((((Below.refl _ w).alloc (Nat.le_refl _) _).alloc (by simp) _).alloc (by simp; omega) _).alloc (by simp; omega) _)).drew
  refine ⟨⟨bt, n, bh, n, bf⟩, ?_, ⟨.made hmc h1 hn, .made hmc h2 hn, ⟨[], ⟨#[], 0, h3, IKVs.nil, by simp, by simp⟩, rfl, fun i q hq => by simp [op0, zeroSt] at hq⟩, hb.2.2.2, by simp [op0, zeroSt], by simp [op0, zeroSt]; omega, by simp [op0, zeroSt]; omega, ⟨Int.le_refl _, by simp [op0, zeroSt]; omega⟩, fun q hq => by simp [op0, zeroSt] at hq, by simp [op0, zeroSt]⟩, hbl, by omega, fun i hi => ?_, by simp [op0, zeroSt]⟩
  · have : ((((w.alloc a).alloc b).alloc c).alloc d).drew.heap[w.heap.size + 1 + 1 + 1]? = some d := blk_newAt (by simp) _
    rw [this, hd]
    simp [opArr, op0, zeroSt]
  · have hi' : i = bt ∨ i = bh ∨ i = bf := hi
    omega
theorem OpAt.later {w W X : World} {p n : Nat} {m : StM} {o : OpS} (h : OpAt w W p pd n m o) (hb : Below W.heap.size W X) : OpAt w X p pd n m o :=
  ⟨(Keep.ofBelow hb (fun _ => False)).blk h.blk (fun h => h), h.st.below hb, below_then h.below (by have := h.below.size; omega) hb, h.lo, h.mlo, h.len⟩
theorem OpAt.stamp {w W : World} {p n : Nat} {m : StM} {o : OpS} (h : OpAt w W p pd n m o) (x : Int) : OpAt w (W.setCell ⟨p, 13, none⟩ (.int .u64 x)) p pd n m { o with stamp := x } := by
  have hk : Keep (fun i => i = p) W (W.setCell ⟨p, 13, none⟩ (.int .u64 x)) := (Keep.refl _ W).setEq 13 _
  refine ⟨?_, h.st.keepB hk (fun i hi e => absurd (h.st.kind i hi _ _ _ (e ▸ h.blk)) (by decide)) (fun i c z hc e => by rw [e, h.blk] at hc; cases hc), h.below.trans (hk.below (B := w.heap.size) h.below.size (fun i hi => by rw [hi]; exact h.lo)), h.lo, h.mlo, h.len⟩
  rw [blk_setCell h.blk 13]; simp [opArr]
theorem OpAt.own {w W : World} {p n : Nat} {m : StM} {o : OpS} (h : OpAt w W p pd n m o) (x : Int) {B : Nat} {v : Value} {u : ByteArray} (ho : Own 5 W B v u) : Own 5 (W.setCell ⟨p, 13, none⟩ (.int .u64 x)) B v u :=
  ho.keep ((Keep.refl (fun i => i = p) W).setEq 13 _) (ho.not_in (fun i c z hc e => by rw [e, h.blk] at hc; cases hc))
theorem headF_len {b : ByteArray} {n : Nat} {t : St} (h : headF b n = some t) : t.taken.length = n := by
  unfold headF at h
  split at h
  · cases h; simp [decL]
  · cases h
theorem OpAt.good {w W X : World} {p n : Nat} {m m2 : StM} {o : OpS} {t : St} (h : OpAt w W p pd n m o) (hb : Below W.heap.size W X) (hst : StIs X noV m2 t) (hm : ∀ i, m2.blk i → W.heap.size ≤ i) (hl : t.taken.length = n) (j s : Int) :
    OpAt w ((X.setCells p 0 (stCells m2 t)).setCell ⟨p, 12, none⟩ (.int .i64 j)) p pd n m2 ⟨t, j, s, o.stamp⟩ := by
  have hbX := (Keep.ofBelow hb (fun _ => False)).blk h.blk (fun h => h)
  have hpl : p < W.heap.size := blk_lt h.blk
  have hk : Keep (fun i => i = p) X ((X.setCells p 0 (stCells m2 t)).setCell ⟨p, 12, none⟩ (.int .i64 j)) := (Keep.setCells _ 0 X (Keep.refl _ X)).setEq 12 _
  have hWs := h.below.size
  refine ⟨?_, hst.keepB hk (fun i hi e => by have := hm i hi; omega) (fun i c z hc e => by rw [e, hbX] at hc; cases hc), (below_then h.below (by omega) hb).trans (hk.below (B := w.heap.size) (by have := hb.size; omega) (fun i hi => by rw [hi]; exact h.lo)), h.lo, fun i hi => by have := hm i hi; omega, hl⟩
  rw [blk_setCell (blk_setCells _ 0 X _ hbX) 12]
  simp [setL, stCells, opArr]
theorem opStep_head (R : Int → ByteArray) (n : Nat) (p : Int) (o : OpS) (hp : -1 ≤ p ∧ p ≤ 1) (ho : -1 ≤ o.head ∧ o.head ≤ 1) : -1 ≤ (opStep R n p o).head ∧ (opStep R n p o).head ≤ 1 := by
  unfold opStep
  split
  · exact ho
  · split
    · exact ho
    · split
      · exact ho
      · exact hp
theorem open_head (R : Int → ByteArray) (n : Nat) : -1 ≤ (openO R n).head ∧ (openO R n).head ≤ 1 :=
  opStep_head R n 1 _ (by omega) (opStep_head R n 0 _ (by omega) ⟨Int.le_refl _, by show (-1 : Int) ≤ 1; omega⟩)
theorem open_stamp (R : Int → ByteArray) (n : Nat) : 0 ≤ (openO R n).stamp ∧ (openO R n).stamp ≤ 18446744073709551615 := by
  have h : ∀ x, (newF (R x) 8 : Int) ≤ 18446744073709551615 := fun x => by
    have := newF_le (R x) 18446744073709551615 8 (fun j _ => by have := stampAt_lt (R x) j; omega)
    omega
  have h0 := h 0
  have h1 := h 1
  rw [openO_stamp]
  omega
theorem open_end {w w5 w6 : World} {p n : Nat} {m m2 : StM} {o : OpS} (hD : DiskIs w pd bl bw ov D) (hn : D.L.length = n) (ho : o = openO (readP D) n) (h : OpAt w w5 p pd n m o) (hb : Below w5.heap.size w5 w6) (hst : StIs w6 noV m2 o.st) (hm : ∀ i, m2.blk i → w5.heap.size ≤ i) :
    SIs (w6.setCells p 6 (stCells m2 o.st)) noV ⟨p, m, m2, .slice none 0 0, [], pd, bl, bw, ov⟩ (openSS D n) ∧ Below w.heap.size w (w6.setCells p 6 (stCells m2 o.st)) ∧ ∀ i, SM.foot ⟨p, m, m2, .slice none 0 0, [], pd, bl, bw, ov⟩ i → DF pd bl bw ov i ∨ w.heap.size ≤ i := by
  have h6 := h.later hb
  have hpl : p < w5.heap.size := blk_lt h.blk
  have hk : Keep (fun i => i = p) w6 (w6.setCells p 6 (stCells m2 o.st)) := Keep.setCells _ 6 w6 (Keep.refl _ w6)
  have hbl : Below w.heap.size w (w6.setCells p 6 (stCells m2 o.st)) := h6.below.trans (hk.below (B := w.heap.size) h6.below.size (fun i hi => by rw [hi]; exact h.lo))
  have hz5 := h.below.size
  have hbw := hD.lt bw (.inr (.inr (.inl rfl)))
  have hS : openSS D n = ⟨o.st, o.st, [], o.head, o.stamp, false, D⟩ := by unfold openSS; rw [ho]
  rw [hS]
  refine ⟨⟨?_, ?_, ?_, World.ownsRow_nil _ _ _ _, rfl, fun i m s h1 _ => by simp at h1, hD.below hbl, rfl, hn.trans h.len.symm, fun i hi => ⟨fun hb' => ?_, fun m hm => by simp at hm, fun e => ?_⟩, ?_, by rw [ho]; exact open_stamp _ _, by rw [ho]; exact open_head _ _⟩, hbl, ?_⟩
  · rw [blk_setCells _ 6 w6 _ h6.blk]
    simp [setL, stCells, opArr, sArr]
  · exact h6.st.keepB hk (fun i hi e => absurd (h6.st.kind i hi _ _ _ (e ▸ h6.blk)) (by decide)) (fun i c z hc e => by rw [e, h6.blk] at hc; cases hc)
  · exact hst.keepB hk (fun i hi e => by have := hm i hi; omega) (fun i c z hc e => by rw [e, h6.blk] at hc; cases hc)
  · have := hm i hb'
    have := h.st.lt i hi
    omega
  · have := h.mlo i hi
    have e' : i = bw := e
    omega
  · rintro i (hi | ⟨m, hm, _⟩)
    · intro e
      have := hm i hi
      have e' : i = bw := e
      omega
    · simp at hm
  · rintro i (e | e | e | ⟨m, hm, _⟩ | e | e)
    · have e' : i = p := e
      right; rw [e']; exact h.lo
    · exact .inr (h.mlo i e)
    · right; have := hm i e; omega
    · simp at hm
    · cases e
    · exact .inl e
theorem open_any (n : Nat) (w : World) (hD : DiskIs w pd bl bw ov D) (hd : D.dead = false) (hn : D.L.length = n) (h4 : 4 ≤ n) : Calls Try.prog 12 #[dV pd] w fun e w' =>
    ((openO (readP D) n).stamp = 18446744073709551615 → e = .returned (.tuple #[.pointer none, .int .i64 10])) ∧ ((openO (readP D) n).stamp ≠ 18446744073709551615 → ∃ M, e = .returned (.tuple #[pS M.p, .int .i64 0]) ∧ SIs w' noV M (openSS D n) ∧ M.pd = pd ∧ ∀ i, M.foot i → DF pd bl bw ov i ∨ w.heap.size ≤ i) ∧ Below w.heap.size w w' := by
  have H := Lib.hid (dead_any w hD)
  have HS := Lib.hid (size_any w hD)
  rw [hd] at H
  rw [hn] at HS
  have hn4 : n ≤ 4096 := by have := hD.len; omega
  have i1 : decide ((n : Int) < 4) = false := decide_eq_false (by omega)
  have i2 : ¬ (n : Int) < 4 := by omega
  have HD := Lib.hid hD
  have HDD := Lib.hid hd
  have HN := Lib.hid hn
  have hmk := fun W : World => run_make_row' (P := Try.prog) 57 4 (.bool false) 1 uBools iBool rfl .i64 .i64 n (by omega) (by omega) W
  obtain ⟨mc, hmc⟩ : ∃ mc, mc = madeCells #[Value.bool false] n := ⟨_, rfl⟩
  rw [← hmc] at hmk
  have HMC := Lib.hid hmc
  have hmm : ∀ w : World, (Instr.makeMap 51 none).run Try.prog w = .ok (.map (some w.heap.size)) (w.alloc (.map #[] 0)) := fun w => by kernel_rfl
  obtain ⟨R, hR⟩ : ∃ R, R = readP D := ⟨_, rfl⟩
  rw [← hR]
  have HR := Lib.hid hR
  unfold dV at *
  clear hD hd hn hmc hR
  go_enter Try.func12, Try.ntmps12
  go_wp2_with (first
    | (go_at_call 43; refine H.out.mono ?_; rintro e w1 ⟨rfl, hw⟩; obtain rfl := hw.symm)
    | (go_at_call 44; refine HS.out.mono ?_; rintro e w1 ⟨rfl, hw⟩; obtain rfl := hw.symm))
  go_upto_region 8 with fail
  go_cut [5] (fun s5 wx => ∃ p, s5 = .pointer (some ⟨p, 0, none⟩) ∧ Hid (∃ m, OpAt w wx p pd n m (op0 n)))
  case first =>
    refine wp_region_held_drew (S := (fun w' => True)) (by kernel_rfl) ?_ (fun hHeld0 => ?_)
    · dsimp only
    refine takeN (v := ?_) 0 rfl (by kernel_rfl) (by kernel_rfl) (by kernel_rfl) (fun _ _ _ h => h) (by rfl) ?_ hHeld0 ?_
    rotate_left
    · intro w hSw; (try dsimp only at hSw); go_simp; with_reducible rfl
    try simp only [Act.put, List.setIfInBounds_toArray, List.set_cons_zero, List.set_cons_succ]
    refine takeN (v := ?_) 1 rfl (by kernel_rfl) (by kernel_rfl) (by kernel_rfl) (fun _ _ _ h => h) (by rfl) ?_ hHeld0 ?_
    rotate_left
    · intro w hSw; (try dsimp only at hSw); go_simp; with_reducible rfl
    try simp only [Act.put, List.setIfInBounds_toArray, List.set_cons_zero, List.set_cons_succ]
    refine takeN (v := ?_) 3 rfl (by kernel_rfl) (by kernel_rfl) (by kernel_rfl) (fun _ _ _ h => h) (by rfl) ?_ hHeld0 ?_
    rotate_left
    · intro w hSw; (try dsimp only at hSw); go_simp; with_reducible rfl
    try simp only [Act.put, List.setIfInBounds_toArray, List.set_cons_zero, List.set_cons_succ]
    refine wpAnyH_ready (rs := [2, 4, 5]) (by kernel_rfl) (by simp) ?_
    refine readyN rfl (fun K hK => ?_) ?_
    · -- operation 2
      go_simp
      refine hK.out _ _ ?_ (fun hHeld1 => ?_)
      · dsimp only
      clear hK K hHeld0
      try simp only [Act.put, List.setIfInBounds_toArray, List.set_cons_zero, List.set_cons_succ]
      refine wpAnyH_ready (rs := [4, 5]) (by kernel_rfl) (by simp) ?_
      refine readyN rfl (fun K hK => ?_) ?_
      · -- operation 4
        go_simp
        refine hK.out _ _ ?_ (fun hHeld2 => ?_)
        · dsimp only
        clear hK K hHeld1
        try simp only [Act.put, List.setIfInBounds_toArray, List.set_cons_zero, List.set_cons_succ]
        refine wpAnyH_ready (rs := [5]) (by kernel_rfl) (by simp) ?_
        refine readyN rfl (fun K hK => ?_) ?_
        · -- operation 5
          go_simp
          refine hK.out _ _ ?_ (fun hHeld3 => ?_)
          · dsimp only
          clear hK K hHeld2
          try simp only [Act.put, List.setIfInBounds_toArray, List.set_cons_zero, List.set_cons_succ]
          refine takeN (v := ?_) 6 rfl (by kernel_rfl) (by kernel_rfl) (by kernel_rfl) (fun _ _ _ h => h) (by rfl) ?_ hHeld3 ?_
          rotate_left
          · intro w hSw; (try dsimp only at hSw); go_simp; with_reducible rfl
          try simp only [Act.put, List.setIfInBounds_toArray, List.set_cons_zero, List.set_cons_succ]
          refine takeN (v := ?_) 7 rfl (by kernel_rfl) (by kernel_rfl) (by kernel_rfl) (fun _ _ _ h => h) (by rfl) ?_ hHeld3 ?_
          rotate_left
          · intro w hSw; (try dsimp only at hSw); go_simp; with_reducible rfl
          try simp only [Act.put, List.setIfInBounds_toArray, List.set_cons_zero, List.set_cons_succ]
          refine wpAnyH_ready (rs := [8]) (by kernel_rfl) (by simp) ?_
          refine readyN rfl (fun K hK => ?_) ?_
          · -- operation 8
            go_simp
            refine hK.out _ _ ?_ (fun hHeld4 => ?_)
            · dsimp only
            clear hK K hHeld3
            try simp only [Act.put, List.setIfInBounds_toArray, List.set_cons_zero, List.set_cons_succ]
            refine takeN (v := ?_) 9 rfl (by kernel_rfl) (by kernel_rfl) (by kernel_rfl) (fun _ _ _ h => h) (by rfl) ?_ hHeld4 ?_
            rotate_left
            · intro w hSw; (try dsimp only at hSw); go_simp; with_reducible rfl
            try simp only [Act.put, List.setIfInBounds_toArray, List.set_cons_zero, List.set_cons_succ]
            refine wpAnyH_done (by kernel_rfl) ?_ _
            go_wp2_with fail
            go_meet
            refine ⟨_, rfl, Lib.hid (opAt0 HMC.out h4 hn4 ?_ ?_ ?_ (by omega))⟩
            all_goals first | exact q0 _ _ _ _ _ | exact q1 _ _ _ _ _ | exact q2 _ _ _ _ _
          exact AllReadyH.nil
        exact AllReadyH.nil
      refine readyN rfl (fun K hK => ?_) ?_
      · -- operation 5
        go_simp
        refine hK.out _ _ ?_ (fun hHeld2 => ?_)
        · dsimp only
        clear hK K hHeld1
        try simp only [Act.put, List.setIfInBounds_toArray, List.set_cons_zero, List.set_cons_succ]
        refine wpAnyH_ready (rs := [4]) (by kernel_rfl) (by simp) ?_
        refine readyN rfl (fun K hK => ?_) ?_
        · -- operation 4
          go_simp
          refine hK.out _ _ ?_ (fun hHeld3 => ?_)
          · dsimp only
          clear hK K hHeld2
          try simp only [Act.put, List.setIfInBounds_toArray, List.set_cons_zero, List.set_cons_succ]
          refine takeN (v := ?_) 6 rfl (by kernel_rfl) (by kernel_rfl) (by kernel_rfl) (fun _ _ _ h => h) (by rfl) ?_ hHeld3 ?_
          rotate_left
          · intro w hSw; (try dsimp only at hSw); go_simp; with_reducible rfl
          try simp only [Act.put, List.setIfInBounds_toArray, List.set_cons_zero, List.set_cons_succ]
          refine takeN (v := ?_) 7 rfl (by kernel_rfl) (by kernel_rfl) (by kernel_rfl) (fun _ _ _ h => h) (by rfl) ?_ hHeld3 ?_
          rotate_left
          · intro w hSw; (try dsimp only at hSw); go_simp; with_reducible rfl
          try simp only [Act.put, List.setIfInBounds_toArray, List.set_cons_zero, List.set_cons_succ]
          refine wpAnyH_ready (rs := [8]) (by kernel_rfl) (by simp) ?_
          refine readyN rfl (fun K hK => ?_) ?_
          · -- operation 8
            go_simp
            refine hK.out _ _ ?_ (fun hHeld4 => ?_)
            · dsimp only
            clear hK K hHeld3
            try simp only [Act.put, List.setIfInBounds_toArray, List.set_cons_zero, List.set_cons_succ]
            refine takeN (v := ?_) 9 rfl (by kernel_rfl) (by kernel_rfl) (by kernel_rfl) (fun _ _ _ h => h) (by rfl) ?_ hHeld4 ?_
            rotate_left
            · intro w hSw; (try dsimp only at hSw); go_simp; with_reducible rfl
            try simp only [Act.put, List.setIfInBounds_toArray, List.set_cons_zero, List.set_cons_succ]
            refine wpAnyH_done (by kernel_rfl) ?_ _
            go_wp2_with fail
            go_meet
            refine ⟨_, rfl, Lib.hid (opAt0 HMC.out h4 hn4 ?_ ?_ ?_ (by omega))⟩
            all_goals first | exact q0 _ _ _ _ _ | exact q1 _ _ _ _ _ | exact q2 _ _ _ _ _
          exact AllReadyH.nil
        exact AllReadyH.nil
      exact AllReadyH.nil
    refine readyN rfl (fun K hK => ?_) ?_
    · -- operation 4
      go_simp
      refine hK.out _ _ ?_ (fun hHeld1 => ?_)
      · dsimp only
      clear hK K hHeld0
      try simp only [Act.put, List.setIfInBounds_toArray, List.set_cons_zero, List.set_cons_succ]
      refine wpAnyH_ready (rs := [2, 5]) (by kernel_rfl) (by simp) ?_
      refine readyN rfl (fun K hK => ?_) ?_
      · -- operation 2
        go_simp
        refine hK.out _ _ ?_ (fun hHeld2 => ?_)
        · dsimp only
        clear hK K hHeld1
        try simp only [Act.put, List.setIfInBounds_toArray, List.set_cons_zero, List.set_cons_succ]
        refine wpAnyH_ready (rs := [5]) (by kernel_rfl) (by simp) ?_
        refine readyN rfl (fun K hK => ?_) ?_
        · -- operation 5
          go_simp
          refine hK.out _ _ ?_ (fun hHeld3 => ?_)
          · dsimp only
          clear hK K hHeld2
          try simp only [Act.put, List.setIfInBounds_toArray, List.set_cons_zero, List.set_cons_succ]
          refine takeN (v := ?_) 6 rfl (by kernel_rfl) (by kernel_rfl) (by kernel_rfl) (fun _ _ _ h => h) (by rfl) ?_ hHeld3 ?_
          rotate_left
          · intro w hSw; (try dsimp only at hSw); go_simp; with_reducible rfl
          try simp only [Act.put, List.setIfInBounds_toArray, List.set_cons_zero, List.set_cons_succ]
          refine takeN (v := ?_) 7 rfl (by kernel_rfl) (by kernel_rfl) (by kernel_rfl) (fun _ _ _ h => h) (by rfl) ?_ hHeld3 ?_
          rotate_left
          · intro w hSw; (try dsimp only at hSw); go_simp; with_reducible rfl
          try simp only [Act.put, List.setIfInBounds_toArray, List.set_cons_zero, List.set_cons_succ]
          refine wpAnyH_ready (rs := [8]) (by kernel_rfl) (by simp) ?_
          refine readyN rfl (fun K hK => ?_) ?_
          · -- operation 8
            go_simp
            refine hK.out _ _ ?_ (fun hHeld4 => ?_)
            · dsimp only
            clear hK K hHeld3
            try simp only [Act.put, List.setIfInBounds_toArray, List.set_cons_zero, List.set_cons_succ]
            refine takeN (v := ?_) 9 rfl (by kernel_rfl) (by kernel_rfl) (by kernel_rfl) (fun _ _ _ h => h) (by rfl) ?_ hHeld4 ?_
            rotate_left
            · intro w hSw; (try dsimp only at hSw); go_simp; with_reducible rfl
            try simp only [Act.put, List.setIfInBounds_toArray, List.set_cons_zero, List.set_cons_succ]
            refine wpAnyH_done (by kernel_rfl) ?_ _
            go_wp2_with fail
            go_meet
            refine ⟨_, rfl, Lib.hid (opAt0 HMC.out h4 hn4 ?_ ?_ ?_ (by omega))⟩
            all_goals first | exact q0 _ _ _ _ _ | exact q1 _ _ _ _ _ | exact q2 _ _ _ _ _
          exact AllReadyH.nil
        exact AllReadyH.nil
      refine readyN rfl (fun K hK => ?_) ?_
      · -- operation 5
        go_simp
        refine hK.out _ _ ?_ (fun hHeld2 => ?_)
        · dsimp only
        clear hK K hHeld1
        try simp only [Act.put, List.setIfInBounds_toArray, List.set_cons_zero, List.set_cons_succ]
        refine wpAnyH_ready (rs := [2]) (by kernel_rfl) (by simp) ?_
        refine readyN rfl (fun K hK => ?_) ?_
        · -- operation 2
          go_simp
          refine hK.out _ _ ?_ (fun hHeld3 => ?_)
          · dsimp only
          clear hK K hHeld2
          try simp only [Act.put, List.setIfInBounds_toArray, List.set_cons_zero, List.set_cons_succ]
          refine takeN (v := ?_) 6 rfl (by kernel_rfl) (by kernel_rfl) (by kernel_rfl) (fun _ _ _ h => h) (by rfl) ?_ hHeld3 ?_
          rotate_left
          · intro w hSw; (try dsimp only at hSw); go_simp; with_reducible rfl
          try simp only [Act.put, List.setIfInBounds_toArray, List.set_cons_zero, List.set_cons_succ]
          refine takeN (v := ?_) 7 rfl (by kernel_rfl) (by kernel_rfl) (by kernel_rfl) (fun _ _ _ h => h) (by rfl) ?_ hHeld3 ?_
          rotate_left
          · intro w hSw; (try dsimp only at hSw); go_simp; with_reducible rfl
          try simp only [Act.put, List.setIfInBounds_toArray, List.set_cons_zero, List.set_cons_succ]
          refine wpAnyH_ready (rs := [8]) (by kernel_rfl) (by simp) ?_
          refine readyN rfl (fun K hK => ?_) ?_
          · -- operation 8
            go_simp
            refine hK.out _ _ ?_ (fun hHeld4 => ?_)
            · dsimp only
            clear hK K hHeld3
            try simp only [Act.put, List.setIfInBounds_toArray, List.set_cons_zero, List.set_cons_succ]
            refine takeN (v := ?_) 9 rfl (by kernel_rfl) (by kernel_rfl) (by kernel_rfl) (fun _ _ _ h => h) (by rfl) ?_ hHeld4 ?_
            rotate_left
            · intro w hSw; (try dsimp only at hSw); go_simp; with_reducible rfl
            try simp only [Act.put, List.setIfInBounds_toArray, List.set_cons_zero, List.set_cons_succ]
            refine wpAnyH_done (by kernel_rfl) ?_ _
            go_wp2_with fail
            go_meet
            refine ⟨_, rfl, Lib.hid (opAt0 HMC.out h4 hn4 ?_ ?_ ?_ (by omega))⟩
            all_goals first | exact q0 _ _ _ _ _ | exact q1 _ _ _ _ _ | exact q2 _ _ _ _ _
          exact AllReadyH.nil
        exact AllReadyH.nil
      exact AllReadyH.nil
    refine readyN rfl (fun K hK => ?_) ?_
    · -- operation 5
      go_simp
      refine hK.out _ _ ?_ (fun hHeld1 => ?_)
      · dsimp only
      clear hK K hHeld0
      try simp only [Act.put, List.setIfInBounds_toArray, List.set_cons_zero, List.set_cons_succ]
      refine wpAnyH_ready (rs := [2, 4]) (by kernel_rfl) (by simp) ?_
      refine readyN rfl (fun K hK => ?_) ?_
      · -- operation 2
        go_simp
        refine hK.out _ _ ?_ (fun hHeld2 => ?_)
        · dsimp only
        clear hK K hHeld1
        try simp only [Act.put, List.setIfInBounds_toArray, List.set_cons_zero, List.set_cons_succ]
        refine wpAnyH_ready (rs := [4]) (by kernel_rfl) (by simp) ?_
        refine readyN rfl (fun K hK => ?_) ?_
        · -- operation 4
          go_simp
          refine hK.out _ _ ?_ (fun hHeld3 => ?_)
          · dsimp only
          clear hK K hHeld2
          try simp only [Act.put, List.setIfInBounds_toArray, List.set_cons_zero, List.set_cons_succ]
          refine takeN (v := ?_) 6 rfl (by kernel_rfl) (by kernel_rfl) (by kernel_rfl) (fun _ _ _ h => h) (by rfl) ?_ hHeld3 ?_
          rotate_left
          · intro w hSw; (try dsimp only at hSw); go_simp; with_reducible rfl
          try simp only [Act.put, List.setIfInBounds_toArray, List.set_cons_zero, List.set_cons_succ]
          refine takeN (v := ?_) 7 rfl (by kernel_rfl) (by kernel_rfl) (by kernel_rfl) (fun _ _ _ h => h) (by rfl) ?_ hHeld3 ?_
          rotate_left
          · intro w hSw; (try dsimp only at hSw); go_simp; with_reducible rfl
          try simp only [Act.put, List.setIfInBounds_toArray, List.set_cons_zero, List.set_cons_succ]
          refine wpAnyH_ready (rs := [8]) (by kernel_rfl) (by simp) ?_
          refine readyN rfl (fun K hK => ?_) ?_
          · -- operation 8
            go_simp
            refine hK.out _ _ ?_ (fun hHeld4 => ?_)
            · dsimp only
            clear hK K hHeld3
            try simp only [Act.put, List.setIfInBounds_toArray, List.set_cons_zero, List.set_cons_succ]
            refine takeN (v := ?_) 9 rfl (by kernel_rfl) (by kernel_rfl) (by kernel_rfl) (fun _ _ _ h => h) (by rfl) ?_ hHeld4 ?_
            rotate_left
            · intro w hSw; (try dsimp only at hSw); go_simp; with_reducible rfl
            try simp only [Act.put, List.setIfInBounds_toArray, List.set_cons_zero, List.set_cons_succ]
            refine wpAnyH_done (by kernel_rfl) ?_ _
            go_wp2_with fail
            go_meet
            refine ⟨_, rfl, Lib.hid (opAt0 HMC.out h4 hn4 ?_ ?_ ?_ (by omega))⟩
            all_goals first | exact q0 _ _ _ _ _ | exact q1 _ _ _ _ _ | exact q2 _ _ _ _ _
          exact AllReadyH.nil
        exact AllReadyH.nil
      refine readyN rfl (fun K hK => ?_) ?_
      · -- operation 4
        go_simp
        refine hK.out _ _ ?_ (fun hHeld2 => ?_)
        · dsimp only
        clear hK K hHeld1
        try simp only [Act.put, List.setIfInBounds_toArray, List.set_cons_zero, List.set_cons_succ]
        refine wpAnyH_ready (rs := [2]) (by kernel_rfl) (by simp) ?_
        refine readyN rfl (fun K hK => ?_) ?_
        · -- operation 2
          go_simp
          refine hK.out _ _ ?_ (fun hHeld3 => ?_)
          · dsimp only
          clear hK K hHeld2
          try simp only [Act.put, List.setIfInBounds_toArray, List.set_cons_zero, List.set_cons_succ]
          refine takeN (v := ?_) 6 rfl (by kernel_rfl) (by kernel_rfl) (by kernel_rfl) (fun _ _ _ h => h) (by rfl) ?_ hHeld3 ?_
          rotate_left
          · intro w hSw; (try dsimp only at hSw); go_simp; with_reducible rfl
          try simp only [Act.put, List.setIfInBounds_toArray, List.set_cons_zero, List.set_cons_succ]
          refine takeN (v := ?_) 7 rfl (by kernel_rfl) (by kernel_rfl) (by kernel_rfl) (fun _ _ _ h => h) (by rfl) ?_ hHeld3 ?_
          rotate_left
          · intro w hSw; (try dsimp only at hSw); go_simp; with_reducible rfl
          try simp only [Act.put, List.setIfInBounds_toArray, List.set_cons_zero, List.set_cons_succ]
          refine wpAnyH_ready (rs := [8]) (by kernel_rfl) (by simp) ?_
          refine readyN rfl (fun K hK => ?_) ?_
          · -- operation 8
            go_simp
            refine hK.out _ _ ?_ (fun hHeld4 => ?_)
            · dsimp only
            clear hK K hHeld3
            try simp only [Act.put, List.setIfInBounds_toArray, List.set_cons_zero, List.set_cons_succ]
            refine takeN (v := ?_) 9 rfl (by kernel_rfl) (by kernel_rfl) (by kernel_rfl) (fun _ _ _ h => h) (by rfl) ?_ hHeld4 ?_
            rotate_left
            · intro w hSw; (try dsimp only at hSw); go_simp; with_reducible rfl
            try simp only [Act.put, List.setIfInBounds_toArray, List.set_cons_zero, List.set_cons_succ]
            refine wpAnyH_done (by kernel_rfl) ?_ _
            go_wp2_with fail
            go_meet
            refine ⟨_, rfl, Lib.hid (opAt0 HMC.out h4 hn4 ?_ ?_ ?_ (by omega))⟩
            all_goals first | exact q0 _ _ _ _ _ | exact q1 _ _ _ _ _ | exact q2 _ _ _ _ _
          exact AllReadyH.nil
        exact AllReadyH.nil
      exact AllReadyH.nil
    exact AllReadyH.nil
  case rest =>
    obtain ⟨p, rfl, HO⟩ := hcut
    clear hmk hmm H HS i1 i2
    go_wp2_with fail
    go_loopw [6, 36] (fun b i wr => ∃ j : Nat, j ≤ 2 ∧ i = .int .i64 j ∧ b = .int .u64 (opN R n j).best ∧ Hid (∃ m, OpAt w wr p pd n m (opN R n j))) (fun _ i _ => 2 - (intOf i).toNat)
    case atStart => exact ⟨0, by omega, rfl, rfl, HO⟩
    case round =>
      obtain ⟨j, hj, rfl, rfl, HA⟩ := hrel
      by_cases hlt : j < 2
      · obtain ⟨m, ha⟩ := HA.out
        have hDw := HD.out.below ha.below
        have HRD := Lib.hid (read_any (j : Int) wr hDw)
        unfold dV at HRD
        have hsu : sureE D.dead D.L.length (j : Int) 4096 = 0 := by unfold sureE; rw [HDD.out, HN.out, if_neg (by decide), if_neg (by omega)]
        rw [hsu] at HRD
        have hpz : (readP D (j : Int)).size = 4096 := readP_size HD.out j (by rw [HN.out]; omega)
        obtain ⟨pg, hpg⟩ : ∃ pg, pg = readP D (j : Int) := ⟨_, rfl⟩
        rw [← hpg] at HRD hpz
        have HPG := Lib.hid (show R (j : Int) = pg by rw [HR.out, hpg])
        obtain ⟨o, ho⟩ : ∃ o, o = opN R n j := ⟨_, rfl⟩
        rw [← ho] at ha ⊢
        have HPO := Lib.hid ho
        have HAT := Lib.hid ha
        have HPZ := Lib.hid hpz
        have hb0 := ha.blk
        have j4 : (j : Int) < 4096 := by omega
        have jl : (j : Int) < 2 := by omega
        clear ha hDw hsu hpz hpg ho
        go_wp2_with (go_at_call 7; refine HRD.out.mono ?_; rintro e w4 ⟨v4, c4, rfl, rfl, hw4, _, hb⟩; have ho' := hw4 rfl; clear hw4; obtain ⟨a4, k4, hv4, _, _⟩ := ho'.bs.len2 HPZ.out; subst hv4
                     have HO4 := Lib.hid ho'
                     have HB4 := Lib.hid hb
                     clear ho' hb)
        have HNW := Lib.hid fun (X : World) (hX : Below w4.heap.size w4 X) => newest_any (.slice a4 4096 k4) pg X (HO4.out.bs.below hX) HPZ.out
        have hx4 := (Keep.ofBelow HB4.out (fun _ => False)).blk hb0 (fun h => h)
        have HX4 := Lib.hid hx4
        have cx : w4.drew.cell? ⟨p, 13, none⟩ = some (.int .u64 o.stamp) := blk_cell hx4 13
        obtain ⟨nw, hnw⟩ : ∃ nw, nw = newF pg 8 := ⟨_, rfl⟩
        rw [← hnw] at HNW
        have HNQ := Lib.hid hnw
        clear hnw hx4 hb0
        refine wp_region_held_drew (S := (fun w' => True)) (by kernel_rfl) ?_ (fun hHeld0 => ?_)
        · dsimp only
        refine takeN (v := ?_) 0 rfl (by kernel_rfl) (by kernel_rfl) (by kernel_rfl) (fun _ _ _ h => h) (by rfl) ?_ hHeld0 ?_
        rotate_left
        · intro w hSw; (try dsimp only at hSw); go_simp; with_reducible rfl
        try simp only [Act.put, List.setIfInBounds_toArray, List.set_cons_zero, List.set_cons_succ]
        refine takeN (v := ?_) 1 rfl (by kernel_rfl) (by kernel_rfl) (by kernel_rfl) (fun _ _ _ h => h) (by rfl) ?_ hHeld0 ?_
        rotate_left
        · intro w hSw; (try dsimp only at hSw); go_simp; with_reducible rfl
        try simp only [Act.put, List.setIfInBounds_toArray, List.set_cons_zero, List.set_cons_succ]
        refine takeN (v := ?_) 2 rfl (by kernel_rfl) (by kernel_rfl) (by kernel_rfl) (fun _ _ _ h => h) (by rfl) ?_ hHeld0 ?_
        rotate_left
        · intro w hSw; (try dsimp only at hSw); go_simp; with_reducible rfl
        try simp only [Act.put, List.setIfInBounds_toArray, List.set_cons_zero, List.set_cons_succ]
        refine takeN (v := ?_) 3 rfl (by kernel_rfl) (by kernel_rfl) (by kernel_rfl) (fun _ _ _ h => h) (by rfl) ?_ hHeld0 ?_
        rotate_left
        · intro w hSw; (try dsimp only at hSw); go_simp; with_reducible rfl
        try simp only [Act.put, List.setIfInBounds_toArray, List.set_cons_zero, List.set_cons_succ]
        refine takeN (v := ?_) 5 rfl (by kernel_rfl) (by kernel_rfl) (by kernel_rfl) (fun _ _ _ h => h) (by rfl) ?_ hHeld0 ?_
        rotate_left
        · intro w hSw; (try dsimp only at hSw); go_simp; with_reducible rfl
        try simp only [Act.put, List.setIfInBounds_toArray, List.set_cons_zero, List.set_cons_succ]
        refine wpAnyH_ready (rs := [4, 6]) (by kernel_rfl) (by simp) ?_
        refine readyN rfl (fun K hK => ?_) ?_
        · -- operation 4
          go_simp
          refine hK.out _ _ ?_ (fun hHeld1 => ?_)
          · dsimp only
          clear hK K hHeld0
          try simp only [Act.put, List.setIfInBounds_toArray, List.set_cons_zero, List.set_cons_succ]
          refine wpAnyH_ready (rs := [6]) (by kernel_rfl) (by simp) ?_
          refine readyN rfl (fun K hK => ?_) ?_
          · -- operation 6
            go_simp
            (go_at_call 45; refine (HNW.out _ ((Below.refl _ w4).drew)).mono ?_; rintro e w5 ⟨rfl, hb⟩
             have HB5 := Lib.hid (show Below w4.heap.size w4 w5 from ((Below.refl w4.heap.size w4).drew).trans hb)
             have hx5 := (Keep.ofBelow hb (fun _ => False)).blk (show w4.drew.heap[p]? = _ from HX4.out) (fun h => h)
             have cx5 : w5.cell? ⟨p, 13, none⟩ = some (.int .u64 o.stamp) := blk_cell hx5 13
             have fx5 : w5.frozen? ⟨p, 13, none⟩ = false := blk_frozen hx5 13
             have HX5 := Lib.hid hx5
             clear hb hx5)
            go_wp2_with fail
            refine hK.out _ _ ?_ (fun hHeld2 => ?_)
            · dsimp only
            clear hK K hHeld1
            try simp only [Act.put, List.setIfInBounds_toArray, List.set_cons_zero, List.set_cons_succ]
            refine wpAnyH_ready (rs := [7]) (by kernel_rfl) (by simp) ?_
            refine readyN rfl (fun K hK => ?_) ?_
            · -- operation 7
              go_simp
              refine hK.out _ _ ?_ (fun hHeld3 => ?_)
              · dsimp only
              clear hK K hHeld2
              try simp only [Act.put, List.setIfInBounds_toArray, List.set_cons_zero, List.set_cons_succ]
              refine takeN (v := ?_) 8 rfl (by kernel_rfl) (by kernel_rfl) (by kernel_rfl) (fun _ _ _ h => h) (by rfl) ?_ hHeld3 ?_
              rotate_left
              · intro w hSw; (try dsimp only at hSw); go_simp; with_reducible rfl
              try simp only [Act.put, List.setIfInBounds_toArray, List.set_cons_zero, List.set_cons_succ]
              refine takeN (v := ?_) 9 rfl (by kernel_rfl) (by kernel_rfl) (by kernel_rfl) (fun _ _ _ h => h) (by rfl) ?_ hHeld3 ?_
              rotate_left
              · intro w hSw; (try dsimp only at hSw); go_simp; with_reducible rfl
              try simp only [Act.put, List.setIfInBounds_toArray, List.set_cons_zero, List.set_cons_succ]
              refine wpAnyH_ready (rs := [10]) (by kernel_rfl) (by simp) ?_
              refine readyN rfl (fun K hK => ?_) ?_
              · -- operation 10
                go_simp
                refine hK.out _ _ ?_ (fun hHeld4 => ?_)
                · dsimp only
                clear hK K hHeld3
                try simp only [Act.put, List.setIfInBounds_toArray, List.set_cons_zero, List.set_cons_succ]
                refine wpAnyH_done (by kernel_rfl) ?_ _
                have HA5 := Lib.hid ((HAT.out.later HB4.out).later HB5.out)
                have HO5 := Lib.hid (HA5.out.own (max o.stamp nw) (HO4.out.below HB5.out))
                go_upto_region 17 with fail
                refine wp_gen' (fun W => Hid (OpAt w W p pd n m { o with stamp := max o.stamp nw }) ∧ Hid (BS W (.slice a4 4096 k4) pg)) ⟨Lib.hid (HA5.out.stamp _), Lib.hid HO5.out.bs⟩ ?_
                rintro W ⟨HAW, HBW⟩
                clear HA5 HO5 HX5 HB5 cx5 fx5 cx HX4 HNW HB4 HO4 HRD HAT
                have HFG := Lib.hid (fget_any (j : Int) 1 (.slice a4 4096 k4) pg (by omega) j4 (by decide) (by decide) W HBW.out HPZ.out)
                obtain ⟨G, hG⟩ : ∃ G, G = getF pg (j : Int) 1 := ⟨_, rfl⟩
                have HG := Lib.hid hG
                rw [← hG] at HFG
                clear hG
                have hos : opN R n (j + 1) = opStep R n j o := by rw [HPO.out]; rfl
                have HOS := Lib.hid hos
                clear hos
                cases G with
                | none =>
                  have hst : opStep R n j o = { o with stamp := max o.stamp nw } := by unfold opStep; rw [HPG.out, ← HG.out, HNQ.out]
                  have HST := Lib.hid hst
                  clear hst
                  go_wp2_with (go_at_call 10; refine HFG.out.mono ?_; rintro e w6 ⟨he, hb⟩; unfold GetR at he; simp only at he; subst he
                               have HB6 := Lib.hid hb
                               clear hb)
                  refine ⟨⟨j + 1, by omega, by simp, ?_, ?_⟩, by simp [intOf]; omega⟩
                  · rw [HOS.out, HST.out]
                  · rw [HOS.out, HST.out]; exact Lib.hid ⟨m, HAW.out.later HB6.out⟩
                | some g =>
                  obtain ⟨b, s⟩ := g
                  have hbz := (get_some HG.out.symm).2.2.2
                  by_cases hle : s ≤ o.best
                  · have hq : decide (s ≤ o.best) = true := decide_eq_true hle
                    have hst : opStep R n j o = { o with stamp := max o.stamp nw } := by unfold opStep; rw [HPG.out, ← HG.out, HNQ.out]; simp only; rw [if_pos hle]
                    have HST := Lib.hid hst
                    clear hst
                    go_wp2_with (go_at_call 10; refine HFG.out.mono ?_; rintro e w6 ⟨he, hb⟩; unfold GetR at he; simp only at he; obtain ⟨v6, rfl, ho⟩ := he; obtain ⟨a6, k6, rfl⟩ := ho.size
                                 have HB6 := Lib.hid hb
                                 clear hb ho)
                    refine ⟨⟨j + 1, by omega, by simp, ?_, ?_⟩, by simp [intOf]; omega⟩
                    · rw [HOS.out, HST.out]
                    · rw [HOS.out, HST.out]; exact Lib.hid ⟨m, HAW.out.later HB6.out⟩
                  · have hq : decide (s ≤ o.best) = false := decide_eq_false hle
                    obtain ⟨F, hF⟩ : ∃ F, F = headF b n := ⟨_, rfl⟩
                    have HF := Lib.hid hF
                    obtain ⟨bz, hbz'⟩ : ∃ bz, bz = b.size := ⟨_, rfl⟩
                    have HBZ := Lib.hid hbz'
                    cases F with
                    | none =>
                      have hst : opStep R n j o = { o with stamp := max o.stamp nw } := by unfold opStep; rw [HPG.out, ← HG.out, HNQ.out]; simp only; rw [if_neg hle, ← HF.out]
                      have HST := Lib.hid hst
                      clear hst hF hbz'
                      go_wp2_with (first
                        | (go_at_call 10; refine HFG.out.mono ?_; rintro e w6 ⟨he, hb⟩; unfold GetR at he; simp only at he; obtain ⟨v6, rfl, ho⟩ := he; obtain ⟨a6, k6, hv6, _, _⟩ := ho.bs.len2 HBZ.out.symm; subst hv6
                           have HB6 := Lib.hid hb
                           have HHD := Lib.hid (headed_any noV (.slice a6 bz k6) b n w6 ho.bs hbz h4 hn4)
                           rw [← HF.out] at HHD
                           clear hb ho)
                        | (go_at_call 46; refine HHD.out.mono ?_; rintro e w7 ⟨he, hb⟩; unfold HeadR at he; simp only at he; obtain ⟨c0, c1, c2, c3, c4, rfl, hone⟩ := he
                           have HB7 := Lib.hid (below_and HB6.out hb)
                           have HONE := Lib.hid hone
                           have HZ := Lib.hid (blk_new w7 (.cells #[.int .i64 0, .slice none 0 0, .slice none 0 0, .map none, .bool false] 59 (0, 0)))
                           clear hb hone)
                        | (show wpList _ _ _ (⟨_, Op.store _ (Operand.tmp 13) _, _, _, _, _⟩ :: _) _ _; refine wpl_store5 (w := w7.alloc (.cells #[.int .i64 0, .slice none 0 0, .slice none 0 0, .map none, .bool false] 59 (0, 0))) rfl (.tmp 13) (.tmp 76) rfl w7.heap.size 0 rfl [c0, c1, c2, c3, c4] rfl rfl 59 #[.int .i64 0, .slice none 0 0, .slice none 0 0, .map none, .bool false] HZ.out (by decide) HONE.out ?_))
                      refine ⟨⟨j + 1, by omega, by simp, ?_, ?_⟩, by simp [intOf]; omega⟩
                      · rw [HOS.out, HST.out]
                      · rw [HOS.out, HST.out]
                        refine Lib.hid ⟨m, HAW.out.later ?_⟩
                        have hal : Below W.heap.size W (w7.alloc (.cells #[.int .i64 0, .slice none 0 0, .slice none 0 0, .map none, .bool false] 59 (0, 0))) := HB7.out.alloc HB7.out.size _
                        exact hal.trans ((Keep.setCells (b := w7.heap.size) _ 0 _ (Keep.refl _ _)).below (B := W.heap.size) hal.size (fun i hi => by rw [hi]; exact HB7.out.size))
                    | some t =>
                      have hst : opStep R n j o = ⟨t, j, s, max o.stamp nw⟩ := by unfold opStep; rw [HPG.out, ← HG.out, HNQ.out]; simp only; rw [if_neg hle, ← HF.out]
                      have HST := Lib.hid hst
                      clear hst hF hbz'
                      go_wp2_with (first
                        | (go_at_call 10; refine HFG.out.mono ?_; rintro e w6 ⟨he, hb⟩; unfold GetR at he; simp only at he; obtain ⟨v6, rfl, ho⟩ := he; obtain ⟨a6, k6, hv6, _, _⟩ := ho.bs.len2 HBZ.out.symm; subst hv6
                           have HB6 := Lib.hid hb
                           have HHD := Lib.hid (headed_any noV (.slice a6 bz k6) b n w6 ho.bs hbz h4 hn4)
                           rw [← HF.out] at HHD
                           clear hb ho)
                        | (go_at_call 46; refine HHD.out.mono ?_; rintro e w7 ⟨he, hb⟩; unfold HeadR at he; simp only at he; obtain ⟨m2, rfl, hst7, hm7⟩ := he
                           have HB7 := Lib.hid (below_and HB6.out hb)
                           have HST7 := Lib.hid hst7
                           have HZ := Lib.hid (blk_new w7 (.cells #[.int .i64 0, .slice none 0 0, .slice none 0 0, .map none, .bool false] 59 (0, 0)))
                           have HM7 := Lib.hid (show ∀ i, m2.blk i → W.heap.size ≤ i from fun i hi => Nat.le_trans HB6.out.size (hm7 i hi))
                           obtain ⟨X1, hX1⟩ : ∃ X1, X1 = (w7.alloc (.cells #[.int .i64 0, .slice none 0 0, .slice none 0 0, .map none, .bool false] 59 (0, 0))).setCells w7.heap.size 0 (stCells m2 t) := ⟨_, rfl⟩
                           have hz1 := blk_setCells (stCells m2 t) 0 _ _ HZ.out
                           rw [← hX1] at hz1
                           have hal : Below W.heap.size W (w7.alloc (.cells #[.int .i64 0, .slice none 0 0, .slice none 0 0, .map none, .bool false] 59 (0, 0))) := HB7.out.alloc HB7.out.size _
                           have hb1 : Below W.heap.size W X1 := by rw [hX1]; exact hal.trans ((Keep.setCells (b := w7.heap.size) _ 0 _ (Keep.refl _ _)).below (B := W.heap.size) hal.size (fun i hi => by rw [hi]; exact HB7.out.size))
                           have h59 : ∀ j v, (stCells m2 t)[j]? = some v → X1.cell? ⟨w7.heap.size, 0 + j, none⟩ = some v := fun j v hv => by
                             rw [blk_cell hz1, Nat.zero_add]
                             simpa [setL, stCells] using hv
                           have H59 := Lib.hid h59
                           have HB1 := Lib.hid hb1
                           have hp1 := (Keep.ofBelow hb1 (fun _ => False)).blk HAW.out.blk (fun h => h)
                           have HP1 := Lib.hid hp1
                           have hst1 : StIs X1 noV m2 t := by
                             rw [hX1]
                             exact (hst7.below ((Below.refl _ w7).alloc (Nat.le_refl _) _)).keepB (Keep.setCells (b := w7.heap.size) _ 0 _ (Keep.refl _ _)) (fun i hi e => by have := hst7.lt i hi; omega) (fun i c z hc e => by rw [e, HZ.out] at hc; cases hc)
                           have HS1 := Lib.hid hst1
                           obtain ⟨X2, hX2⟩ : ∃ X2, X2 = X1.setCells p 0 (stCells m2 t) := ⟨_, rfl⟩
                           have hp2 := blk_setCells (stCells m2 t) 0 _ _ hp1
                           rw [← hX2] at hp2
                           have HX1 := Lib.hid hX1
                           have HX2 := Lib.hid hX2
                           have c12 : X2.cell? ⟨p, 12, none⟩ = some (.int .i64 o.head) := by rw [blk_cell hp2]; simp [setL, stCells, opArr]
                           have f12 : X2.frozen? ⟨p, 12, none⟩ = false := blk_frozen hp2 12
                           clear hb hst7 hm7 hz1 hal hb1 h59 hp1 hst1 hX1 hX2 hp2)
                        | (show wpList _ _ _ (⟨_, Op.store _ (Operand.tmp 13) _, _, _, _, _⟩ :: _) _ _; refine wpl_store5 (w := w7.alloc (.cells #[.int .i64 0, .slice none 0 0, .slice none 0 0, .map none, .bool false] 59 (0, 0))) rfl (.tmp 13) (.tmp 76) rfl w7.heap.size 0 rfl (stCells m2 t) rfl rfl 59 #[.int .i64 0, .slice none 0 0, .slice none 0 0, .map none, .bool false] HZ.out (by simp) (stCells_one m2 t) ?_; rw [← HX1.out])
                        | (show wpList _ _ _ (⟨_, Op.load _ (Operand.tmp 13), _, _, _, _⟩ :: _) _ _; refine wpl_load5 rfl (.tmp 13) rfl w7.heap.size 0 rfl (stCells m2 t) rfl H59.out ?_)
                        | (show wpList _ _ _ (⟨_, Op.store _ (Operand.tmp 85) _, _, _, _, _⟩ :: _) _ _; refine wpl_store5 rfl (.tmp 85) (.tmp 81) rfl p 0 rfl (stCells m2 t) rfl rfl 62 _ HP1.out (by simp [opArr]) (stCells_one m2 t) ?_; rw [← HX2.out]))
                      refine ⟨⟨j + 1, by omega, by simp, ?_, ?_⟩, by simp [intOf]; omega⟩
                      · rw [HOS.out, HST.out]
                      · rw [HOS.out, HST.out]
                        have hg := HAW.out.good HB1.out HS1.out HM7.out (headF_len HF.out.symm) (j : Int) s
                        rw [← HX2.out] at hg
                        exact Lib.hid ⟨m2, hg⟩
              exact AllReadyH.nil
            exact AllReadyH.nil
          exact AllReadyH.nil
        refine readyN rfl (fun K hK => ?_) ?_
        · -- operation 6
          go_simp
          (go_at_call 45; refine (HNW.out _ ((Below.refl _ w4).drew)).mono ?_; rintro e w5 ⟨rfl, hb⟩
           have HB5 := Lib.hid (show Below w4.heap.size w4 w5 from ((Below.refl w4.heap.size w4).drew).trans hb)
           have hx5 := (Keep.ofBelow hb (fun _ => False)).blk (show w4.drew.heap[p]? = _ from HX4.out) (fun h => h)
           have cx5 : w5.cell? ⟨p, 13, none⟩ = some (.int .u64 o.stamp) := blk_cell hx5 13
           have fx5 : w5.frozen? ⟨p, 13, none⟩ = false := blk_frozen hx5 13
           have HX5 := Lib.hid hx5
           clear hb hx5)
          go_wp2_with fail
          refine hK.out _ _ ?_ (fun hHeld1 => ?_)
          · dsimp only
          clear hK K hHeld0
          try simp only [Act.put, List.setIfInBounds_toArray, List.set_cons_zero, List.set_cons_succ]
          refine wpAnyH_ready (rs := [4]) (by kernel_rfl) (by simp) ?_
          refine readyN rfl (fun K hK => ?_) ?_
          · -- operation 4
            go_simp
            refine hK.out _ _ ?_ (fun hHeld2 => ?_)
            · dsimp only
            clear hK K hHeld1
            try simp only [Act.put, List.setIfInBounds_toArray, List.set_cons_zero, List.set_cons_succ]
            refine wpAnyH_ready (rs := [7]) (by kernel_rfl) (by simp) ?_
            refine readyN rfl (fun K hK => ?_) ?_
            · -- operation 7
              go_simp
              refine hK.out _ _ ?_ (fun hHeld3 => ?_)
              · dsimp only
              clear hK K hHeld2
              try simp only [Act.put, List.setIfInBounds_toArray, List.set_cons_zero, List.set_cons_succ]
              refine takeN (v := ?_) 8 rfl (by kernel_rfl) (by kernel_rfl) (by kernel_rfl) (fun _ _ _ h => h) (by rfl) ?_ hHeld3 ?_
              rotate_left
              · intro w hSw; (try dsimp only at hSw); go_simp; with_reducible rfl
              try simp only [Act.put, List.setIfInBounds_toArray, List.set_cons_zero, List.set_cons_succ]
              refine takeN (v := ?_) 9 rfl (by kernel_rfl) (by kernel_rfl) (by kernel_rfl) (fun _ _ _ h => h) (by rfl) ?_ hHeld3 ?_
              rotate_left
              · intro w hSw; (try dsimp only at hSw); go_simp; with_reducible rfl
              try simp only [Act.put, List.setIfInBounds_toArray, List.set_cons_zero, List.set_cons_succ]
              refine wpAnyH_ready (rs := [10]) (by kernel_rfl) (by simp) ?_
              refine readyN rfl (fun K hK => ?_) ?_
              · -- operation 10
                go_simp
                refine hK.out _ _ ?_ (fun hHeld4 => ?_)
                · dsimp only
                clear hK K hHeld3
                try simp only [Act.put, List.setIfInBounds_toArray, List.set_cons_zero, List.set_cons_succ]
                refine wpAnyH_done (by kernel_rfl) ?_ _
                have HA5 := Lib.hid ((HAT.out.later HB4.out).later HB5.out)
                have HO5 := Lib.hid (HA5.out.own (max o.stamp nw) (HO4.out.below HB5.out))
                go_upto_region 17 with fail
                refine wp_gen' (fun W => Hid (OpAt w W p pd n m { o with stamp := max o.stamp nw }) ∧ Hid (BS W (.slice a4 4096 k4) pg)) ⟨Lib.hid (HA5.out.stamp _), Lib.hid HO5.out.bs⟩ ?_
                rintro W ⟨HAW, HBW⟩
                clear HA5 HO5 HX5 HB5 cx5 fx5 cx HX4 HNW HB4 HO4 HRD HAT
                have HFG := Lib.hid (fget_any (j : Int) 1 (.slice a4 4096 k4) pg (by omega) j4 (by decide) (by decide) W HBW.out HPZ.out)
                obtain ⟨G, hG⟩ : ∃ G, G = getF pg (j : Int) 1 := ⟨_, rfl⟩
                have HG := Lib.hid hG
                rw [← hG] at HFG
                clear hG
                have hos : opN R n (j + 1) = opStep R n j o := by rw [HPO.out]; rfl
                have HOS := Lib.hid hos
                clear hos
                cases G with
                | none =>
                  have hst : opStep R n j o = { o with stamp := max o.stamp nw } := by unfold opStep; rw [HPG.out, ← HG.out, HNQ.out]
                  have HST := Lib.hid hst
                  clear hst
                  go_wp2_with (go_at_call 10; refine HFG.out.mono ?_; rintro e w6 ⟨he, hb⟩; unfold GetR at he; simp only at he; subst he
                               have HB6 := Lib.hid hb
                               clear hb)
                  refine ⟨⟨j + 1, by omega, by simp, ?_, ?_⟩, by simp [intOf]; omega⟩
                  · rw [HOS.out, HST.out]
                  · rw [HOS.out, HST.out]; exact Lib.hid ⟨m, HAW.out.later HB6.out⟩
                | some g =>
                  obtain ⟨b, s⟩ := g
                  have hbz := (get_some HG.out.symm).2.2.2
                  by_cases hle : s ≤ o.best
                  · have hq : decide (s ≤ o.best) = true := decide_eq_true hle
                    have hst : opStep R n j o = { o with stamp := max o.stamp nw } := by unfold opStep; rw [HPG.out, ← HG.out, HNQ.out]; simp only; rw [if_pos hle]
                    have HST := Lib.hid hst
                    clear hst
                    go_wp2_with (go_at_call 10; refine HFG.out.mono ?_; rintro e w6 ⟨he, hb⟩; unfold GetR at he; simp only at he; obtain ⟨v6, rfl, ho⟩ := he; obtain ⟨a6, k6, rfl⟩ := ho.size
                                 have HB6 := Lib.hid hb
                                 clear hb ho)
                    refine ⟨⟨j + 1, by omega, by simp, ?_, ?_⟩, by simp [intOf]; omega⟩
                    · rw [HOS.out, HST.out]
                    · rw [HOS.out, HST.out]; exact Lib.hid ⟨m, HAW.out.later HB6.out⟩
                  · have hq : decide (s ≤ o.best) = false := decide_eq_false hle
                    obtain ⟨F, hF⟩ : ∃ F, F = headF b n := ⟨_, rfl⟩
                    have HF := Lib.hid hF
                    obtain ⟨bz, hbz'⟩ : ∃ bz, bz = b.size := ⟨_, rfl⟩
                    have HBZ := Lib.hid hbz'
                    cases F with
                    | none =>
                      have hst : opStep R n j o = { o with stamp := max o.stamp nw } := by unfold opStep; rw [HPG.out, ← HG.out, HNQ.out]; simp only; rw [if_neg hle, ← HF.out]
                      have HST := Lib.hid hst
                      clear hst hF hbz'
                      go_wp2_with (first
                        | (go_at_call 10; refine HFG.out.mono ?_; rintro e w6 ⟨he, hb⟩; unfold GetR at he; simp only at he; obtain ⟨v6, rfl, ho⟩ := he; obtain ⟨a6, k6, hv6, _, _⟩ := ho.bs.len2 HBZ.out.symm; subst hv6
                           have HB6 := Lib.hid hb
                           have HHD := Lib.hid (headed_any noV (.slice a6 bz k6) b n w6 ho.bs hbz h4 hn4)
                           rw [← HF.out] at HHD
                           clear hb ho)
                        | (go_at_call 46; refine HHD.out.mono ?_; rintro e w7 ⟨he, hb⟩; unfold HeadR at he; simp only at he; obtain ⟨c0, c1, c2, c3, c4, rfl, hone⟩ := he
                           have HB7 := Lib.hid (below_and HB6.out hb)
                           have HONE := Lib.hid hone
                           have HZ := Lib.hid (blk_new w7 (.cells #[.int .i64 0, .slice none 0 0, .slice none 0 0, .map none, .bool false] 59 (0, 0)))
                           clear hb hone)
                        | (show wpList _ _ _ (⟨_, Op.store _ (Operand.tmp 13) _, _, _, _, _⟩ :: _) _ _; refine wpl_store5 (w := w7.alloc (.cells #[.int .i64 0, .slice none 0 0, .slice none 0 0, .map none, .bool false] 59 (0, 0))) rfl (.tmp 13) (.tmp 76) rfl w7.heap.size 0 rfl [c0, c1, c2, c3, c4] rfl rfl 59 #[.int .i64 0, .slice none 0 0, .slice none 0 0, .map none, .bool false] HZ.out (by decide) HONE.out ?_))
                      refine ⟨⟨j + 1, by omega, by simp, ?_, ?_⟩, by simp [intOf]; omega⟩
                      · rw [HOS.out, HST.out]
                      · rw [HOS.out, HST.out]
                        refine Lib.hid ⟨m, HAW.out.later ?_⟩
                        have hal : Below W.heap.size W (w7.alloc (.cells #[.int .i64 0, .slice none 0 0, .slice none 0 0, .map none, .bool false] 59 (0, 0))) := HB7.out.alloc HB7.out.size _
                        exact hal.trans ((Keep.setCells (b := w7.heap.size) _ 0 _ (Keep.refl _ _)).below (B := W.heap.size) hal.size (fun i hi => by rw [hi]; exact HB7.out.size))
                    | some t =>
                      have hst : opStep R n j o = ⟨t, j, s, max o.stamp nw⟩ := by unfold opStep; rw [HPG.out, ← HG.out, HNQ.out]; simp only; rw [if_neg hle, ← HF.out]
                      have HST := Lib.hid hst
                      clear hst hF hbz'
                      go_wp2_with (first
                        | (go_at_call 10; refine HFG.out.mono ?_; rintro e w6 ⟨he, hb⟩; unfold GetR at he; simp only at he; obtain ⟨v6, rfl, ho⟩ := he; obtain ⟨a6, k6, hv6, _, _⟩ := ho.bs.len2 HBZ.out.symm; subst hv6
                           have HB6 := Lib.hid hb
                           have HHD := Lib.hid (headed_any noV (.slice a6 bz k6) b n w6 ho.bs hbz h4 hn4)
                           rw [← HF.out] at HHD
                           clear hb ho)
                        | (go_at_call 46; refine HHD.out.mono ?_; rintro e w7 ⟨he, hb⟩; unfold HeadR at he; simp only at he; obtain ⟨m2, rfl, hst7, hm7⟩ := he
                           have HB7 := Lib.hid (below_and HB6.out hb)
                           have HST7 := Lib.hid hst7
                           have HZ := Lib.hid (blk_new w7 (.cells #[.int .i64 0, .slice none 0 0, .slice none 0 0, .map none, .bool false] 59 (0, 0)))
                           have HM7 := Lib.hid (show ∀ i, m2.blk i → W.heap.size ≤ i from fun i hi => Nat.le_trans HB6.out.size (hm7 i hi))
                           obtain ⟨X1, hX1⟩ : ∃ X1, X1 = (w7.alloc (.cells #[.int .i64 0, .slice none 0 0, .slice none 0 0, .map none, .bool false] 59 (0, 0))).setCells w7.heap.size 0 (stCells m2 t) := ⟨_, rfl⟩
                           have hz1 := blk_setCells (stCells m2 t) 0 _ _ HZ.out
                           rw [← hX1] at hz1
                           have hal : Below W.heap.size W (w7.alloc (.cells #[.int .i64 0, .slice none 0 0, .slice none 0 0, .map none, .bool false] 59 (0, 0))) := HB7.out.alloc HB7.out.size _
                           have hb1 : Below W.heap.size W X1 := by rw [hX1]; exact hal.trans ((Keep.setCells (b := w7.heap.size) _ 0 _ (Keep.refl _ _)).below (B := W.heap.size) hal.size (fun i hi => by rw [hi]; exact HB7.out.size))
                           have h59 : ∀ j v, (stCells m2 t)[j]? = some v → X1.cell? ⟨w7.heap.size, 0 + j, none⟩ = some v := fun j v hv => by
                             rw [blk_cell hz1, Nat.zero_add]
                             simpa [setL, stCells] using hv
                           have H59 := Lib.hid h59
                           have HB1 := Lib.hid hb1
                           have hp1 := (Keep.ofBelow hb1 (fun _ => False)).blk HAW.out.blk (fun h => h)
                           have HP1 := Lib.hid hp1
                           have hst1 : StIs X1 noV m2 t := by
                             rw [hX1]
                             exact (hst7.below ((Below.refl _ w7).alloc (Nat.le_refl _) _)).keepB (Keep.setCells (b := w7.heap.size) _ 0 _ (Keep.refl _ _)) (fun i hi e => by have := hst7.lt i hi; omega) (fun i c z hc e => by rw [e, HZ.out] at hc; cases hc)
                           have HS1 := Lib.hid hst1
                           obtain ⟨X2, hX2⟩ : ∃ X2, X2 = X1.setCells p 0 (stCells m2 t) := ⟨_, rfl⟩
                           have hp2 := blk_setCells (stCells m2 t) 0 _ _ hp1
                           rw [← hX2] at hp2
                           have HX1 := Lib.hid hX1
                           have HX2 := Lib.hid hX2
                           have c12 : X2.cell? ⟨p, 12, none⟩ = some (.int .i64 o.head) := by rw [blk_cell hp2]; simp [setL, stCells, opArr]
                           have f12 : X2.frozen? ⟨p, 12, none⟩ = false := blk_frozen hp2 12
                           clear hb hst7 hm7 hz1 hal hb1 h59 hp1 hst1 hX1 hX2 hp2)
                        | (show wpList _ _ _ (⟨_, Op.store _ (Operand.tmp 13) _, _, _, _, _⟩ :: _) _ _; refine wpl_store5 (w := w7.alloc (.cells #[.int .i64 0, .slice none 0 0, .slice none 0 0, .map none, .bool false] 59 (0, 0))) rfl (.tmp 13) (.tmp 76) rfl w7.heap.size 0 rfl (stCells m2 t) rfl rfl 59 #[.int .i64 0, .slice none 0 0, .slice none 0 0, .map none, .bool false] HZ.out (by simp) (stCells_one m2 t) ?_; rw [← HX1.out])
                        | (show wpList _ _ _ (⟨_, Op.load _ (Operand.tmp 13), _, _, _, _⟩ :: _) _ _; refine wpl_load5 rfl (.tmp 13) rfl w7.heap.size 0 rfl (stCells m2 t) rfl H59.out ?_)
                        | (show wpList _ _ _ (⟨_, Op.store _ (Operand.tmp 85) _, _, _, _, _⟩ :: _) _ _; refine wpl_store5 rfl (.tmp 85) (.tmp 81) rfl p 0 rfl (stCells m2 t) rfl rfl 62 _ HP1.out (by simp [opArr]) (stCells_one m2 t) ?_; rw [← HX2.out]))
                      refine ⟨⟨j + 1, by omega, by simp, ?_, ?_⟩, by simp [intOf]; omega⟩
                      · rw [HOS.out, HST.out]
                      · rw [HOS.out, HST.out]
                        have hg := HAW.out.good HB1.out HS1.out HM7.out (headF_len HF.out.symm) (j : Int) s
                        rw [← HX2.out] at hg
                        exact Lib.hid ⟨m2, hg⟩
              exact AllReadyH.nil
            exact AllReadyH.nil
          exact AllReadyH.nil
        exact AllReadyH.nil
      · obtain rfl : j = 2 := by omega
        obtain ⟨m, ha⟩ := HA.out
        have ho : opN R n 2 = openO R n := rfl
        rw [ho] at ha ⊢
        obtain ⟨o, ho'⟩ : ∃ o, o = openO R n := ⟨_, rfl⟩
        rw [← ho'] at ha ⊢
        have HPO := Lib.hid ho'
        have HAT := Lib.hid ha
        have HLC := Lib.hid (show ∀ j v, (stCells m o.st)[j]? = some v → wr.cell? ⟨p, 0 + j, none⟩ = some v from by
          intro j v hj
          rw [blk_cell ha.blk, Nat.zero_add]
          have : j < 5 := (List.getElem?_eq_some_iff.1 hj).1
          match j, this with
          | 0, _ => exact hj
          | 1, _ => exact hj
          | 2, _ => exact hj
          | 3, _ => exact hj
          | 4, _ => exact hj)
        have HCP := Lib.hid (copied_any noV m o.st wr ha.st)
        have c13 : wr.cell? ⟨p, 13, none⟩ = some (.int .u64 o.stamp) := blk_cell ha.blk 13
        clear ha ho ho' HA
        by_cases hst : o.stamp = 18446744073709551615
        · have hq : (o.stamp == 18446744073709551615) = true := by simp [hst]
          have HST := Lib.hid hst
          clear hst
          go_wp2_with fail
          go_ret2
          exact ⟨fun _ => rfl, fun h => absurd (by rw [← HPO.out]; exact HST.out) h, HAT.out.below⟩
        · have hq : (o.stamp == 18446744073709551615) = false := by simp [hst]
          have HST := Lib.hid hst
          clear hst
          go_wp2_with (first
            | (go_at_call 32; refine HCP.out.mono ?_; rintro e w6 ⟨m2, rfl, hst6, hm6, hb⟩
               have HB6 := Lib.hid hb
               have HS6 := Lib.hid hst6
               have HM6 := Lib.hid hm6
               have HP6 := Lib.hid ((Keep.ofBelow hb (fun _ => False)).blk HAT.out.blk (fun h => h))
               clear hb hst6 hm6)
            | (show wpList _ _ _ (⟨_, Op.load _ (Operand.tmp 97), _, _, _, _⟩ :: _) _ _; refine wpl_load5 rfl (.tmp 97) rfl p 0 rfl (stCells m o.st) rfl HLC.out ?_)
            | (show wpList _ _ _ (⟨_, Op.store _ (Operand.tmp 101) _, _, _, _, _⟩ :: _) _ _; refine wpl_store5 rfl (.tmp 101) (.tmp 99) rfl p 6 rfl (stCells m2 o.st) rfl rfl 62 _ HP6.out (by simp [opArr]) (stCells_one m2 o.st) ?_))
          go_ret2
          obtain ⟨g1, g2, g3⟩ := open_end HD.out HN.out (by rw [HPO.out, HR.out]) HAT.out HB6.out HS6.out HM6.out
          exact ⟨fun h => absurd (by rw [HPO.out]; exact h) HST.out, fun _ => ⟨_, rfl, g1, rfl, g3⟩, g2⟩
end
end Go.Proofs.Ytlmngghkhnnaeaa
