/- A disk that a call has made, and what its methods do to it; bytes of a page. -/
import Derived.Test.YtpclfnamknioaaaPage
namespace Go.Proofs.Ytpclfnamknioaaa
open Go.RowKit
set_option maxRecDepth 100000
set_option linter.unusedVariables false
set_option linter.unusedSimpArgs false
/-- a disk that was made since w0 -/
def DX (w0 w : World) (p bl bw : Nat) (S : DS) : Prop := ∃ ov, DiskIs w p bl bw ov S ∧ Below w0.heap.size w0 w ∧ ∀ i, DF p bl bw ov i → w0.heap.size ≤ i
section
variable {w0 w : World} {p bl bw : Nat} {S : DS}
theorem DX.below {w' : World} (h : DX w0 w p bl bw S) (hb : Below w.heap.size w w') : DX w0 w' p bl bw S := by
  obtain ⟨ov, h1, h2, h3⟩ := h
  exact ⟨ov, h1.below hb, h2.trans (hb.mono h2.size), h3⟩
theorem DX.low (h : DX w0 w p bl bw S) : Below w0.heap.size w0 w := by obtain ⟨_, _, h2, _⟩ := h; exact h2
theorem DX.len (h : DX w0 w p bl bw S) : S.L.length ≤ 4096 := by obtain ⟨_, h1, _⟩ := h; exact h1.len
theorem DX.drew (h : DX w0 w p bl bw S) : DX w0 w.drew p bl bw S := h.below ((Below.refl _ _).drew)
theorem DX.alloc (h : DX w0 w p bl bw S) (o : Obj) : DX w0 (w.alloc o) p bl bw S := h.below ((Below.refl _ _).alloc (Nat.le_refl _) o)
theorem DiskIs.nb {ov : Value} (h : DiskIs w p bl bw ov S) {B : Nat} {v : Value} {s : ByteArray} (ho : Own 5 w B v s) : ∀ k, v.ownBlock = some k → ¬ DF p bl bw ov k := by
  intro k hk
  rcases ho.2 with ⟨rfl, _⟩ | ⟨g, cap, cur, rfl, _, hg, _⟩
  · cases hk
  · cases hk; exact h.not_bytes _ _ _ hg
theorem DX.of {ov : Value} {w' : World} {S' : DS} (h1 : Below w0.heap.size w0 w) (h3 : ∀ i, DF p bl bw ov i → w0.heap.size ≤ i) (h : Next w w' p bl bw ov S') : DX w0 w' p bl bw S' := by
  obtain ⟨ov', k1, k2, k3⟩ := h
  refine ⟨ov', k1, h1.trans (k2.below h1.size h3), ?_⟩
  rintro i (e | e | e | e)
  · exact h3 i (.inl e)
  · exact h3 i (.inr (.inl e))
  · exact h3 i (.inr (.inr (.inl e)))
  · rcases k3 i e with e | e
    · exact h3 i (.inr (.inr (.inr e)))
    · exact Nat.le_trans h1.size e
theorem DX.keepP {w' : World} {S' : DS} {ov : Value} (h1 : Below w0.heap.size w0 w) (h3 : ∀ i, DF p bl bw ov i → w0.heap.size ≤ i) (h : DiskIs w' p bl bw ov S') (hk : Keep (fun i => i = p) w w') : DX w0 w' p bl bw S' :=
  DX.of h1 h3 (Next.ofKeep h (hk.mono (fun i hi => .inl hi)))
theorem x_new (n : Nat) (w0 w : World) (hb : Below w0.heap.size w0 w) (h1 : 1 ≤ n) (h2 : n ≤ 4096) : Calls Try.prog 9 #[.int .i64 n] w fun e w' => ∃ p bl bw, e = .returned (.tuple #[dV p, .int .i64 0]) ∧ DX w0 w' p bl bw (newS n) ∧ Below w.heap.size w w' := by
  refine (new_ok n w h1 h2).mono ?_
  rintro e w' ⟨rfl, hD, hbl⟩
  refine ⟨_, _, _, rfl, ⟨_, hD, hb.trans (hbl.mono hb.size), ?_⟩, hbl⟩
  have := hb.size
  rintro i (rfl | rfl | rfl | e)
  · omega
  · omega
  · omega
  · cases e
theorem x_write (at_ : Int) (bv : Value) (u : ByteArray) (B : Nat) (hX : DX w0 w p bl bw S) (hB : Own 5 w B bv u) :
    Calls Try.prog 10 #[dV p, .int .i64 at_, bv] w fun e w' => e = .returned (.int .i64 (writeE S at_ u)) ∧ DX w0 w' p bl bw (writeR S at_ u) := by
  obtain ⟨ov, h1, h2, h3⟩ := hX
  refine (write_any at_ bv u w h1 hB.bs (h1.nb hB)).mono ?_
  rintro e w' ⟨c, rfl, rfl, hn⟩
  exact ⟨rfl, DX.of h2 h3 hn⟩
theorem x_read (at_ : Int) (hX : DX w0 w p bl bw S) : Calls Try.prog 14 #[dV p, .int .i64 at_] w fun e w' => ∃ v, e = .returned (.tuple #[v, .int .i64 (sureE S.dead S.L.length at_ 4096)]) ∧
    (sureE S.dead S.L.length at_ 4096 = 0 → Own 5 w' w.heap.size v (readP S at_)) ∧ (sureE S.dead S.L.length at_ 4096 ≠ 0 → v = .slice none 0 0) ∧ Below w.heap.size w w' ∧ DX w0 w' p bl bw S := by
  obtain ⟨ov, h1, h2, h3⟩ := hX
  refine (read_any at_ w h1).mono ?_
  rintro e w' ⟨v, c, rfl, rfl, h4, h5, h6⟩
  exact ⟨v, rfl, h4, h5, h6, ⟨ov, h1.below h6, h2.trans (h6.mono h2.size), h3⟩⟩
theorem x_flush (hX : DX w0 w p bl bw S) (hpos : 0 < S.L.length) : Calls Try.prog 18 #[dV p] w fun e w' => e = .returned (.int .i64 (flushE S)) ∧ DX w0 w' p bl bw (flushR S) := by
  obtain ⟨ov, h1, h2, h3⟩ := hX
  refine (flush_any w h1 hpos).mono ?_
  rintro e w' ⟨c, rfl, rfl, hn⟩
  exact ⟨rfl, DX.of h2 h3 hn⟩
theorem x_restart (fv : Value) (l : List Int) (hX : DX w0 w p bl bw S) (hI : IS w fv l) (hr : ∀ x ∈ l, -9223372036854775808 ≤ x ∧ x ≤ 9223372036854775807) (nb : ∀ k, fv.ownBlock = some k → k < w0.heap.size ∨ ∃ c e z, e ≠ 63 ∧ e ≠ 27 ∧ e ≠ 3 ∧ w.heap[k]? = some (.cells c e z)) :
    Calls Try.prog 13 #[dV p, fv] w fun e w' => e = .returned (.tuple #[]) ∧ DX w0 w' p bl bw (restartS S l) := by
  obtain ⟨ov, h1, h2, h3⟩ := hX
  refine (restart_any fv l w h1 hI hr (fun _ k hk hf => ?_)).mono ?_
  · rcases nb k hk with e | ⟨c, e, z, n1, n2, n3, hc⟩
    · have := h3 k hf; omega
    · rcases hf with rfl | rfl | rfl | hf
      · rw [h1.blk] at hc; simp only [Option.some.injEq, Obj.cells.injEq] at hc; exact n1 hc.2.1.symm
      · obtain ⟨ls, g1, _⟩ := h1.lasts; rw [g1] at hc; simp only [Option.some.injEq, Obj.cells.injEq] at hc; exact n2 hc.2.1.symm
      · obtain ⟨vs, ⟨es, c', g1, _⟩, _⟩ := h1.waits; rw [g1] at hc; simp at hc
      · obtain ⟨c', g1⟩ := h1.order_blk hf; rw [g1] at hc; simp only [Option.some.injEq, Obj.cells.injEq] at hc; exact n3 hc.2.1.symm
  rintro e w' ⟨rfl, hn⟩
  exact ⟨rfl, DX.of h2 h3 hn⟩
/-- fates in a row that was made just now -/
theorem x_restart_new (l : List Int) (cells : Array Value) (hc : cells = (l.map (Value.int .i64)).toArray) (n : Nat) (hn : n = l.length) (k : Nat) (hk : k = w.heap.size) (hl : l.length ≤ 1000000) (hX : DX w0 w p bl bw S) (hr : ∀ x ∈ l, -9223372036854775808 ≤ x ∧ x ≤ 9223372036854775807) :
    Calls Try.prog 13 #[dV p, .slice (some ⟨k, 0, none⟩) n n] (w.alloc (.cells cells 3)) fun e w' => e = .returned (.tuple #[]) ∧ DX w0 w' p bl bw (restartS S l) := by
  subst hc; subst hn; subst hk
  obtain ⟨ov, h1, h2, h3⟩ := hX
  have hlt := h1.lt
  have ha : Below w.heap.size w (w.alloc (.cells (l.map (Value.int .i64)).toArray 3)) := (Below.refl _ _).alloc (Nat.le_refl _) _
  have hI : IS (w.alloc (.cells (l.map (Value.int .i64)).toArray 3)) (.slice (some ⟨w.heap.size, 0, none⟩) l.length l.length) l :=
    ⟨_, _, rfl, Nat.le_refl _, by unfold maxLen; omega, .inr ⟨_, 0, rfl, fun i x hi => by rw [blk_cell (blk_new w _), List.getElem?_toArray, Nat.zero_add, List.getElem?_map, hi]; rfl⟩⟩
  refine (restart_any _ l _ (h1.below ha) hI hr (fun _ k hk hf => by cases hk; have h9 : w.heap.size < w.heap.size := hlt _ hf; omega)).mono ?_
  rintro e w' ⟨rfl, hn⟩
  exact ⟨rfl, DX.of (h2.trans (ha.mono h2.size)) h3 hn⟩
theorem x_restart_nil (hX : DX w0 w p bl bw S) : Calls Try.prog 13 #[dV p, .slice none 0 0] w fun e w' => e = .returned (.tuple #[]) ∧ DX w0 w' p bl bw (restartS S []) := by
  obtain ⟨ov, h1, h2, h3⟩ := hX
  refine (restart_any (.slice none 0 0) [] w h1 ⟨none, 0, rfl, Nat.le_refl _, by decide, .inl rfl⟩ (by simp) (fun _ k hk => by cases hk)).mono ?_
  rintro e w' ⟨rfl, hn⟩
  exact ⟨rfl, DX.of h2 h3 hn⟩
theorem x_fuse (n : Int) (hn : n ≤ 9223372036854775807) (hX : DX w0 w p bl bw S) : Calls Try.prog 16 #[dV p, .int .i64 n] w fun e w' => e = .returned (.tuple #[]) ∧ DX w0 w' p bl bw (fuseS S n) := by
  obtain ⟨ov, h1, h2, h3⟩ := hX
  refine (fuse_any n w hn h1).mono ?_
  rintro e w' ⟨rfl, h, hk⟩
  exact ⟨rfl, DX.keepP h2 h3 h hk⟩
theorem x_kill (hX : DX w0 w p bl bw S) : Calls Try.prog 28 #[dV p] w fun e w' => e = .returned (.tuple #[]) ∧ DX w0 w' p bl bw { S with dead := true } := by
  obtain ⟨ov, h1, h2, h3⟩ := hX
  refine (kill_any w h1).mono ?_
  rintro e w' ⟨rfl, h, hk⟩
  exact ⟨rfl, DX.keepP h2 h3 h hk⟩
theorem x_dead (hX : DX w0 w p bl bw S) : Calls Try.prog 17 #[dV p] w fun e w' => e = .returned (.bool S.dead) ∧ w' = w := by
  obtain ⟨ov, h1, h2, h3⟩ := hX
  exact dead_any w h1
theorem x_size (hX : DX w0 w p bl bw S) : Calls Try.prog 21 #[dV p] w fun e w' => e = .returned (.int .i64 S.L.length) ∧ w' = w := by
  obtain ⟨ov, h1, h2, h3⟩ := hX
  exact size_any w h1
theorem x_waits (hX : DX w0 w p bl bw S) : Calls Try.prog 12 #[dV p] w fun e w' => ∃ v, e = .returned v ∧ w'.ownsRow w.heap.size 3 1 v S.W.length ((S.W.map (·.1)).map (Value.int .i64)) ∧ Below w.heap.size w w' ∧ DX w0 w' p bl bw S := by
  have hX' := hX
  obtain ⟨ov, h1, h2, h3⟩ := hX
  refine (waits_any w h1).mono ?_
  rintro e w' ⟨v, rfl, h, hb⟩
  exact ⟨v, rfl, h, hb, hX'.below hb⟩
end
/-! ### bytes of a page -/
theorem over_get (S u : ByteArray) (o i : Nat) (h : o + u.size ≤ S.size) : (Lib.strCells (over S o u))[i]? = if o ≤ i ∧ i < o + u.size then (Lib.strCells u)[i - o]? else (Lib.strCells S)[i]? := by
  rw [over_cells S o u h]
  have hS : (Lib.strCells S).length = S.size := Lib.strCells_length S
  have hU : (Lib.strCells u).length = u.size := Lib.strCells_length u
  rw [List.getElem?_append]
  have ht : ((Lib.strCells S).take o).length = o := by rw [List.length_take]; omega
  rw [ht]
  by_cases h1 : i < o
  · rw [if_pos h1, if_neg (by omega), List.getElem?_take, if_pos h1]
  · rw [if_neg h1, List.getElem?_append, hU]
    by_cases h2 : i - o < u.size
    · rw [if_pos h2, if_pos (by omega)]
    · rw [if_neg h2, if_neg (by omega), List.getElem?_drop]
      congr 1
      omega
theorem sector_get (now : ByteArray) (j k : Nat) (hk : k < 512) (hj : k < 4096 - 512 * j) : (Lib.strCells ((now.extract (512 * j) 4096).extract 0 512))[k]? = (Lib.strCells now)[512 * j + k]? := by
  rw [strCells_ext, strCells_ext, List.drop_zero, List.getElem?_take, if_pos (by rw [Nat.sub_zero]; exact hk), List.getElem?_take, if_pos hj, List.getElem?_drop]
set_option maxHeartbeats 1000000 in
theorem mix_get (f : Int) (was now : ByteArray) (h : was.size = 4096) (hn : now.size = 4096) (i : Nat) (hi : i < 4096) : ∀ j, j ≤ 8 →
    (Lib.strCells (mix f was now j))[i]? = if i / 512 < j ∧ bitv f (i / 512) = true then (Lib.strCells now)[i]? else (Lib.strCells was)[i]?
  | 0, _ => by rw [if_neg (by omega)]; rfl
  | j + 1, hj => by
    have ih := mix_get f was now h hn i hi j (by omega)
    have hz := mix_size f was now h hn j (by omega)
    have hx : (now.extract (512 * j) 4096).size = 4096 - 512 * j := by rw [ByteArray.size_extract, hn]; omega
    have hx2 : ((now.extract (512 * j) 4096).extract 0 512).size = 512 := by rw [ByteArray.size_extract, hx]; omega
    cases hb : bitv f j with
    | false =>
      rw [mix_no _ _ _ _ hb, ih]
      by_cases h1 : i / 512 = j
      · rw [if_neg (by omega), if_neg (by rw [h1, hb]; simp)]
      · by_cases h2 : i / 512 < j ∧ bitv f (i / 512) = true
        · rw [if_pos h2, if_pos ⟨by omega, h2.2⟩]
        · rw [if_neg h2, if_neg (fun h3 => h2 ⟨by omega, h3.2⟩)]
    | true =>
      rw [mix_yes _ _ _ _ hb, over_get _ _ _ _ (by rw [hx2, hz]; omega), hx2]
      by_cases h1 : i / 512 = j
      · have c1 : 512 * j ≤ i ∧ i < 512 * j + 512 := by omega
        have c2 : i / 512 < j + 1 ∧ bitv f (i / 512) = true := ⟨by omega, by rw [h1]; exact hb⟩
        have c3 : 512 * j + (i - 512 * j) = i := by omega
        rw [if_pos c1, if_pos c2, sector_get now j (i - 512 * j) (by omega) (by omega), c3]
      · have c1 : ¬ (512 * j ≤ i ∧ i < 512 * j + 512) := by omega
        rw [if_neg c1, ih]
        by_cases h2 : i / 512 < j ∧ bitv f (i / 512) = true
        · have c2 : i / 512 < j + 1 ∧ bitv f (i / 512) = true := ⟨by omega, h2.2⟩
          rw [if_pos h2, if_pos c2]
        · have c2 : ¬ (i / 512 < j + 1 ∧ bitv f (i / 512) = true) := fun h3 => h2 ⟨by omega, h3.2⟩
          rw [if_neg h2, if_neg c2]
theorem bitv_zero (j : Nat) : bitv 0 j = false := by
  unfold bitv
  rw [Int.zero_ediv]
  rfl
theorem bitv_255 (j : Nat) (h : j < 8) : bitv 255 j = true := by
  have : ∀ j : Fin 8, bitv 255 j = true := by decide
  exact this ⟨j, h⟩
theorem mix_zero (was now : ByteArray) : ∀ j, mix 0 was now j = was
  | 0 => rfl
  | j + 1 => by rw [mix_no _ _ _ _ (bitv_zero j), mix_zero was now j]
theorem mix_all (was now : ByteArray) (h : was.size = 4096) (hn : now.size = 4096) : mix 255 was now 8 = now := by
  apply ba_of_cells
  refine List.ext_getElem? fun i => ?_
  rcases Nat.lt_or_ge i 4096 with hi | hi
  · rw [mix_get 255 was now h hn i hi 8 (Nat.le_refl _), if_pos ⟨by omega, bitv_255 _ (by omega)⟩]
  · rw [List.getElem?_eq_none (by rw [Lib.strCells_length, mix_size _ _ _ h hn 8 (Nat.le_refl _)]; exact hi), List.getElem?_eq_none (by rw [Lib.strCells_length, hn]; exact hi)]
theorem pgB_get {b c s : Int} (hb0 : 0 ≤ b) (hb : b < 256) (hc0 : 0 ≤ c) (hc : c < 256) (i : Nat) (hi : i < 4096) : (Lib.strCells (pgB b c s))[i]? = some (.int .u8 (pgN b c s i)) := by
  rw [pgB_cells hb0 hb hc0 hc, List.getElem?_map, List.getElem?_range hi]
  rfl
theorem zp_get (i : Nat) (hi : i < 4096) : (Lib.strCells (zp 4096))[i]? = some (.int .u8 0) := by
  rw [zp_cells, List.getElem?_replicate, if_pos hi]
/-- a byte of a slice in memory -/
theorem Own.byte {w : World} {B : Nat} {v : Value} {s : ByteArray} (h : Own 5 w B v s) (hs : s.size = 4096) : ∃ g cap, v = .slice (some ⟨g, 0, none⟩) 4096 cap ∧ B ≤ g ∧ 4096 ≤ cap ∧ cap ≤ maxLen ∧ ∀ (i : Nat) x, (Lib.strCells s)[i]? = some x → w.cell? ⟨g, i, none⟩ = some x := by
  rcases h.2 with ⟨_, h0⟩ | ⟨g, cap, cur, rfl, hb, hg, hn, hm, _, ht⟩
  · omega
  · refine ⟨g, cap, by rw [hs], hb, by omega, hm, fun i x hx => ?_⟩
    rw [blk_cell hg]
    rw [← ht, List.getElem?_take] at hx
    split at hx
    · simpa using hx
    · cases hx
end Go.Proofs.Ytpclfnamknioaaa
