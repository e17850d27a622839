/- A disk that stays off blocks of ours; writes and Restarts of it; maps of ints to truth values. -/
import Derived.Test.YtpclfnamknioaaaLawSec
namespace Go.Proofs.Ytpclfnamknioaaa
open Go.RowKit
set_option maxRecDepth 100000
set_option maxHeartbeats 1000000
set_option linter.unusedVariables false
set_option linter.unusedSimpArgs false
theorem IMapAt.lookupZ {P : Program} {w : World} {b : Nat} {l : IM} {t kt et : TypeId} (z : Value) (h : IMapAt w b l) (ht : P.underlying t = some (.map kt et)) (hk : P.underlying kt = some (.int .i64)) (hz : ∀ w, (zeroValue et).run P w = .ok z w) (k : Int) :
    (Instr.lookup t (.map (some b)) (.int .i64 k) false).run P w = .ok (((IM.get k l).getD z)) w := by
  obtain ⟨es, c, h1, h2, h3, h4⟩ := h
  have hg : (getObj b).run P w = .ok (.map es c) w := by simp [getObj, Sem.run, h1]
  have hf := findKey_int (P := P) (kt := kt) hk k es.toList w h2
  have hp := ipos_get k l
  simp only [Instr.lookup, Sem.run_bind, run_underlying ht, Result.andThen, hg, checkKey_int hk, Sem.run_pure]
  rw [hf]
  cases hpos : IM.pos k l with
  | none =>
    rw [hpos] at hp
    have hn : IM.get k l = none := by cases hx : IM.get k l with
      | none => rfl
      | some x => rw [hx] at hp; simp at hp
    simp [hz, Result.andThen, hn]
  | some j =>
    rw [hpos] at hp
    obtain ⟨v, hv⟩ : ∃ v, IM.get k l = some v := by cases hx : IM.get k l with
      | none => rw [hx] at hp; simp at hp
      | some x => exact ⟨x, rfl⟩
    simp [Result.andThen, hv]
theorem IM.get_put (k : Int) (v : Value) (j : Int) : ∀ l : IM, IM.get j (IM.put k v l) = if j = k then some v else IM.get j l
  | [] => by
    by_cases h : j = k
    · subst h; simp [IM.put, IM.get]
    · simp [IM.put, IM.get, h]
  | q :: l => by
    have ih := IM.get_put k v j l
    by_cases hq : k = q.1
    · subst hq
      simp only [IM.put, if_pos rfl, IM.get]
      by_cases h : j = q.1 <;> simp [h, IM.get]
    · simp only [IM.put, if_neg hq, IM.get]
      by_cases h : j = q.1
      · subst h; rw [if_pos rfl, if_pos rfl, if_neg (fun e => hq e.symm)]
      · rw [if_neg h, if_neg h]; exact ih
/-- all blocks of ours stand -/
def KA (A : Nat → Prop) (w w' : World) : Prop := ∀ k o, A k → w.heap[k]? = some o → w'.heap[k]? = some o
def FK (A : Nat → Prop) (p bl : Nat) (w w' : World) : Prop := FR p bl w w' ∧ KA A w w'
theorem FK.trans {A : Nat → Prop} {p bl : Nat} {a b c : World} (h : FK A p bl a b) (k : FK A p bl b c) : FK A p bl a c := ⟨h.1.trans k.1, fun i o hi ho => k.2 i o hi (h.2 i o hi ho)⟩
theorem FK.ofBelow {A : Nat → Prop} {p bl : Nat} {w w' : World} (h : Below w.heap.size w w') : FK A p bl w w' := by
  refine ⟨FR.ofBelow h, fun k o _ hk => ?_⟩
  have hlt := (Array.getElem?_eq_some_iff.1 hk).1
  rw [← hk]
  exact (Keep.ofBelow h (fun _ => False)).block k hlt (fun h => h)
/-- a disk that was made since w0, off A -/
def DXA (A : Nat → Prop) (w0 w : World) (p bl bw : Nat) (S : DS) : Prop := ∃ ov, DiskIs w p bl bw ov S ∧ Below w0.heap.size w0 w ∧ (∀ i, DF p bl bw ov i → w0.heap.size ≤ i) ∧ ∀ i, DF p bl bw ov i → ¬ A i
section
variable {A : Nat → Prop} {w0 w : World} {p bl bw : Nat} {S : DS}
theorem DXA.dx (h : DXA A w0 w p bl bw S) : DX w0 w p bl bw S := by obtain ⟨ov, a, b, c, _⟩ := h; exact ⟨ov, a, b, c⟩
theorem DXA.below {w' : World} (h : DXA A w0 w p bl bw S) (hb : Below w.heap.size w w') : DXA A w0 w' p bl bw S := by
  obtain ⟨ov, h1, h2, h3, h4⟩ := h
  exact ⟨ov, h1.below hb, h2.trans (hb.mono h2.size), h3, h4⟩
theorem DXA.alloc (h : DXA A w0 w p bl bw S) (o : Obj) : DXA A w0 (w.alloc o) p bl bw S := h.below ((Below.refl _ _).alloc (Nat.le_refl _) o)
theorem DXA.drew (h : DXA A w0 w p bl bw S) : DXA A w0 w.drew p bl bw S := h.below ((Below.refl _ _).drew)
/-- off other blocks: those of before, or new ones -/
theorem DXA.change {A' : Nat → Prop} (h : DXA A w0 w p bl bw S) (hA : ∀ i, A' i → A i ∨ w.heap.size ≤ i) : DXA A' w0 w p bl bw S := by
  obtain ⟨ov, h1, h2, h3, h4⟩ := h
  refine ⟨ov, h1, h2, h3, fun i hi ha => ?_⟩
  rcases hA i ha with h | h
  · exact h4 i hi h
  · have := h1.lt i hi; omega
theorem DX.off (h : DX w0 w p bl bw S) (A : Nat → Prop) (hA : ∀ i, A i → w.heap.size ≤ i) : DXA A w0 w p bl bw S := by
  obtain ⟨ov, h1, h2, h3⟩ := h
  refine ⟨ov, h1, h2, h3, fun i hi ha => ?_⟩
  have := h1.lt i hi; have := hA i ha; omega
/-- our own blocks change -/
theorem DXA.mine {w' : World} {F : Nat → Prop} (h : DXA A w0 w p bl bw S) (hk : Keep F w w') (hF : ∀ i, F i → A i) (h0 : ∀ i, F i → w0.heap.size ≤ i) (hB : ∀ i c z, w.heap[i]? = some (.cells c 5 z) → ¬ F i) : DXA A w0 w' p bl bw S := by
  obtain ⟨ov, h1, h2, h3, h4⟩ := h
  exact ⟨ov, h1.keep hk (fun i hi hf => h4 i hi (hF i hf)) hB, h2.trans (hk.below h2.size h0), h3, h4⟩
theorem DXA.next {ov : Value} {w' : World} {S' : DS} (h0 : DiskIs w p bl bw ov S) (h1 : Below w0.heap.size w0 w) (h3 : ∀ i, DF p bl bw ov i → w0.heap.size ≤ i) (h4 : ∀ i, DF p bl bw ov i → ¬ A i) (hA : ∀ i, A i → i < w.heap.size) (h : Next w w' p bl bw ov S') : DXA A w0 w' p bl bw S' ∧ FK A p bl w w' := by
  obtain ⟨ov', k1, k2, k3⟩ := h
  refine ⟨⟨ov', k1, h1.trans (k2.below h1.size h3), ?_, ?_⟩, h0.fr k2, fun k o ha ho => ?_⟩
  · rintro i (e | e | e | e)
    · exact h3 i (.inl e)
    · exact h3 i (.inr (.inl e))
    · exact h3 i (.inr (.inr (.inl e)))
    · rcases k3 i e with e | e
      · exact h3 i (.inr (.inr (.inr e)))
      · exact Nat.le_trans h1.size e
  · rintro i (e | e | e | e) ha
    · exact h4 i (.inl e) ha
    · exact h4 i (.inr (.inl e)) ha
    · exact h4 i (.inr (.inr (.inl e))) ha
    · rcases k3 i e with e | e
      · exact h4 i (.inr (.inr (.inr e))) ha
      · have := hA i ha; omega
  · have hlt := (Array.getElem?_eq_some_iff.1 ho).1
    rw [← ho]
    exact k2.block k hlt (fun hd => h4 k hd ha)
theorem a_write (at_ : Int) (bv : Value) (u : ByteArray) (B : Nat) (hX : DXA A w0 w p bl bw S) (hA : ∀ i, A i → i < w.heap.size) (hB : Own 5 w B bv u) :
    Calls Try.prog 10 #[dV p, .int .i64 at_, bv] w fun e w' => e = .returned (.int .i64 (writeE S at_ u)) ∧ DXA A w0 w' p bl bw (writeR S at_ u) ∧ FK A p bl w w' := by
  obtain ⟨ov, h1, h2, h3, h4⟩ := hX
  refine (write_any at_ bv u w h1 hB.bs (h1.nb hB)).mono ?_
  rintro e w' ⟨c, rfl, rfl, hn⟩
  exact ⟨rfl, DXA.next h1 h2 h3 h4 hA hn⟩
theorem a_restart (fv : Value) (l : List Int) (hX : DXA A w0 w p bl bw S) (hA : ∀ i, A i → i < w.heap.size) (hI : IS w fv l) (hr : ∀ x ∈ l, -9223372036854775808 ≤ x ∧ x ≤ 9223372036854775807) (nb : l ≠ [] → ∀ k, fv.ownBlock = some k → A k) :
    Calls Try.prog 13 #[dV p, fv] w fun e w' => e = .returned (.tuple #[]) ∧ DXA A w0 w' p bl bw (restartS S l) ∧ FK A p bl w w' := by
  obtain ⟨ov, h1, h2, h3, h4⟩ := hX
  refine (restart_any fv l w h1 hI hr (fun hl k hk hf => h4 k hf (nb hl k hk))).mono ?_
  rintro e w' ⟨rfl, hn⟩
  exact ⟨rfl, DXA.next h1 h2 h3 h4 hA hn⟩
/-- a write, by the law's does -/
theorem does0_any (a : A3) (ha : a.Ok w0) (hX : DXA A w0 w p bl bw S) (hA : ∀ i, A i → i < w.heap.size) (h0 : a.doo % 7 = 0) :
    Calls Try.prog 22 #[dV p, .agg a.cells.toArray] w fun e w' => e = .returned (.int .i64 (writeE S a.at_ (pgB a.b a.c a.s))) ∧ DXA A w0 w' p bl bw (writeR S a.at_ (pgB a.b a.c a.s)) ∧ FK A p bl w w' := by
  obtain ⟨doo, at_, b, c, s, fv, fates⟩ := a
  obtain ⟨⟨hd0, hd1⟩, ⟨ha0, ha1⟩, ⟨hb0, hb1⟩, ⟨hc0, hc1⟩, ⟨hs0, hs1⟩, his, hrng, hlt⟩ := ha
  simp only at hd0 hd1 ha0 ha1 hb0 hb1 hc0 hc1 hs0 hs1 his hrng hlt h0
  obtain ⟨fa, fc, rfl, hfr⟩ := his
  have HA := Lib.hid hA
  have hnp : w.heap.size ≠ p ∧ w.heap.size ≠ bl := by
    obtain ⟨ov, h1, _⟩ := hX
    have h2 := h1.lt p (.inl rfl)
    have h3 := h1.lt bl (.inr (.inl rfl))
    omega
  have HX := Lib.hid hX
  have HAL := Lib.hid (FK.ofBelow (A := A) (p := p) (bl := bl) ((Below.refl w.heap.size w).alloc (Nat.le_refl _) (.cells #[.int .u8 doo, .int .i64 at_, .int .u8 b, .int .u8 c, .int .u8 s, .slice fa fates.length fc] 45)))
  clear hfr hrng hlt hX hA
  unfold dV A3.cells
  simp only
  go_enter Try.func22, Try.ntmps22
  go_wp2_with fail
  have hbx : (w.alloc (.cells #[.int .u8 doo, .int .i64 at_, .int .u8 b, .int .u8 c, .int .u8 s, .slice fa fates.length fc] 45)).heap[w.heap.size]? = some (.cells #[.int .u8 doo, .int .i64 at_, .int .u8 b, .int .u8 c, .int .u8 s, .slice fa fates.length fc] 45 (0, 0)) := blk_new w _
  have hfc : ∀ w', FK A p bl (w.alloc (.cells #[.int .u8 doo, .int .i64 at_, .int .u8 b, .int .u8 c, .int .u8 s, .slice fa fates.length fc] 45)) w' → w'.cell? ⟨w.heap.size, 1, none⟩ = some (.int .i64 at_) ∧ w'.cell? ⟨w.heap.size, 2, none⟩ = some (.int .u8 b) ∧ w'.cell? ⟨w.heap.size, 3, none⟩ = some (.int .u8 c) ∧ w'.cell? ⟨w.heap.size, 4, none⟩ = some (.int .u8 s) := fun w' hfr => by
    have h := hfr.1 _ _ _ _ (by decide) hnp.1 hnp.2 hbx
    exact ⟨by rw [blk_cell h]; rfl, by rw [blk_cell h]; rfl, by rw [blk_cell h]; rfl, by rw [blk_cell h]; rfl⟩
  have HFC := Lib.hid hfc
  have HXA := Lib.hid ((HX.out.alloc (.cells #[.int .u8 doo, .int .i64 at_, .int .u8 b, .int .u8 c, .int .u8 s, .slice fa fates.length fc] 45)).drew)
  have HFD : Hid (FK A p bl (w.alloc (.cells #[.int .u8 doo, .int .i64 at_, .int .u8 b, .int .u8 c, .int .u8 s, .slice fa fates.length fc] 45)) (w.alloc (.cells #[.int .u8 doo, .int .i64 at_, .int .u8 b, .int .u8 c, .int .u8 s, .slice fa fates.length fc] 45)).drew) := Lib.hid (FK.ofBelow ((Below.refl _ _).drew))
  have HAZ : Hid (∀ i, A i → i < (w.alloc (.cells #[.int .u8 doo, .int .i64 at_, .int .u8 b, .int .u8 c, .int .u8 s, .slice fa fates.length fc] 45)).drew.heap.size) := Lib.hid (fun i hi => by have := HA.out i hi; simp [World.drew]; omega)
  clear hbx hfc HX
  refine wp_region_held_drew (S := (fun w' => w'.cell? ⟨w.heap.size, 1, none⟩ = some (.int .i64 at_) ∧ w'.cell? ⟨w.heap.size, 2, none⟩ = some (.int .u8 b) ∧ w'.cell? ⟨w.heap.size, 3, none⟩ = some (.int .u8 c) ∧ w'.cell? ⟨w.heap.size, 4, none⟩ = some (.int .u8 s))) (by kernel_rfl) ?_ (fun hHeld0 => ?_)
  · (try dsimp only)
    first | exact HFC.out _ HFD.out | exact HFC.out _ HF2.out | exact HFC.out _ HF3.out
  refine takeN (v := ?_) 0 rfl (by kernel_rfl) (by kernel_rfl) (by kernel_rfl) (fun _ _ _ h => h) (by rfl) ?_ hHeld0 ?_
  rotate_left
  · intro w hSw; (try dsimp only at hSw); go_simp; with_reducible rfl
  try simp only [Act.put, List.setIfInBounds_toArray, List.set_cons_zero, List.set_cons_succ]
  refine takeN (v := ?_) 1 rfl (by kernel_rfl) (by kernel_rfl) (by kernel_rfl) (fun _ _ _ h => h) (by rfl) ?_ hHeld0 ?_
  rotate_left
  · intro w hSw; (try dsimp only at hSw); go_simp; with_reducible rfl
  try simp only [Act.put, List.setIfInBounds_toArray, List.set_cons_zero, List.set_cons_succ]
  refine takeN (v := ?_) 2 rfl (by kernel_rfl) (by kernel_rfl) (by kernel_rfl) (fun _ _ _ h => h) (by rfl) ?_ hHeld0 ?_
  rotate_left
  · intro w hSw; (try dsimp only at hSw); go_simp; with_reducible rfl
  try simp only [Act.put, List.setIfInBounds_toArray, List.set_cons_zero, List.set_cons_succ]
  refine takeN (v := ?_) 3 rfl (by kernel_rfl) (by kernel_rfl) (by kernel_rfl) (fun _ _ _ h => h) (by rfl) ?_ hHeld0 ?_
  rotate_left
  · intro w hSw; (try dsimp only at hSw); go_simp; with_reducible rfl
  try simp only [Act.put, List.setIfInBounds_toArray, List.set_cons_zero, List.set_cons_succ]
  refine takeN (v := ?_) 4 rfl (by kernel_rfl) (by kernel_rfl) (by kernel_rfl) (fun _ _ _ h => h) (by rfl) ?_ hHeld0 ?_
  rotate_left
  · intro w hSw; (try dsimp only at hSw); go_simp; with_reducible rfl
  try simp only [Act.put, List.setIfInBounds_toArray, List.set_cons_zero, List.set_cons_succ]
  refine takeN (v := ?_) 5 rfl (by kernel_rfl) (by kernel_rfl) (by kernel_rfl) (fun _ _ _ h => h) (by rfl) ?_ hHeld0 ?_
  rotate_left
  · intro w hSw; (try dsimp only at hSw); go_simp; with_reducible rfl
  try simp only [Act.put, List.setIfInBounds_toArray, List.set_cons_zero, List.set_cons_succ]
  refine takeN (v := ?_) 6 rfl (by kernel_rfl) (by kernel_rfl) (by kernel_rfl) (fun _ _ _ h => h) (by rfl) ?_ hHeld0 ?_
  rotate_left
  · intro w hSw; (try dsimp only at hSw); go_simp; with_reducible rfl
  try simp only [Act.put, List.setIfInBounds_toArray, List.set_cons_zero, List.set_cons_succ]
  refine takeN (v := ?_) 7 rfl (by kernel_rfl) (by kernel_rfl) (by kernel_rfl) (fun _ _ _ h => h) (by rfl) ?_ hHeld0 ?_
  rotate_left
  · intro w hSw; (try dsimp only at hSw); go_simp; with_reducible rfl
  try simp only [Act.put, List.setIfInBounds_toArray, List.set_cons_zero, List.set_cons_succ]
  refine takeN (v := ?_) 8 rfl (by kernel_rfl) (by kernel_rfl) (by kernel_rfl) (fun _ _ _ h => h) (by rfl) ?_ hHeld0 ?_
  rotate_left
  · intro w hSw; (try dsimp only at hSw); go_simp; with_reducible rfl
  try simp only [Act.put, List.setIfInBounds_toArray, List.set_cons_zero, List.set_cons_succ]
  refine wpAnyH_ready (rs := [9]) (by kernel_rfl) (by simp) ?_
  refine readyN rfl (fun K hK => ?_) ?_
  · -- operation 9
    go_simp
    first
      | (go_at_call 11; refine (page_law b c s hb0 hb1 hc0 hc1 hs0 hs1 _).mono ?_; rintro e w2 ⟨v2, rfl, ho, hb⟩; obtain ⟨g2, c2, rfl, _⟩ := ho.byte (pgB_size _ _ _)
         have HO2 := Lib.hid ho
         have HX2 := Lib.hid (HXA.out.below hb)
         have HF2 := Lib.hid (HFD.out.trans (FK.ofBelow hb))
         have HA2 := Lib.hid (fun i hi => Nat.lt_of_lt_of_le (HAZ.out i hi) hb.size)
         clear ho hb)
      | (go_at_call 10; refine (a_write at_ _ _ _ HX2.out HA2.out HO2.out).mono ?_; rintro e w3 ⟨rfl, hx, hfr⟩
         have HX3 := Lib.hid hx
         have HF3 := Lib.hid (HF2.out.trans hfr)
         clear hx hfr)
    go_wp2_with fail
    refine hK.out _ _ ?_ (fun hHeld1 => ?_)
    · (try dsimp only)
      first | exact HFC.out _ HFD.out | exact HFC.out _ HF2.out | exact HFC.out _ HF3.out
    clear hK K hHeld0
    try simp only [Act.put, List.setIfInBounds_toArray, List.set_cons_zero, List.set_cons_succ]
    refine wpAnyH_ready (rs := [10]) (by kernel_rfl) (by simp) ?_
    refine readyN rfl (fun K hK => ?_) ?_
    · -- operation 10
      go_simp
      first
        | (go_at_call 11; refine (page_law b c s hb0 hb1 hc0 hc1 hs0 hs1 _).mono ?_; rintro e w2 ⟨v2, rfl, ho, hb⟩; obtain ⟨g2, c2, rfl, _⟩ := ho.byte (pgB_size _ _ _)
           have HO2 := Lib.hid ho
           have HX2 := Lib.hid (HXA.out.below hb)
           have HF2 := Lib.hid (HFD.out.trans (FK.ofBelow hb))
           have HA2 := Lib.hid (fun i hi => Nat.lt_of_lt_of_le (HAZ.out i hi) hb.size)
           clear ho hb)
        | (go_at_call 10; refine (a_write at_ _ _ _ HX2.out HA2.out HO2.out).mono ?_; rintro e w3 ⟨rfl, hx, hfr⟩
           have HX3 := Lib.hid hx
           have HF3 := Lib.hid (HF2.out.trans hfr)
           clear hx hfr)
      go_wp2_with fail
      refine hK.out _ _ ?_ (fun hHeld2 => ?_)
      · (try dsimp only)
        first | exact HFC.out _ HFD.out | exact HFC.out _ HF2.out | exact HFC.out _ HF3.out
      clear hK K hHeld1
      try simp only [Act.put, List.setIfInBounds_toArray, List.set_cons_zero, List.set_cons_succ]
      refine takeN (v := ?_) 11 rfl (by kernel_rfl) (by kernel_rfl) (by kernel_rfl) (fun _ _ _ h => h) (by rfl) ?_ hHeld2 ?_
      rotate_left
      · intro w hSw; (try dsimp only at hSw); go_simp; with_reducible rfl
      try simp only [Act.put, List.setIfInBounds_toArray, List.set_cons_zero, List.set_cons_succ]
      refine wpAnyH_done (by kernel_rfl) ?_ _
      go_wp2_with fail
      go_ret
      exact ⟨rfl, HX3.out, HAL.out.trans HF3.out⟩
    exact AllReadyH.nil
  exact AllReadyH.nil
end
end Go.Proofs.Ytpclfnamknioaaa
