/- The walks of disk's Read. The walks of disk's Read, Write, Flush, Restart. -/
import Derived.Test.YtlmngghkhnnaeaaQDisk4
namespace Go.Proofs.Ytlmngghkhnnaeaa
open Go.RowKit
set_option maxRecDepth 100000
set_option linter.unusedVariables false
set_option linter.unusedSimpArgs false
def wget (k : Int) : Wt → Option ByteArray
  | [] => none
  | q :: l => if k = q.1 then some q.2 else wget k l
/-- a page as it is read -/
def readP (S : DS) (at_ : Int) : ByteArray := (wget at_ S.W).getD (pgOf (S.L.getD at_.toNat none))
theorem im_ok {w : World} {b : Nat} {l : IM} (h : IMapAt w b l) (k : Int) : (Instr.lookup 51 (.map (some b)) (.int .i64 k) true).run Try.prog w = .ok (imapGetV l k) w :=
  h.lookup_ok (P := Try.prog) (t := 51) (kt := 3) (et := 28) (by kernel_rfl) (by kernel_rfl) (fun w => by kernel_rfl) k
section
variable {p bl bw : Nat} {ov : Value} {S : DS}
theorem waits_get {B : Nat} : ∀ (W : Wt) (vs : IM) (w : World) (k : Int), vs.length = W.length → (∀ (i : Nat) (q : Int × ByteArray), W[i]? = some q → ∃ v, vs[i]? = some (q.1, v) ∧ PG B w v (some q.2)) →
    (IM.get k vs = none ∧ wget k W = none) ∨ ∃ v u, IM.get k vs = some v ∧ wget k W = some u ∧ PG B w v (some u)
  | [], [], w, k, _, _ => .inl ⟨rfl, rfl⟩
  | [], _ :: _, w, k, h, _ => by simp at h
  | _ :: _, [], w, k, h, _ => by simp at h
  | q :: W, x :: vs, w, k, h, hx => by
    obtain ⟨v, h1, h2⟩ := hx 0 q rfl
    simp only [List.getElem?_cons_zero, Option.some.injEq] at h1
    subst h1
    by_cases hk : k = q.1
    · exact .inr ⟨v, q.2, by simp [IM.get, hk], by simp [wget, hk], h2⟩
    · have := waits_get W vs w k (by simpa using h) (fun i q' hq' => hx (i + 1) q' hq')
      simp only [IM.get, wget, if_neg hk]
      exact this
theorem readP_size {w : World} (hD : DiskIs w p bl bw ov S) (at_ : Nat) (h : at_ < S.L.length) : (readP S at_).size = 4096 := by
  obtain ⟨vs, h1, h2, h3⟩ := hD.waits
  unfold readP
  rcases waits_get S.W vs w at_ h2 h3 with ⟨_, e⟩ | ⟨v, u, _, e, hp⟩
  · rw [e]
    obtain ⟨ls, _, _, h4⟩ := hD.lasts
    obtain ⟨v, _, hp⟩ := h4 at_ S.L[at_] (by rw [List.getElem?_eq_getElem h])
    rw [Option.getD_none, Int.toNat_natCast, List.getD_eq_getElem?_getD, List.getElem?_eq_getElem h, Option.getD_some]
    exact pgOf_size hp
  · rw [e]; exact hp.2
theorem readC (at_ : Nat) (hat : at_ < S.L.length) (qd qa qo : Nat) (w : World) (hD : DiskIs w p bl bw ov S) (hqd : w.cell? ⟨qd, 0, none⟩ = some (dV p)) (hqa : w.cell? ⟨qa, 0, none⟩ = some (.int .i64 at_)) (x : Value)
    (hqo : w.heap[qo]? = some (.cells #[x] 28 (0, 0))) (ne1 : qd ≠ qo) (ne2 : qa ≠ qo) (ne3 : ¬ DF p bl bw ov qo) :
    Calls Try.prog 27 #[.pointer (some ⟨qd, 0, none⟩), .pointer (some ⟨qa, 0, none⟩), .pointer (some ⟨qo, 0, none⟩)] w fun e w' => ∃ c, e = .returned (.int .i64 c) ∧ c = 0 ∧ ∃ v, w'.cell? ⟨qo, 0, none⟩ = some v ∧ Own 5 w' w.heap.size v (readP S at_) ∧ Keep (fun i => i = qo) w w' ∧ w'.heap[qo]? = some (.cells #[v] 28 (0, 0)) := by
  obtain ⟨vs, hm1, hm2, hm3⟩ := hD.waits
  obtain ⟨ls, hl1, hl2, hl3⟩ := hD.lasts
  obtain ⟨v0, hv0, hp0⟩ := hl3 at_ S.L[at_] (by rw [List.getElem?_eq_getElem hat])
  have hlen := hD.len
  have np : p ≠ qo := fun e => ne3 (.inl e.symm)
  have nl : bl ≠ qo := fun e => ne3 (.inr (.inl e.symm))
  have nw : bw ≠ qo := fun e => ne3 (.inr (.inr (.inl e.symm)))
  have hfact : ∀ w', Keep (fun i => i = qo) w w' → w'.cell? ⟨qd, 0, none⟩ = some (.pointer (some ⟨p, 0, none⟩)) ∧ w'.cell? ⟨qa, 0, none⟩ = some (.int .i64 at_) ∧ w'.cell? ⟨p, 0, none⟩ = some (.slice (some ⟨bl, 0, none⟩) S.L.length S.L.length) ∧ w'.cell? ⟨p, 1, none⟩ = some (.map (some bw)) ∧ w'.cell? ⟨bl, at_, none⟩ = some v0 ∧
      (Instr.lookup 51 (.map (some bw)) (.int .i64 at_) true).run Try.prog w' = .ok (imapGetV vs at_) w' := fun w' hk =>
    ⟨hk.cell hqd ne1, hk.cell hqa ne2, hk.cell hD.c0 np, hk.cell hD.c1 np, hk.cell (by rw [blk_cell hl1]; exact hv0) nl, im_ok (hm1.keep hk nw) at_⟩
  have hnew : ∀ w' v, Below w.heap.size w w' → w'.cell? ⟨qo, 0, none⟩ = some x ∧ w'.frozen? ⟨qo, 0, none⟩ = false ∧ (w'.setCell ⟨qo, 0, none⟩ v).cell? ⟨qo, 0, none⟩ = some v ∧ Keep (fun i => i = qo) w (w'.setCell ⟨qo, 0, none⟩ v) ∧ (w'.setCell ⟨qo, 0, none⟩ v).heap[qo]? = some (.cells #[v] 28 (0, 0)) := fun w' v hb => by
    have h1 := (Keep.ofBelow hb (fun _ => False)).blk hqo (fun h => h)
    refine ⟨by rw [blk_cell h1]; rfl, blk_frozen h1 0, by rw [blk_cell (blk_setCell h1 0 v)]; rfl, (Keep.ofBelow hb (fun i => i = qo)).setCell (p := ⟨qo, 0, none⟩) (.inl rfl) v, blk_setCell h1 0 v⟩
  have hob : ∀ i c z, w.heap[i]? = some (.cells c 5 z) → ¬ i = qo := by
    rintro i c z hi rfl
    rw [hqo] at hi; simp only [Option.some.injEq, Obj.cells.injEq] at hi; exact absurd hi.2.1 (by decide)
  have hqlt := blk_lt hqo
  rcases waits_get S.W vs w at_ hm2 hm3 with ⟨e1, e2⟩ | ⟨v, u, e1, e2, hp⟩
  · have eR : readP S at_ = pgOf (S.L[at_]) := by
      unfold readP
      rw [e2, Option.getD_none, Int.toNat_natCast, List.getD_eq_getElem?_getD, List.getElem?_eq_getElem hat, Option.getD_some]
    have eV : imapGetV vs at_ = .tuple #[.slice none 0 0, .bool false] := by unfold imapGetV; rw [e1]; rfl
    simp only [eV] at hfact
    rw [eR]
    have HP := Lib.hid hp0
    have HF := Lib.hid hfact
    have HN := Lib.hid hnew
    clear hD hm1 hm2 hm3 hl1 hl2 hl3 hv0 hp0 e1 e2 eR eV hfact hnew hob
    go_enter Try.func27, Try.ntmps27
    go_wp2_with fail
    refine wp_region_held_drew (S := (fun w' => w'.cell? ⟨qd, 0, none⟩ = some (.pointer (some ⟨p, 0, none⟩)) ∧ w'.cell? ⟨qa, 0, none⟩ = some (.int .i64 at_) ∧ w'.cell? ⟨p, 0, none⟩ = some (.slice (some ⟨bl, 0, none⟩) S.L.length S.L.length) ∧ w'.cell? ⟨p, 1, none⟩ = some (.map (some bw)) ∧ w'.cell? ⟨bl, at_, none⟩ = some v0 ∧ (Instr.lookup 51 (.map (some bw)) (.int .i64 at_) true).run Try.prog w' = .ok (.tuple #[.slice none 0 0, .bool false]) w')) (by kernel_rfl) ?_ (fun hHeld0 => ?_)
    · (try dsimp only)
      exact HF.out _ ((Keep.refl _ _).drew)
    refine takeN (v := ?_) 0 rfl (by kernel_rfl) (by kernel_rfl) (by kernel_rfl) (fun _ _ _ h => h) (by rfl) ?_ hHeld0 ?_
    rotate_left
    · intro w hSw; (try dsimp only at hSw); go_simp; with_reducible rfl
    try simp only [Act.put, List.setIfInBounds_toArray, List.set_cons_zero, List.set_cons_succ]
    refine takeN (v := ?_) 1 rfl (by kernel_rfl) (by kernel_rfl) (by kernel_rfl) (fun _ _ _ h => h) (by rfl) ?_ hHeld0 ?_
    rotate_left
    · intro w hSw; (try dsimp only at hSw); go_simp; with_reducible rfl
    try simp only [Act.put, List.setIfInBounds_toArray, List.set_cons_zero, List.set_cons_succ]
    refine takeN (v := ?_) 2 rfl (by kernel_rfl) (by kernel_rfl) (by kernel_rfl) (fun _ _ _ h => h) (by rfl) ?_ hHeld0 ?_
    rotate_left
    · intro w hSw; (try dsimp only at hSw); go_simp; with_reducible rfl
    try simp only [Act.put, List.setIfInBounds_toArray, List.set_cons_zero, List.set_cons_succ]
    refine takeN (v := ?_) 3 rfl (by kernel_rfl) (by kernel_rfl) (by kernel_rfl) (fun _ _ _ h => h) (by rfl) ?_ hHeld0 ?_
    rotate_left
    · intro w hSw; (try dsimp only at hSw); go_simp; with_reducible rfl
    try simp only [Act.put, List.setIfInBounds_toArray, List.set_cons_zero, List.set_cons_succ]
    refine takeN (v := ?_) 4 rfl (by kernel_rfl) (by kernel_rfl) (by kernel_rfl) (fun _ _ _ h => h) (by rfl) ?_ hHeld0 ?_
    rotate_left
    · intro w hSw; (try dsimp only at hSw); go_simp; with_reducible rfl
    try simp only [Act.put, List.setIfInBounds_toArray, List.set_cons_zero, List.set_cons_succ]
    refine wpAnyH_ready (rs := [5]) (by kernel_rfl) (by simp) ?_
    refine readyN rfl (fun K hK => ?_) ?_
    · -- operation 5
      go_simp
      refine hK.out _ _ ?_ (fun hHeld1 => ?_)
      · (try dsimp only)
        exact HF.out _ ((Keep.refl _ _).drew)
      clear hK K hHeld0
      try simp only [Act.put, List.setIfInBounds_toArray, List.set_cons_zero, List.set_cons_succ]
      refine takeN (v := ?_) 6 rfl (by kernel_rfl) (by kernel_rfl) (by kernel_rfl) (fun _ _ _ h => h) (by rfl) ?_ hHeld1 ?_
      rotate_left
      · intro w hSw; (try dsimp only at hSw); go_simp; with_reducible rfl
      try simp only [Act.put, List.setIfInBounds_toArray, List.set_cons_zero, List.set_cons_succ]
      refine takeN (v := ?_) 7 rfl (by kernel_rfl) (by kernel_rfl) (by kernel_rfl) (fun _ _ _ h => h) (by rfl) ?_ hHeld1 ?_
      rotate_left
      · intro w hSw; (try dsimp only at hSw); go_simp; with_reducible rfl
      try simp only [Act.put, List.setIfInBounds_toArray, List.set_cons_zero, List.set_cons_succ]
      refine takeN (v := ?_) 8 rfl (by kernel_rfl) (by kernel_rfl) (by kernel_rfl) (fun _ _ _ h => h) (by rfl) ?_ hHeld1 ?_
      rotate_left
      · intro w hSw; (try dsimp only at hSw); go_simp; with_reducible rfl
      try simp only [Act.put, List.setIfInBounds_toArray, List.set_cons_zero, List.set_cons_succ]
      refine takeN (v := ?_) 9 rfl (by kernel_rfl) (by kernel_rfl) (by kernel_rfl) (fun _ _ _ h => h) (by rfl) ?_ hHeld1 ?_
      rotate_left
      · intro w hSw; (try dsimp only at hSw); go_simp; with_reducible rfl
      try simp only [Act.put, List.setIfInBounds_toArray, List.set_cons_zero, List.set_cons_succ]
      refine takeN (v := ?_) 10 rfl (by kernel_rfl) (by kernel_rfl) (by kernel_rfl) (fun _ _ _ h => h) (by rfl) ?_ hHeld1 ?_
      rotate_left
      · intro w hSw; (try dsimp only at hSw); go_simp; with_reducible rfl
      try simp only [Act.put, List.setIfInBounds_toArray, List.set_cons_zero, List.set_cons_succ]
      refine wpAnyH_done (by kernel_rfl) ?_ _
      go_wp2_with fail
      refine wp_region_held_drew (S := (fun w' => w'.cell? ⟨qd, 0, none⟩ = some (.pointer (some ⟨p, 0, none⟩)) ∧ w'.cell? ⟨qa, 0, none⟩ = some (.int .i64 at_) ∧ w'.cell? ⟨p, 0, none⟩ = some (.slice (some ⟨bl, 0, none⟩) S.L.length S.L.length) ∧ w'.cell? ⟨p, 1, none⟩ = some (.map (some bw)) ∧ w'.cell? ⟨bl, at_, none⟩ = some v0 ∧ (Instr.lookup 51 (.map (some bw)) (.int .i64 at_) true).run Try.prog w' = .ok (.tuple #[.slice none 0 0, .bool false]) w')) (by kernel_rfl) ?_ (fun hHeld0 => ?_)
      · (try dsimp only)
        first | exact HF.out _ ((Keep.refl _ _).drew.drew) | exact HF.out _ (Keep.ofBelow HB1.out _) | exact HF.out _ (HN.out w1 (.slice a1 _ c1) HB1.out).2.2.2.1
      refine takeN (v := ?_) 0 rfl (by kernel_rfl) (by kernel_rfl) (by kernel_rfl) (fun _ _ _ h => h) (by rfl) ?_ hHeld0 ?_
      rotate_left
      · intro w hSw; (try dsimp only at hSw); go_simp; with_reducible rfl
      try simp only [Act.put, List.setIfInBounds_toArray, List.set_cons_zero, List.set_cons_succ]
      refine takeN (v := ?_) 1 rfl (by kernel_rfl) (by kernel_rfl) (by kernel_rfl) (fun _ _ _ h => h) (by rfl) ?_ hHeld0 ?_
      rotate_left
      · intro w hSw; (try dsimp only at hSw); go_simp; with_reducible rfl
      try simp only [Act.put, List.setIfInBounds_toArray, List.set_cons_zero, List.set_cons_succ]
      refine takeN (v := ?_) 2 rfl (by kernel_rfl) (by kernel_rfl) (by kernel_rfl) (fun _ _ _ h => h) (by rfl) ?_ hHeld0 ?_
      rotate_left
      · intro w hSw; (try dsimp only at hSw); go_simp; with_reducible rfl
      try simp only [Act.put, List.setIfInBounds_toArray, List.set_cons_zero, List.set_cons_succ]
      refine takeN (v := ?_) 3 rfl (by kernel_rfl) (by kernel_rfl) (by kernel_rfl) (fun _ _ _ h => h) (by rfl) ?_ hHeld0 ?_
      rotate_left
      · intro w hSw; (try dsimp only at hSw); go_simp; with_reducible rfl
      try simp only [Act.put, List.setIfInBounds_toArray, List.set_cons_zero, List.set_cons_succ]
      refine takeN (v := ?_) 4 rfl (by kernel_rfl) (by kernel_rfl) (by kernel_rfl) (fun _ _ _ h => h) (by rfl) ?_ hHeld0 ?_
      rotate_left
      · intro w hSw; (try dsimp only at hSw); go_simp; with_reducible rfl
      try simp only [Act.put, List.setIfInBounds_toArray, List.set_cons_zero, List.set_cons_succ]
      refine takeN (v := ?_) 5 rfl (by kernel_rfl) (by kernel_rfl) (by kernel_rfl) (fun _ _ _ h => h) (by rfl) ?_ hHeld0 ?_
      rotate_left
      · intro w hSw; (try dsimp only at hSw); go_simp; with_reducible rfl
      try simp only [Act.put, List.setIfInBounds_toArray, List.set_cons_zero, List.set_cons_succ]
      refine takeN (v := ?_) 6 rfl (by kernel_rfl) (by kernel_rfl) (by kernel_rfl) (fun _ _ _ h => h) (by rfl) ?_ hHeld0 ?_
      rotate_left
      · intro w hSw; (try dsimp only at hSw); go_simp; with_reducible rfl
      try simp only [Act.put, List.setIfInBounds_toArray, List.set_cons_zero, List.set_cons_succ]
      refine wpAnyH_ready (rs := [7]) (by kernel_rfl) (by simp) ?_
      refine readyN rfl (fun K hK => ?_) ?_
      · -- operation 7
        go_simp
        (go_at_call 28; refine (page_any v0 _ _ (HP.out.below ((Below.refl _ _).drew.drew))).mono ?_; rintro e w1 ⟨v1, rfl, ho, hb⟩; obtain ⟨a1, c1, rfl⟩ := ho.size
         have HO1 := Lib.hid ho
         have HB1 := Lib.hid (show Below w.heap.size w w1 from ((Below.refl w.heap.size w).drew.drew).trans hb)
         obtain ⟨hx1, hx2, _⟩ := HN.out w1 (.slice none 0 0) HB1.out
         clear ho hb)
        go_wp2_with fail
        refine hK.out _ _ ?_ (fun hHeld1 => ?_)
        · (try dsimp only)
          first | exact HF.out _ ((Keep.refl _ _).drew.drew) | exact HF.out _ (Keep.ofBelow HB1.out _) | exact HF.out _ (HN.out w1 (.slice a1 _ c1) HB1.out).2.2.2.1
        clear hK K hHeld0
        try simp only [Act.put, List.setIfInBounds_toArray, List.set_cons_zero, List.set_cons_succ]
        refine wpAnyH_ready (rs := [8]) (by kernel_rfl) (by simp) ?_
        refine readyN rfl (fun K hK => ?_) ?_
        · -- operation 8
          go_simp
          refine hK.out _ _ ?_ (fun hHeld2 => ?_)
          · (try dsimp only)
            first | exact HF.out _ ((Keep.refl _ _).drew.drew) | exact HF.out _ (Keep.ofBelow HB1.out _) | exact HF.out _ (HN.out w1 (.slice a1 _ c1) HB1.out).2.2.2.1
          clear hK K hHeld1
          try simp only [Act.put, List.setIfInBounds_toArray, List.set_cons_zero, List.set_cons_succ]
          refine wpAnyH_done (by kernel_rfl) ?_ _
          go_wp2_with fail
          go_ret
          exact ⟨_, rfl, rfl, _, (HN.out w1 (.slice a1 _ c1) HB1.out).2.2.1, HO1.out.keep ((Keep.refl (fun i => i = qo) w1).setCell (p := ⟨qo, 0, none⟩) (.inl rfl) (.slice a1 _ c1)) (fun k hk e => by have := (HO1.out.base_le k hk).1; have : w.heap.size ≤ k := this; omega), (HN.out w1 (.slice a1 _ c1) HB1.out).2.2.2.1, (HN.out w1 (.slice a1 _ c1) HB1.out).2.2.2.2⟩
        exact AllReadyH.nil
      exact AllReadyH.nil
    exact AllReadyH.nil
  · have eR : readP S at_ = u := by unfold readP; rw [e2, Option.getD_some]
    have eV : imapGetV vs at_ = .tuple #[v, .bool true] := by unfold imapGetV; rw [e1]; rfl
    simp only [eV] at hfact
    rw [eR]
    have HP := Lib.hid hp
    have HF := Lib.hid hfact
    have HN := Lib.hid hnew
    clear hD hm1 hm2 hm3 hl1 hl2 hl3 hv0 hp0 e1 e2 eR eV hfact hnew hob hp
    go_enter Try.func27, Try.ntmps27
    go_wp2_with fail
    refine wp_region_held_drew (S := (fun w' => w'.cell? ⟨qd, 0, none⟩ = some (.pointer (some ⟨p, 0, none⟩)) ∧ w'.cell? ⟨qa, 0, none⟩ = some (.int .i64 at_) ∧ w'.cell? ⟨p, 0, none⟩ = some (.slice (some ⟨bl, 0, none⟩) S.L.length S.L.length) ∧ w'.cell? ⟨p, 1, none⟩ = some (.map (some bw)) ∧ w'.cell? ⟨bl, at_, none⟩ = some v0 ∧ (Instr.lookup 51 (.map (some bw)) (.int .i64 at_) true).run Try.prog w' = .ok (.tuple #[v, .bool true]) w')) (by kernel_rfl) ?_ (fun hHeld0 => ?_)
    · (try dsimp only)
      exact HF.out _ ((Keep.refl _ _).drew)
    refine takeN (v := ?_) 0 rfl (by kernel_rfl) (by kernel_rfl) (by kernel_rfl) (fun _ _ _ h => h) (by rfl) ?_ hHeld0 ?_
    rotate_left
    · intro w hSw; (try dsimp only at hSw); go_simp; with_reducible rfl
    try simp only [Act.put, List.setIfInBounds_toArray, List.set_cons_zero, List.set_cons_succ]
    refine takeN (v := ?_) 1 rfl (by kernel_rfl) (by kernel_rfl) (by kernel_rfl) (fun _ _ _ h => h) (by rfl) ?_ hHeld0 ?_
    rotate_left
    · intro w hSw; (try dsimp only at hSw); go_simp; with_reducible rfl
    try simp only [Act.put, List.setIfInBounds_toArray, List.set_cons_zero, List.set_cons_succ]
    refine takeN (v := ?_) 2 rfl (by kernel_rfl) (by kernel_rfl) (by kernel_rfl) (fun _ _ _ h => h) (by rfl) ?_ hHeld0 ?_
    rotate_left
    · intro w hSw; (try dsimp only at hSw); go_simp; with_reducible rfl
    try simp only [Act.put, List.setIfInBounds_toArray, List.set_cons_zero, List.set_cons_succ]
    refine takeN (v := ?_) 3 rfl (by kernel_rfl) (by kernel_rfl) (by kernel_rfl) (fun _ _ _ h => h) (by rfl) ?_ hHeld0 ?_
    rotate_left
    · intro w hSw; (try dsimp only at hSw); go_simp; with_reducible rfl
    try simp only [Act.put, List.setIfInBounds_toArray, List.set_cons_zero, List.set_cons_succ]
    refine takeN (v := ?_) 4 rfl (by kernel_rfl) (by kernel_rfl) (by kernel_rfl) (fun _ _ _ h => h) (by rfl) ?_ hHeld0 ?_
    rotate_left
    · intro w hSw; (try dsimp only at hSw); go_simp; with_reducible rfl
    try simp only [Act.put, List.setIfInBounds_toArray, List.set_cons_zero, List.set_cons_succ]
    refine wpAnyH_ready (rs := [5]) (by kernel_rfl) (by simp) ?_
    refine readyN rfl (fun K hK => ?_) ?_
    · -- operation 5
      go_simp
      refine hK.out _ _ ?_ (fun hHeld1 => ?_)
      · (try dsimp only)
        exact HF.out _ ((Keep.refl _ _).drew)
      clear hK K hHeld0
      try simp only [Act.put, List.setIfInBounds_toArray, List.set_cons_zero, List.set_cons_succ]
      refine takeN (v := ?_) 6 rfl (by kernel_rfl) (by kernel_rfl) (by kernel_rfl) (fun _ _ _ h => h) (by rfl) ?_ hHeld1 ?_
      rotate_left
      · intro w hSw; (try dsimp only at hSw); go_simp; with_reducible rfl
      try simp only [Act.put, List.setIfInBounds_toArray, List.set_cons_zero, List.set_cons_succ]
      refine takeN (v := ?_) 7 rfl (by kernel_rfl) (by kernel_rfl) (by kernel_rfl) (fun _ _ _ h => h) (by rfl) ?_ hHeld1 ?_
      rotate_left
      · intro w hSw; (try dsimp only at hSw); go_simp; with_reducible rfl
      try simp only [Act.put, List.setIfInBounds_toArray, List.set_cons_zero, List.set_cons_succ]
      refine takeN (v := ?_) 8 rfl (by kernel_rfl) (by kernel_rfl) (by kernel_rfl) (fun _ _ _ h => h) (by rfl) ?_ hHeld1 ?_
      rotate_left
      · intro w hSw; (try dsimp only at hSw); go_simp; with_reducible rfl
      try simp only [Act.put, List.setIfInBounds_toArray, List.set_cons_zero, List.set_cons_succ]
      refine takeN (v := ?_) 9 rfl (by kernel_rfl) (by kernel_rfl) (by kernel_rfl) (fun _ _ _ h => h) (by rfl) ?_ hHeld1 ?_
      rotate_left
      · intro w hSw; (try dsimp only at hSw); go_simp; with_reducible rfl
      try simp only [Act.put, List.setIfInBounds_toArray, List.set_cons_zero, List.set_cons_succ]
      refine takeN (v := ?_) 10 rfl (by kernel_rfl) (by kernel_rfl) (by kernel_rfl) (fun _ _ _ h => h) (by rfl) ?_ hHeld1 ?_
      rotate_left
      · intro w hSw; (try dsimp only at hSw); go_simp; with_reducible rfl
      try simp only [Act.put, List.setIfInBounds_toArray, List.set_cons_zero, List.set_cons_succ]
      refine wpAnyH_done (by kernel_rfl) ?_ _
      go_wp2_with fail
      refine (page_any v (some u) _ (HP.out.below ((Below.refl _ _).drew))).mono ?_
      rintro e w1 ⟨v1, rfl, ho, hb⟩; obtain ⟨a1, c1, rfl⟩ := ho.size
      have HO1 := Lib.hid ho
      have HB1 := Lib.hid (show Below w.heap.size w w1 from ((Below.refl w.heap.size w).drew).trans hb)
      obtain ⟨hx1, hx2, _⟩ := HN.out w1 (.slice none 0 0) HB1.out
      clear ho hb
      go_wp2_with fail
      go_ret
      exact ⟨_, rfl, rfl, _, (HN.out w1 (.slice a1 _ c1) HB1.out).2.2.1, HO1.out.keep ((Keep.refl (fun i => i = qo) w1).setCell (p := ⟨qo, 0, none⟩) (.inl rfl) (.slice a1 _ c1)) (fun k hk e => by have := (HO1.out.base_le k hk).1; have : w.heap.size ≤ k := this; omega), (HN.out w1 (.slice a1 _ c1) HB1.out).2.2.2.1, (HN.out w1 (.slice a1 _ c1) HB1.out).2.2.2.2⟩
    exact AllReadyH.nil
end
end Go.Proofs.Ytlmngghkhnnaeaa
namespace Go.Proofs.Ytlmngghkhnnaeaa
open Go.RowKit
set_option maxRecDepth 100000
set_option linter.unusedVariables false
set_option linter.unusedSimpArgs false
section
variable {p bl bw : Nat} {ov : Value} {S : DS}
theorem sureE_zero {dead : Bool} {n : Nat} {at_ by_ : Int} (h : sureE dead n at_ by_ = 0) : dead = false ∧ 0 ≤ at_ ∧ at_ < n ∧ by_ = 4096 := by
  unfold sureE at h
  cases dead with
  | true => simp at h
  | false =>
    simp only [Bool.false_eq_true, if_false] at h
    by_cases hc : at_ < 0 ∨ (n : Int) ≤ at_ ∨ by_ ≠ 4096
    · rw [if_pos hc] at h; cases h
    · refine ⟨rfl, ?_, ?_, ?_⟩ <;> omega
theorem read_any (at_ : Int) (w : World) (hD : DiskIs w p bl bw ov S) :
    Calls Try.prog 7 #[dV p, .int .i64 at_] w fun e w' => ∃ v c, e = .returned (.tuple #[v, .int .i64 c]) ∧ c = sureE S.dead S.L.length at_ 4096 ∧ (c = 0 → Own 5 w' w.heap.size v (readP S at_)) ∧ (c ≠ 0 → v = .slice none 0 0) ∧ Below w.heap.size w w' := by
  have hcon : ∀ W, W = ((w.alloc (.cells #[dV p] 23)).alloc (.cells #[.int .i64 at_] 3)).alloc (.cells #[.slice none 0 0] 28) →
      Calls Try.prog 26 #[dV p, .int .i64 at_, .int .i64 4096, .func (Fn.func 27) #[] #[.pointer (some ⟨w.heap.size, 0, none⟩), .pointer (some ⟨w.heap.size + 1, 0, none⟩), .pointer (some ⟨w.heap.size + 1 + 1, 0, none⟩)]] W
        fun e w' => ∃ c, e = .returned (.int .i64 c) ∧ c = sureE S.dead S.L.length at_ 4096 ∧ ∃ a n cp, w'.heap[w.heap.size + 1 + 1]? = some (.cells #[.slice a n cp] 28 (0, 0)) ∧ (c = 0 → Own 5 w' w.heap.size (.slice a n cp) (readP S at_)) ∧ (c ≠ 0 → Value.slice a n cp = .slice none 0 0) ∧ Below w.heap.size w w' := by
    rintro W rfl
    have hW : Below w.heap.size w (((w.alloc (.cells #[dV p] 23)).alloc (.cells #[.int .i64 at_] 3)).alloc (.cells #[.slice none 0 0] 28)) := by go_grown
    have hqo : (((w.alloc (.cells #[dV p] 23)).alloc (.cells #[.int .i64 at_] 3)).alloc (.cells #[.slice none 0 0] 28)).heap[w.heap.size + 1 + 1]? = some (.cells #[.slice none 0 0] 28 (0, 0)) := blk_newAt (by simp) _
    have hqd : (((w.alloc (.cells #[dV p] 23)).alloc (.cells #[.int .i64 at_] 3)).alloc (.cells #[.slice none 0 0] 28)).cell? ⟨w.heap.size, 0, none⟩ = some (dV p) := by rw [blk_cell (blk_alloc (blk_alloc (blk_new w _) _) _)]; rfl
    have hqa : (((w.alloc (.cells #[dV p] 23)).alloc (.cells #[.int .i64 at_] 3)).alloc (.cells #[.slice none 0 0] 28)).cell? ⟨w.heap.size + 1, 0, none⟩ = some (.int .i64 at_) := by rw [blk_cell (blk_alloc (blk_newAt (by simp) _) _)]; rfl
    generalize ((w.alloc (.cells #[dV p] 23)).alloc (.cells #[.int .i64 at_] 3)).alloc (.cells #[.slice none 0 0] 28) = W at *
    by_cases hz : sureE S.dead S.L.length at_ 4096 = 0
    · obtain ⟨h1, h2, h3, _⟩ := sureE_zero hz
      obtain ⟨k, rfl⟩ : ∃ k : Nat, at_ = k := ⟨at_.toNat, by omega⟩
      have hlt := hD.lt
      have hrc := readC k (by omega) w.heap.size (w.heap.size + 1) (w.heap.size + 1 + 1) W (hD.below hW) hqd hqa _ hqo (by omega) (by omega) (fun e => by have := hlt _ e; omega)
      have := sure_read (R := fun c w' => c = 0 ∧ ∃ v, w'.cell? ⟨w.heap.size + 1 + 1, 0, none⟩ = some v ∧ Own 5 w' W.heap.size v (readP S k) ∧ Keep (fun i => i = w.heap.size + 1 + 1) W w' ∧ w'.heap[w.heap.size + 1 + 1]? = some (.cells #[v] 28 (0, 0))) W (hD.below hW) k _ h1 h2 h3 hrc
      refine this.mono ?_
      rintro e w' ⟨c, rfl, rfl, v, e1, e2, e3, e4⟩
      obtain ⟨a, cp, rfl⟩ := e2.size
      exact ⟨0, rfl, hz.symm, a, _, cp, e4, fun _ => e2.lower hW.size, fun h => absurd rfl h, hW.trans (e3.below (B := w.heap.size) hW.size (fun i hi => by omega))⟩
    · refine (sure_no W (hD.below hW) at_ 4096 _ hz).mono ?_
      rintro e w' ⟨rfl, rfl⟩
      exact ⟨_, rfl, rfl, none, 0, 0, hqo, fun h => absurd h hz, fun _ => rfl, hW⟩
  have HC := Lib.hid hcon
  unfold dV at *
  clear hD hcon
  go_enter Try.func7, Try.ntmps7
  go_wp2_with fail
  refine (HC.out _ rfl).mono ?_
  rintro e w1 ⟨c, rfl, hc, a, n, cp, hq, h1, h2, h3⟩
  have hcz := blk_cell hq 0
  have hfz := blk_frozen hq 0
  simp at hcz
  have HQ := Lib.hid hq
  have H1 := Lib.hid h1
  have H2 := Lib.hid h2
  have H3 := Lib.hid h3
  clear hq h1 h2 h3 HC
  have hst := blk_setCell HQ.out 0 (.slice a n cp)
  have hcs := blk_cell hst 0
  have HS := Lib.hid hst
  simp at hcs
  clear hst
  go_wp2_with fail
  try simp only [Exit.inBlock, Exit.then]
  refine bodyPost_ret (v := .tuple #[.slice a n cp, .int .i64 (sureE S.dead S.L.length at_ 4096)]) (by simp [results, Try.func7, hcs, go_sem]) rfl ?_
  rw [hc] at H1 H2
  refine ⟨_, _, rfl, rfl, fun h => ?_, fun h => H2.out h, H3.out.setCell (by show w.heap.size ≤ w.heap.size + 1 + 1; omega) _⟩
  exact (H1.out h).keep ((Keep.refl (fun i => i = w.heap.size + 1 + 1) w1).setCell (p := ⟨w.heap.size + 1 + 1, 0, none⟩) (.inl rfl) _) (fun k hk e => by
    subst e
    rcases (H1.out h).2 with ⟨he, _⟩ | ⟨g, cap, cur, he, _, hg, _⟩
    · rw [he] at hk; cases hk
    · rw [he] at hk; cases hk; rw [HQ.out] at hg; simp at hg)
end
end Go.Proofs.Ytlmngghkhnnaeaa
