/- The walk of a store's Give. The walk of a store's SetRoot. -/
import Derived.Test.YtlmngghkhnnaeaaQGive
namespace Go.Proofs.Ytlmngghkhnnaeaa
open Go.RowKit Go.Shelf
set_option maxRecDepth 100000
set_option linter.unusedVariables false
set_option linter.unusedSimpArgs false
def giveF (S : SS) (x : Int) : Int × SS := if S.dd = true then (9, S) else giveS S x
theorem give_nil (x : Int) (w : World) : Calls Try.prog 15 #[.pointer none, .int .i64 x] w fun e w' => e = .returned (.int .i64 8) ∧ Below w.heap.size w w' := by
  have k3 : Below w.heap.size w ((w.alloc (.cells #[.pointer none] 24)).alloc (.cells #[.int .i64 x] 3)) := ((Below.refl _ w).alloc (Nat.le_refl _) _).alloc (by simp) _
  have K3 := Lib.hid k3
  clear k3
  go_enter Try.func15, Try.ntmps15
  go_wp2_with (go_at_call 29; refine (alive_nil _ _).mono ?_; rintro e w1 ⟨rfl, rfl⟩)
  go_ret
  exact ⟨rfl, K3.out⟩
theorem give_any {V : Nat → Prop} {M : SM} {S : SS} (x : Int) (w : World) (h : SIs w V M S) :
    Calls Try.prog 15 #[pS M.p, .int .i64 x] w fun e w' => e = .returned (.int .i64 (giveF S x).1) ∧ SIs w' V M (giveF S x).2 ∧ Keep (fun i => i = M.p ∨ M.now.blk i) w w' := by
  have k3 : Below w.heap.size w ((w.alloc (.cells #[pS M.p] 24)).alloc (.cells #[.int .i64 x] 3)) := ((Below.refl _ w).alloc (Nat.le_refl _) _).alloc (by simp) _
  have b1 : Boxed ((w.alloc (.cells #[pS M.p] 24)).alloc (.cells #[.int .i64 x] 3)) w.heap.size 24 (pS M.p) := (Boxed.new w _ _).alloc _
  have b2 : Boxed ((w.alloc (.cells #[pS M.p] 24)).alloc (.cells #[.int .i64 x] 3)) (w.heap.size + 1) 3 (.int .i64 x) := by
    have := Boxed.new (w.alloc (.cells #[pS M.p] 24)) 3 (.int .i64 x)
    simpa using this
  have HAL : Hid (∀ w3, Below w.heap.size w w3 → Boxed w3 w.heap.size 24 (pS M.p) → Boxed w3 (w.heap.size + 1) 3 (.int .i64 x) →
      Calls Try.prog 29 #[pS M.p, .func (Fn.func 49) #[] #[.pointer (some ⟨w.heap.size, 0, none⟩), .pointer (some ⟨w.heap.size + 1, 0, none⟩)]] w3 fun e w' => e = .returned (.int .i64 (giveF S x).1) ∧
        SIs w' V M (giveF S x).2 ∧ Keep (fun i => i = M.p ∨ M.now.blk i) w w') := by
    refine Lib.hid fun w3 hb h1 h2 => ?_
    have h3S := h.below hb
    have hkb : Keep (fun i => i = M.p ∨ M.now.blk i) w w3 := Keep.ofBelow hb _
    by_cases hd : S.dd = true
    · refine (alive_no _ _ h3S hd).mono ?_
      rintro e w' ⟨rfl, rfl⟩
      unfold giveF
      rw [if_pos hd]
      exact ⟨rfl, h3S, hkb⟩
    · have ht := giveC w.heap.size (w.heap.size + 1) x w3 h3S h1 h2
      refine (alive_yes _ _ (enters_of Try.func49 (by kernel_rfl) rfl) (fun y w' => y = (giveS S x).1 ∧ SIs w' V M (giveS S x).2 ∧ Keep (fun i => i = M.p ∨ M.now.blk i) w w') w3 h3S (by simpa using hd) (ht.mono ?_)).mono ?_
      · rintro e w' ⟨rfl, g1, g3⟩
        exact ⟨_, rfl, rfl, g1, hkb.trans g3 (fun i hi => .inl hi)⟩
      · rintro e w' ⟨y, rfl, rfl, g1, g3⟩
        unfold giveF
        rw [if_neg hd]
        exact ⟨rfl, g1, g3⟩
  have HA := Lib.hid (HAL.out _ k3 b1 b2)
  unfold pS at HA ⊢
  clear k3 b1 b2 HAL h
  go_enter Try.func15, Try.ntmps15
  go_wp2_with (first
    | (go_at_call 29; refine HA.out.mono ?_; rintro e w4 ⟨rfl, g1, g3⟩
       have G1 := Lib.hid g1
       have G3 := Lib.hid g3
       clear g1 g3))
  go_ret
  exact ⟨rfl, G1.out, G3.out⟩
end Go.Proofs.Ytlmngghkhnnaeaa
namespace Go.Proofs.Ytlmngghkhnnaeaa
open Go.RowKit Go.Shelf
set_option maxRecDepth 100000
set_option maxHeartbeats 1000000
set_option linter.unusedVariables false
set_option linter.unusedSimpArgs false
/-- the root is set: the errno, the store -/
def setrS (S : SS) (x : Int) : Int × SS :=
  if x ≠ 0 ∧ hasB S.st.taken x = false then (1, S) else (0, { S with st := { S.st with root := x, touched := true } })
theorem setr_end {V : Nat → Prop} {M : SM} {S : SS} {w : World} (h : SIs w V M S) (x : Int) (hx : 0 ≤ x ∧ x < S.st.taken.length) :
    SIs (((w.setCell ⟨M.p, 0, none⟩ (.int .i64 x)).setCell ⟨M.p, 4, none⟩ (.bool true)).drew.drew) V M { S with st := { S.st with root := x, touched := true } } ∧ Keep (fun i => i = M.p ∨ M.now.blk i) w (((w.setCell ⟨M.p, 0, none⟩ (.int .i64 x)).setCell ⟨M.p, 4, none⟩ (.bool true)).drew.drew) := by
  have hk : Keep (fun i => i = M.p) w (((w.setCell ⟨M.p, 0, none⟩ (.int .i64 x)).setCell ⟨M.p, 4, none⟩ (.bool true)).drew.drew) := ((((Keep.refl _ w).setEq _ _).setEq _ _).drew).drew
  have hkw : Keep (fun i => i = M.p ∨ M.now.blk i) w (((w.setCell ⟨M.p, 0, none⟩ (.int .i64 x)).setCell ⟨M.p, 4, none⟩ (.bool true)).drew.drew) := hk.mono (fun i hi => .inl hi)
  have hb := blk_setCell (blk_setCell h.blk 0 (.int .i64 x)) 4 (.bool true)
  have hnm : ∀ i, M.now.blk i → ¬ i = M.p := fun i hi e => absurd (h.now.kind i hi _ _ _ (e ▸ h.blk)) (by decide)
  have hn := h.now.keepB hk hnm (fun i c z hc e => h.nbytes i c z hc (.inl e))
  refine ⟨h.upd hkw (fun i hi => hi) M.now (fun i hi => .inl hi) { S.st with root := x, touched := true } rfl ?_ { hn with root := hx }, hkw⟩
  show ((w.setCell ⟨M.p, 0, none⟩ (.int .i64 x)).setCell ⟨M.p, 4, none⟩ (.bool true)).heap[M.p]? = _
  rw [hb]
  simp [sArr]
theorem setrC {V : Nat → Prop} {M : SM} {S : SS} (qp qs : Nat) (x : Int) (w : World) (h : SIs w V M S) (cs : Boxed w qs 24 (pS M.p)) (cp : Boxed w qp 3 (.int .i64 x)) :
    Calls Try.prog 47 #[.pointer (some ⟨qp, 0, none⟩), .pointer (some ⟨qs, 0, none⟩)] w fun e w' => e = .returned (.int .i64 (setrS S x).1) ∧ SIs w' V M (setrS S x).2 ∧
      Keep (fun i => i = M.p ∨ M.now.blk i) w w' := by
  have hS := h.now
  have hbox : ∀ X, Keep (fun i => i = M.p) w X → Boxed X qs 24 (pS M.p) ∧ Boxed X qp 3 (.int .i64 x) := by
    intro X hX
    have hpb := h.blk
    have key : ∀ b T v, Boxed w b T v → T ≠ 62 → ¬ b = M.p := by
      rintro b T v hb hT' rfl
      unfold Boxed at hb; rw [hpb] at hb; simp only [Option.some.injEq, Obj.cells.injEq] at hb; exact hT' hb.2.1.symm
    exact ⟨hX.blk cs (key _ _ _ cs (by decide)), hX.blk cp (key _ _ _ cp (by decide))⟩
  have HAS := Lib.hid (has_any M.p M.now.ct M.now.bt S.st.taken x w.drew (blk_cell h.blk 1) (hS.t.keep ((Keep.refl (fun _ => False) w).drew) (fun h => h)) hS.hi)
  have HH := Lib.hid h
  have HBO := Lib.hid hbox
  have d1 : w.drew.cell? ⟨qs, 0, none⟩ = some (.pointer (some ⟨M.p, 0, none⟩)) := cs.cell
  have d2 : w.drew.cell? ⟨qp, 0, none⟩ = some (.int .i64 x) := cp.cell
  have HD1 := Lib.hid (And.intro d1 d2)
  obtain ⟨hb, hhb⟩ : ∃ hb, hb = hasB S.st.taken x := ⟨_, rfl⟩
  rw [← hhb] at HAS
  have HHB := Lib.hid hhb
  clear h cs cp hS hbox hhb
  by_cases hx0 : x = 0
  · subst hx0
    have HG := Lib.hid (show setrS S 0 = (0, { S with st := { S.st with root := 0, touched := true } }) by unfold setrS; rw [if_neg (fun h => h.1 rfl)])
    obtain ⟨E1, E2⟩ := setr_end HH.out 0 ⟨by omega, by have := HH.out.now.lo; omega⟩
    have HE1 := Lib.hid E1
    have HE2 := Lib.hid E2
    clear E1 E2
    go_enter Try.func47, Try.ntmps47
    go_wp2_with fail
    refine wp_region_held_drew (S := (fun w' => w'.cell? ⟨qs, 0, none⟩ = some (.pointer (some ⟨M.p, 0, none⟩)) ∧ w'.cell? ⟨qp, 0, none⟩ = some (.int .i64 0))) (by kernel_rfl) ?_ (fun hHeld0 => ?_)
    · (try dsimp only)
      with_reducible exact HD1.out
    refine takeN (v := ?_) 0 rfl (by kernel_rfl) (by kernel_rfl) (by kernel_rfl) (fun _ _ _ h => h) (by rfl) ?_ hHeld0 ?_
    rotate_left
    · intro w hSw; (try dsimp only at hSw); go_simp; with_reducible rfl
    try simp only [Act.put, List.setIfInBounds_toArray, List.set_cons_zero, List.set_cons_succ]
    refine takeN (v := ?_) 1 rfl (by kernel_rfl) (by kernel_rfl) (by kernel_rfl) (fun _ _ _ h => h) (by rfl) ?_ hHeld0 ?_
    rotate_left
    · intro w hSw; (try dsimp only at hSw); go_simp; with_reducible rfl
    try simp only [Act.put, List.setIfInBounds_toArray, List.set_cons_zero, List.set_cons_succ]
    refine takeN (v := ?_) 2 rfl (by kernel_rfl) (by kernel_rfl) (by kernel_rfl) (fun _ _ _ h => h) (by rfl) ?_ hHeld0 ?_
    rotate_left
    · intro w hSw; (try dsimp only at hSw); go_simp; with_reducible rfl
    try simp only [Act.put, List.setIfInBounds_toArray, List.set_cons_zero, List.set_cons_succ]
    refine skipN 3 rfl (by kernel_rfl) (by kernel_rfl) (by kernel_rfl) (fun _ _ _ h => h) (by rfl) hHeld0 ?_
    try simp only [Act.put, List.setIfInBounds_toArray, List.set_cons_zero, List.set_cons_succ]
    refine skipN 4 rfl (by kernel_rfl) (by kernel_rfl) (by kernel_rfl) (fun _ _ _ h => h) (by rfl) hHeld0 ?_
    try simp only [Act.put, List.setIfInBounds_toArray, List.set_cons_zero, List.set_cons_succ]
    refine skipN 5 rfl (by kernel_rfl) (by kernel_rfl) (by kernel_rfl) (fun _ _ _ h => h) (by rfl) hHeld0 ?_
    try simp only [Act.put, List.setIfInBounds_toArray, List.set_cons_zero, List.set_cons_succ]
    refine skipN 6 rfl (by kernel_rfl) (by kernel_rfl) (by kernel_rfl) (fun _ _ _ h => h) (by rfl) hHeld0 ?_
    try simp only [Act.put, List.setIfInBounds_toArray, List.set_cons_zero, List.set_cons_succ]
    refine skipN 7 rfl (by kernel_rfl) (by kernel_rfl) (by kernel_rfl) (fun _ _ _ h => h) (by rfl) hHeld0 ?_
    try simp only [Act.put, List.setIfInBounds_toArray, List.set_cons_zero, List.set_cons_succ]
    refine skipN 8 rfl (by kernel_rfl) (by kernel_rfl) (by kernel_rfl) (fun _ _ _ h => h) (by rfl) hHeld0 ?_
    try simp only [Act.put, List.setIfInBounds_toArray, List.set_cons_zero, List.set_cons_succ]
    refine takeN (v := ?_) 9 rfl (by kernel_rfl) (by kernel_rfl) (by kernel_rfl) (fun _ _ _ h => h) (by rfl) ?_ hHeld0 ?_
    rotate_left
    · intro w hSw; (try dsimp only at hSw); go_simp; with_reducible rfl
    try simp only [Act.put, List.setIfInBounds_toArray, List.set_cons_zero, List.set_cons_succ]
    refine wpAnyH_done (by kernel_rfl) ?_ _
    have z0 : w.cell? ⟨M.p, 0, none⟩ = some (.int .i64 S.st.root) := blk_cell HH.out.blk 0
    have y0 : w.frozen? ⟨M.p, 0, none⟩ = false := blk_frozen HH.out.blk 0
    have hb1 := blk_setCell HH.out.blk 0 (.int .i64 0)
    have z4 : (w.setCell ⟨M.p, 0, none⟩ (.int .i64 0)).cell? ⟨M.p, 4, none⟩ = some (.bool S.st.touched) := blk_cell hb1 4
    have y4 : (w.setCell ⟨M.p, 0, none⟩ (.int .i64 0)).frozen? ⟨M.p, 4, none⟩ = false := blk_frozen hb1 4
    have k1 : Keep (fun i => i = M.p) w ((w.setCell ⟨M.p, 0, none⟩ (.int .i64 0)).drew.drew) := (((Keep.refl _ w).setEq _ _).drew).drew
    have k2 : Keep (fun i => i = M.p) w (((w.setCell ⟨M.p, 0, none⟩ (.int .i64 0)).setCell ⟨M.p, 4, none⟩ (.bool true)).drew.drew) := ((((Keep.refl _ w).setEq _ _).setEq _ _).drew).drew
    have HD2 := Lib.hid (show w.drew.drew.cell? ⟨qs, 0, none⟩ = some (.pointer (some ⟨M.p, 0, none⟩)) ∧ w.drew.drew.cell? ⟨qp, 0, none⟩ = some (.int .i64 0) from HD1.out)
    have HD3 := Lib.hid (And.intro (show ((w.setCell ⟨M.p, 0, none⟩ (.int .i64 0)).drew.drew).cell? ⟨qs, 0, none⟩ = some (.pointer (some ⟨M.p, 0, none⟩)) from (HBO.out _ k1).1.cell) (HBO.out _ k1).2.cell)
    have HD4 := Lib.hid (And.intro (show (((w.setCell ⟨M.p, 0, none⟩ (.int .i64 0)).setCell ⟨M.p, 4, none⟩ (.bool true)).drew.drew).cell? ⟨qs, 0, none⟩ = some (.pointer (some ⟨M.p, 0, none⟩)) from (HBO.out _ k2).1.cell) (HBO.out _ k2).2.cell)
    have z0' : w.drew.drew.cell? ⟨M.p, 0, none⟩ = some (.int .i64 S.st.root) := z0
    have y0' : w.drew.drew.frozen? ⟨M.p, 0, none⟩ = false := y0
    have z4' : ((w.setCell ⟨M.p, 0, none⟩ (.int .i64 0)).drew.drew).cell? ⟨M.p, 4, none⟩ = some (.bool S.st.touched) := z4
    have y4' : ((w.setCell ⟨M.p, 0, none⟩ (.int .i64 0)).drew.drew).frozen? ⟨M.p, 4, none⟩ = false := y4
    clear hb1 k1 k2
    go_wp2_with fail
    refine wp_region_held_drew (S := (fun w' => w'.cell? ⟨qs, 0, none⟩ = some (.pointer (some ⟨M.p, 0, none⟩)) ∧ w'.cell? ⟨qp, 0, none⟩ = some (.int .i64 0))) (by kernel_rfl) ?_ (fun hHeld0 => ?_)
    · (try dsimp only)
      first | with_reducible exact HD2.out | with_reducible exact HD3.out | with_reducible exact HD4.out
    refine takeN (v := ?_) 0 rfl (by kernel_rfl) (by kernel_rfl) (by kernel_rfl) (fun _ _ _ h => h) (by rfl) ?_ hHeld0 ?_
    rotate_left
    · intro w hSw; (try dsimp only at hSw); go_simp; with_reducible rfl
    try simp only [Act.put, List.setIfInBounds_toArray, List.set_cons_zero, List.set_cons_succ]
    refine takeN (v := ?_) 1 rfl (by kernel_rfl) (by kernel_rfl) (by kernel_rfl) (fun _ _ _ h => h) (by rfl) ?_ hHeld0 ?_
    rotate_left
    · intro w hSw; (try dsimp only at hSw); go_simp; with_reducible rfl
    try simp only [Act.put, List.setIfInBounds_toArray, List.set_cons_zero, List.set_cons_succ]
    refine takeN (v := ?_) 2 rfl (by kernel_rfl) (by kernel_rfl) (by kernel_rfl) (fun _ _ _ h => h) (by rfl) ?_ hHeld0 ?_
    rotate_left
    · intro w hSw; (try dsimp only at hSw); go_simp; with_reducible rfl
    try simp only [Act.put, List.setIfInBounds_toArray, List.set_cons_zero, List.set_cons_succ]
    refine takeN (v := ?_) 3 rfl (by kernel_rfl) (by kernel_rfl) (by kernel_rfl) (fun _ _ _ h => h) (by rfl) ?_ hHeld0 ?_
    rotate_left
    · intro w hSw; (try dsimp only at hSw); go_simp; with_reducible rfl
    try simp only [Act.put, List.setIfInBounds_toArray, List.set_cons_zero, List.set_cons_succ]
    refine takeN (v := ?_) 4 rfl (by kernel_rfl) (by kernel_rfl) (by kernel_rfl) (fun _ _ _ h => h) (by rfl) ?_ hHeld0 ?_
    rotate_left
    · intro w hSw; (try dsimp only at hSw); go_simp; with_reducible rfl
    try simp only [Act.put, List.setIfInBounds_toArray, List.set_cons_zero, List.set_cons_succ]
    refine takeN (v := ?_) 5 rfl (by kernel_rfl) (by kernel_rfl) (by kernel_rfl) (fun _ _ _ h => h) (by rfl) ?_ hHeld0 ?_
    rotate_left
    · intro w hSw; (try dsimp only at hSw); go_simp; with_reducible rfl
    try simp only [Act.put, List.setIfInBounds_toArray, List.set_cons_zero, List.set_cons_succ]
    refine wpAnyH_ready (rs := [6]) (by kernel_rfl) (by simp) ?_
    refine readyN rfl (fun K hK => ?_) ?_
    · -- operation 6
      go_simp
      refine hK.out _ _ ?_ (fun hHeld1 => ?_)
      · (try dsimp only)
        first | with_reducible exact HD2.out | with_reducible exact HD3.out | with_reducible exact HD4.out
      clear hK K hHeld0
      try simp only [Act.put, List.setIfInBounds_toArray, List.set_cons_zero, List.set_cons_succ]
      refine takeN (v := ?_) 7 rfl (by kernel_rfl) (by kernel_rfl) (by kernel_rfl) (fun _ _ _ h => h) (by rfl) ?_ hHeld1 ?_
      rotate_left
      · intro w hSw; (try dsimp only at hSw); go_simp; with_reducible rfl
      try simp only [Act.put, List.setIfInBounds_toArray, List.set_cons_zero, List.set_cons_succ]
      refine takeN (v := ?_) 8 rfl (by kernel_rfl) (by kernel_rfl) (by kernel_rfl) (fun _ _ _ h => h) (by rfl) ?_ hHeld1 ?_
      rotate_left
      · intro w hSw; (try dsimp only at hSw); go_simp; with_reducible rfl
      try simp only [Act.put, List.setIfInBounds_toArray, List.set_cons_zero, List.set_cons_succ]
      refine takeN (v := ?_) 9 rfl (by kernel_rfl) (by kernel_rfl) (by kernel_rfl) (fun _ _ _ h => h) (by rfl) ?_ hHeld1 ?_
      rotate_left
      · intro w hSw; (try dsimp only at hSw); go_simp; with_reducible rfl
      try simp only [Act.put, List.setIfInBounds_toArray, List.set_cons_zero, List.set_cons_succ]
      refine wpAnyH_ready (rs := [10]) (by kernel_rfl) (by simp) ?_
      refine readyN rfl (fun K hK => ?_) ?_
      · -- operation 10
        go_simp
        refine hK.out _ _ ?_ (fun hHeld2 => ?_)
        · (try dsimp only)
          first | with_reducible exact HD2.out | with_reducible exact HD3.out | with_reducible exact HD4.out
        clear hK K hHeld1
        try simp only [Act.put, List.setIfInBounds_toArray, List.set_cons_zero, List.set_cons_succ]
        refine wpAnyH_done (by kernel_rfl) ?_ _
        go_wp2
        go_ret
        rw [HG.out]
        exact ⟨rfl, HE1.out, HE2.out⟩
      exact AllReadyH.nil
    exact AllReadyH.nil
  · have hq : (x == 0) = false := by simp [hx0]
    cases hb with
    | false =>
      have HG := Lib.hid (show setrS S x = (1, S) by unfold setrS; rw [if_pos ⟨hx0, HHB.out.symm⟩])
      go_enter Try.func47, Try.ntmps47
      go_wp2_with fail
      refine wp_region_held_drew (S := (fun w' => w'.cell? ⟨qs, 0, none⟩ = some (.pointer (some ⟨M.p, 0, none⟩)) ∧ w'.cell? ⟨qp, 0, none⟩ = some (.int .i64 x))) (by kernel_rfl) ?_ (fun hHeld0 => ?_)
      · (try dsimp only)
        with_reducible exact HD1.out
      refine takeN (v := ?_) 0 rfl (by kernel_rfl) (by kernel_rfl) (by kernel_rfl) (fun _ _ _ h => h) (by rfl) ?_ hHeld0 ?_
      rotate_left
      · intro w hSw; (try dsimp only at hSw); go_simp; with_reducible rfl
      try simp only [Act.put, List.setIfInBounds_toArray, List.set_cons_zero, List.set_cons_succ]
      refine takeN (v := ?_) 1 rfl (by kernel_rfl) (by kernel_rfl) (by kernel_rfl) (fun _ _ _ h => h) (by rfl) ?_ hHeld0 ?_
      rotate_left
      · intro w hSw; (try dsimp only at hSw); go_simp; with_reducible rfl
      try simp only [Act.put, List.setIfInBounds_toArray, List.set_cons_zero, List.set_cons_succ]
      refine takeN (v := ?_) 2 rfl (by kernel_rfl) (by kernel_rfl) (by kernel_rfl) (fun _ _ _ h => h) (by rfl) ?_ hHeld0 ?_
      rotate_left
      · intro w hSw; (try dsimp only at hSw); go_simp; with_reducible rfl
      try simp only [Act.put, List.setIfInBounds_toArray, List.set_cons_zero, List.set_cons_succ]
      refine wpAnyH_ready (rs := [3, 6]) (by kernel_rfl) (by simp) ?_
      refine readyN rfl (fun K hK => ?_) ?_
      · -- operation 3
        go_simp
        refine hK.out _ _ ?_ (fun hHeld1 => ?_)
        · (try dsimp only)
          with_reducible exact HD1.out
        clear hK K hHeld0
        try simp only [Act.put, List.setIfInBounds_toArray, List.set_cons_zero, List.set_cons_succ]
        refine wpAnyH_ready (rs := [4, 6]) (by kernel_rfl) (by simp) ?_
        refine readyN rfl (fun K hK => ?_) ?_
        · -- operation 4
          go_simp
          refine hK.out _ _ ?_ (fun hHeld2 => ?_)
          · (try dsimp only)
            with_reducible exact HD1.out
          clear hK K hHeld1
          try simp only [Act.put, List.setIfInBounds_toArray, List.set_cons_zero, List.set_cons_succ]
          refine wpAnyH_ready (rs := [5, 6]) (by kernel_rfl) (by simp) ?_
          refine readyN rfl (fun K hK => ?_) ?_
          · -- operation 5
            go_simp
            refine hK.out _ _ ?_ (fun hHeld3 => ?_)
            · (try dsimp only)
              with_reducible exact HD1.out
            clear hK K hHeld2
            try simp only [Act.put, List.setIfInBounds_toArray, List.set_cons_zero, List.set_cons_succ]
            refine wpAnyH_ready (rs := [6]) (by kernel_rfl) (by simp) ?_
            refine readyN rfl (fun K hK => ?_) ?_
            · -- operation 6
              go_simp
              refine hK.out _ _ ?_ (fun hHeld4 => ?_)
              · (try dsimp only)
                with_reducible exact HD1.out
              clear hK K hHeld3
              try simp only [Act.put, List.setIfInBounds_toArray, List.set_cons_zero, List.set_cons_succ]
              refine wpAnyH_ready (rs := [7]) (by kernel_rfl) (by simp) ?_
              refine readyN rfl (fun K hK => ?_) ?_
              · -- operation 7
                go_simp
                (go_at_call 48; refine HAS.out.mono ?_; rintro e w1 ⟨rfl, rfl⟩)
                go_wp2_with fail
                refine hK.out _ _ ?_ (fun hHeld5 => ?_)
                · (try dsimp only)
                  with_reducible exact HD1.out
                clear hK K hHeld4
                try simp only [Act.put, List.setIfInBounds_toArray, List.set_cons_zero, List.set_cons_succ]
                refine wpAnyH_ready (rs := [8]) (by kernel_rfl) (by simp) ?_
                refine readyN rfl (fun K hK => ?_) ?_
                · -- operation 8
                  go_simp
                  refine hK.out _ _ ?_ (fun hHeld6 => ?_)
                  · (try dsimp only)
                    with_reducible exact HD1.out
                  clear hK K hHeld5
                  try simp only [Act.put, List.setIfInBounds_toArray, List.set_cons_zero, List.set_cons_succ]
                  refine takeN (v := ?_) 9 rfl (by kernel_rfl) (by kernel_rfl) (by kernel_rfl) (fun _ _ _ h => h) (by rfl) ?_ hHeld6 ?_
                  rotate_left
                  · intro w hSw; (try dsimp only at hSw); go_simp; with_reducible rfl
                  try simp only [Act.put, List.setIfInBounds_toArray, List.set_cons_zero, List.set_cons_succ]
                  refine wpAnyH_done (by kernel_rfl) ?_ _
                  go_wp2
                  go_ret
                  rw [HG.out]
                  exact ⟨rfl, HH.out.keep ((Keep.refl (fun _ => False) w).drew) (fun _ _ h => h) (fun _ _ _ _ h => h), (Keep.refl _ w).drew⟩
                exact AllReadyH.nil
              exact AllReadyH.nil
            exact AllReadyH.nil
          refine readyN rfl (fun K hK => ?_) ?_
          · -- operation 6
            go_simp
            refine hK.out _ _ ?_ (fun hHeld3 => ?_)
            · (try dsimp only)
              with_reducible exact HD1.out
            clear hK K hHeld2
            try simp only [Act.put, List.setIfInBounds_toArray, List.set_cons_zero, List.set_cons_succ]
            refine wpAnyH_ready (rs := [5]) (by kernel_rfl) (by simp) ?_
            refine readyN rfl (fun K hK => ?_) ?_
            · -- operation 5
              go_simp
              refine hK.out _ _ ?_ (fun hHeld4 => ?_)
              · (try dsimp only)
                with_reducible exact HD1.out
              clear hK K hHeld3
              try simp only [Act.put, List.setIfInBounds_toArray, List.set_cons_zero, List.set_cons_succ]
              refine wpAnyH_ready (rs := [7]) (by kernel_rfl) (by simp) ?_
              refine readyN rfl (fun K hK => ?_) ?_
              · -- operation 7
                go_simp
                (go_at_call 48; refine HAS.out.mono ?_; rintro e w1 ⟨rfl, rfl⟩)
                go_wp2_with fail
                refine hK.out _ _ ?_ (fun hHeld5 => ?_)
                · (try dsimp only)
                  with_reducible exact HD1.out
                clear hK K hHeld4
                try simp only [Act.put, List.setIfInBounds_toArray, List.set_cons_zero, List.set_cons_succ]
                refine wpAnyH_ready (rs := [8]) (by kernel_rfl) (by simp) ?_
                refine readyN rfl (fun K hK => ?_) ?_
                · -- operation 8
                  go_simp
                  refine hK.out _ _ ?_ (fun hHeld6 => ?_)
                  · (try dsimp only)
                    with_reducible exact HD1.out
                  clear hK K hHeld5
                  try simp only [Act.put, List.setIfInBounds_toArray, List.set_cons_zero, List.set_cons_succ]
                  refine takeN (v := ?_) 9 rfl (by kernel_rfl) (by kernel_rfl) (by kernel_rfl) (fun _ _ _ h => h) (by rfl) ?_ hHeld6 ?_
                  rotate_left
                  · intro w hSw; (try dsimp only at hSw); go_simp; with_reducible rfl
                  try simp only [Act.put, List.setIfInBounds_toArray, List.set_cons_zero, List.set_cons_succ]
                  refine wpAnyH_done (by kernel_rfl) ?_ _
                  go_wp2
                  go_ret
                  rw [HG.out]
                  exact ⟨rfl, HH.out.keep ((Keep.refl (fun _ => False) w).drew) (fun _ _ h => h) (fun _ _ _ _ h => h), (Keep.refl _ w).drew⟩
                exact AllReadyH.nil
              exact AllReadyH.nil
            exact AllReadyH.nil
          exact AllReadyH.nil
        refine readyN rfl (fun K hK => ?_) ?_
        · -- operation 6
          go_simp
          refine hK.out _ _ ?_ (fun hHeld2 => ?_)
          · (try dsimp only)
            with_reducible exact HD1.out
          clear hK K hHeld1
          try simp only [Act.put, List.setIfInBounds_toArray, List.set_cons_zero, List.set_cons_succ]
          refine wpAnyH_ready (rs := [4]) (by kernel_rfl) (by simp) ?_
          refine readyN rfl (fun K hK => ?_) ?_
          · -- operation 4
            go_simp
            refine hK.out _ _ ?_ (fun hHeld3 => ?_)
            · (try dsimp only)
              with_reducible exact HD1.out
            clear hK K hHeld2
            try simp only [Act.put, List.setIfInBounds_toArray, List.set_cons_zero, List.set_cons_succ]
            refine wpAnyH_ready (rs := [5]) (by kernel_rfl) (by simp) ?_
            refine readyN rfl (fun K hK => ?_) ?_
            · -- operation 5
              go_simp
              refine hK.out _ _ ?_ (fun hHeld4 => ?_)
              · (try dsimp only)
                with_reducible exact HD1.out
              clear hK K hHeld3
              try simp only [Act.put, List.setIfInBounds_toArray, List.set_cons_zero, List.set_cons_succ]
              refine wpAnyH_ready (rs := [7]) (by kernel_rfl) (by simp) ?_
              refine readyN rfl (fun K hK => ?_) ?_
              · -- operation 7
                go_simp
                (go_at_call 48; refine HAS.out.mono ?_; rintro e w1 ⟨rfl, rfl⟩)
                go_wp2_with fail
                refine hK.out _ _ ?_ (fun hHeld5 => ?_)
                · (try dsimp only)
                  with_reducible exact HD1.out
                clear hK K hHeld4
                try simp only [Act.put, List.setIfInBounds_toArray, List.set_cons_zero, List.set_cons_succ]
                refine wpAnyH_ready (rs := [8]) (by kernel_rfl) (by simp) ?_
                refine readyN rfl (fun K hK => ?_) ?_
                · -- operation 8
                  go_simp
                  refine hK.out _ _ ?_ (fun hHeld6 => ?_)
                  · (try dsimp only)
                    with_reducible exact HD1.out
                  clear hK K hHeld5
                  try simp only [Act.put, List.setIfInBounds_toArray, List.set_cons_zero, List.set_cons_succ]
                  refine takeN (v := ?_) 9 rfl (by kernel_rfl) (by kernel_rfl) (by kernel_rfl) (fun _ _ _ h => h) (by rfl) ?_ hHeld6 ?_
                  rotate_left
                  · intro w hSw; (try dsimp only at hSw); go_simp; with_reducible rfl
                  try simp only [Act.put, List.setIfInBounds_toArray, List.set_cons_zero, List.set_cons_succ]
                  refine wpAnyH_done (by kernel_rfl) ?_ _
                  go_wp2
                  go_ret
                  rw [HG.out]
                  exact ⟨rfl, HH.out.keep ((Keep.refl (fun _ => False) w).drew) (fun _ _ h => h) (fun _ _ _ _ h => h), (Keep.refl _ w).drew⟩
                exact AllReadyH.nil
              exact AllReadyH.nil
            exact AllReadyH.nil
          exact AllReadyH.nil
        exact AllReadyH.nil
      refine readyN rfl (fun K hK => ?_) ?_
      · -- operation 6
        go_simp
        refine hK.out _ _ ?_ (fun hHeld1 => ?_)
        · (try dsimp only)
          with_reducible exact HD1.out
        clear hK K hHeld0
        try simp only [Act.put, List.setIfInBounds_toArray, List.set_cons_zero, List.set_cons_succ]
        refine wpAnyH_ready (rs := [3]) (by kernel_rfl) (by simp) ?_
        refine readyN rfl (fun K hK => ?_) ?_
        · -- operation 3
          go_simp
          refine hK.out _ _ ?_ (fun hHeld2 => ?_)
          · (try dsimp only)
            with_reducible exact HD1.out
          clear hK K hHeld1
          try simp only [Act.put, List.setIfInBounds_toArray, List.set_cons_zero, List.set_cons_succ]
          refine wpAnyH_ready (rs := [4]) (by kernel_rfl) (by simp) ?_
          refine readyN rfl (fun K hK => ?_) ?_
          · -- operation 4
            go_simp
            refine hK.out _ _ ?_ (fun hHeld3 => ?_)
            · (try dsimp only)
              with_reducible exact HD1.out
            clear hK K hHeld2
            try simp only [Act.put, List.setIfInBounds_toArray, List.set_cons_zero, List.set_cons_succ]
            refine wpAnyH_ready (rs := [5]) (by kernel_rfl) (by simp) ?_
            refine readyN rfl (fun K hK => ?_) ?_
            · -- operation 5
              go_simp
              refine hK.out _ _ ?_ (fun hHeld4 => ?_)
              · (try dsimp only)
                with_reducible exact HD1.out
              clear hK K hHeld3
              try simp only [Act.put, List.setIfInBounds_toArray, List.set_cons_zero, List.set_cons_succ]
              refine wpAnyH_ready (rs := [7]) (by kernel_rfl) (by simp) ?_
              refine readyN rfl (fun K hK => ?_) ?_
              · -- operation 7
                go_simp
                (go_at_call 48; refine HAS.out.mono ?_; rintro e w1 ⟨rfl, rfl⟩)
                go_wp2_with fail
                refine hK.out _ _ ?_ (fun hHeld5 => ?_)
                · (try dsimp only)
                  with_reducible exact HD1.out
                clear hK K hHeld4
                try simp only [Act.put, List.setIfInBounds_toArray, List.set_cons_zero, List.set_cons_succ]
                refine wpAnyH_ready (rs := [8]) (by kernel_rfl) (by simp) ?_
                refine readyN rfl (fun K hK => ?_) ?_
                · -- operation 8
                  go_simp
                  refine hK.out _ _ ?_ (fun hHeld6 => ?_)
                  · (try dsimp only)
                    with_reducible exact HD1.out
                  clear hK K hHeld5
                  try simp only [Act.put, List.setIfInBounds_toArray, List.set_cons_zero, List.set_cons_succ]
                  refine takeN (v := ?_) 9 rfl (by kernel_rfl) (by kernel_rfl) (by kernel_rfl) (fun _ _ _ h => h) (by rfl) ?_ hHeld6 ?_
                  rotate_left
                  · intro w hSw; (try dsimp only at hSw); go_simp; with_reducible rfl
                  try simp only [Act.put, List.setIfInBounds_toArray, List.set_cons_zero, List.set_cons_succ]
                  refine wpAnyH_done (by kernel_rfl) ?_ _
                  go_wp2
                  go_ret
                  rw [HG.out]
                  exact ⟨rfl, HH.out.keep ((Keep.refl (fun _ => False) w).drew) (fun _ _ h => h) (fun _ _ _ _ h => h), (Keep.refl _ w).drew⟩
                exact AllReadyH.nil
              exact AllReadyH.nil
            exact AllReadyH.nil
          exact AllReadyH.nil
        exact AllReadyH.nil
      exact AllReadyH.nil
    | true =>
      have HG := Lib.hid (show setrS S x = (0, { S with st := { S.st with root := x, touched := true } }) by unfold setrS; rw [if_neg (fun h => absurd (h.2.symm.trans HHB.out.symm) (by decide))])
      obtain ⟨E1, E2⟩ := setr_end HH.out x (by have := HHB.out.symm; unfold hasB at this; simp only [Bool.and_eq_true, decide_eq_true_eq] at this; omega)
      have HE1 := Lib.hid E1
      have HE2 := Lib.hid E2
      clear E1 E2
      go_enter Try.func47, Try.ntmps47
      go_wp2_with fail
      refine wp_region_held_drew (S := (fun w' => w'.cell? ⟨qs, 0, none⟩ = some (.pointer (some ⟨M.p, 0, none⟩)) ∧ w'.cell? ⟨qp, 0, none⟩ = some (.int .i64 x))) (by kernel_rfl) ?_ (fun hHeld0 => ?_)
      · (try dsimp only)
        with_reducible exact HD1.out
      refine takeN (v := ?_) 0 rfl (by kernel_rfl) (by kernel_rfl) (by kernel_rfl) (fun _ _ _ h => h) (by rfl) ?_ hHeld0 ?_
      rotate_left
      · intro w hSw; (try dsimp only at hSw); go_simp; with_reducible rfl
      try simp only [Act.put, List.setIfInBounds_toArray, List.set_cons_zero, List.set_cons_succ]
      refine takeN (v := ?_) 1 rfl (by kernel_rfl) (by kernel_rfl) (by kernel_rfl) (fun _ _ _ h => h) (by rfl) ?_ hHeld0 ?_
      rotate_left
      · intro w hSw; (try dsimp only at hSw); go_simp; with_reducible rfl
      try simp only [Act.put, List.setIfInBounds_toArray, List.set_cons_zero, List.set_cons_succ]
      refine takeN (v := ?_) 2 rfl (by kernel_rfl) (by kernel_rfl) (by kernel_rfl) (fun _ _ _ h => h) (by rfl) ?_ hHeld0 ?_
      rotate_left
      · intro w hSw; (try dsimp only at hSw); go_simp; with_reducible rfl
      try simp only [Act.put, List.setIfInBounds_toArray, List.set_cons_zero, List.set_cons_succ]
      refine wpAnyH_ready (rs := [3, 6]) (by kernel_rfl) (by simp) ?_
      refine readyN rfl (fun K hK => ?_) ?_
      · -- operation 3
        go_simp
        refine hK.out _ _ ?_ (fun hHeld1 => ?_)
        · (try dsimp only)
          with_reducible exact HD1.out
        clear hK K hHeld0
        try simp only [Act.put, List.setIfInBounds_toArray, List.set_cons_zero, List.set_cons_succ]
        refine wpAnyH_ready (rs := [4, 6]) (by kernel_rfl) (by simp) ?_
        refine readyN rfl (fun K hK => ?_) ?_
        · -- operation 4
          go_simp
          refine hK.out _ _ ?_ (fun hHeld2 => ?_)
          · (try dsimp only)
            with_reducible exact HD1.out
          clear hK K hHeld1
          try simp only [Act.put, List.setIfInBounds_toArray, List.set_cons_zero, List.set_cons_succ]
          refine wpAnyH_ready (rs := [5, 6]) (by kernel_rfl) (by simp) ?_
          refine readyN rfl (fun K hK => ?_) ?_
          · -- operation 5
            go_simp
            refine hK.out _ _ ?_ (fun hHeld3 => ?_)
            · (try dsimp only)
              with_reducible exact HD1.out
            clear hK K hHeld2
            try simp only [Act.put, List.setIfInBounds_toArray, List.set_cons_zero, List.set_cons_succ]
            refine wpAnyH_ready (rs := [6]) (by kernel_rfl) (by simp) ?_
            refine readyN rfl (fun K hK => ?_) ?_
            · -- operation 6
              go_simp
              refine hK.out _ _ ?_ (fun hHeld4 => ?_)
              · (try dsimp only)
                with_reducible exact HD1.out
              clear hK K hHeld3
              try simp only [Act.put, List.setIfInBounds_toArray, List.set_cons_zero, List.set_cons_succ]
              refine wpAnyH_ready (rs := [7]) (by kernel_rfl) (by simp) ?_
              refine readyN rfl (fun K hK => ?_) ?_
              · -- operation 7
                go_simp
                (go_at_call 48; refine HAS.out.mono ?_; rintro e w1 ⟨rfl, rfl⟩)
                go_wp2_with fail
                refine hK.out _ _ ?_ (fun hHeld5 => ?_)
                · (try dsimp only)
                  with_reducible exact HD1.out
                clear hK K hHeld4
                try simp only [Act.put, List.setIfInBounds_toArray, List.set_cons_zero, List.set_cons_succ]
                refine wpAnyH_ready (rs := [8]) (by kernel_rfl) (by simp) ?_
                refine readyN rfl (fun K hK => ?_) ?_
                · -- operation 8
                  go_simp
                  refine hK.out _ _ ?_ (fun hHeld6 => ?_)
                  · (try dsimp only)
                    with_reducible exact HD1.out
                  clear hK K hHeld5
                  try simp only [Act.put, List.setIfInBounds_toArray, List.set_cons_zero, List.set_cons_succ]
                  refine takeN (v := ?_) 9 rfl (by kernel_rfl) (by kernel_rfl) (by kernel_rfl) (fun _ _ _ h => h) (by rfl) ?_ hHeld6 ?_
                  rotate_left
                  · intro w hSw; (try dsimp only at hSw); go_simp; with_reducible rfl
                  try simp only [Act.put, List.setIfInBounds_toArray, List.set_cons_zero, List.set_cons_succ]
                  refine wpAnyH_done (by kernel_rfl) ?_ _
                  have z0 : w.cell? ⟨M.p, 0, none⟩ = some (.int .i64 S.st.root) := blk_cell HH.out.blk 0
                  have y0 : w.frozen? ⟨M.p, 0, none⟩ = false := blk_frozen HH.out.blk 0
                  have hb1 := blk_setCell HH.out.blk 0 (.int .i64 x)
                  have z4 : (w.setCell ⟨M.p, 0, none⟩ (.int .i64 x)).cell? ⟨M.p, 4, none⟩ = some (.bool S.st.touched) := blk_cell hb1 4
                  have y4 : (w.setCell ⟨M.p, 0, none⟩ (.int .i64 x)).frozen? ⟨M.p, 4, none⟩ = false := blk_frozen hb1 4
                  have k1 : Keep (fun i => i = M.p) w ((w.setCell ⟨M.p, 0, none⟩ (.int .i64 x)).drew.drew) := (((Keep.refl _ w).setEq _ _).drew).drew
                  have k2 : Keep (fun i => i = M.p) w (((w.setCell ⟨M.p, 0, none⟩ (.int .i64 x)).setCell ⟨M.p, 4, none⟩ (.bool true)).drew.drew) := ((((Keep.refl _ w).setEq _ _).setEq _ _).drew).drew
                  have HD2 := Lib.hid (show w.drew.drew.cell? ⟨qs, 0, none⟩ = some (.pointer (some ⟨M.p, 0, none⟩)) ∧ w.drew.drew.cell? ⟨qp, 0, none⟩ = some (.int .i64 x) from HD1.out)
                  have HD3 := Lib.hid (And.intro (show ((w.setCell ⟨M.p, 0, none⟩ (.int .i64 x)).drew.drew).cell? ⟨qs, 0, none⟩ = some (.pointer (some ⟨M.p, 0, none⟩)) from (HBO.out _ k1).1.cell) (HBO.out _ k1).2.cell)
                  have HD4 := Lib.hid (And.intro (show (((w.setCell ⟨M.p, 0, none⟩ (.int .i64 x)).setCell ⟨M.p, 4, none⟩ (.bool true)).drew.drew).cell? ⟨qs, 0, none⟩ = some (.pointer (some ⟨M.p, 0, none⟩)) from (HBO.out _ k2).1.cell) (HBO.out _ k2).2.cell)
                  have z0' : w.drew.drew.cell? ⟨M.p, 0, none⟩ = some (.int .i64 S.st.root) := z0
                  have y0' : w.drew.drew.frozen? ⟨M.p, 0, none⟩ = false := y0
                  have z4' : ((w.setCell ⟨M.p, 0, none⟩ (.int .i64 x)).drew.drew).cell? ⟨M.p, 4, none⟩ = some (.bool S.st.touched) := z4
                  have y4' : ((w.setCell ⟨M.p, 0, none⟩ (.int .i64 x)).drew.drew).frozen? ⟨M.p, 4, none⟩ = false := y4
                  clear hb1 k1 k2
                  go_wp2_with fail
                  refine wp_region_held_drew (S := (fun w' => w'.cell? ⟨qs, 0, none⟩ = some (.pointer (some ⟨M.p, 0, none⟩)) ∧ w'.cell? ⟨qp, 0, none⟩ = some (.int .i64 x))) (by kernel_rfl) ?_ (fun hHeld0 => ?_)
                  · (try dsimp only)
                    first | with_reducible exact HD2.out | with_reducible exact HD3.out | with_reducible exact HD4.out
                  refine takeN (v := ?_) 0 rfl (by kernel_rfl) (by kernel_rfl) (by kernel_rfl) (fun _ _ _ h => h) (by rfl) ?_ hHeld0 ?_
                  rotate_left
                  · intro w hSw; (try dsimp only at hSw); go_simp; with_reducible rfl
                  try simp only [Act.put, List.setIfInBounds_toArray, List.set_cons_zero, List.set_cons_succ]
                  refine takeN (v := ?_) 1 rfl (by kernel_rfl) (by kernel_rfl) (by kernel_rfl) (fun _ _ _ h => h) (by rfl) ?_ hHeld0 ?_
                  rotate_left
                  · intro w hSw; (try dsimp only at hSw); go_simp; with_reducible rfl
                  try simp only [Act.put, List.setIfInBounds_toArray, List.set_cons_zero, List.set_cons_succ]
                  refine takeN (v := ?_) 2 rfl (by kernel_rfl) (by kernel_rfl) (by kernel_rfl) (fun _ _ _ h => h) (by rfl) ?_ hHeld0 ?_
                  rotate_left
                  · intro w hSw; (try dsimp only at hSw); go_simp; with_reducible rfl
                  try simp only [Act.put, List.setIfInBounds_toArray, List.set_cons_zero, List.set_cons_succ]
                  refine takeN (v := ?_) 3 rfl (by kernel_rfl) (by kernel_rfl) (by kernel_rfl) (fun _ _ _ h => h) (by rfl) ?_ hHeld0 ?_
                  rotate_left
                  · intro w hSw; (try dsimp only at hSw); go_simp; with_reducible rfl
                  try simp only [Act.put, List.setIfInBounds_toArray, List.set_cons_zero, List.set_cons_succ]
                  refine takeN (v := ?_) 4 rfl (by kernel_rfl) (by kernel_rfl) (by kernel_rfl) (fun _ _ _ h => h) (by rfl) ?_ hHeld0 ?_
                  rotate_left
                  · intro w hSw; (try dsimp only at hSw); go_simp; with_reducible rfl
                  try simp only [Act.put, List.setIfInBounds_toArray, List.set_cons_zero, List.set_cons_succ]
                  refine takeN (v := ?_) 5 rfl (by kernel_rfl) (by kernel_rfl) (by kernel_rfl) (fun _ _ _ h => h) (by rfl) ?_ hHeld0 ?_
                  rotate_left
                  · intro w hSw; (try dsimp only at hSw); go_simp; with_reducible rfl
                  try simp only [Act.put, List.setIfInBounds_toArray, List.set_cons_zero, List.set_cons_succ]
                  refine wpAnyH_ready (rs := [6]) (by kernel_rfl) (by simp) ?_
                  refine readyN rfl (fun K hK => ?_) ?_
                  · -- operation 6
                    go_simp
                    refine hK.out _ _ ?_ (fun hHeld1 => ?_)
                    · (try dsimp only)
                      first | with_reducible exact HD2.out | with_reducible exact HD3.out | with_reducible exact HD4.out
                    clear hK K hHeld0
                    try simp only [Act.put, List.setIfInBounds_toArray, List.set_cons_zero, List.set_cons_succ]
                    refine takeN (v := ?_) 7 rfl (by kernel_rfl) (by kernel_rfl) (by kernel_rfl) (fun _ _ _ h => h) (by rfl) ?_ hHeld1 ?_
                    rotate_left
                    · intro w hSw; (try dsimp only at hSw); go_simp; with_reducible rfl
                    try simp only [Act.put, List.setIfInBounds_toArray, List.set_cons_zero, List.set_cons_succ]
                    refine takeN (v := ?_) 8 rfl (by kernel_rfl) (by kernel_rfl) (by kernel_rfl) (fun _ _ _ h => h) (by rfl) ?_ hHeld1 ?_
                    rotate_left
                    · intro w hSw; (try dsimp only at hSw); go_simp; with_reducible rfl
                    try simp only [Act.put, List.setIfInBounds_toArray, List.set_cons_zero, List.set_cons_succ]
                    refine takeN (v := ?_) 9 rfl (by kernel_rfl) (by kernel_rfl) (by kernel_rfl) (fun _ _ _ h => h) (by rfl) ?_ hHeld1 ?_
                    rotate_left
                    · intro w hSw; (try dsimp only at hSw); go_simp; with_reducible rfl
                    try simp only [Act.put, List.setIfInBounds_toArray, List.set_cons_zero, List.set_cons_succ]
                    refine wpAnyH_ready (rs := [10]) (by kernel_rfl) (by simp) ?_
                    refine readyN rfl (fun K hK => ?_) ?_
                    · -- operation 10
                      go_simp
                      refine hK.out _ _ ?_ (fun hHeld2 => ?_)
                      · (try dsimp only)
                        first | with_reducible exact HD2.out | with_reducible exact HD3.out | with_reducible exact HD4.out
                      clear hK K hHeld1
                      try simp only [Act.put, List.setIfInBounds_toArray, List.set_cons_zero, List.set_cons_succ]
                      refine wpAnyH_done (by kernel_rfl) ?_ _
                      go_wp2
                      go_ret
                      rw [HG.out]
                      exact ⟨rfl, HE1.out, HE2.out⟩
                    exact AllReadyH.nil
                  exact AllReadyH.nil
                exact AllReadyH.nil
              exact AllReadyH.nil
            exact AllReadyH.nil
          refine readyN rfl (fun K hK => ?_) ?_
          · -- operation 6
            go_simp
            refine hK.out _ _ ?_ (fun hHeld3 => ?_)
            · (try dsimp only)
              with_reducible exact HD1.out
            clear hK K hHeld2
            try simp only [Act.put, List.setIfInBounds_toArray, List.set_cons_zero, List.set_cons_succ]
            refine wpAnyH_ready (rs := [5]) (by kernel_rfl) (by simp) ?_
            refine readyN rfl (fun K hK => ?_) ?_
            · -- operation 5
              go_simp
              refine hK.out _ _ ?_ (fun hHeld4 => ?_)
              · (try dsimp only)
                with_reducible exact HD1.out
              clear hK K hHeld3
              try simp only [Act.put, List.setIfInBounds_toArray, List.set_cons_zero, List.set_cons_succ]
              refine wpAnyH_ready (rs := [7]) (by kernel_rfl) (by simp) ?_
              refine readyN rfl (fun K hK => ?_) ?_
              · -- operation 7
                go_simp
                (go_at_call 48; refine HAS.out.mono ?_; rintro e w1 ⟨rfl, rfl⟩)
                go_wp2_with fail
                refine hK.out _ _ ?_ (fun hHeld5 => ?_)
                · (try dsimp only)
                  with_reducible exact HD1.out
                clear hK K hHeld4
                try simp only [Act.put, List.setIfInBounds_toArray, List.set_cons_zero, List.set_cons_succ]
                refine wpAnyH_ready (rs := [8]) (by kernel_rfl) (by simp) ?_
                refine readyN rfl (fun K hK => ?_) ?_
                · -- operation 8
                  go_simp
                  refine hK.out _ _ ?_ (fun hHeld6 => ?_)
                  · (try dsimp only)
                    with_reducible exact HD1.out
                  clear hK K hHeld5
                  try simp only [Act.put, List.setIfInBounds_toArray, List.set_cons_zero, List.set_cons_succ]
                  refine takeN (v := ?_) 9 rfl (by kernel_rfl) (by kernel_rfl) (by kernel_rfl) (fun _ _ _ h => h) (by rfl) ?_ hHeld6 ?_
                  rotate_left
                  · intro w hSw; (try dsimp only at hSw); go_simp; with_reducible rfl
                  try simp only [Act.put, List.setIfInBounds_toArray, List.set_cons_zero, List.set_cons_succ]
                  refine wpAnyH_done (by kernel_rfl) ?_ _
                  have z0 : w.cell? ⟨M.p, 0, none⟩ = some (.int .i64 S.st.root) := blk_cell HH.out.blk 0
                  have y0 : w.frozen? ⟨M.p, 0, none⟩ = false := blk_frozen HH.out.blk 0
                  have hb1 := blk_setCell HH.out.blk 0 (.int .i64 x)
                  have z4 : (w.setCell ⟨M.p, 0, none⟩ (.int .i64 x)).cell? ⟨M.p, 4, none⟩ = some (.bool S.st.touched) := blk_cell hb1 4
                  have y4 : (w.setCell ⟨M.p, 0, none⟩ (.int .i64 x)).frozen? ⟨M.p, 4, none⟩ = false := blk_frozen hb1 4
                  have k1 : Keep (fun i => i = M.p) w ((w.setCell ⟨M.p, 0, none⟩ (.int .i64 x)).drew.drew) := (((Keep.refl _ w).setEq _ _).drew).drew
                  have k2 : Keep (fun i => i = M.p) w (((w.setCell ⟨M.p, 0, none⟩ (.int .i64 x)).setCell ⟨M.p, 4, none⟩ (.bool true)).drew.drew) := ((((Keep.refl _ w).setEq _ _).setEq _ _).drew).drew
                  have HD2 := Lib.hid (show w.drew.drew.cell? ⟨qs, 0, none⟩ = some (.pointer (some ⟨M.p, 0, none⟩)) ∧ w.drew.drew.cell? ⟨qp, 0, none⟩ = some (.int .i64 x) from HD1.out)
                  have HD3 := Lib.hid (And.intro (show ((w.setCell ⟨M.p, 0, none⟩ (.int .i64 x)).drew.drew).cell? ⟨qs, 0, none⟩ = some (.pointer (some ⟨M.p, 0, none⟩)) from (HBO.out _ k1).1.cell) (HBO.out _ k1).2.cell)
                  have HD4 := Lib.hid (And.intro (show (((w.setCell ⟨M.p, 0, none⟩ (.int .i64 x)).setCell ⟨M.p, 4, none⟩ (.bool true)).drew.drew).cell? ⟨qs, 0, none⟩ = some (.pointer (some ⟨M.p, 0, none⟩)) from (HBO.out _ k2).1.cell) (HBO.out _ k2).2.cell)
                  have z0' : w.drew.drew.cell? ⟨M.p, 0, none⟩ = some (.int .i64 S.st.root) := z0
                  have y0' : w.drew.drew.frozen? ⟨M.p, 0, none⟩ = false := y0
                  have z4' : ((w.setCell ⟨M.p, 0, none⟩ (.int .i64 x)).drew.drew).cell? ⟨M.p, 4, none⟩ = some (.bool S.st.touched) := z4
                  have y4' : ((w.setCell ⟨M.p, 0, none⟩ (.int .i64 x)).drew.drew).frozen? ⟨M.p, 4, none⟩ = false := y4
                  clear hb1 k1 k2
                  go_wp2_with fail
                  refine wp_region_held_drew (S := (fun w' => w'.cell? ⟨qs, 0, none⟩ = some (.pointer (some ⟨M.p, 0, none⟩)) ∧ w'.cell? ⟨qp, 0, none⟩ = some (.int .i64 x))) (by kernel_rfl) ?_ (fun hHeld0 => ?_)
                  · (try dsimp only)
                    first | with_reducible exact HD2.out | with_reducible exact HD3.out | with_reducible exact HD4.out
                  refine takeN (v := ?_) 0 rfl (by kernel_rfl) (by kernel_rfl) (by kernel_rfl) (fun _ _ _ h => h) (by rfl) ?_ hHeld0 ?_
                  rotate_left
                  · intro w hSw; (try dsimp only at hSw); go_simp; with_reducible rfl
                  try simp only [Act.put, List.setIfInBounds_toArray, List.set_cons_zero, List.set_cons_succ]
                  refine takeN (v := ?_) 1 rfl (by kernel_rfl) (by kernel_rfl) (by kernel_rfl) (fun _ _ _ h => h) (by rfl) ?_ hHeld0 ?_
                  rotate_left
                  · intro w hSw; (try dsimp only at hSw); go_simp; with_reducible rfl
                  try simp only [Act.put, List.setIfInBounds_toArray, List.set_cons_zero, List.set_cons_succ]
                  refine takeN (v := ?_) 2 rfl (by kernel_rfl) (by kernel_rfl) (by kernel_rfl) (fun _ _ _ h => h) (by rfl) ?_ hHeld0 ?_
                  rotate_left
                  · intro w hSw; (try dsimp only at hSw); go_simp; with_reducible rfl
                  try simp only [Act.put, List.setIfInBounds_toArray, List.set_cons_zero, List.set_cons_succ]
                  refine takeN (v := ?_) 3 rfl (by kernel_rfl) (by kernel_rfl) (by kernel_rfl) (fun _ _ _ h => h) (by rfl) ?_ hHeld0 ?_
                  rotate_left
                  · intro w hSw; (try dsimp only at hSw); go_simp; with_reducible rfl
                  try simp only [Act.put, List.setIfInBounds_toArray, List.set_cons_zero, List.set_cons_succ]
                  refine takeN (v := ?_) 4 rfl (by kernel_rfl) (by kernel_rfl) (by kernel_rfl) (fun _ _ _ h => h) (by rfl) ?_ hHeld0 ?_
                  rotate_left
                  · intro w hSw; (try dsimp only at hSw); go_simp; with_reducible rfl
                  try simp only [Act.put, List.setIfInBounds_toArray, List.set_cons_zero, List.set_cons_succ]
                  refine takeN (v := ?_) 5 rfl (by kernel_rfl) (by kernel_rfl) (by kernel_rfl) (fun _ _ _ h => h) (by rfl) ?_ hHeld0 ?_
                  rotate_left
                  · intro w hSw; (try dsimp only at hSw); go_simp; with_reducible rfl
                  try simp only [Act.put, List.setIfInBounds_toArray, List.set_cons_zero, List.set_cons_succ]
                  refine wpAnyH_ready (rs := [6]) (by kernel_rfl) (by simp) ?_
                  refine readyN rfl (fun K hK => ?_) ?_
                  · -- operation 6
                    go_simp
                    refine hK.out _ _ ?_ (fun hHeld1 => ?_)
                    · (try dsimp only)
                      first | with_reducible exact HD2.out | with_reducible exact HD3.out | with_reducible exact HD4.out
                    clear hK K hHeld0
                    try simp only [Act.put, List.setIfInBounds_toArray, List.set_cons_zero, List.set_cons_succ]
                    refine takeN (v := ?_) 7 rfl (by kernel_rfl) (by kernel_rfl) (by kernel_rfl) (fun _ _ _ h => h) (by rfl) ?_ hHeld1 ?_
                    rotate_left
                    · intro w hSw; (try dsimp only at hSw); go_simp; with_reducible rfl
                    try simp only [Act.put, List.setIfInBounds_toArray, List.set_cons_zero, List.set_cons_succ]
                    refine takeN (v := ?_) 8 rfl (by kernel_rfl) (by kernel_rfl) (by kernel_rfl) (fun _ _ _ h => h) (by rfl) ?_ hHeld1 ?_
                    rotate_left
                    · intro w hSw; (try dsimp only at hSw); go_simp; with_reducible rfl
                    try simp only [Act.put, List.setIfInBounds_toArray, List.set_cons_zero, List.set_cons_succ]
                    refine takeN (v := ?_) 9 rfl (by kernel_rfl) (by kernel_rfl) (by kernel_rfl) (fun _ _ _ h => h) (by rfl) ?_ hHeld1 ?_
                    rotate_left
                    · intro w hSw; (try dsimp only at hSw); go_simp; with_reducible rfl
                    try simp only [Act.put, List.setIfInBounds_toArray, List.set_cons_zero, List.set_cons_succ]
                    refine wpAnyH_ready (rs := [10]) (by kernel_rfl) (by simp) ?_
                    refine readyN rfl (fun K hK => ?_) ?_
                    · -- operation 10
                      go_simp
                      refine hK.out _ _ ?_ (fun hHeld2 => ?_)
                      · (try dsimp only)
                        first | with_reducible exact HD2.out | with_reducible exact HD3.out | with_reducible exact HD4.out
                      clear hK K hHeld1
                      try simp only [Act.put, List.setIfInBounds_toArray, List.set_cons_zero, List.set_cons_succ]
                      refine wpAnyH_done (by kernel_rfl) ?_ _
                      go_wp2
                      go_ret
                      rw [HG.out]
                      exact ⟨rfl, HE1.out, HE2.out⟩
                    exact AllReadyH.nil
                  exact AllReadyH.nil
                exact AllReadyH.nil
              exact AllReadyH.nil
            exact AllReadyH.nil
          exact AllReadyH.nil
        refine readyN rfl (fun K hK => ?_) ?_
        · -- operation 6
          go_simp
          refine hK.out _ _ ?_ (fun hHeld2 => ?_)
          · (try dsimp only)
            with_reducible exact HD1.out
          clear hK K hHeld1
          try simp only [Act.put, List.setIfInBounds_toArray, List.set_cons_zero, List.set_cons_succ]
          refine wpAnyH_ready (rs := [4]) (by kernel_rfl) (by simp) ?_
          refine readyN rfl (fun K hK => ?_) ?_
          · -- operation 4
            go_simp
            refine hK.out _ _ ?_ (fun hHeld3 => ?_)
            · (try dsimp only)
              with_reducible exact HD1.out
            clear hK K hHeld2
            try simp only [Act.put, List.setIfInBounds_toArray, List.set_cons_zero, List.set_cons_succ]
            refine wpAnyH_ready (rs := [5]) (by kernel_rfl) (by simp) ?_
            refine readyN rfl (fun K hK => ?_) ?_
            · -- operation 5
              go_simp
              refine hK.out _ _ ?_ (fun hHeld4 => ?_)
              · (try dsimp only)
                with_reducible exact HD1.out
              clear hK K hHeld3
              try simp only [Act.put, List.setIfInBounds_toArray, List.set_cons_zero, List.set_cons_succ]
              refine wpAnyH_ready (rs := [7]) (by kernel_rfl) (by simp) ?_
              refine readyN rfl (fun K hK => ?_) ?_
              · -- operation 7
                go_simp
                (go_at_call 48; refine HAS.out.mono ?_; rintro e w1 ⟨rfl, rfl⟩)
                go_wp2_with fail
                refine hK.out _ _ ?_ (fun hHeld5 => ?_)
                · (try dsimp only)
                  with_reducible exact HD1.out
                clear hK K hHeld4
                try simp only [Act.put, List.setIfInBounds_toArray, List.set_cons_zero, List.set_cons_succ]
                refine wpAnyH_ready (rs := [8]) (by kernel_rfl) (by simp) ?_
                refine readyN rfl (fun K hK => ?_) ?_
                · -- operation 8
                  go_simp
                  refine hK.out _ _ ?_ (fun hHeld6 => ?_)
                  · (try dsimp only)
                    with_reducible exact HD1.out
                  clear hK K hHeld5
                  try simp only [Act.put, List.setIfInBounds_toArray, List.set_cons_zero, List.set_cons_succ]
                  refine takeN (v := ?_) 9 rfl (by kernel_rfl) (by kernel_rfl) (by kernel_rfl) (fun _ _ _ h => h) (by rfl) ?_ hHeld6 ?_
                  rotate_left
                  · intro w hSw; (try dsimp only at hSw); go_simp; with_reducible rfl
                  try simp only [Act.put, List.setIfInBounds_toArray, List.set_cons_zero, List.set_cons_succ]
                  refine wpAnyH_done (by kernel_rfl) ?_ _
                  have z0 : w.cell? ⟨M.p, 0, none⟩ = some (.int .i64 S.st.root) := blk_cell HH.out.blk 0
                  have y0 : w.frozen? ⟨M.p, 0, none⟩ = false := blk_frozen HH.out.blk 0
                  have hb1 := blk_setCell HH.out.blk 0 (.int .i64 x)
                  have z4 : (w.setCell ⟨M.p, 0, none⟩ (.int .i64 x)).cell? ⟨M.p, 4, none⟩ = some (.bool S.st.touched) := blk_cell hb1 4
                  have y4 : (w.setCell ⟨M.p, 0, none⟩ (.int .i64 x)).frozen? ⟨M.p, 4, none⟩ = false := blk_frozen hb1 4
                  have k1 : Keep (fun i => i = M.p) w ((w.setCell ⟨M.p, 0, none⟩ (.int .i64 x)).drew.drew) := (((Keep.refl _ w).setEq _ _).drew).drew
                  have k2 : Keep (fun i => i = M.p) w (((w.setCell ⟨M.p, 0, none⟩ (.int .i64 x)).setCell ⟨M.p, 4, none⟩ (.bool true)).drew.drew) := ((((Keep.refl _ w).setEq _ _).setEq _ _).drew).drew
                  have HD2 := Lib.hid (show w.drew.drew.cell? ⟨qs, 0, none⟩ = some (.pointer (some ⟨M.p, 0, none⟩)) ∧ w.drew.drew.cell? ⟨qp, 0, none⟩ = some (.int .i64 x) from HD1.out)
                  have HD3 := Lib.hid (And.intro (show ((w.setCell ⟨M.p, 0, none⟩ (.int .i64 x)).drew.drew).cell? ⟨qs, 0, none⟩ = some (.pointer (some ⟨M.p, 0, none⟩)) from (HBO.out _ k1).1.cell) (HBO.out _ k1).2.cell)
                  have HD4 := Lib.hid (And.intro (show (((w.setCell ⟨M.p, 0, none⟩ (.int .i64 x)).setCell ⟨M.p, 4, none⟩ (.bool true)).drew.drew).cell? ⟨qs, 0, none⟩ = some (.pointer (some ⟨M.p, 0, none⟩)) from (HBO.out _ k2).1.cell) (HBO.out _ k2).2.cell)
                  have z0' : w.drew.drew.cell? ⟨M.p, 0, none⟩ = some (.int .i64 S.st.root) := z0
                  have y0' : w.drew.drew.frozen? ⟨M.p, 0, none⟩ = false := y0
                  have z4' : ((w.setCell ⟨M.p, 0, none⟩ (.int .i64 x)).drew.drew).cell? ⟨M.p, 4, none⟩ = some (.bool S.st.touched) := z4
                  have y4' : ((w.setCell ⟨M.p, 0, none⟩ (.int .i64 x)).drew.drew).frozen? ⟨M.p, 4, none⟩ = false := y4
                  clear hb1 k1 k2
                  go_wp2_with fail
                  refine wp_region_held_drew (S := (fun w' => w'.cell? ⟨qs, 0, none⟩ = some (.pointer (some ⟨M.p, 0, none⟩)) ∧ w'.cell? ⟨qp, 0, none⟩ = some (.int .i64 x))) (by kernel_rfl) ?_ (fun hHeld0 => ?_)
                  · (try dsimp only)
                    first | with_reducible exact HD2.out | with_reducible exact HD3.out | with_reducible exact HD4.out
                  refine takeN (v := ?_) 0 rfl (by kernel_rfl) (by kernel_rfl) (by kernel_rfl) (fun _ _ _ h => h) (by rfl) ?_ hHeld0 ?_
                  rotate_left
                  · intro w hSw; (try dsimp only at hSw); go_simp; with_reducible rfl
                  try simp only [Act.put, List.setIfInBounds_toArray, List.set_cons_zero, List.set_cons_succ]
                  refine takeN (v := ?_) 1 rfl (by kernel_rfl) (by kernel_rfl) (by kernel_rfl) (fun _ _ _ h => h) (by rfl) ?_ hHeld0 ?_
                  rotate_left
                  · intro w hSw; (try dsimp only at hSw); go_simp; with_reducible rfl
                  try simp only [Act.put, List.setIfInBounds_toArray, List.set_cons_zero, List.set_cons_succ]
                  refine takeN (v := ?_) 2 rfl (by kernel_rfl) (by kernel_rfl) (by kernel_rfl) (fun _ _ _ h => h) (by rfl) ?_ hHeld0 ?_
                  rotate_left
                  · intro w hSw; (try dsimp only at hSw); go_simp; with_reducible rfl
                  try simp only [Act.put, List.setIfInBounds_toArray, List.set_cons_zero, List.set_cons_succ]
                  refine takeN (v := ?_) 3 rfl (by kernel_rfl) (by kernel_rfl) (by kernel_rfl) (fun _ _ _ h => h) (by rfl) ?_ hHeld0 ?_
                  rotate_left
                  · intro w hSw; (try dsimp only at hSw); go_simp; with_reducible rfl
                  try simp only [Act.put, List.setIfInBounds_toArray, List.set_cons_zero, List.set_cons_succ]
                  refine takeN (v := ?_) 4 rfl (by kernel_rfl) (by kernel_rfl) (by kernel_rfl) (fun _ _ _ h => h) (by rfl) ?_ hHeld0 ?_
                  rotate_left
                  · intro w hSw; (try dsimp only at hSw); go_simp; with_reducible rfl
                  try simp only [Act.put, List.setIfInBounds_toArray, List.set_cons_zero, List.set_cons_succ]
                  refine takeN (v := ?_) 5 rfl (by kernel_rfl) (by kernel_rfl) (by kernel_rfl) (fun _ _ _ h => h) (by rfl) ?_ hHeld0 ?_
                  rotate_left
                  · intro w hSw; (try dsimp only at hSw); go_simp; with_reducible rfl
                  try simp only [Act.put, List.setIfInBounds_toArray, List.set_cons_zero, List.set_cons_succ]
                  refine wpAnyH_ready (rs := [6]) (by kernel_rfl) (by simp) ?_
                  refine readyN rfl (fun K hK => ?_) ?_
                  · -- operation 6
                    go_simp
                    refine hK.out _ _ ?_ (fun hHeld1 => ?_)
                    · (try dsimp only)
                      first | with_reducible exact HD2.out | with_reducible exact HD3.out | with_reducible exact HD4.out
                    clear hK K hHeld0
                    try simp only [Act.put, List.setIfInBounds_toArray, List.set_cons_zero, List.set_cons_succ]
                    refine takeN (v := ?_) 7 rfl (by kernel_rfl) (by kernel_rfl) (by kernel_rfl) (fun _ _ _ h => h) (by rfl) ?_ hHeld1 ?_
                    rotate_left
                    · intro w hSw; (try dsimp only at hSw); go_simp; with_reducible rfl
                    try simp only [Act.put, List.setIfInBounds_toArray, List.set_cons_zero, List.set_cons_succ]
                    refine takeN (v := ?_) 8 rfl (by kernel_rfl) (by kernel_rfl) (by kernel_rfl) (fun _ _ _ h => h) (by rfl) ?_ hHeld1 ?_
                    rotate_left
                    · intro w hSw; (try dsimp only at hSw); go_simp; with_reducible rfl
                    try simp only [Act.put, List.setIfInBounds_toArray, List.set_cons_zero, List.set_cons_succ]
                    refine takeN (v := ?_) 9 rfl (by kernel_rfl) (by kernel_rfl) (by kernel_rfl) (fun _ _ _ h => h) (by rfl) ?_ hHeld1 ?_
                    rotate_left
                    · intro w hSw; (try dsimp only at hSw); go_simp; with_reducible rfl
                    try simp only [Act.put, List.setIfInBounds_toArray, List.set_cons_zero, List.set_cons_succ]
                    refine wpAnyH_ready (rs := [10]) (by kernel_rfl) (by simp) ?_
                    refine readyN rfl (fun K hK => ?_) ?_
                    · -- operation 10
                      go_simp
                      refine hK.out _ _ ?_ (fun hHeld2 => ?_)
                      · (try dsimp only)
                        first | with_reducible exact HD2.out | with_reducible exact HD3.out | with_reducible exact HD4.out
                      clear hK K hHeld1
                      try simp only [Act.put, List.setIfInBounds_toArray, List.set_cons_zero, List.set_cons_succ]
                      refine wpAnyH_done (by kernel_rfl) ?_ _
                      go_wp2
                      go_ret
                      rw [HG.out]
                      exact ⟨rfl, HE1.out, HE2.out⟩
                    exact AllReadyH.nil
                  exact AllReadyH.nil
                exact AllReadyH.nil
              exact AllReadyH.nil
            exact AllReadyH.nil
          exact AllReadyH.nil
        exact AllReadyH.nil
      refine readyN rfl (fun K hK => ?_) ?_
      · -- operation 6
        go_simp
        refine hK.out _ _ ?_ (fun hHeld1 => ?_)
        · (try dsimp only)
          with_reducible exact HD1.out
        clear hK K hHeld0
        try simp only [Act.put, List.setIfInBounds_toArray, List.set_cons_zero, List.set_cons_succ]
        refine wpAnyH_ready (rs := [3]) (by kernel_rfl) (by simp) ?_
        refine readyN rfl (fun K hK => ?_) ?_
        · -- operation 3
          go_simp
          refine hK.out _ _ ?_ (fun hHeld2 => ?_)
          · (try dsimp only)
            with_reducible exact HD1.out
          clear hK K hHeld1
          try simp only [Act.put, List.setIfInBounds_toArray, List.set_cons_zero, List.set_cons_succ]
          refine wpAnyH_ready (rs := [4]) (by kernel_rfl) (by simp) ?_
          refine readyN rfl (fun K hK => ?_) ?_
          · -- operation 4
            go_simp
            refine hK.out _ _ ?_ (fun hHeld3 => ?_)
            · (try dsimp only)
              with_reducible exact HD1.out
            clear hK K hHeld2
            try simp only [Act.put, List.setIfInBounds_toArray, List.set_cons_zero, List.set_cons_succ]
            refine wpAnyH_ready (rs := [5]) (by kernel_rfl) (by simp) ?_
            refine readyN rfl (fun K hK => ?_) ?_
            · -- operation 5
              go_simp
              refine hK.out _ _ ?_ (fun hHeld4 => ?_)
              · (try dsimp only)
                with_reducible exact HD1.out
              clear hK K hHeld3
              try simp only [Act.put, List.setIfInBounds_toArray, List.set_cons_zero, List.set_cons_succ]
              refine wpAnyH_ready (rs := [7]) (by kernel_rfl) (by simp) ?_
              refine readyN rfl (fun K hK => ?_) ?_
              · -- operation 7
                go_simp
                (go_at_call 48; refine HAS.out.mono ?_; rintro e w1 ⟨rfl, rfl⟩)
                go_wp2_with fail
                refine hK.out _ _ ?_ (fun hHeld5 => ?_)
                · (try dsimp only)
                  with_reducible exact HD1.out
                clear hK K hHeld4
                try simp only [Act.put, List.setIfInBounds_toArray, List.set_cons_zero, List.set_cons_succ]
                refine wpAnyH_ready (rs := [8]) (by kernel_rfl) (by simp) ?_
                refine readyN rfl (fun K hK => ?_) ?_
                · -- operation 8
                  go_simp
                  refine hK.out _ _ ?_ (fun hHeld6 => ?_)
                  · (try dsimp only)
                    with_reducible exact HD1.out
                  clear hK K hHeld5
                  try simp only [Act.put, List.setIfInBounds_toArray, List.set_cons_zero, List.set_cons_succ]
                  refine takeN (v := ?_) 9 rfl (by kernel_rfl) (by kernel_rfl) (by kernel_rfl) (fun _ _ _ h => h) (by rfl) ?_ hHeld6 ?_
                  rotate_left
                  · intro w hSw; (try dsimp only at hSw); go_simp; with_reducible rfl
                  try simp only [Act.put, List.setIfInBounds_toArray, List.set_cons_zero, List.set_cons_succ]
                  refine wpAnyH_done (by kernel_rfl) ?_ _
                  have z0 : w.cell? ⟨M.p, 0, none⟩ = some (.int .i64 S.st.root) := blk_cell HH.out.blk 0
                  have y0 : w.frozen? ⟨M.p, 0, none⟩ = false := blk_frozen HH.out.blk 0
                  have hb1 := blk_setCell HH.out.blk 0 (.int .i64 x)
                  have z4 : (w.setCell ⟨M.p, 0, none⟩ (.int .i64 x)).cell? ⟨M.p, 4, none⟩ = some (.bool S.st.touched) := blk_cell hb1 4
                  have y4 : (w.setCell ⟨M.p, 0, none⟩ (.int .i64 x)).frozen? ⟨M.p, 4, none⟩ = false := blk_frozen hb1 4
                  have k1 : Keep (fun i => i = M.p) w ((w.setCell ⟨M.p, 0, none⟩ (.int .i64 x)).drew.drew) := (((Keep.refl _ w).setEq _ _).drew).drew
                  have k2 : Keep (fun i => i = M.p) w (((w.setCell ⟨M.p, 0, none⟩ (.int .i64 x)).setCell ⟨M.p, 4, none⟩ (.bool true)).drew.drew) := ((((Keep.refl _ w).setEq _ _).setEq _ _).drew).drew
                  have HD2 := Lib.hid (show w.drew.drew.cell? ⟨qs, 0, none⟩ = some (.pointer (some ⟨M.p, 0, none⟩)) ∧ w.drew.drew.cell? ⟨qp, 0, none⟩ = some (.int .i64 x) from HD1.out)
                  have HD3 := Lib.hid (And.intro (show ((w.setCell ⟨M.p, 0, none⟩ (.int .i64 x)).drew.drew).cell? ⟨qs, 0, none⟩ = some (.pointer (some ⟨M.p, 0, none⟩)) from (HBO.out _ k1).1.cell) (HBO.out _ k1).2.cell)
                  have HD4 := Lib.hid (And.intro (show (((w.setCell ⟨M.p, 0, none⟩ (.int .i64 x)).setCell ⟨M.p, 4, none⟩ (.bool true)).drew.drew).cell? ⟨qs, 0, none⟩ = some (.pointer (some ⟨M.p, 0, none⟩)) from (HBO.out _ k2).1.cell) (HBO.out _ k2).2.cell)
                  have z0' : w.drew.drew.cell? ⟨M.p, 0, none⟩ = some (.int .i64 S.st.root) := z0
                  have y0' : w.drew.drew.frozen? ⟨M.p, 0, none⟩ = false := y0
                  have z4' : ((w.setCell ⟨M.p, 0, none⟩ (.int .i64 x)).drew.drew).cell? ⟨M.p, 4, none⟩ = some (.bool S.st.touched) := z4
                  have y4' : ((w.setCell ⟨M.p, 0, none⟩ (.int .i64 x)).drew.drew).frozen? ⟨M.p, 4, none⟩ = false := y4
                  clear hb1 k1 k2
                  go_wp2_with fail
                  refine wp_region_held_drew (S := (fun w' => w'.cell? ⟨qs, 0, none⟩ = some (.pointer (some ⟨M.p, 0, none⟩)) ∧ w'.cell? ⟨qp, 0, none⟩ = some (.int .i64 x))) (by kernel_rfl) ?_ (fun hHeld0 => ?_)
                  · (try dsimp only)
                    first | with_reducible exact HD2.out | with_reducible exact HD3.out | with_reducible exact HD4.out
                  refine takeN (v := ?_) 0 rfl (by kernel_rfl) (by kernel_rfl) (by kernel_rfl) (fun _ _ _ h => h) (by rfl) ?_ hHeld0 ?_
                  rotate_left
                  · intro w hSw; (try dsimp only at hSw); go_simp; with_reducible rfl
                  try simp only [Act.put, List.setIfInBounds_toArray, List.set_cons_zero, List.set_cons_succ]
                  refine takeN (v := ?_) 1 rfl (by kernel_rfl) (by kernel_rfl) (by kernel_rfl) (fun _ _ _ h => h) (by rfl) ?_ hHeld0 ?_
                  rotate_left
                  · intro w hSw; (try dsimp only at hSw); go_simp; with_reducible rfl
                  try simp only [Act.put, List.setIfInBounds_toArray, List.set_cons_zero, List.set_cons_succ]
                  refine takeN (v := ?_) 2 rfl (by kernel_rfl) (by kernel_rfl) (by kernel_rfl) (fun _ _ _ h => h) (by rfl) ?_ hHeld0 ?_
                  rotate_left
                  · intro w hSw; (try dsimp only at hSw); go_simp; with_reducible rfl
                  try simp only [Act.put, List.setIfInBounds_toArray, List.set_cons_zero, List.set_cons_succ]
                  refine takeN (v := ?_) 3 rfl (by kernel_rfl) (by kernel_rfl) (by kernel_rfl) (fun _ _ _ h => h) (by rfl) ?_ hHeld0 ?_
                  rotate_left
                  · intro w hSw; (try dsimp only at hSw); go_simp; with_reducible rfl
                  try simp only [Act.put, List.setIfInBounds_toArray, List.set_cons_zero, List.set_cons_succ]
                  refine takeN (v := ?_) 4 rfl (by kernel_rfl) (by kernel_rfl) (by kernel_rfl) (fun _ _ _ h => h) (by rfl) ?_ hHeld0 ?_
                  rotate_left
                  · intro w hSw; (try dsimp only at hSw); go_simp; with_reducible rfl
                  try simp only [Act.put, List.setIfInBounds_toArray, List.set_cons_zero, List.set_cons_succ]
                  refine takeN (v := ?_) 5 rfl (by kernel_rfl) (by kernel_rfl) (by kernel_rfl) (fun _ _ _ h => h) (by rfl) ?_ hHeld0 ?_
                  rotate_left
                  · intro w hSw; (try dsimp only at hSw); go_simp; with_reducible rfl
                  try simp only [Act.put, List.setIfInBounds_toArray, List.set_cons_zero, List.set_cons_succ]
                  refine wpAnyH_ready (rs := [6]) (by kernel_rfl) (by simp) ?_
                  refine readyN rfl (fun K hK => ?_) ?_
                  · -- operation 6
                    go_simp
                    refine hK.out _ _ ?_ (fun hHeld1 => ?_)
                    · (try dsimp only)
                      first | with_reducible exact HD2.out | with_reducible exact HD3.out | with_reducible exact HD4.out
                    clear hK K hHeld0
                    try simp only [Act.put, List.setIfInBounds_toArray, List.set_cons_zero, List.set_cons_succ]
                    refine takeN (v := ?_) 7 rfl (by kernel_rfl) (by kernel_rfl) (by kernel_rfl) (fun _ _ _ h => h) (by rfl) ?_ hHeld1 ?_
                    rotate_left
                    · intro w hSw; (try dsimp only at hSw); go_simp; with_reducible rfl
                    try simp only [Act.put, List.setIfInBounds_toArray, List.set_cons_zero, List.set_cons_succ]
                    refine takeN (v := ?_) 8 rfl (by kernel_rfl) (by kernel_rfl) (by kernel_rfl) (fun _ _ _ h => h) (by rfl) ?_ hHeld1 ?_
                    rotate_left
                    · intro w hSw; (try dsimp only at hSw); go_simp; with_reducible rfl
                    try simp only [Act.put, List.setIfInBounds_toArray, List.set_cons_zero, List.set_cons_succ]
                    refine takeN (v := ?_) 9 rfl (by kernel_rfl) (by kernel_rfl) (by kernel_rfl) (fun _ _ _ h => h) (by rfl) ?_ hHeld1 ?_
                    rotate_left
                    · intro w hSw; (try dsimp only at hSw); go_simp; with_reducible rfl
                    try simp only [Act.put, List.setIfInBounds_toArray, List.set_cons_zero, List.set_cons_succ]
                    refine wpAnyH_ready (rs := [10]) (by kernel_rfl) (by simp) ?_
                    refine readyN rfl (fun K hK => ?_) ?_
                    · -- operation 10
                      go_simp
                      refine hK.out _ _ ?_ (fun hHeld2 => ?_)
                      · (try dsimp only)
                        first | with_reducible exact HD2.out | with_reducible exact HD3.out | with_reducible exact HD4.out
                      clear hK K hHeld1
                      try simp only [Act.put, List.setIfInBounds_toArray, List.set_cons_zero, List.set_cons_succ]
                      refine wpAnyH_done (by kernel_rfl) ?_ _
                      go_wp2
                      go_ret
                      rw [HG.out]
                      exact ⟨rfl, HE1.out, HE2.out⟩
                    exact AllReadyH.nil
                  exact AllReadyH.nil
                exact AllReadyH.nil
              exact AllReadyH.nil
            exact AllReadyH.nil
          exact AllReadyH.nil
        exact AllReadyH.nil
      exact AllReadyH.nil
end Go.Proofs.Ytlmngghkhnnaeaa
