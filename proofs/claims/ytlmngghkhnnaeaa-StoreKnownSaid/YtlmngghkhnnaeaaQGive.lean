/- The walk of a store's Give. -/
import Derived.Test.YtlmngghkhnnaeaaQTake
namespace Go.Proofs.Ytlmngghkhnnaeaa
open Go.RowKit Go.Shelf
set_option maxRecDepth 100000
set_option maxHeartbeats 2000000
set_option linter.unusedVariables false
set_option linter.unusedSimpArgs false
def giveSt (s : St) (p : Nat) : St := { s with taken := s.taken.set p false, held := s.held.set p (!(wget (p : Nat) s.fresh).isSome), fresh := wdel (p : Nat) s.fresh, touched := true }
/-- a page is given back: the errno, the store -/
def giveS (S : SS) (x : Int) : Int × SS :=
  if hasB S.st.taken x = false ∨ x = S.st.root then (1, S) else (0, { S with st := giveSt S.st x.toNat })
theorem fr_get {V : Nat → Prop} {w : World} {bf : Nat} {f : Wt} {vs : IM} (hvs : IMapAt w bf vs) (h : FrIs w V bf f) (k : Int) : (IM.get k vs).isSome = (wget k f).isSome := by
  obtain ⟨vs', h1, h2, h3⟩ := h
  have e : vs' = vs := h1.uniq hvs
  subst e
  clear h1 hvs
  induction f generalizing vs' with
  | nil => cases vs' with
    | nil => rfl
    | cons x r => simp at h2
  | cons q f ih => cases vs' with
    | nil => simp at h2
    | cons x r =>
      obtain ⟨v, e, _⟩ := h3 0 q rfl
      simp at e
      subst e
      by_cases hk : k = q.1
      · simp [IM.get, wget, hk]
      · simp only [IM.get, wget, if_neg hk]
        exact ih r (by simpa using h2) (fun i q' hq' => h3 (i + 1) q' hq')
theorem cell_off {w : World} {p i j : Nat} (h : j ≠ i) (v : Value) : (w.setCell ⟨p, i, none⟩ v).cell? ⟨p, j, none⟩ = w.cell? ⟨p, j, none⟩ := by
  apply World.cell?_setCell_other
  intro e
  injection e with _ e2 _
  exact h e2.symm
/-- what giving a page back leaves -/
theorem give_end {V : Nat → Prop} {M : SM} {S : SS} {w w5 : World} {vs : IM} (h : SIs w V M S) (hvs : IMapAt w M.now.bf vs) (p : Nat) (ok : Bool) (hok : ok = (wget (p : Nat) S.st.fresh).isSome)
    (hp : M.p ≠ M.now.bt ∧ M.p ≠ M.now.bh ∧ M.p ≠ M.now.bf ∧ M.now.bf ≠ M.now.bt ∧ M.now.bf ≠ M.now.bh) (k5 : Keep (fun i => i = M.now.bf) w w5) (hm5 : IMapAt w5 M.now.bf (IM.del (p : Nat) vs)) :
    SIs ((((w5.setCell ⟨M.now.bt, p, none⟩ (.bool false)).setCell ⟨M.now.bh, p, none⟩ (.bool (!ok))).setCell ⟨M.p, 4, none⟩ (.bool true)).drew) V M { S with st := giveSt S.st p } ∧ Keep (fun i => i = M.p ∨ M.now.blk i) w ((((w5.setCell ⟨M.now.bt, p, none⟩ (.bool false)).setCell ⟨M.now.bh, p, none⟩ (.bool (!ok))).setCell ⟨M.p, 4, none⟩ (.bool true)).drew) := by
  have hap := h.now
  have hk56 : Keep (fun i => i = M.now.bt) w5 ((w5.setCell ⟨M.now.bt, p, none⟩ (.bool false)).drew) := ((Keep.refl (fun i => i = M.now.bt) w5).setEq _ _).drew
  have hT6 : BR ((w5.setCell ⟨M.now.bt, p, none⟩ (.bool false)).drew) M.now.bt M.now.ct (S.st.taken.set p false) := (hap.t.keep k5 (fun e => hp.2.2.2.1 e.symm)).set p false
  have hH6 : BR ((w5.setCell ⟨M.now.bt, p, none⟩ (.bool false)).drew) M.now.bh M.now.ch S.st.held := (hap.h.keep k5 (fun e => hp.2.2.2.2 e.symm)).keep hk56 (fun e => hap.ne e.symm)
  have hk67 : Keep (fun i => i = M.now.bh) ((w5.setCell ⟨M.now.bt, p, none⟩ (.bool false)).drew) (((w5.setCell ⟨M.now.bt, p, none⟩ (.bool false)).setCell ⟨M.now.bh, p, none⟩ (.bool (!ok))).drew) := (Keep.refl (fun i => i = M.now.bh) ((w5.setCell ⟨M.now.bt, p, none⟩ (.bool false)).drew)).setEq _ _
  have hk78 : Keep (fun i => i = M.p) (((w5.setCell ⟨M.now.bt, p, none⟩ (.bool false)).setCell ⟨M.now.bh, p, none⟩ (.bool (!ok))).drew) ((((w5.setCell ⟨M.now.bt, p, none⟩ (.bool false)).setCell ⟨M.now.bh, p, none⟩ (.bool (!ok))).setCell ⟨M.p, 4, none⟩ (.bool true)).drew) := (Keep.refl (fun i => i = M.p) (((w5.setCell ⟨M.now.bt, p, none⟩ (.bool false)).setCell ⟨M.now.bh, p, none⟩ (.bool (!ok))).drew)).setEq _ _
  have hk57 : Keep (fun i => i = M.p ∨ i = M.now.bt ∨ i = M.now.bh) w5 (((w5.setCell ⟨M.now.bt, p, none⟩ (.bool false)).setCell ⟨M.now.bh, p, none⟩ (.bool (!ok))).drew) := (hk56.mono (fun i hi => .inr (.inl hi))).trans hk67 (fun i hi => .inl (.inr (.inr hi)))
  have hk58 : Keep (fun i => i = M.p ∨ i = M.now.bt ∨ i = M.now.bh) w5 ((((w5.setCell ⟨M.now.bt, p, none⟩ (.bool false)).setCell ⟨M.now.bh, p, none⟩ (.bool (!ok))).setCell ⟨M.p, 4, none⟩ (.bool true)).drew) := hk57.trans hk78 (fun i hi => .inl (.inl hi))
  have k7 : Keep (fun i => i = M.now.bt ∨ i = M.now.bh ∨ i = M.now.bf) w (((w5.setCell ⟨M.now.bt, p, none⟩ (.bool false)).setCell ⟨M.now.bh, p, none⟩ (.bool (!ok))).drew) := ((k5.mono (fun i hi => .inr (.inr hi))).trans hk56 (fun i hi => .inl (.inl hi))).trans hk67 (fun i hi => .inl (.inr (.inl hi)))
  have hb7 := k7.blk h.blk (by rintro (e | e | e); exact hp.1 e; exact hp.2.1 e; exact hp.2.2.1 e)
  have hb8 : ((((w5.setCell ⟨M.now.bt, p, none⟩ (.bool false)).setCell ⟨M.now.bh, p, none⟩ (.bool (!ok))).setCell ⟨M.p, 4, none⟩ (.bool true)).drew).heap[M.p]? = _ := blk_setCell hb7 4 (.bool true)
  have k8 : Keep (fun i => i = M.p ∨ i = M.now.bt ∨ i = M.now.bh ∨ i = M.now.bf) w ((((w5.setCell ⟨M.now.bt, p, none⟩ (.bool false)).setCell ⟨M.now.bh, p, none⟩ (.bool (!ok))).setCell ⟨M.p, 4, none⟩ (.bool true)).drew) := (k7.mono (fun i hi => .inr hi)).trans hk78 (fun i hi => .inl (.inl hi))
  have hT8 : BR ((((w5.setCell ⟨M.now.bt, p, none⟩ (.bool false)).setCell ⟨M.now.bh, p, none⟩ (.bool (!ok))).setCell ⟨M.p, 4, none⟩ (.bool true)).drew) M.now.bt M.now.ct (S.st.taken.set p false) := (hT6.keep hk67 (fun e => hap.ne e)).keep hk78 (fun e => hp.1 e.symm)
  have hH7 : BR (((w5.setCell ⟨M.now.bt, p, none⟩ (.bool false)).setCell ⟨M.now.bh, p, none⟩ (.bool (!ok))).drew) M.now.bh M.now.ch (S.st.held.set p (!ok)) := hH6.set p (!ok)
  have hH8 : BR ((((w5.setCell ⟨M.now.bt, p, none⟩ (.bool false)).setCell ⟨M.now.bh, p, none⟩ (.bool (!ok))).setCell ⟨M.p, 4, none⟩ (.bool true)).drew) M.now.bh M.now.ch (S.st.held.set p (!ok)) := hH7.keep hk78 (fun e => hp.2.1 e.symm)
  have hF8 : FrIs ((((w5.setCell ⟨M.now.bt, p, none⟩ (.bool false)).setCell ⟨M.now.bh, p, none⟩ (.bool (!ok))).setCell ⟨M.p, 4, none⟩ (.bool true)).drew) V M.now.bf (wdel (p : Nat) S.st.fresh) := by
    obtain ⟨vs', h1, h2, h3⟩ := hap.f
    have e : vs' = vs := h1.uniq hvs
    subst e
    have hby : ∀ i c z, w.heap[i]? = some (.cells c 5 z) → ¬ (i = M.p ∨ i = M.now.bt ∨ i = M.now.bh ∨ i = M.now.bf) := by
      intro i c z hc hi
      refine h.nbytes i c z hc ?_
      rcases hi with e | e | e | e
      · exact .inl e
      · exact .inr (.inl (.inl e))
      · exact .inr (.inl (.inr (.inl e)))
      · exact .inr (.inl (.inr (.inr e)))
    obtain ⟨g1, g2⟩ := del_relR (fun v q => Own 5 ((((w5.setCell ⟨M.now.bt, p, none⟩ (.bool false)).setCell ⟨M.now.bh, p, none⟩ (.bool (!ok))).setCell ⟨M.p, 4, none⟩ (.bool true)).drew) 0 v q ∧ ∀ j, v.ownBlock = some j → V j) (p : Nat) S.st.fresh vs' h2 (fun i q hq => by
      obtain ⟨x, a, b, c⟩ := h3 i q hq
      exact ⟨x, a, b.keep k8 (b.not_in hby), c⟩)
    refine ⟨_, hm5.keep hk58 ?_, g1, fun i q hq => by obtain ⟨x, a, b, c⟩ := g2 i q hq; exact ⟨x, a, b, c⟩⟩
    rintro (e | e | e)
    · exact hp.2.2.1 e.symm
    · exact hp.2.2.2.1 e
    · exact hp.2.2.2.2 e
  have hnow : StIs ((((w5.setCell ⟨M.now.bt, p, none⟩ (.bool false)).setCell ⟨M.now.bh, p, none⟩ (.bool (!ok))).setCell ⟨M.p, 4, none⟩ (.bool true)).drew) V M.now (giveSt S.st p) := {
    t := hT8
    h := by unfold giveSt; rw [← hok]; exact hH8
    f := hF8
    ne := hap.ne
    len := by simpa [giveSt] using hap.len
    lo := by simpa [giveSt] using hap.lo
    hi := by simpa [giveSt] using hap.hi
    root := by simpa [giveSt] using hap.root
    keys := by
      intro q hq
      simp only [giveSt, List.length_set]
      exact hap.keys q ((wdel_sub _ _).subset hq)
    nodup := hap.nodup.sublist ((wdel_sub _ _).map _) }
  have hKW : Keep (fun i => i = M.p ∨ M.now.blk i) w ((((w5.setCell ⟨M.now.bt, p, none⟩ (.bool false)).setCell ⟨M.now.bh, p, none⟩ (.bool (!ok))).setCell ⟨M.p, 4, none⟩ (.bool true)).drew) := k8.mono (fun i hi => by
    rcases hi with e | e | e | e
    · exact .inl e
    · exact .inr (.inl e)
    · exact .inr (.inr (.inl e))
    · exact .inr (.inr (.inr e)))
  have hblk : ((((w5.setCell ⟨M.now.bt, p, none⟩ (.bool false)).setCell ⟨M.now.bh, p, none⟩ (.bool (!ok))).setCell ⟨M.p, 4, none⟩ (.bool true)).drew).heap[M.p]? = some (.cells (sArr { M with now := M.now } { S with st := giveSt S.st p }) 62 (0, 0)) := by
    rw [hb8]
    simp [sArr, giveSt]
  exact ⟨h.upd hKW (fun i hi => hi) M.now (fun i hi => .inl hi) _ (by simp [giveSt]) hblk hnow, hKW⟩
theorem giveC {V : Nat → Prop} {M : SM} {S : SS} (qs qp : Nat) (x : Int) (w : World) (h : SIs w V M S) (cs : Boxed w qs 24 (pS M.p)) (cp : Boxed w qp 3 (.int .i64 x)) :
    Calls Try.prog 49 #[.pointer (some ⟨qs, 0, none⟩), .pointer (some ⟨qp, 0, none⟩)] w fun e w' => e = .returned (.int .i64 (giveS S x).1) ∧ SIs w' V M (giveS S x).2 ∧
      Keep (fun i => i = M.p ∨ M.now.blk i) w w' := by
  have hS := h.now
  obtain ⟨vs, hvs, _, _⟩ := hS.f
  have hget := fr_get hvs hS.f x
  obtain ⟨n, hn⟩ : ∃ n, n = S.st.taken.length := ⟨_, rfl⟩
  have hp12 : M.p ≠ M.now.bt ∧ M.p ≠ M.now.bh ∧ M.p ≠ M.now.bf ∧ M.now.bf ≠ M.now.bt ∧ M.now.bf ≠ M.now.bh := by
    obtain ⟨cur, hcur, _⟩ := hS.t
    obtain ⟨cur', hcur', _⟩ := hS.h
    obtain ⟨es, cc, hes, _⟩ := hvs
    refine ⟨fun e => ?_, fun e => ?_, fun e => ?_, fun e => ?_, fun e => ?_⟩
    · have h1 := h.blk; rw [e, hcur] at h1; simp only [Option.some.injEq, Obj.cells.injEq] at h1; exact absurd h1.2.1 (by decide)
    · have h1 := h.blk; rw [e, hcur'] at h1; simp only [Option.some.injEq, Obj.cells.injEq] at h1; exact absurd h1.2.1 (by decide)
    · have h1 := h.blk; rw [e, hes] at h1; cases h1
    · rw [e, hcur] at hes; cases hes
    · rw [e, hcur'] at hes; cases hes
  have hbox : ∀ X, Keep (fun i => i = M.p ∨ i = M.now.bt ∨ i = M.now.bh ∨ i = M.now.bf) w X → Boxed X qs 24 (pS M.p) ∧ Boxed X qp 3 (.int .i64 x) := by
    intro X hX
    obtain ⟨cur, hcur, _⟩ := hS.t
    obtain ⟨cur', hcur', _⟩ := hS.h
    obtain ⟨es, cc, hes, _⟩ := hvs
    have hpb := h.blk
    have key : ∀ b T v, Boxed w b T v → T ≠ 4 → T ≠ 62 → ¬ (b = M.p ∨ b = M.now.bt ∨ b = M.now.bh ∨ b = M.now.bf) := by
      rintro b T v hb hT hT' (rfl | rfl | rfl | rfl)
      · unfold Boxed at hb; rw [hpb] at hb; simp only [Option.some.injEq, Obj.cells.injEq] at hb; exact hT' hb.2.1.symm
      · unfold Boxed at hb; rw [hcur] at hb; simp only [Option.some.injEq, Obj.cells.injEq] at hb; exact hT hb.2.1.symm
      · unfold Boxed at hb; rw [hcur'] at hb; simp only [Option.some.injEq, Obj.cells.injEq] at hb; exact hT hb.2.1.symm
      · unfold Boxed at hb; rw [hes] at hb; cases hb
    exact ⟨hX.blk cs (key _ _ _ cs (by decide) (by decide)), hX.blk cp (key _ _ _ cp (by decide) (by decide))⟩
  have hfact : ∀ X, Keep (fun i => i = M.now.bt ∨ i = M.now.bh ∨ i = M.now.bf) w X → X.cell? ⟨qs, 0, none⟩ = some (.pointer (some ⟨M.p, 0, none⟩)) ∧ X.cell? ⟨qp, 0, none⟩ = some (.int .i64 x) ∧ X.cell? ⟨M.p, 0, none⟩ = some (.int .i64 S.st.root) ∧
      X.cell? ⟨M.p, 1, none⟩ = some (.slice (some ⟨M.now.bt, 0, none⟩) n M.now.ct) ∧ X.cell? ⟨M.p, 2, none⟩ = some (.slice (some ⟨M.now.bh, 0, none⟩) n M.now.ch) ∧ X.cell? ⟨M.p, 3, none⟩ = some (.map (some M.now.bf)) := by
    intro X hX
    have hbx := hbox X (hX.mono (fun i hi => .inr hi))
    have hpp' : ¬ (M.p = M.now.bt ∨ M.p = M.now.bh ∨ M.p = M.now.bf) := fun e => e.elim hp12.1 (fun e => e.elim hp12.2.1 hp12.2.2.1)
    have e2 : S.st.held.length = n := hS.len.trans hn.symm
    exact ⟨hbx.1.cell, hbx.2.cell, hX.cell (blk_cell h.blk 0) hpp', by rw [hn]; exact hX.cell (blk_cell h.blk 1) hpp', by rw [← e2]; exact hX.cell (blk_cell h.blk 2) hpp', hX.cell (blk_cell h.blk 3) hpp'⟩
  have HAS := Lib.hid (has_any M.p M.now.ct M.now.bt S.st.taken x w.drew (by rw [← hn]; exact (hfact _ ((Keep.refl _ w).drew)).2.2.2.1) (hS.t.keep ((Keep.refl (fun _ => False) w).drew) (fun h => h)) hS.hi)
  have HFA := Lib.hid hfact
  have HBO := Lib.hid hbox
  have HH := Lib.hid h
  have HN := Lib.hid hn
  have HVS := Lib.hid hvs
  have HGET := Lib.hid hget
  have HP := Lib.hid hp12
  have hD1 := hfact w.drew ((Keep.refl _ w).drew)
  have HD1 := Lib.hid hD1
  obtain ⟨d1, d2, d3, d4, d5, d6⟩ := hD1
  obtain ⟨hb, hhb⟩ : ∃ hb, hb = hasB S.st.taken x := ⟨_, rfl⟩
  rw [← hhb] at HAS
  obtain ⟨r, hr⟩ : ∃ r, r = S.st.root := ⟨_, rfl⟩
  rw [← hr] at d3 HD1
  clear h cs cp hS hvs hget hp12 hbox hfact hn
  cases hb with
  | false =>
    have HG := Lib.hid (show giveS S x = (1, S) by unfold giveS; rw [if_pos (.inl hhb.symm)])
    clear hhb hr
    go_enter Try.func49, Try.ntmps49
    go_wp2_with fail
    refine wp_region_held_drew (S := (fun w' => w'.cell? ⟨qs, 0, none⟩ = some (.pointer (some ⟨M.p, 0, none⟩)) ∧ w'.cell? ⟨qp, 0, none⟩ = some (.int .i64 x) ∧ w'.cell? ⟨M.p, 0, none⟩ = some (.int .i64 r))) (by kernel_rfl) ?_ (fun hHeld0 => ?_)
    · (try dsimp only)
      exact ⟨HD1.out.1, HD1.out.2.1, HD1.out.2.2.1⟩
    refine takeN (v := ?_) 0 rfl (by kernel_rfl) (by kernel_rfl) (by kernel_rfl) (fun _ _ _ h => h) (by rfl) ?_ hHeld0 ?_
    rotate_left
    · intro w hSw; (try dsimp only at hSw); go_simp; with_reducible rfl
    try simp only [Act.put, List.setIfInBounds_toArray, List.set_cons_zero, List.set_cons_succ]
    refine takeN (v := ?_) 1 rfl (by kernel_rfl) (by kernel_rfl) (by kernel_rfl) (fun _ _ _ h => h) (by rfl) ?_ hHeld0 ?_
    rotate_left
    · intro w hSw; (try dsimp only at hSw); go_simp; with_reducible rfl
    try simp only [Act.put, List.setIfInBounds_toArray, List.set_cons_zero, List.set_cons_succ]
    refine takeN (v := ?_) 2 rfl (by kernel_rfl) (by kernel_rfl) (by kernel_rfl) (fun _ _ _ h => h) (by rfl) ?_ hHeld0 ?_
    rotate_left
    · intro w hSw; (try dsimp only at hSw); go_simp; with_reducible rfl
    try simp only [Act.put, List.setIfInBounds_toArray, List.set_cons_zero, List.set_cons_succ]
    refine takeN (v := ?_) 3 rfl (by kernel_rfl) (by kernel_rfl) (by kernel_rfl) (fun _ _ _ h => h) (by rfl) ?_ hHeld0 ?_
    rotate_left
    · intro w hSw; (try dsimp only at hSw); go_simp; with_reducible rfl
    try simp only [Act.put, List.setIfInBounds_toArray, List.set_cons_zero, List.set_cons_succ]
    refine wpAnyH_ready (rs := [4]) (by kernel_rfl) (by simp) ?_
    refine readyN rfl (fun K hK => ?_) ?_
    · -- operation 4
      go_simp
      (go_at_call 48; refine HAS.out.mono ?_; rintro e w1 ⟨rfl, rfl⟩)
      go_wp2_with fail
      refine hK.out _ _ ?_ (fun hHeld1 => ?_)
      · (try dsimp only)
        exact ⟨HD1.out.1, HD1.out.2.1, HD1.out.2.2.1⟩
      clear hK K hHeld0
      try simp only [Act.put, List.setIfInBounds_toArray, List.set_cons_zero, List.set_cons_succ]
      refine takeN (v := ?_) 5 rfl (by kernel_rfl) (by kernel_rfl) (by kernel_rfl) (fun _ _ _ h => h) (by rfl) ?_ hHeld1 ?_
      rotate_left
      · intro w hSw; (try dsimp only at hSw); go_simp; with_reducible rfl
      try simp only [Act.put, List.setIfInBounds_toArray, List.set_cons_zero, List.set_cons_succ]
      refine takeN (v := ?_) 6 rfl (by kernel_rfl) (by kernel_rfl) (by kernel_rfl) (fun _ _ _ h => h) (by rfl) ?_ hHeld1 ?_
      rotate_left
      · intro w hSw; (try dsimp only at hSw); go_simp; with_reducible rfl
      try simp only [Act.put, List.setIfInBounds_toArray, List.set_cons_zero, List.set_cons_succ]
      refine skipN 7 rfl (by kernel_rfl) (by kernel_rfl) (by kernel_rfl) (fun _ _ _ h => h) (by rfl) hHeld1 ?_
      try simp only [Act.put, List.setIfInBounds_toArray, List.set_cons_zero, List.set_cons_succ]
      refine skipN 8 rfl (by kernel_rfl) (by kernel_rfl) (by kernel_rfl) (fun _ _ _ h => h) (by rfl) hHeld1 ?_
      try simp only [Act.put, List.setIfInBounds_toArray, List.set_cons_zero, List.set_cons_succ]
      refine skipN 9 rfl (by kernel_rfl) (by kernel_rfl) (by kernel_rfl) (fun _ _ _ h => h) (by rfl) hHeld1 ?_
      try simp only [Act.put, List.setIfInBounds_toArray, List.set_cons_zero, List.set_cons_succ]
      refine skipN 10 rfl (by kernel_rfl) (by kernel_rfl) (by kernel_rfl) (fun _ _ _ h => h) (by rfl) hHeld1 ?_
      try simp only [Act.put, List.setIfInBounds_toArray, List.set_cons_zero, List.set_cons_succ]
      refine skipN 11 rfl (by kernel_rfl) (by kernel_rfl) (by kernel_rfl) (fun _ _ _ h => h) (by rfl) hHeld1 ?_
      try simp only [Act.put, List.setIfInBounds_toArray, List.set_cons_zero, List.set_cons_succ]
      refine skipN 12 rfl (by kernel_rfl) (by kernel_rfl) (by kernel_rfl) (fun _ _ _ h => h) (by rfl) hHeld1 ?_
      try simp only [Act.put, List.setIfInBounds_toArray, List.set_cons_zero, List.set_cons_succ]
      refine skipN 13 rfl (by kernel_rfl) (by kernel_rfl) (by kernel_rfl) (fun _ _ _ h => h) (by rfl) hHeld1 ?_
      try simp only [Act.put, List.setIfInBounds_toArray, List.set_cons_zero, List.set_cons_succ]
      refine takeN (v := ?_) 14 rfl (by kernel_rfl) (by kernel_rfl) (by kernel_rfl) (fun _ _ _ h => h) (by rfl) ?_ hHeld1 ?_
      rotate_left
      · intro w hSw; (try dsimp only at hSw); go_simp; with_reducible rfl
      try simp only [Act.put, List.setIfInBounds_toArray, List.set_cons_zero, List.set_cons_succ]
      refine wpAnyH_done (by kernel_rfl) ?_ _
      go_wp2
      go_ret
      rw [HG.out]
      exact ⟨rfl, HH.out.keep ((Keep.refl (fun _ => False) w).drew) (fun _ _ h => h) (fun _ _ _ _ h => h), (Keep.refl _ w).drew⟩
    exact AllReadyH.nil
  | true =>
    by_cases hxr : x = r
    · have HG := Lib.hid (show giveS S x = (1, S) by unfold giveS; rw [if_pos (.inr (hxr.trans hr))])
      have hq : (x == r) = true := by simp [hxr]
      clear hhb hr hxr
      go_enter Try.func49, Try.ntmps49
      go_wp2_with fail
      refine wp_region_held_drew (S := (fun w' => w'.cell? ⟨qs, 0, none⟩ = some (.pointer (some ⟨M.p, 0, none⟩)) ∧ w'.cell? ⟨qp, 0, none⟩ = some (.int .i64 x) ∧ w'.cell? ⟨M.p, 0, none⟩ = some (.int .i64 r))) (by kernel_rfl) ?_ (fun hHeld0 => ?_)
      · (try dsimp only)
        exact ⟨HD1.out.1, HD1.out.2.1, HD1.out.2.2.1⟩
      refine takeN (v := ?_) 0 rfl (by kernel_rfl) (by kernel_rfl) (by kernel_rfl) (fun _ _ _ h => h) (by rfl) ?_ hHeld0 ?_
      rotate_left
      · intro w hSw; (try dsimp only at hSw); go_simp; with_reducible rfl
      try simp only [Act.put, List.setIfInBounds_toArray, List.set_cons_zero, List.set_cons_succ]
      refine takeN (v := ?_) 1 rfl (by kernel_rfl) (by kernel_rfl) (by kernel_rfl) (fun _ _ _ h => h) (by rfl) ?_ hHeld0 ?_
      rotate_left
      · intro w hSw; (try dsimp only at hSw); go_simp; with_reducible rfl
      try simp only [Act.put, List.setIfInBounds_toArray, List.set_cons_zero, List.set_cons_succ]
      refine takeN (v := ?_) 2 rfl (by kernel_rfl) (by kernel_rfl) (by kernel_rfl) (fun _ _ _ h => h) (by rfl) ?_ hHeld0 ?_
      rotate_left
      · intro w hSw; (try dsimp only at hSw); go_simp; with_reducible rfl
      try simp only [Act.put, List.setIfInBounds_toArray, List.set_cons_zero, List.set_cons_succ]
      refine takeN (v := ?_) 3 rfl (by kernel_rfl) (by kernel_rfl) (by kernel_rfl) (fun _ _ _ h => h) (by rfl) ?_ hHeld0 ?_
      rotate_left
      · intro w hSw; (try dsimp only at hSw); go_simp; with_reducible rfl
      try simp only [Act.put, List.setIfInBounds_toArray, List.set_cons_zero, List.set_cons_succ]
      refine wpAnyH_ready (rs := [4]) (by kernel_rfl) (by simp) ?_
      refine readyN rfl (fun K hK => ?_) ?_
      · -- operation 4
        go_simp
        (go_at_call 48; refine HAS.out.mono ?_; rintro e w1 ⟨rfl, rfl⟩)
        go_wp2_with fail
        refine hK.out _ _ ?_ (fun hHeld1 => ?_)
        · (try dsimp only)
          exact ⟨HD1.out.1, HD1.out.2.1, HD1.out.2.2.1⟩
        clear hK K hHeld0
        try simp only [Act.put, List.setIfInBounds_toArray, List.set_cons_zero, List.set_cons_succ]
        refine takeN (v := ?_) 5 rfl (by kernel_rfl) (by kernel_rfl) (by kernel_rfl) (fun _ _ _ h => h) (by rfl) ?_ hHeld1 ?_
        rotate_left
        · intro w hSw; (try dsimp only at hSw); go_simp; with_reducible rfl
        try simp only [Act.put, List.setIfInBounds_toArray, List.set_cons_zero, List.set_cons_succ]
        refine takeN (v := ?_) 6 rfl (by kernel_rfl) (by kernel_rfl) (by kernel_rfl) (fun _ _ _ h => h) (by rfl) ?_ hHeld1 ?_
        rotate_left
        · intro w hSw; (try dsimp only at hSw); go_simp; with_reducible rfl
        try simp only [Act.put, List.setIfInBounds_toArray, List.set_cons_zero, List.set_cons_succ]
        refine takeN (v := ?_) 7 rfl (by kernel_rfl) (by kernel_rfl) (by kernel_rfl) (fun _ _ _ h => h) (by rfl) ?_ hHeld1 ?_
        rotate_left
        · intro w hSw; (try dsimp only at hSw); go_simp; with_reducible rfl
        try simp only [Act.put, List.setIfInBounds_toArray, List.set_cons_zero, List.set_cons_succ]
        refine takeN (v := ?_) 8 rfl (by kernel_rfl) (by kernel_rfl) (by kernel_rfl) (fun _ _ _ h => h) (by rfl) ?_ hHeld1 ?_
        rotate_left
        · intro w hSw; (try dsimp only at hSw); go_simp; with_reducible rfl
        try simp only [Act.put, List.setIfInBounds_toArray, List.set_cons_zero, List.set_cons_succ]
        refine takeN (v := ?_) 9 rfl (by kernel_rfl) (by kernel_rfl) (by kernel_rfl) (fun _ _ _ h => h) (by rfl) ?_ hHeld1 ?_
        rotate_left
        · intro w hSw; (try dsimp only at hSw); go_simp; with_reducible rfl
        try simp only [Act.put, List.setIfInBounds_toArray, List.set_cons_zero, List.set_cons_succ]
        refine takeN (v := ?_) 10 rfl (by kernel_rfl) (by kernel_rfl) (by kernel_rfl) (fun _ _ _ h => h) (by rfl) ?_ hHeld1 ?_
        rotate_left
        · intro w hSw; (try dsimp only at hSw); go_simp; with_reducible rfl
        try simp only [Act.put, List.setIfInBounds_toArray, List.set_cons_zero, List.set_cons_succ]
        refine takeN (v := ?_) 11 rfl (by kernel_rfl) (by kernel_rfl) (by kernel_rfl) (fun _ _ _ h => h) (by rfl) ?_ hHeld1 ?_
        rotate_left
        · intro w hSw; (try dsimp only at hSw); go_simp; with_reducible rfl
        try simp only [Act.put, List.setIfInBounds_toArray, List.set_cons_zero, List.set_cons_succ]
        refine takeN (v := ?_) 12 rfl (by kernel_rfl) (by kernel_rfl) (by kernel_rfl) (fun _ _ _ h => h) (by rfl) ?_ hHeld1 ?_
        rotate_left
        · intro w hSw; (try dsimp only at hSw); go_simp; with_reducible rfl
        try simp only [Act.put, List.setIfInBounds_toArray, List.set_cons_zero, List.set_cons_succ]
        refine takeN (v := ?_) 13 rfl (by kernel_rfl) (by kernel_rfl) (by kernel_rfl) (fun _ _ _ h => h) (by rfl) ?_ hHeld1 ?_
        rotate_left
        · intro w hSw; (try dsimp only at hSw); go_simp; with_reducible rfl
        try simp only [Act.put, List.setIfInBounds_toArray, List.set_cons_zero, List.set_cons_succ]
        refine takeN (v := ?_) 14 rfl (by kernel_rfl) (by kernel_rfl) (by kernel_rfl) (fun _ _ _ h => h) (by rfl) ?_ hHeld1 ?_
        rotate_left
        · intro w hSw; (try dsimp only at hSw); go_simp; with_reducible rfl
        try simp only [Act.put, List.setIfInBounds_toArray, List.set_cons_zero, List.set_cons_succ]
        refine wpAnyH_done (by kernel_rfl) ?_ _
        go_wp2
        go_ret
        rw [HG.out]
        exact ⟨rfl, HH.out.keep ((Keep.refl (fun _ => False) w).drew) (fun _ _ h => h) (fun _ _ _ _ h => h), (Keep.refl _ w).drew⟩
      exact AllReadyH.nil
    · have HG := Lib.hid (show giveS S x = (0, { S with st := giveSt S.st x.toNat }) by unfold giveS; rw [if_neg (by rintro (e | e); exact absurd (e.symm.trans hhb.symm) (by decide); exact hxr (e.trans hr.symm))])
      have hq : (x == r) = false := by simp [hxr]
      have hxx : 2 ≤ x ∧ x < S.st.taken.length ∧ S.st.taken.getD x.toNat false = true := by
        unfold hasB at hhb
        have := hhb.symm
        simp only [Bool.and_eq_true, decide_eq_true_eq] at this
        exact ⟨this.1, this.2.1, this.2.2⟩
      obtain ⟨p, rfl⟩ : ∃ p : Nat, x = p := ⟨x.toNat, by omega⟩
      have hpn : p < n := by rw [HN.out]; omega
      have hp0 : ¬ ((p : Int) < 0) := by omega
      have HXX := Lib.hid hxx
      have hlook : (Instr.lookup 51 (.map (some M.now.bf)) (.int .i64 (p : Nat)) true).run Try.prog w.drew.drew = .ok (imapGetV vs (p : Nat)) w.drew.drew := im_ok (HVS.out.keep ((Keep.refl (fun _ => False) w).drew.drew) (fun h => h)) _
      obtain ⟨v0, ok, hok, hg⟩ : ∃ v0 ok, ok = (wget (p : Nat) S.st.fresh).isSome ∧ imapGetV vs (p : Nat) = .tuple #[v0, .bool ok] := ⟨_, _, HGET.out, rfl⟩
      rw [hg] at hlook
      obtain ⟨w5, hdel, hm5, hk5⟩ := (HVS.out.keep ((Keep.refl (fun _ => False) w).drew.drew.drew) (fun h => h)).delete (P := Try.prog) (t := 51) (kt := 3) (et := 28) (ty := 0) (by kernel_rfl) (by kernel_rfl) (p : Nat)
      have K5 := Lib.hid (hk5 w ((Keep.refl _ w).drew.drew.drew))
      have HM5 := Lib.hid hm5
      have HOK := Lib.hid hok
      have HD2 := Lib.hid (HFA.out w.drew.drew ((Keep.refl _ w).drew.drew))
      have HD3 := Lib.hid (HFA.out w.drew.drew.drew ((Keep.refl _ w).drew.drew.drew))
      have HD5 := Lib.hid (HFA.out w5 (K5.out.mono (fun i hi => .inr (.inr hi))))
      clear hhb hr hxr hxx hok hg hm5 hk5
      go_enter Try.func49, Try.ntmps49
      go_wp2_with fail
      refine wp_region_held_drew (S := (fun w' => w'.cell? ⟨qs, 0, none⟩ = some (.pointer (some ⟨M.p, 0, none⟩)) ∧ w'.cell? ⟨qp, 0, none⟩ = some (.int .i64 p) ∧ w'.cell? ⟨M.p, 0, none⟩ = some (.int .i64 r))) (by kernel_rfl) ?_ (fun hHeld0 => ?_)
      · (try dsimp only)
        exact ⟨HD1.out.1, HD1.out.2.1, HD1.out.2.2.1⟩
      refine takeN (v := ?_) 0 rfl (by kernel_rfl) (by kernel_rfl) (by kernel_rfl) (fun _ _ _ h => h) (by rfl) ?_ hHeld0 ?_
      rotate_left
      · intro w hSw; (try dsimp only at hSw); go_simp; with_reducible rfl
      try simp only [Act.put, List.setIfInBounds_toArray, List.set_cons_zero, List.set_cons_succ]
      refine takeN (v := ?_) 1 rfl (by kernel_rfl) (by kernel_rfl) (by kernel_rfl) (fun _ _ _ h => h) (by rfl) ?_ hHeld0 ?_
      rotate_left
      · intro w hSw; (try dsimp only at hSw); go_simp; with_reducible rfl
      try simp only [Act.put, List.setIfInBounds_toArray, List.set_cons_zero, List.set_cons_succ]
      refine takeN (v := ?_) 2 rfl (by kernel_rfl) (by kernel_rfl) (by kernel_rfl) (fun _ _ _ h => h) (by rfl) ?_ hHeld0 ?_
      rotate_left
      · intro w hSw; (try dsimp only at hSw); go_simp; with_reducible rfl
      try simp only [Act.put, List.setIfInBounds_toArray, List.set_cons_zero, List.set_cons_succ]
      refine takeN (v := ?_) 3 rfl (by kernel_rfl) (by kernel_rfl) (by kernel_rfl) (fun _ _ _ h => h) (by rfl) ?_ hHeld0 ?_
      rotate_left
      · intro w hSw; (try dsimp only at hSw); go_simp; with_reducible rfl
      try simp only [Act.put, List.setIfInBounds_toArray, List.set_cons_zero, List.set_cons_succ]
      refine wpAnyH_ready (rs := [4]) (by kernel_rfl) (by simp) ?_
      refine readyN rfl (fun K hK => ?_) ?_
      · -- operation 4
        go_simp
        (go_at_call 48; refine HAS.out.mono ?_; rintro e w1 ⟨rfl, rfl⟩)
        go_wp2_with fail
        refine hK.out _ _ ?_ (fun hHeld1 => ?_)
        · (try dsimp only)
          exact ⟨HD1.out.1, HD1.out.2.1, HD1.out.2.2.1⟩
        clear hK K hHeld0
        try simp only [Act.put, List.setIfInBounds_toArray, List.set_cons_zero, List.set_cons_succ]
        refine takeN (v := ?_) 5 rfl (by kernel_rfl) (by kernel_rfl) (by kernel_rfl) (fun _ _ _ h => h) (by rfl) ?_ hHeld1 ?_
        rotate_left
        · intro w hSw; (try dsimp only at hSw); go_simp; with_reducible rfl
        try simp only [Act.put, List.setIfInBounds_toArray, List.set_cons_zero, List.set_cons_succ]
        refine takeN (v := ?_) 6 rfl (by kernel_rfl) (by kernel_rfl) (by kernel_rfl) (fun _ _ _ h => h) (by rfl) ?_ hHeld1 ?_
        rotate_left
        · intro w hSw; (try dsimp only at hSw); go_simp; with_reducible rfl
        try simp only [Act.put, List.setIfInBounds_toArray, List.set_cons_zero, List.set_cons_succ]
        refine takeN (v := ?_) 7 rfl (by kernel_rfl) (by kernel_rfl) (by kernel_rfl) (fun _ _ _ h => h) (by rfl) ?_ hHeld1 ?_
        rotate_left
        · intro w hSw; (try dsimp only at hSw); go_simp; with_reducible rfl
        try simp only [Act.put, List.setIfInBounds_toArray, List.set_cons_zero, List.set_cons_succ]
        refine takeN (v := ?_) 8 rfl (by kernel_rfl) (by kernel_rfl) (by kernel_rfl) (fun _ _ _ h => h) (by rfl) ?_ hHeld1 ?_
        rotate_left
        · intro w hSw; (try dsimp only at hSw); go_simp; with_reducible rfl
        try simp only [Act.put, List.setIfInBounds_toArray, List.set_cons_zero, List.set_cons_succ]
        refine takeN (v := ?_) 9 rfl (by kernel_rfl) (by kernel_rfl) (by kernel_rfl) (fun _ _ _ h => h) (by rfl) ?_ hHeld1 ?_
        rotate_left
        · intro w hSw; (try dsimp only at hSw); go_simp; with_reducible rfl
        try simp only [Act.put, List.setIfInBounds_toArray, List.set_cons_zero, List.set_cons_succ]
        refine takeN (v := ?_) 10 rfl (by kernel_rfl) (by kernel_rfl) (by kernel_rfl) (fun _ _ _ h => h) (by rfl) ?_ hHeld1 ?_
        rotate_left
        · intro w hSw; (try dsimp only at hSw); go_simp; with_reducible rfl
        try simp only [Act.put, List.setIfInBounds_toArray, List.set_cons_zero, List.set_cons_succ]
        refine takeN (v := ?_) 11 rfl (by kernel_rfl) (by kernel_rfl) (by kernel_rfl) (fun _ _ _ h => h) (by rfl) ?_ hHeld1 ?_
        rotate_left
        · intro w hSw; (try dsimp only at hSw); go_simp; with_reducible rfl
        try simp only [Act.put, List.setIfInBounds_toArray, List.set_cons_zero, List.set_cons_succ]
        refine takeN (v := ?_) 12 rfl (by kernel_rfl) (by kernel_rfl) (by kernel_rfl) (fun _ _ _ h => h) (by rfl) ?_ hHeld1 ?_
        rotate_left
        · intro w hSw; (try dsimp only at hSw); go_simp; with_reducible rfl
        try simp only [Act.put, List.setIfInBounds_toArray, List.set_cons_zero, List.set_cons_succ]
        refine takeN (v := ?_) 13 rfl (by kernel_rfl) (by kernel_rfl) (by kernel_rfl) (fun _ _ _ h => h) (by rfl) ?_ hHeld1 ?_
        rotate_left
        · intro w hSw; (try dsimp only at hSw); go_simp; with_reducible rfl
        try simp only [Act.put, List.setIfInBounds_toArray, List.set_cons_zero, List.set_cons_succ]
        refine takeN (v := ?_) 14 rfl (by kernel_rfl) (by kernel_rfl) (by kernel_rfl) (fun _ _ _ h => h) (by rfl) ?_ hHeld1 ?_
        rotate_left
        · intro w hSw; (try dsimp only at hSw); go_simp; with_reducible rfl
        try simp only [Act.put, List.setIfInBounds_toArray, List.set_cons_zero, List.set_cons_succ]
        refine wpAnyH_done (by kernel_rfl) ?_ _
        go_wp2_with fail
        refine wp_region_held_drew (S := (fun w' => w'.cell? ⟨qs, 0, none⟩ = some (.pointer (some ⟨M.p, 0, none⟩)) ∧ w'.cell? ⟨qp, 0, none⟩ = some (.int .i64 p) ∧ w'.cell? ⟨M.p, 3, none⟩ = some (.map (some M.now.bf)) ∧ (Instr.lookup 51 (.map (some M.now.bf)) (.int .i64 p) true).run Try.prog w' = .ok (.tuple #[v0, .bool ok]) w')) (by kernel_rfl) ?_ (fun hHeld0 => ?_)
        · (try dsimp only)
          exact ⟨HD2.out.1, HD2.out.2.1, HD2.out.2.2.2.2.2, hlook⟩
        refine takeN (v := ?_) 0 rfl (by kernel_rfl) (by kernel_rfl) (by kernel_rfl) (fun _ _ _ h => h) (by rfl) ?_ hHeld0 ?_
        rotate_left
        · intro w hSw; (try dsimp only at hSw); go_simp; with_reducible rfl
        try simp only [Act.put, List.setIfInBounds_toArray, List.set_cons_zero, List.set_cons_succ]
        refine takeN (v := ?_) 1 rfl (by kernel_rfl) (by kernel_rfl) (by kernel_rfl) (fun _ _ _ h => h) (by rfl) ?_ hHeld0 ?_
        rotate_left
        · intro w hSw; (try dsimp only at hSw); go_simp; with_reducible rfl
        try simp only [Act.put, List.setIfInBounds_toArray, List.set_cons_zero, List.set_cons_succ]
        refine takeN (v := ?_) 2 rfl (by kernel_rfl) (by kernel_rfl) (by kernel_rfl) (fun _ _ _ h => h) (by rfl) ?_ hHeld0 ?_
        rotate_left
        · intro w hSw; (try dsimp only at hSw); go_simp; with_reducible rfl
        try simp only [Act.put, List.setIfInBounds_toArray, List.set_cons_zero, List.set_cons_succ]
        refine takeN (v := ?_) 3 rfl (by kernel_rfl) (by kernel_rfl) (by kernel_rfl) (fun _ _ _ h => h) (by rfl) ?_ hHeld0 ?_
        rotate_left
        · intro w hSw; (try dsimp only at hSw); go_simp; with_reducible rfl
        try simp only [Act.put, List.setIfInBounds_toArray, List.set_cons_zero, List.set_cons_succ]
        refine takeN (v := ?_) 4 rfl (by kernel_rfl) (by kernel_rfl) (by kernel_rfl) (fun _ _ _ h => h) (by rfl) ?_ hHeld0 ?_
        rotate_left
        · intro w hSw; (try dsimp only at hSw); go_simp; with_reducible rfl
        try simp only [Act.put, List.setIfInBounds_toArray, List.set_cons_zero, List.set_cons_succ]
        refine takeN (v := ?_) 5 rfl (by kernel_rfl) (by kernel_rfl) (by kernel_rfl) (fun _ _ _ h => h) (by rfl) ?_ hHeld0 ?_
        rotate_left
        · intro w hSw; (try dsimp only at hSw); go_simp; with_reducible rfl
        try simp only [Act.put, List.setIfInBounds_toArray, List.set_cons_zero, List.set_cons_succ]
        refine wpAnyH_ready (rs := [6]) (by kernel_rfl) (by simp) ?_
        refine readyN rfl (fun K hK => ?_) ?_
        · -- operation 6
          go_simp
          refine hK.out _ _ ?_ (fun hHeld1 => ?_)
          · (try dsimp only)
            exact ⟨HD2.out.1, HD2.out.2.1, HD2.out.2.2.2.2.2, hlook⟩
          clear hK K hHeld0
          try simp only [Act.put, List.setIfInBounds_toArray, List.set_cons_zero, List.set_cons_succ]
          refine takeN (v := ?_) 7 rfl (by kernel_rfl) (by kernel_rfl) (by kernel_rfl) (fun _ _ _ h => h) (by rfl) ?_ hHeld1 ?_
          rotate_left
          · intro w hSw; (try dsimp only at hSw); go_simp; with_reducible rfl
          try simp only [Act.put, List.setIfInBounds_toArray, List.set_cons_zero, List.set_cons_succ]
          refine takeN (v := ?_) 8 rfl (by kernel_rfl) (by kernel_rfl) (by kernel_rfl) (fun _ _ _ h => h) (by rfl) ?_ hHeld1 ?_
          rotate_left
          · intro w hSw; (try dsimp only at hSw); go_simp; with_reducible rfl
          try simp only [Act.put, List.setIfInBounds_toArray, List.set_cons_zero, List.set_cons_succ]
          refine takeN (v := ?_) 9 rfl (by kernel_rfl) (by kernel_rfl) (by kernel_rfl) (fun _ _ _ h => h) (by rfl) ?_ hHeld1 ?_
          rotate_left
          · intro w hSw; (try dsimp only at hSw); go_simp; with_reducible rfl
          try simp only [Act.put, List.setIfInBounds_toArray, List.set_cons_zero, List.set_cons_succ]
          refine takeN (v := ?_) 10 rfl (by kernel_rfl) (by kernel_rfl) (by kernel_rfl) (fun _ _ _ h => h) (by rfl) ?_ hHeld1 ?_
          rotate_left
          · intro w hSw; (try dsimp only at hSw); go_simp; with_reducible rfl
          try simp only [Act.put, List.setIfInBounds_toArray, List.set_cons_zero, List.set_cons_succ]
          refine takeN (v := ?_) 11 rfl (by kernel_rfl) (by kernel_rfl) (by kernel_rfl) (fun _ _ _ h => h) (by rfl) ?_ hHeld1 ?_
          rotate_left
          · intro w hSw; (try dsimp only at hSw); go_simp; with_reducible rfl
          try simp only [Act.put, List.setIfInBounds_toArray, List.set_cons_zero, List.set_cons_succ]
          refine wpAnyH_done (by kernel_rfl) ?_ _
          go_wp2_with fail
          refine wp_region_held_drew (S := (fun w' => w'.cell? ⟨qs, 0, none⟩ = some (.pointer (some ⟨M.p, 0, none⟩)) ∧ w'.cell? ⟨qp, 0, none⟩ = some (.int .i64 p) ∧ w'.cell? ⟨M.p, 3, none⟩ = some (.map (some M.now.bf)))) (by kernel_rfl) ?_ (fun hHeld0 => ?_)
          · (try dsimp only)
            first | exact ⟨HD3.out.1, HD3.out.2.1, HD3.out.2.2.2.2.2⟩ | exact ⟨HD5.out.1, HD5.out.2.1, HD5.out.2.2.2.2.2⟩
          refine takeN (v := ?_) 0 rfl (by kernel_rfl) (by kernel_rfl) (by kernel_rfl) (fun _ _ _ h => h) (by rfl) ?_ hHeld0 ?_
          rotate_left
          · intro w hSw; (try dsimp only at hSw); go_simp; with_reducible rfl
          try simp only [Act.put, List.setIfInBounds_toArray, List.set_cons_zero, List.set_cons_succ]
          refine takeN (v := ?_) 1 rfl (by kernel_rfl) (by kernel_rfl) (by kernel_rfl) (fun _ _ _ h => h) (by rfl) ?_ hHeld0 ?_
          rotate_left
          · intro w hSw; (try dsimp only at hSw); go_simp; with_reducible rfl
          try simp only [Act.put, List.setIfInBounds_toArray, List.set_cons_zero, List.set_cons_succ]
          refine takeN (v := ?_) 2 rfl (by kernel_rfl) (by kernel_rfl) (by kernel_rfl) (fun _ _ _ h => h) (by rfl) ?_ hHeld0 ?_
          rotate_left
          · intro w hSw; (try dsimp only at hSw); go_simp; with_reducible rfl
          try simp only [Act.put, List.setIfInBounds_toArray, List.set_cons_zero, List.set_cons_succ]
          refine takeN (v := ?_) 3 rfl (by kernel_rfl) (by kernel_rfl) (by kernel_rfl) (fun _ _ _ h => h) (by rfl) ?_ hHeld0 ?_
          rotate_left
          · intro w hSw; (try dsimp only at hSw); go_simp; with_reducible rfl
          try simp only [Act.put, List.setIfInBounds_toArray, List.set_cons_zero, List.set_cons_succ]
          refine takeN (v := ?_) 4 rfl (by kernel_rfl) (by kernel_rfl) (by kernel_rfl) (fun _ _ _ h => h) (by rfl) ?_ hHeld0 ?_
          rotate_left
          · intro w hSw; (try dsimp only at hSw); go_simp; with_reducible rfl
          try simp only [Act.put, List.setIfInBounds_toArray, List.set_cons_zero, List.set_cons_succ]
          refine takeN (v := ?_) 5 rfl (by kernel_rfl) (by kernel_rfl) (by kernel_rfl) (fun _ _ _ h => h) (by rfl) ?_ hHeld0 ?_
          rotate_left
          · intro w hSw; (try dsimp only at hSw); go_simp; with_reducible rfl
          try simp only [Act.put, List.setIfInBounds_toArray, List.set_cons_zero, List.set_cons_succ]
          refine wpAnyH_ready (rs := [6]) (by kernel_rfl) (by simp) ?_
          refine readyN rfl (fun K hK => ?_) ?_
          · -- operation 6
            go_simp
            refine hK.out _ _ ?_ (fun hHeld1 => ?_)
            · (try dsimp only)
              first | exact ⟨HD3.out.1, HD3.out.2.1, HD3.out.2.2.2.2.2⟩ | exact ⟨HD5.out.1, HD5.out.2.1, HD5.out.2.2.2.2.2⟩
            clear hK K hHeld0
            try simp only [Act.put, List.setIfInBounds_toArray, List.set_cons_zero, List.set_cons_succ]
            refine wpAnyH_done (by kernel_rfl) ?_ _
            have HD6 := Lib.hid (HFA.out w5.drew ((K5.out.drew).mono (fun i hi => .inr (.inr hi))))
            have k5 : Keep (fun i => i = M.now.bt ∨ i = M.now.bh ∨ i = M.now.bf) w w5.drew := (K5.out.drew).mono (fun i hi => .inr (.inr hi))
            have hbt5 : BR w5.drew M.now.bt M.now.ct S.st.taken := HH.out.now.t.keep K5.out.drew (fun e => HP.out.2.2.2.1 e.symm)
            have hbh5 : BR w5.drew M.now.bh M.now.ch S.st.held := HH.out.now.h.keep K5.out.drew (fun e => HP.out.2.2.2.2 e.symm)
            have ft5 := hbt5.fz p
            have ct5 := hbt5.cell (i := p) (x := true) (by
              have hg := HXX.out.2.2
              have hl : p < S.st.taken.length := by have := HXX.out.2.1; omega
              rw [Int.toNat_natCast, List.getD_eq_getElem?_getD, List.getElem?_eq_getElem hl] at hg
              rw [List.getElem?_eq_getElem hl]
              simpa using hg)
            have hbt6 : BR (w5.setCell ⟨M.now.bt, p, none⟩ (.bool false)).drew M.now.bt M.now.ct (S.st.taken.set p false) := hbt5.set p false
            have hbh6 : BR (w5.setCell ⟨M.now.bt, p, none⟩ (.bool false)).drew M.now.bh M.now.ch S.st.held := hbh5.keep ((Keep.refl (fun i => i = M.now.bt) _).setEq _ _) (fun e => HH.out.now.ne e.symm)
            obtain ⟨xh, hxh⟩ : ∃ xh, S.st.held[p]? = some xh := ⟨_, List.getElem?_eq_getElem (by have := HH.out.now.len; have := HXX.out.2.1; omega)⟩
            have fh6 := hbh6.fz p
            have ch6 := hbh6.cell hxh
            have k6 : Keep (fun i => i = M.now.bt ∨ i = M.now.bh ∨ i = M.now.bf) w (w5.setCell ⟨M.now.bt, p, none⟩ (.bool false)).drew := k5.setCell (p := ⟨M.now.bt, p, none⟩) (.inl (.inl rfl)) _
            have HD7 := Lib.hid (HFA.out _ k6)
            have k7 : Keep (fun i => i = M.now.bt ∨ i = M.now.bh ∨ i = M.now.bf) w ((w5.setCell ⟨M.now.bt, p, none⟩ (.bool false)).setCell ⟨M.now.bh, p, none⟩ (.bool (!ok))).drew := k6.setCell (p := ⟨M.now.bh, p, none⟩) (.inl (.inr (.inl rfl))) _
            have HD8 := Lib.hid (HFA.out _ k7)
            have hb7 := k7.blk HH.out.blk (by rintro (e | e | e); exact HP.out.1 e; exact HP.out.2.1 e; exact HP.out.2.2.1 e)
            have f7 := blk_frozen hb7 4
            have c7 : (((w5.setCell ⟨M.now.bt, p, none⟩ (.bool false)).setCell ⟨M.now.bh, p, none⟩ (.bool (!ok))).drew).cell? ⟨M.p, 4, none⟩ = some (.bool S.st.touched) := blk_cell hb7 4
            have f7' : ((w5.setCell ⟨M.now.bt, p, none⟩ (.bool false)).setCell ⟨M.now.bh, p, none⟩ (.bool (!ok))).frozen? ⟨M.p, 4, none⟩ = false := f7
            have c7' : ((w5.setCell ⟨M.now.bt, p, none⟩ (.bool false)).setCell ⟨M.now.bh, p, none⟩ (.bool (!ok))).cell? ⟨M.p, 4, none⟩ = some (.bool S.st.touched) := c7
            have hb8 : (((w5.setCell ⟨M.now.bt, p, none⟩ (.bool false)).setCell ⟨M.now.bh, p, none⟩ (.bool (!ok))).setCell ⟨M.p, 4, none⟩ (.bool true)).drew.heap[M.p]? = _ := blk_setCell hb7 4 (.bool true)
            have k8 : Keep (fun i => i = M.p ∨ i = M.now.bt ∨ i = M.now.bh ∨ i = M.now.bf) w (((w5.setCell ⟨M.now.bt, p, none⟩ (.bool false)).setCell ⟨M.now.bh, p, none⟩ (.bool (!ok))).setCell ⟨M.p, 4, none⟩ (.bool true)).drew := (k7.mono (fun i hi => .inr hi)).setCell (p := ⟨M.p, 4, none⟩) (.inl (.inl rfl)) _
            have hp81 : ((((w5.setCell ⟨M.now.bt, p, none⟩ (.bool false)).setCell ⟨M.now.bh, p, none⟩ (.bool (!ok))).setCell ⟨M.p, 4, none⟩ (.bool true)).drew).cell? ⟨M.p, 1, none⟩ = some (.slice (some ⟨M.now.bt, 0, none⟩) n M.now.ct) := (cell_off (w := ((w5.setCell ⟨M.now.bt, p, none⟩ (.bool false)).setCell ⟨M.now.bh, p, none⟩ (.bool (!ok))).drew) (p := M.p) (i := 4) (j := 1) (by decide) _).trans HD8.out.2.2.2.1
            have hp82 : ((((w5.setCell ⟨M.now.bt, p, none⟩ (.bool false)).setCell ⟨M.now.bh, p, none⟩ (.bool (!ok))).setCell ⟨M.p, 4, none⟩ (.bool true)).drew).cell? ⟨M.p, 2, none⟩ = some (.slice (some ⟨M.now.bh, 0, none⟩) n M.now.ch) := (cell_off (w := ((w5.setCell ⟨M.now.bt, p, none⟩ (.bool false)).setCell ⟨M.now.bh, p, none⟩ (.bool (!ok))).drew) (p := M.p) (i := 4) (j := 2) (by decide) _).trans HD8.out.2.2.2.2.1
            have HD9 := Lib.hid (And.intro (show (((w5.setCell ⟨M.now.bt, p, none⟩ (.bool false)).setCell ⟨M.now.bh, p, none⟩ (.bool (!ok))).setCell ⟨M.p, 4, none⟩ (.bool true)).drew.cell? ⟨qs, 0, none⟩ = some (.pointer (some ⟨M.p, 0, none⟩)) from (HBO.out _ k8).1.cell) (And.intro (HBO.out _ k8).2.cell (And.intro hp81 hp82)))
            have HB7 := Lib.hid hb7
            have HB8 := Lib.hid hb8
            have K8 := Lib.hid k8
            have HBT6 := Lib.hid hbt6
            have HBH6 := Lib.hid hbh6
            have HXH := Lib.hid hxh
            have HE6 := Lib.hid (And.intro HD6.out.1 (And.intro HD6.out.2.1 (And.intro HD6.out.2.2.2.1 HD6.out.2.2.2.2.1)))
            have HE7 := Lib.hid (And.intro HD7.out.1 (And.intro HD7.out.2.1 (And.intro HD7.out.2.2.2.1 HD7.out.2.2.2.2.1)))
            have HE8 := Lib.hid (And.intro HD8.out.1 (And.intro HD8.out.2.1 (And.intro HD8.out.2.2.2.1 HD8.out.2.2.2.2.1)))
            clear k5 hbt5 hbh5 hbt6 hbh6 hxh k6 k7 hb7 hb8 k8 hp81 hp82 hlook hdel
            go_wp2_with fail
            refine wp_region_held_drew (S := (fun w' => w'.cell? ⟨qs, 0, none⟩ = some (.pointer (some ⟨M.p, 0, none⟩)) ∧ w'.cell? ⟨qp, 0, none⟩ = some (.int .i64 p) ∧ w'.cell? ⟨M.p, 1, none⟩ = some (.slice (some ⟨M.now.bt, 0, none⟩) n M.now.ct) ∧ w'.cell? ⟨M.p, 2, none⟩ = some (.slice (some ⟨M.now.bh, 0, none⟩) n M.now.ch))) (by kernel_rfl) ?_ (fun hHeld0 => ?_)
            · (try dsimp only)
              first | with_reducible exact HE6.out | with_reducible exact HE7.out | with_reducible exact HE8.out | with_reducible exact HD9.out
            refine takeN (v := ?_) 0 rfl (by kernel_rfl) (by kernel_rfl) (by kernel_rfl) (fun _ _ _ h => h) (by rfl) ?_ hHeld0 ?_
            rotate_left
            · intro w hSw; (try dsimp only at hSw); go_simp; with_reducible rfl
            try simp only [Act.put, List.setIfInBounds_toArray, List.set_cons_zero, List.set_cons_succ]
            refine takeN (v := ?_) 1 rfl (by kernel_rfl) (by kernel_rfl) (by kernel_rfl) (fun _ _ _ h => h) (by rfl) ?_ hHeld0 ?_
            rotate_left
            · intro w hSw; (try dsimp only at hSw); go_simp; with_reducible rfl
            try simp only [Act.put, List.setIfInBounds_toArray, List.set_cons_zero, List.set_cons_succ]
            refine takeN (v := ?_) 2 rfl (by kernel_rfl) (by kernel_rfl) (by kernel_rfl) (fun _ _ _ h => h) (by rfl) ?_ hHeld0 ?_
            rotate_left
            · intro w hSw; (try dsimp only at hSw); go_simp; with_reducible rfl
            try simp only [Act.put, List.setIfInBounds_toArray, List.set_cons_zero, List.set_cons_succ]
            refine takeN (v := ?_) 3 rfl (by kernel_rfl) (by kernel_rfl) (by kernel_rfl) (fun _ _ _ h => h) (by rfl) ?_ hHeld0 ?_
            rotate_left
            · intro w hSw; (try dsimp only at hSw); go_simp; with_reducible rfl
            try simp only [Act.put, List.setIfInBounds_toArray, List.set_cons_zero, List.set_cons_succ]
            refine takeN (v := ?_) 4 rfl (by kernel_rfl) (by kernel_rfl) (by kernel_rfl) (fun _ _ _ h => h) (by rfl) ?_ hHeld0 ?_
            rotate_left
            · intro w hSw; (try dsimp only at hSw); go_simp; with_reducible rfl
            try simp only [Act.put, List.setIfInBounds_toArray, List.set_cons_zero, List.set_cons_succ]
            refine takeN (v := ?_) 5 rfl (by kernel_rfl) (by kernel_rfl) (by kernel_rfl) (fun _ _ _ h => h) (by rfl) ?_ hHeld0 ?_
            rotate_left
            · intro w hSw; (try dsimp only at hSw); go_simp; with_reducible rfl
            try simp only [Act.put, List.setIfInBounds_toArray, List.set_cons_zero, List.set_cons_succ]
            refine takeN (v := ?_) 6 rfl (by kernel_rfl) (by kernel_rfl) (by kernel_rfl) (fun _ _ _ h => h) (by rfl) ?_ hHeld0 ?_
            rotate_left
            · intro w hSw; (try dsimp only at hSw); go_simp; with_reducible rfl
            try simp only [Act.put, List.setIfInBounds_toArray, List.set_cons_zero, List.set_cons_succ]
            refine takeN (v := ?_) 7 rfl (by kernel_rfl) (by kernel_rfl) (by kernel_rfl) (fun _ _ _ h => h) (by rfl) ?_ hHeld0 ?_
            rotate_left
            · intro w hSw; (try dsimp only at hSw); go_simp; with_reducible rfl
            try simp only [Act.put, List.setIfInBounds_toArray, List.set_cons_zero, List.set_cons_succ]
            refine takeN (v := ?_) 8 rfl (by kernel_rfl) (by kernel_rfl) (by kernel_rfl) (fun _ _ _ h => h) (by rfl) ?_ hHeld0 ?_
            rotate_left
            · intro w hSw; (try dsimp only at hSw); go_simp; with_reducible rfl
            try simp only [Act.put, List.setIfInBounds_toArray, List.set_cons_zero, List.set_cons_succ]
            refine takeN (v := ?_) 9 rfl (by kernel_rfl) (by kernel_rfl) (by kernel_rfl) (fun _ _ _ h => h) (by rfl) ?_ hHeld0 ?_
            rotate_left
            · intro w hSw; (try dsimp only at hSw); go_simp; with_reducible rfl
            try simp only [Act.put, List.setIfInBounds_toArray, List.set_cons_zero, List.set_cons_succ]
            refine takeN (v := ?_) 10 rfl (by kernel_rfl) (by kernel_rfl) (by kernel_rfl) (fun _ _ _ h => h) (by rfl) ?_ hHeld0 ?_
            rotate_left
            · intro w hSw; (try dsimp only at hSw); go_simp; with_reducible rfl
            try simp only [Act.put, List.setIfInBounds_toArray, List.set_cons_zero, List.set_cons_succ]
            refine takeN (v := ?_) 11 rfl (by kernel_rfl) (by kernel_rfl) (by kernel_rfl) (fun _ _ _ h => h) (by rfl) ?_ hHeld0 ?_
            rotate_left
            · intro w hSw; (try dsimp only at hSw); go_simp; with_reducible rfl
            try simp only [Act.put, List.setIfInBounds_toArray, List.set_cons_zero, List.set_cons_succ]
            refine takeN (v := ?_) 12 rfl (by kernel_rfl) (by kernel_rfl) (by kernel_rfl) (fun _ _ _ h => h) (by rfl) ?_ hHeld0 ?_
            rotate_left
            · intro w hSw; (try dsimp only at hSw); go_simp; with_reducible rfl
            try simp only [Act.put, List.setIfInBounds_toArray, List.set_cons_zero, List.set_cons_succ]
            refine takeN (v := ?_) 13 rfl (by kernel_rfl) (by kernel_rfl) (by kernel_rfl) (fun _ _ _ h => h) (by rfl) ?_ hHeld0 ?_
            rotate_left
            · intro w hSw; (try dsimp only at hSw); go_simp; with_reducible rfl
            try simp only [Act.put, List.setIfInBounds_toArray, List.set_cons_zero, List.set_cons_succ]
            refine takeN (v := ?_) 14 rfl (by kernel_rfl) (by kernel_rfl) (by kernel_rfl) (fun _ _ _ h => h) (by rfl) ?_ hHeld0 ?_
            rotate_left
            · intro w hSw; (try dsimp only at hSw); go_simp; with_reducible rfl
            try simp only [Act.put, List.setIfInBounds_toArray, List.set_cons_zero, List.set_cons_succ]
            refine takeN (v := ?_) 15 rfl (by kernel_rfl) (by kernel_rfl) (by kernel_rfl) (fun _ _ _ h => h) (by rfl) ?_ hHeld0 ?_
            rotate_left
            · intro w hSw; (try dsimp only at hSw); go_simp; with_reducible rfl
            try simp only [Act.put, List.setIfInBounds_toArray, List.set_cons_zero, List.set_cons_succ]
            refine wpAnyH_ready (rs := [16]) (by kernel_rfl) (by simp) ?_
            refine readyN rfl (fun K hK => ?_) ?_
            · -- operation 16
              go_simp
              refine hK.out _ _ ?_ (fun hHeld1 => ?_)
              · (try dsimp only)
                first | with_reducible exact HE6.out | with_reducible exact HE7.out | with_reducible exact HE8.out | with_reducible exact HD9.out
              clear hK K hHeld0
              try simp only [Act.put, List.setIfInBounds_toArray, List.set_cons_zero, List.set_cons_succ]
              refine takeN (v := ?_) 17 rfl (by kernel_rfl) (by kernel_rfl) (by kernel_rfl) (fun _ _ _ h => h) (by rfl) ?_ hHeld1 ?_
              rotate_left
              · intro w hSw; (try dsimp only at hSw); go_simp; with_reducible rfl
              try simp only [Act.put, List.setIfInBounds_toArray, List.set_cons_zero, List.set_cons_succ]
              refine wpAnyH_ready (rs := [18]) (by kernel_rfl) (by simp) ?_
              refine readyN rfl (fun K hK => ?_) ?_
              · -- operation 18
                go_simp
                refine hK.out _ _ ?_ (fun hHeld2 => ?_)
                · (try dsimp only)
                  first | with_reducible exact HE6.out | with_reducible exact HE7.out | with_reducible exact HE8.out | with_reducible exact HD9.out
                clear hK K hHeld1
                try simp only [Act.put, List.setIfInBounds_toArray, List.set_cons_zero, List.set_cons_succ]
                refine takeN (v := ?_) 19 rfl (by kernel_rfl) (by kernel_rfl) (by kernel_rfl) (fun _ _ _ h => h) (by rfl) ?_ hHeld2 ?_
                rotate_left
                · intro w hSw; (try dsimp only at hSw); go_simp; with_reducible rfl
                try simp only [Act.put, List.setIfInBounds_toArray, List.set_cons_zero, List.set_cons_succ]
                refine takeN (v := ?_) 20 rfl (by kernel_rfl) (by kernel_rfl) (by kernel_rfl) (fun _ _ _ h => h) (by rfl) ?_ hHeld2 ?_
                rotate_left
                · intro w hSw; (try dsimp only at hSw); go_simp; with_reducible rfl
                try simp only [Act.put, List.setIfInBounds_toArray, List.set_cons_zero, List.set_cons_succ]
                refine takeN (v := ?_) 21 rfl (by kernel_rfl) (by kernel_rfl) (by kernel_rfl) (fun _ _ _ h => h) (by rfl) ?_ hHeld2 ?_
                rotate_left
                · intro w hSw; (try dsimp only at hSw); go_simp; with_reducible rfl
                try simp only [Act.put, List.setIfInBounds_toArray, List.set_cons_zero, List.set_cons_succ]
                refine wpAnyH_ready (rs := [22]) (by kernel_rfl) (by simp) ?_
                refine readyN rfl (fun K hK => ?_) ?_
                · -- operation 22
                  go_simp
                  refine hK.out _ _ ?_ (fun hHeld3 => ?_)
                  · (try dsimp only)
                    first | with_reducible exact HE6.out | with_reducible exact HE7.out | with_reducible exact HE8.out | with_reducible exact HD9.out
                  clear hK K hHeld2
                  try simp only [Act.put, List.setIfInBounds_toArray, List.set_cons_zero, List.set_cons_succ]
                  refine wpAnyH_done (by kernel_rfl) ?_ _
                  go_wp2
                  go_ret
                  obtain ⟨g1, g2⟩ := give_end HH.out HVS.out p ok HOK.out HP.out K5.out HM5.out
                  rw [HG.out, Int.toNat_natCast]
                  exact ⟨rfl, g1, g2⟩
                exact AllReadyH.nil
              exact AllReadyH.nil
            exact AllReadyH.nil
          exact AllReadyH.nil
        exact AllReadyH.nil
      exact AllReadyH.nil
end Go.Proofs.Ytlmngghkhnnaeaa
