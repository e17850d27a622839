/- The walk of a store's Take. -/
import Derived.Test.YtlmngghkhnnaeaaQMMapE
namespace Go.Proofs.Ytlmngghkhnnaeaa
open Go.RowKit Go.Shelf
set_option maxRecDepth 100000
set_option maxHeartbeats 1000000
set_option linter.unusedVariables false
set_option linter.unusedSimpArgs false
def takeSt (s : St) (p : Nat) (u : ByteArray) : St := { s with taken := s.taken.set p true, fresh := wput p u s.fresh, touched := true }
/-- a page is taken: its number, the errno, the store -/
def takeS (S : SS) (u : ByteArray) : Int × Int × SS :=
  if 4011 < u.size then (0, 2, S) else match freeL S.st.taken S.st.held with
  | [] => (0, 3, S)
  | p :: _ => (p, 0, { S with st := takeSt S.st p u })
theorem freeL_mem (t h : List Bool) (p : Nat) (hp : p ∈ freeL t h) : p < t.length ∧ 2 ≤ p ∧ t.getD p false = false ∧ h.getD p false = false := by
  unfold freeL at hp
  simp only [List.mem_filter, List.mem_range, Bool.and_eq_true, decide_eq_true_eq, Bool.not_eq_true'] at hp
  exact ⟨hp.1, hp.2.1, hp.2.2.1, hp.2.2.2⟩
theorem FrIs.put {V : Nat → Prop} {w w5 : World} {bf : Nat} {f : Wt} (k : Int) (u : ByteArray) (v : Value) (vs : IM) (hvs : IMapAt w bf vs) (h : FrIs w V bf f) (hk : Keep (fun i => i = bf) w w5) (hB : ∀ i c z, w.heap[i]? = some (.cells c 5 z) → i ≠ bf) (V' : Nat → Prop) (hV : ∀ i, V i → V' i)
    (hv : Own 5 w5 0 v u) (hv' : ∀ j, v.ownBlock = some j → V' j) (hm : IMapAt w5 bf (IM.put k v vs)) : FrIs w5 V' bf (wput k u f) := by
  obtain ⟨vs', h1, h2, h3⟩ := h
  have e : vs' = vs := h1.uniq hvs
  subst e
  obtain ⟨g1, g2⟩ := put_relR (fun v q => Own 5 w5 0 v q ∧ ∀ j, v.ownBlock = some j → V' j) k u v ⟨hv, hv'⟩ f vs' h2 (fun i q hq => by
    obtain ⟨x, a, b, c⟩ := h3 i q hq
    exact ⟨x, a, b.keep hk (b.not_in (fun i c z hc => hB i c z hc)), fun j hj => hV j (c j hj)⟩)
  exact ⟨_, hm, g1, fun i q hq => by obtain ⟨x, a, b, c⟩ := g2 i q hq; exact ⟨x, a, b, c⟩⟩
theorem BS.intset {w : World} {B : Nat} {T : TypeId} {z : Int} {v : Value} {s : ByteArray} (h : BS w v s) (hB : Boxed w B T (.int .i64 z)) (u : Value) : BS (w.setCell ⟨B, 0, none⟩ u) v s :=
  h.keep ((Keep.refl (fun i => i = B) w).setCell (p := ⟨B, 0, none⟩) (.inl rfl) u) (fun b o x hc e => by
    subst e
    rw [blk_cell (show w.heap[b]? = _ from hB)] at hc
    match o, hc with
    | 0, hc => simp at hc
    | o + 1, hc => simp at hc)
theorem takeC {V : Nat → Prop} {M : SM} {S : SS} (qb qs qp : Nat) (bv : Value) (u : ByteArray) (w : World) (h : SIs w V M S) (hB : BS w bv u) (hu : u.size ≤ 70368744177664) (cb : Boxed w qb 28 bv) (cs : Boxed w qs 24 (pS M.p)) (cp : Boxed w qp 3 (.int .i64 0)) (hne : ¬ M.foot qp) :
    Calls Try.prog 33 #[.pointer (some ⟨qb, 0, none⟩), .pointer (some ⟨qs, 0, none⟩), .pointer (some ⟨qp, 0, none⟩)] w fun e w' => ∃ V', e = .returned (.int .i64 (takeS S u).2.1) ∧ SIs w' V' M (takeS S u).2.2 ∧
      Boxed w' qp 3 (.int .i64 (takeS S u).1) ∧ Keep (fun i => i = M.p ∨ M.now.blk i ∨ i = qp) w w' ∧ ∀ i, V' i → V i ∨ w.heap.size ≤ i := by
  obtain ⟨a, c, rfl⟩ := hB.len
  have cb0 := cb.cell
  have cs0 := cs.cell
  have cp0 := cp.cell
  have cpf := cp.frozen
  unfold pS at cs0
  have HH := Lib.hid h
  have HB := Lib.hid hB
  have HBX := Lib.hid (And.intro cb (And.intro cs cp))
  by_cases h4 : 4011 < u.size
  · have i4 : ((u.size : Int) > 4011) := by omega
    have HT := Lib.hid (show takeS S u = (0, 2, S) by unfold takeS; rw [if_pos h4])
    clear h hB cb cs cp
    go_enter Try.func33, Try.ntmps33
    go_wp2
    go_ret
    rw [HT.out]
    exact ⟨V, rfl, HH.out, HBX.out.2.2, Keep.refl _ _, fun i hi => .inl hi⟩
  · have i4 : ¬ ((u.size : Int) > 4011) := by omega
    have HF := Lib.hid (free_any M.p M.now.bt M.now.ct M.now.bh M.now.ch S.st.taken S.st.held w (blk_cell h.blk 1) (blk_cell h.blk 2) h.now.t h.now.h h.now.hi (by have := h.now.lo; omega) h.now.len)
    cases hfl : freeL S.st.taken S.st.held with
    | nil =>
      have HT := Lib.hid (show takeS S u = (0, 3, S) by unfold takeS; rw [if_neg h4, hfl])
      rw [hfl] at HF
      clear h hB cb cs cp hfl
      go_enter Try.func33, Try.ntmps33
      go_wp2_with (first
        | (go_at_call 34; refine HF.out.mono ?_; rintro e w1 ⟨v, rfl, hr, hb⟩
           obtain ⟨va, vc, rfl⟩ : ∃ a c, v = Value.slice a 0 c := by
             rcases hr.2 with ⟨rfl, h0⟩ | ⟨g, cap, cur, rfl, _⟩
             · exact ⟨none, 0, rfl⟩
             · exact ⟨_, _, rfl⟩
           have HB1 := Lib.hid hb
           clear hr hb))
      go_ret
      rw [HT.out]
      exact ⟨V, rfl, HH.out.below HB1.out, (Keep.ofBelow HB1.out (fun _ => False)).blk HBX.out.2.2 (fun h => h), Keep.ofBelow HB1.out _, fun i hi => .inl hi⟩
    | cons p rest =>
      have hpm := freeL_mem S.st.taken S.st.held p (by rw [hfl]; exact List.mem_cons_self)
      have hln : (freeL S.st.taken S.st.held).length = rest.length + 1 := by rw [hfl]; rfl
      have hpl : p < 4096 := by have := h.now.hi; omega
      have HT := Lib.hid (show takeS S u = ((p : Int), 0, { S with st := takeSt S.st p u }) by unfold takeS; rw [if_neg h4, hfl])
      rw [hfl] at HF
      have HPM := Lib.hid hpm
      clear h hB cb cs cp hfl hpm hln
      obtain ⟨m, hm⟩ : ∃ m, m = rest.length + 1 := ⟨_, rfl⟩
      have HF' : Hid (Calls Try.prog 34 #[.pointer (some ⟨M.p, 0, none⟩)] w fun e w' => ∃ g c, e = .returned (.slice (some ⟨g, 0, none⟩) m c) ∧ 0 < m ∧ w'.cell? ⟨g, 0, none⟩ = some (.int .i64 p) ∧ w.heap.size ≤ g ∧ Below w.heap.size w w') := by
        refine Lib.hid (HF.out.mono ?_)
        rintro e w' ⟨v, rfl, hr, hb⟩
        rcases hr.2 with ⟨_, h0⟩ | ⟨g, cap, cur, rfl, hg, hc, h1, h2, h3, h5⟩
        · simp at h0
        · refine ⟨g, cap, by rw [hm]; rfl, by omega, ?_, hg, hb⟩
          have hcur : cur[0]? = some (.int .i64 (p : Nat)) := by
            have := congrArg (·[0]?) h5
            simp at this
            first | exact this | (simpa using this)
          rw [blk_cell hc 0]
          simpa using hcur
      clear HF
      go_enter Try.func33, Try.ntmps33
      go_wp2_with (first
        | fail
        | (go_at_call 34; refine HF'.out.mono ?_; rintro e w1 ⟨g1, c1, rfl, hm0, hg0, hg1, hb⟩
           have cs1 := (Keep.ofBelow hb (fun _ => False)).cell cs0 (fun h => h)
           have cb1 := (Keep.ofBelow hb (fun _ => False)).cell cb0 (fun h => h)
           have bp1 : Boxed w1 qp 3 (.int .i64 0) := (Keep.ofBelow hb (fun _ => False)).blk HBX.out.2.2 (fun h => h)
           have bf1 := bp1.frozen
           have bc1 := bp1.cell
           have b1 : ¬ ((m : Int) = 0) := by omega
           have b2 : ((m : Int) == 0) = false := by simp; omega
           have HB1 := Lib.hid hb
           have HBP1 := Lib.hid bp1
           clear hb bp1))
      refine wp_gen' (fun W => Hid (SIs W V M S ∧ BS W (.slice a u.size c) u ∧ Boxed W qb 28 (.slice a u.size c) ∧ Boxed W qs 24 (pS M.p) ∧ Boxed W qp 3 (.int .i64 p) ∧ Keep (fun i => i = qp) w W)) ?_ ?_
      · have hk0 : Keep (fun i => i = qp) w w1 := Keep.ofBelow HB1.out _
        have hkk : Keep (fun i => i = qp) w (w1.setCell ⟨qp, 0, none⟩ (.int .i64 p)) := hk0.setEq _ _
        refine Lib.hid ⟨HH.out.keep hkk (fun i hi e => hne (e ▸ hi)) (fun i c z hc e => ?_), BS.intset (HB.out.below HB1.out) HBP1.out _, hkk.blk HBX.out.1 (fun e => ?_), hkk.blk HBX.out.2.1 (fun e => ?_), HBP1.out.set _, hkk⟩
        · subst e; have h1 := HBX.out.2.2; unfold Boxed at h1; rw [hc] at h1; cases h1
        · subst e; have h1 := HBX.out.2.2; unfold Boxed at h1; rw [show w.heap[_]? = _ from HBX.out.1] at h1; cases h1
        · subst e; have h1 := HBX.out.2.2; unfold Boxed at h1; rw [show w.heap[_]? = _ from HBX.out.2.1] at h1; cases h1
      rintro W HW
      have hS := HW.out.1
      obtain ⟨n, hn⟩ : ∃ n, n = S.st.taken.length := ⟨_, rfl⟩
      have hpn : p < n := by rw [hn]; exact HPM.out.1
      obtain ⟨vs, hvs, _, _⟩ := hS.now.f
      have HVS := Lib.hid hvs
      have hbf : M.now.bf ≠ M.now.bt := fun e => by
        obtain ⟨cur, hcur, _⟩ := hS.now.t
        obtain ⟨es, cc, hes, _⟩ := hvs
        rw [e, hcur] at hes; cases hes
      have hpp : M.p ≠ M.now.bt ∧ M.p ≠ M.now.bf := by
        obtain ⟨cur, hcur, _⟩ := hS.now.t
        obtain ⟨es, cc, hes, _⟩ := hvs
        refine ⟨fun e => ?_, fun e => ?_⟩
        · have h1 := hS.blk; rw [e, hcur] at h1; simp only [Option.some.injEq, Obj.cells.injEq] at h1; exact absurd h1.2.1 (by decide)
        · have h1 := hS.blk; rw [e, hes] at h1; cases h1
      have hbox : ∀ X, Keep (fun i => i = M.p ∨ i = M.now.bt ∨ i = M.now.bf) W X → Boxed X qb 28 (.slice a u.size c) ∧ Boxed X qs 24 (pS M.p) ∧ Boxed X qp 3 (.int .i64 p) := by
        intro X hX
        obtain ⟨cur, hcur, _⟩ := hS.now.t
        obtain ⟨es, cc, hes, _⟩ := hvs
        have hpb := hS.blk
        have key : ∀ b T v, Boxed W b T v → T ≠ 4 → T ≠ 62 → ¬ (b = M.p ∨ b = M.now.bt ∨ b = M.now.bf) := by
          rintro b T v hb hT hT' (rfl | rfl | rfl)
          · unfold Boxed at hb; rw [hpb] at hb; simp only [Option.some.injEq, Obj.cells.injEq] at hb; exact hT' hb.2.1.symm
          · unfold Boxed at hb; rw [hcur] at hb; simp only [Option.some.injEq, Obj.cells.injEq] at hb; exact hT hb.2.1.symm
          · unfold Boxed at hb; rw [hes] at hb; cases hb
        exact ⟨hX.blk HW.out.2.2.1 (key _ _ _ HW.out.2.2.1 (by decide) (by decide)), hX.blk HW.out.2.2.2.1 (key _ _ _ HW.out.2.2.2.1 (by decide) (by decide)), hX.blk HW.out.2.2.2.2.1 (key _ _ _ HW.out.2.2.2.2.1 (by decide) (by decide))⟩
      have hfact : ∀ X, Keep (fun i => i = M.now.bt ∨ i = M.now.bf) W X → X.cell? ⟨qb, 0, none⟩ = some (.slice a u.size c) ∧ X.cell? ⟨qs, 0, none⟩ = some (.pointer (some ⟨M.p, 0, none⟩)) ∧ X.cell? ⟨qp, 0, none⟩ = some (.int .i64 p) ∧ X.cell? ⟨M.p, 1, none⟩ = some (.slice (some ⟨M.now.bt, 0, none⟩) n M.now.ct) ∧ X.cell? ⟨M.p, 3, none⟩ = some (.map (some M.now.bf)) := by
        intro X hX
        have hbx := hbox X (hX.mono (fun i hi => .inr hi))
        have hpp' : ¬ (M.p = M.now.bt ∨ M.p = M.now.bf) := fun e => e.elim hpp.1 hpp.2
        exact ⟨hbx.1.cell, hbx.2.1.cell, hbx.2.2.cell, by rw [hn]; exact hX.cell (blk_cell hS.blk 1) hpp', hX.cell (blk_cell hS.blk 3) hpp'⟩
      have HBO := Lib.hid hbox
      have HFA := Lib.hid hfact
      obtain ⟨d1, d2, d3, d4, d5⟩ := hfact W.drew ((Keep.refl _ W).drew)
      have HD0 := Lib.hid (hfact W.drew ((Keep.refl _ W).drew))
      have HN := Lib.hid hn
      have hp0 : ¬ ((p : Int) < 0) := by omega
      clear hS hvs hfact hbox hn cb0 cs0 cp0 cpf cs1 cb1 bf1 bc1 b1 b2 hg0 hg1
      refine wp_region_held_drew (S := (fun w' => w'.cell? ⟨qb, 0, none⟩ = some (.slice a u.size c) ∧ w'.cell? ⟨qs, 0, none⟩ = some (.pointer (some ⟨M.p, 0, none⟩)) ∧ w'.cell? ⟨qp, 0, none⟩ = some (.int .i64 p) ∧ w'.cell? ⟨M.p, 1, none⟩ = some (.slice (some ⟨M.now.bt, 0, none⟩) n M.now.ct) ∧ w'.cell? ⟨M.p, 3, none⟩ = some (.map (some M.now.bf)))) (by kernel_rfl) ?_ (fun hHeld0 => ?_)
      · (try dsimp only)
        first | with_reducible exact HD0.out | with_reducible exact HD4.out | with_reducible exact HD5.out | with_reducible exact HD6.out | with_reducible exact HD7.out | with_reducible exact HD8.out
      refine takeN (v := ?_) 0 rfl (by kernel_rfl) (by kernel_rfl) (by kernel_rfl) (fun _ _ _ h => h) (by rfl) ?_ hHeld0 ?_
      rotate_left
      · intro w hSw; (try dsimp only at hSw); go_simp; with_reducible rfl
      try simp only [Act.put, List.setIfInBounds_toArray, List.set_cons_zero, List.set_cons_succ]
      refine takeN (v := ?_) 1 rfl (by kernel_rfl) (by kernel_rfl) (by kernel_rfl) (fun _ _ _ h => h) (by rfl) ?_ hHeld0 ?_
      rotate_left
      · intro w hSw; (try dsimp only at hSw); go_simp; with_reducible rfl
      try simp only [Act.put, List.setIfInBounds_toArray, List.set_cons_zero, List.set_cons_succ]
      refine takeN (v := ?_) 2 rfl (by kernel_rfl) (by kernel_rfl) (by kernel_rfl) (fun _ _ _ h => h) (by rfl) ?_ hHeld0 ?_
      rotate_left
      · intro w hSw; (try dsimp only at hSw); go_simp; with_reducible rfl
      try simp only [Act.put, List.setIfInBounds_toArray, List.set_cons_zero, List.set_cons_succ]
      refine takeN (v := ?_) 3 rfl (by kernel_rfl) (by kernel_rfl) (by kernel_rfl) (fun _ _ _ h => h) (by rfl) ?_ hHeld0 ?_
      rotate_left
      · intro w hSw; (try dsimp only at hSw); go_simp; with_reducible rfl
      try simp only [Act.put, List.setIfInBounds_toArray, List.set_cons_zero, List.set_cons_succ]
      refine takeN (v := ?_) 4 rfl (by kernel_rfl) (by kernel_rfl) (by kernel_rfl) (fun _ _ _ h => h) (by rfl) ?_ hHeld0 ?_
      rotate_left
      · intro w hSw; (try dsimp only at hSw); go_simp; with_reducible rfl
      try simp only [Act.put, List.setIfInBounds_toArray, List.set_cons_zero, List.set_cons_succ]
      refine takeN (v := ?_) 5 rfl (by kernel_rfl) (by kernel_rfl) (by kernel_rfl) (fun _ _ _ h => h) (by rfl) ?_ hHeld0 ?_
      rotate_left
      · intro w hSw; (try dsimp only at hSw); go_simp; with_reducible rfl
      try simp only [Act.put, List.setIfInBounds_toArray, List.set_cons_zero, List.set_cons_succ]
      refine takeN (v := ?_) 6 rfl (by kernel_rfl) (by kernel_rfl) (by kernel_rfl) (fun _ _ _ h => h) (by rfl) ?_ hHeld0 ?_
      rotate_left
      · intro w hSw; (try dsimp only at hSw); go_simp; with_reducible rfl
      try simp only [Act.put, List.setIfInBounds_toArray, List.set_cons_zero, List.set_cons_succ]
      refine takeN (v := ?_) 7 rfl (by kernel_rfl) (by kernel_rfl) (by kernel_rfl) (fun _ _ _ h => h) (by rfl) ?_ hHeld0 ?_
      rotate_left
      · intro w hSw; (try dsimp only at hSw); go_simp; with_reducible rfl
      try simp only [Act.put, List.setIfInBounds_toArray, List.set_cons_zero, List.set_cons_succ]
      refine takeN (v := ?_) 8 rfl (by kernel_rfl) (by kernel_rfl) (by kernel_rfl) (fun _ _ _ h => h) (by rfl) ?_ hHeld0 ?_
      rotate_left
      · intro w hSw; (try dsimp only at hSw); go_simp; with_reducible rfl
      try simp only [Act.put, List.setIfInBounds_toArray, List.set_cons_zero, List.set_cons_succ]
      refine takeN (v := ?_) 9 rfl (by kernel_rfl) (by kernel_rfl) (by kernel_rfl) (fun _ _ _ h => h) (by rfl) ?_ hHeld0 ?_
      rotate_left
      · intro w hSw; (try dsimp only at hSw); go_simp; with_reducible rfl
      try simp only [Act.put, List.setIfInBounds_toArray, List.set_cons_zero, List.set_cons_succ]
      refine takeN (v := ?_) 10 rfl (by kernel_rfl) (by kernel_rfl) (by kernel_rfl) (fun _ _ _ h => h) (by rfl) ?_ hHeld0 ?_
      rotate_left
      · intro w hSw; (try dsimp only at hSw); go_simp; with_reducible rfl
      try simp only [Act.put, List.setIfInBounds_toArray, List.set_cons_zero, List.set_cons_succ]
      refine takeN (v := ?_) 11 rfl (by kernel_rfl) (by kernel_rfl) (by kernel_rfl) (fun _ _ _ h => h) (by rfl) ?_ hHeld0 ?_
      rotate_left
      · intro w hSw; (try dsimp only at hSw); go_simp; with_reducible rfl
      try simp only [Act.put, List.setIfInBounds_toArray, List.set_cons_zero, List.set_cons_succ]
      refine takeN (v := ?_) 12 rfl (by kernel_rfl) (by kernel_rfl) (by kernel_rfl) (fun _ _ _ h => h) (by rfl) ?_ hHeld0 ?_
      rotate_left
      · intro w hSw; (try dsimp only at hSw); go_simp; with_reducible rfl
      try simp only [Act.put, List.setIfInBounds_toArray, List.set_cons_zero, List.set_cons_succ]
      refine takeN (v := ?_) 13 rfl (by kernel_rfl) (by kernel_rfl) (by kernel_rfl) (fun _ _ _ h => h) (by rfl) ?_ hHeld0 ?_
      rotate_left
      · intro w hSw; (try dsimp only at hSw); go_simp; with_reducible rfl
      try simp only [Act.put, List.setIfInBounds_toArray, List.set_cons_zero, List.set_cons_succ]
      refine wpAnyH_ready (rs := [14]) (by kernel_rfl) (by simp) ?_
      refine readyN rfl (fun K hK => ?_) ?_
      · -- operation 14
        go_simp
        (go_at_call 35; refine (cloneb_any _ u _ (HW.out.2.1.drew) (by omega)).mono ?_; rintro e w4 ⟨v4, rfl, ho, hb⟩; obtain ⟨a4, c4, rfl⟩ := ho.size
         have HO4 := Lib.hid ho
         have HB4 := Lib.hid (show Below W.heap.size W w4 from ((Below.refl W.heap.size W).drew).trans hb)
         have HD4 := Lib.hid (HFA.out w4 (Keep.ofBelow HB4.out _))
         have hbt4 : BR w4 M.now.bt M.now.ct S.st.taken := HW.out.1.now.t.keep (Keep.ofBelow HB4.out (fun _ => False)) (fun h => h)
         have ft4 := hbt4.fz p
         have ct4 := hbt4.cell (i := p) (x := false) (by
           have hg := HPM.out.2.2.1
           have hl := HPM.out.1
           rw [List.getD_eq_getElem?_getD, List.getElem?_eq_getElem hl] at hg
           rw [List.getElem?_eq_getElem hl]
           simpa using hg)
         have HD5 := Lib.hid (HFA.out (w4.setCell ⟨M.now.bt, p, none⟩ (.bool true)) ((Keep.ofBelow HB4.out _).setCell (.inl (.inl rfl)) _))
         have k5 : Keep (fun i => i = M.now.bt ∨ i = M.now.bf) W (w4.setCell ⟨M.now.bt, p, none⟩ (.bool true)) := (Keep.ofBelow HB4.out _).setCell (.inl (.inl rfl)) _
         have k5' : Keep (fun i => i = M.now.bt) W (w4.setCell ⟨M.now.bt, p, none⟩ (.bool true)) := (Keep.ofBelow HB4.out (fun i => i = M.now.bt)).setEq _ _
         obtain ⟨v0, born, w6, hme, hk6, hst⟩ := (HVS.out.keep k5' hbf).entry (P := Try.prog) (t := 51) (kt := 3) (et := 28) (by kernel_rfl) (by kernel_rfl) (.slice none 0 0) (fun w => by kernel_rfl) (p : Nat)
         obtain ⟨w7, hes, hm7, hk7⟩ := hst w6 (.slice a4 u.size c4) rfl
         have k6 : Keep (fun i => i = M.now.bt ∨ i = M.now.bf) W w6 := k5.trans hk6 (fun i hi => .inl (.inr hi))
         have k7 : Keep (fun i => i = M.now.bt ∨ i = M.now.bf) W w7 := k6.trans hk7 (fun i hi => .inl (.inr hi))
         have HD6 := Lib.hid (HFA.out w6 k6)
         have HD7 := Lib.hid (HFA.out w7 k7)
         have hb7 := k7.blk HW.out.1.blk (by rintro (e | e); exact hpp.1 e; exact hpp.2 e)
         have f7 := blk_frozen hb7 4
         have c7 := blk_cell hb7 4
         have hb8 := blk_setCell hb7 4 (.bool true)
         have k8 : Keep (fun i => i = M.p ∨ i = M.now.bt ∨ i = M.now.bf) W (w7.setCell ⟨M.p, 4, none⟩ (.bool true)) := (k7.mono (fun i hi => .inr hi)).setCell (p := ⟨M.p, 4, none⟩) (.inl (.inl rfl)) _
         have HD8 := Lib.hid (And.intro (HBO.out _ k8).1.cell (And.intro (show (w7.setCell ⟨M.p, 4, none⟩ (.bool true)).cell? ⟨qs, 0, none⟩ = some (.pointer (some ⟨M.p, 0, none⟩)) from (HBO.out _ k8).2.1.cell) (And.intro (HBO.out _ k8).2.2.cell (And.intro (show (w7.setCell ⟨M.p, 4, none⟩ (.bool true)).cell? ⟨M.p, 1, none⟩ = some (.slice (some ⟨M.now.bt, 0, none⟩) n M.now.ct) by rw [blk_cell hb8 1, HN.out]; rfl) (show (w7.setCell ⟨M.p, 4, none⟩ (.bool true)).cell? ⟨M.p, 3, none⟩ = some (.map (some M.now.bf)) by rw [blk_cell hb8 3]; rfl)))))
         have HB8 := Lib.hid hb8
         have K8 := Lib.hid k8
         have K5 := Lib.hid k5'
         have HBT4 := Lib.hid hbt4
         clear hb8 k8
         have HB7 := Lib.hid hb7
         have K7 := Lib.hid k7
         have HM7 := Lib.hid hm7
         have HK6 := Lib.hid hk6
         have HK7 := Lib.hid hk7
         clear ho hb hbt4 k5 k5' hst hk6 hk7 hm7 k6 k7 hb7)
        go_wp2_with fail
        refine hK.out _ _ ?_ (fun hHeld1 => ?_)
        · (try dsimp only)
          first | with_reducible exact HD0.out | with_reducible exact HD4.out | with_reducible exact HD5.out | with_reducible exact HD6.out | with_reducible exact HD7.out | with_reducible exact HD8.out
        clear hK K hHeld0
        try simp only [Act.put, List.setIfInBounds_toArray, List.set_cons_zero, List.set_cons_succ]
        refine takeN (v := ?_) 15 rfl (by kernel_rfl) (by kernel_rfl) (by kernel_rfl) (fun _ _ _ h => h) (by rfl) ?_ hHeld1 ?_
        rotate_left
        · intro w hSw; (try dsimp only at hSw); go_simp; with_reducible rfl
        try simp only [Act.put, List.setIfInBounds_toArray, List.set_cons_zero, List.set_cons_succ]
        refine wpAnyH_ready (rs := [16]) (by kernel_rfl) (by simp) ?_
        refine readyN rfl (fun K hK => ?_) ?_
        · -- operation 16
          go_simp
          refine hK.out _ _ ?_ (fun hHeld2 => ?_)
          · (try dsimp only)
            first | with_reducible exact HD0.out | with_reducible exact HD4.out | with_reducible exact HD5.out | with_reducible exact HD6.out | with_reducible exact HD7.out | with_reducible exact HD8.out
          clear hK K hHeld1
          try simp only [Act.put, List.setIfInBounds_toArray, List.set_cons_zero, List.set_cons_succ]
          refine wpAnyH_ready (rs := [17]) (by kernel_rfl) (by simp) ?_
          refine readyN rfl (fun K hK => ?_) ?_
          · -- operation 17
            go_simp
            refine hK.out _ _ ?_ (fun hHeld3 => ?_)
            · (try dsimp only)
              first | with_reducible exact HD0.out | with_reducible exact HD4.out | with_reducible exact HD5.out | with_reducible exact HD6.out | with_reducible exact HD7.out | with_reducible exact HD8.out
            clear hK K hHeld2
            try simp only [Act.put, List.setIfInBounds_toArray, List.set_cons_zero, List.set_cons_succ]
            refine takeN (v := ?_) 18 rfl (by kernel_rfl) (by kernel_rfl) (by kernel_rfl) (fun _ _ _ h => h) (by rfl) ?_ hHeld3 ?_
            rotate_left
            · intro w hSw; (try dsimp only at hSw); go_simp; with_reducible rfl
            try simp only [Act.put, List.setIfInBounds_toArray, List.set_cons_zero, List.set_cons_succ]
            refine wpAnyH_ready (rs := [19]) (by kernel_rfl) (by simp) ?_
            refine readyN rfl (fun K hK => ?_) ?_
            · -- operation 19
              go_simp
              refine hK.out _ _ ?_ (fun hHeld4 => ?_)
              · (try dsimp only)
                first | with_reducible exact HD0.out | with_reducible exact HD4.out | with_reducible exact HD5.out | with_reducible exact HD6.out | with_reducible exact HD7.out | with_reducible exact HD8.out
              clear hK K hHeld3
              try simp only [Act.put, List.setIfInBounds_toArray, List.set_cons_zero, List.set_cons_succ]
              refine takeN (v := ?_) 20 rfl (by kernel_rfl) (by kernel_rfl) (by kernel_rfl) (fun _ _ _ h => h) (by rfl) ?_ hHeld4 ?_
              rotate_left
              · intro w hSw; (try dsimp only at hSw); go_simp; with_reducible rfl
              try simp only [Act.put, List.setIfInBounds_toArray, List.set_cons_zero, List.set_cons_succ]
              refine takeN (v := ?_) 21 rfl (by kernel_rfl) (by kernel_rfl) (by kernel_rfl) (fun _ _ _ h => h) (by rfl) ?_ hHeld4 ?_
              rotate_left
              · intro w hSw; (try dsimp only at hSw); go_simp; with_reducible rfl
              try simp only [Act.put, List.setIfInBounds_toArray, List.set_cons_zero, List.set_cons_succ]
              refine takeN (v := ?_) 22 rfl (by kernel_rfl) (by kernel_rfl) (by kernel_rfl) (fun _ _ _ h => h) (by rfl) ?_ hHeld4 ?_
              rotate_left
              · intro w hSw; (try dsimp only at hSw); go_simp; with_reducible rfl
              try simp only [Act.put, List.setIfInBounds_toArray, List.set_cons_zero, List.set_cons_succ]
              refine wpAnyH_ready (rs := [23]) (by kernel_rfl) (by simp) ?_
              refine readyN rfl (fun K hK => ?_) ?_
              · -- operation 23
                go_simp
                go_wp2_with (
                    (go_at_call 35; refine (cloneb_any _ u _ (HW.out.2.1.drew) (by omega)).mono ?_; rintro e w4 ⟨v4, rfl, ho, hb⟩; obtain ⟨a4, c4, rfl⟩ := ho.size
                     have HO4 := Lib.hid ho
                     have HB4 := Lib.hid (show Below W.heap.size W w4 from ((Below.refl W.heap.size W).drew).trans hb)
                     have HD4 := Lib.hid (HFA.out w4 (Keep.ofBelow HB4.out _))
                     have hbt4 : BR w4 M.now.bt M.now.ct S.st.taken := HW.out.1.now.t.keep (Keep.ofBelow HB4.out (fun _ => False)) (fun h => h)
                     have ft4 := hbt4.fz p
                     have ct4 := hbt4.cell (i := p) (x := false) (by
                       have hg := HPM.out.2.2.1
                       have hl := HPM.out.1
                       rw [List.getD_eq_getElem?_getD, List.getElem?_eq_getElem hl] at hg
                       rw [List.getElem?_eq_getElem hl]
                       simpa using hg)
                     have HD5 := Lib.hid (HFA.out (w4.setCell ⟨M.now.bt, p, none⟩ (.bool true)) ((Keep.ofBelow HB4.out _).setCell (.inl (.inl rfl)) _))
                     have k5 : Keep (fun i => i = M.now.bt ∨ i = M.now.bf) W (w4.setCell ⟨M.now.bt, p, none⟩ (.bool true)) := (Keep.ofBelow HB4.out _).setCell (.inl (.inl rfl)) _
                     have k5' : Keep (fun i => i = M.now.bt) W (w4.setCell ⟨M.now.bt, p, none⟩ (.bool true)) := (Keep.ofBelow HB4.out (fun i => i = M.now.bt)).setEq _ _
                     obtain ⟨v0, born, w6, hme, hk6, hst⟩ := (HVS.out.keep k5' hbf).entry (P := Try.prog) (t := 51) (kt := 3) (et := 28) (by kernel_rfl) (by kernel_rfl) (.slice none 0 0) (fun w => by kernel_rfl) (p : Nat)
                     obtain ⟨w7, hes, hm7, hk7⟩ := hst w6 (.slice a4 u.size c4) rfl
                     have k6 : Keep (fun i => i = M.now.bt ∨ i = M.now.bf) W w6 := k5.trans hk6 (fun i hi => .inl (.inr hi))
                     have k7 : Keep (fun i => i = M.now.bt ∨ i = M.now.bf) W w7 := k6.trans hk7 (fun i hi => .inl (.inr hi))
                     have HD6 := Lib.hid (HFA.out w6 k6)
                     have HD7 := Lib.hid (HFA.out w7 k7)
                     have hb7 := k7.blk HW.out.1.blk (by rintro (e | e); exact hpp.1 e; exact hpp.2 e)
                     have f7 := blk_frozen hb7 4
                     have c7 := blk_cell hb7 4
                     have hb8 := blk_setCell hb7 4 (.bool true)
                     have k8 : Keep (fun i => i = M.p ∨ i = M.now.bt ∨ i = M.now.bf) W (w7.setCell ⟨M.p, 4, none⟩ (.bool true)) := (k7.mono (fun i hi => .inr hi)).setCell (p := ⟨M.p, 4, none⟩) (.inl (.inl rfl)) _
                     have HD8 := Lib.hid (And.intro (HBO.out _ k8).1.cell (And.intro (show (w7.setCell ⟨M.p, 4, none⟩ (.bool true)).cell? ⟨qs, 0, none⟩ = some (.pointer (some ⟨M.p, 0, none⟩)) from (HBO.out _ k8).2.1.cell) (And.intro (HBO.out _ k8).2.2.cell (And.intro (show (w7.setCell ⟨M.p, 4, none⟩ (.bool true)).cell? ⟨M.p, 1, none⟩ = some (.slice (some ⟨M.now.bt, 0, none⟩) n M.now.ct) by rw [blk_cell hb8 1, HN.out]; rfl) (show (w7.setCell ⟨M.p, 4, none⟩ (.bool true)).cell? ⟨M.p, 3, none⟩ = some (.map (some M.now.bf)) by rw [blk_cell hb8 3]; rfl)))))
                     have HB8 := Lib.hid hb8
                     have K8 := Lib.hid k8
                     have K5 := Lib.hid k5'
                     have HBT4 := Lib.hid hbt4
                     clear hb8 k8
                     have HB7 := Lib.hid hb7
                     have K7 := Lib.hid k7
                     have HM7 := Lib.hid hm7
                     have HK6 := Lib.hid hk6
                     have HK7 := Lib.hid hk7
                     clear ho hb hbt4 k5 k5' hst hk6 hk7 hm7 k6 k7 hb7))
                refine hK.out _ _ ?_ (fun hHeld5 => ?_)
                · (try dsimp only)
                  first | with_reducible exact HD0.out | with_reducible exact HD4.out | with_reducible exact HD5.out | with_reducible exact HD6.out | with_reducible exact HD7.out | with_reducible exact HD8.out
                clear hK K hHeld4
                try simp only [Act.put, List.setIfInBounds_toArray, List.set_cons_zero, List.set_cons_succ]
                refine wpAnyH_done (by kernel_rfl) ?_ _
                go_wp2
                go_ret
                have hap := HW.out.1.now
                have hk87 : Keep (fun i => i = M.p) w7 (w7.setCell ⟨M.p, 4, none⟩ (.bool true)) := (Keep.refl _ _).setEq _ _
                have hown : Own 5 w4 W.heap.size (.slice a4 u.size c4) u := HO4.out
                have hbtl : M.now.bt < W.heap.size := hap.t.lt
                have hbfl : M.now.bf < W.heap.size := HVS.out.lt
                have hpl8 : M.p < W.heap.size := blk_lt HW.out.1.blk
                have h45 : Keep (fun i => i = M.now.bt) w4 (w4.setCell ⟨M.now.bt, p, none⟩ (.bool true)) := (Keep.refl _ _).setEq _ _
                have hown7 : Own 5 w7 0 (.slice a4 u.size c4) u := by
                  have h1 := hown.keep h45 (fun k hk e => by have := (hown.base_le k hk).1; omega)
                  have h2 := h1.keep HK6.out (fun k hk e => by have := (hown.base_le k hk).1; omega)
                  exact (h2.keep HK7.out (fun k hk e => by have := (hown.base_le k hk).1; omega)).lower (Nat.zero_le _)
                have hf5 : FrIs (w4.setCell ⟨M.now.bt, p, none⟩ (.bool true)) V M.now.bf S.st.fresh := hap.f.keepB K5.out hbf (fun i c z hc e => by
                  obtain ⟨cur, hcur, _⟩ := hap.t
                  rw [e, hcur] at hc; simp only [Option.some.injEq, Obj.cells.injEq] at hc; exact absurd hc.2.1 (by decide))
                have k57 : Keep (fun i => i = M.now.bf) (w4.setCell ⟨M.now.bt, p, none⟩ (.bool true)) w7 := HK6.out.trans HK7.out (fun i hi => .inl hi)
                have hf7 : FrIs w7 (fun i => V i ∨ W.heap.size ≤ i) M.now.bf (wput (p : Nat) u S.st.fresh) := hf5.put (p : Nat) u (.slice a4 u.size c4) vs (HVS.out.keep K5.out hbf) k57 (fun i c z hc e => by
                  obtain ⟨es, cc, hes, _⟩ := HVS.out.keep K5.out hbf
                  rw [e, hes] at hc; cases hc) _ (fun i hi => .inl hi) hown7 (fun j hj => .inr (hown.base_le j hj).1) HM7.out
                have hbytes : ∀ i c z, w7.heap[i]? = some (.cells c 5 z) → ¬ i = M.p := fun i c z hc e => by
                  rw [e, HB7.out] at hc; simp only [Option.some.injEq, Obj.cells.injEq] at hc; exact absurd hc.2.1 (by decide)
                have hbt7 : BR (w7.setCell ⟨M.p, 4, none⟩ (.bool true)) M.now.bt M.now.ct (S.st.taken.set p true) := (((HBT4.out.set p true).keep k57 (fun e => hbf e.symm)).keep hk87 (fun e => hpp.1 e.symm))
                have hbhp : ¬ (M.now.bh = M.p ∨ M.now.bh = M.now.bt ∨ M.now.bh = M.now.bf) := by
                  obtain ⟨cur, hcur, _⟩ := hap.h
                  obtain ⟨es, cc, hes, _⟩ := HVS.out
                  rintro (e | e | e)
                  · have h1 := HW.out.1.blk; rw [← e, hcur] at h1; simp only [Option.some.injEq, Obj.cells.injEq] at h1; exact absurd h1.2.1 (by decide)
                  · exact hap.ne e.symm
                  · rw [← e, hcur] at hes; cases hes
                have hnow : StIs (w7.setCell ⟨M.p, 4, none⟩ (.bool true)) (fun i => V i ∨ W.heap.size ≤ i) M.now (takeSt S.st p u) := {
                  t := hbt7
                  h := hap.h.keep K8.out hbhp
                  f := hf7.keepB hk87 (fun e => hpp.2 e.symm) hbytes
                  ne := hap.ne
                  len := by simpa [takeSt] using hap.len
                  lo := by simpa [takeSt] using hap.lo
                  hi := by simpa [takeSt] using hap.hi
                  root := by simpa [takeSt] using hap.root
                  keys := by
                    intro q hq
                    simp only [takeSt, List.length_set]
                    rcases wput_mem _ _ _ _ hq with e | e
                    · rw [e]; exact ⟨by have := HPM.out.2.1; simp only; omega, by have := HPM.out.1; simp only; omega, by simp only; omega⟩
                    · exact hap.keys q e
                  nodup := wput_nodup _ _ _ hap.nodup }
                have hKW : Keep (fun i => i = M.p ∨ M.now.blk i) W (w7.setCell ⟨M.p, 4, none⟩ (.bool true)) := K8.out.mono (fun i hi => by
                  rcases hi with e | e | e
                  · exact .inl e
                  · exact .inr (.inl e)
                  · exact .inr (.inr (.inr e)))
                have hblk : (w7.setCell ⟨M.p, 4, none⟩ (.bool true)).heap[M.p]? = some (.cells (sArr { M with now := M.now } { S with st := takeSt S.st p u }) 62 (0, 0)) := by
                  rw [HB8.out]
                  simp [sArr, takeSt]
                rw [HT.out]
                refine ⟨_, rfl, HW.out.1.upd hKW (fun i hi => .inl hi) M.now (fun i hi => .inl hi) _ (by simp [takeSt]) hblk hnow, (HBO.out _ K8.out).2.2, ?_, fun i hi => ?_⟩
                · exact (HW.out.2.2.2.2.2.mono (fun i hi => .inr (.inr hi))).trans hKW (fun i hi => by
                    rcases hi with e | e
                    · exact .inl (.inl e)
                    · exact .inl (.inr (.inl e)))
                · rcases hi with hi | hi
                  · exact .inl hi
                  · exact .inr (Nat.le_trans HW.out.2.2.2.2.2.size hi)
              exact AllReadyH.nil
            exact AllReadyH.nil
          exact AllReadyH.nil
        exact AllReadyH.nil
      exact AllReadyH.nil
def takeF (S : SS) (u : ByteArray) : Int × Int × SS := if S.dd = true then (0, 9, S) else takeS S u
theorem take_nil (a : Option Addr) (n c : Nat) (w : World) : Calls Try.prog 9 #[.pointer none, .slice a n c] w fun e w' => e = .returned (.tuple #[.int .i64 0, .int .i64 8]) ∧ Below w.heap.size w w' := by
  have k3 : Below w.heap.size w (((w.alloc (.cells #[.pointer none] 24)).alloc (.cells #[.slice a n c] 28)).alloc (.cells #[.int .i64 0] 3)) := (((Below.refl _ w).alloc (Nat.le_refl _) _).alloc (by simp) _).alloc (by simp; omega) _
  have K3 := Lib.hid k3
  have b3 : Boxed (((w.alloc (.cells #[.pointer none] 24)).alloc (.cells #[.slice a n c] 28)).alloc (.cells #[.int .i64 0] 3)) (w.heap.size + 1 + 1) 3 (.int .i64 0) := by
    have := Boxed.new ((w.alloc (.cells #[.pointer none] 24)).alloc (.cells #[.slice a n c] 28)) 3 (.int .i64 0)
    simpa using this
  have hcs := (b3.set (.int .i64 0)).cell
  clear k3 b3
  go_enter Try.func9, Try.ntmps9
  go_wp2_with (go_at_call 29; refine (alive_nil _ _).mono ?_; rintro e w1 ⟨rfl, rfl⟩)
  refine bodyPost_ret (v := .tuple #[.int .i64 0, .int .i64 8]) (by simp [results, Try.func9, hcs, go_sem]) rfl ?_
  refine ⟨rfl, ?_⟩
  exact K3.out
theorem take_any {V : Nat → Prop} {M : SM} {S : SS} (bv : Value) (u : ByteArray) (w : World) (h : SIs w V M S) (hB : BS w bv u) (hu : u.size ≤ 70368744177664) :
    Calls Try.prog 9 #[pS M.p, bv] w fun e w' => ∃ V', e = .returned (.tuple #[.int .i64 (takeF S u).1, .int .i64 (takeF S u).2.1]) ∧ SIs w' V' M (takeF S u).2.2 ∧ Keep (fun i => i = M.p ∨ M.now.blk i) w w' ∧ ∀ i, V' i → V i ∨ w.heap.size ≤ i := by
  obtain ⟨a, c, rfl⟩ := hB.len
  have k3 : Below w.heap.size w (((w.alloc (.cells #[pS M.p] 24)).alloc (.cells #[.slice a u.size c] 28)).alloc (.cells #[.int .i64 0] 3)) := (((Below.refl _ w).alloc (Nat.le_refl _) _).alloc (by simp) _).alloc (by simp; omega) _
  have hx : ∃ w3, w3 = (((w.alloc (.cells #[pS M.p] 24)).alloc (.cells #[.slice a u.size c] 28)).alloc (.cells #[.int .i64 0] 3)) := ⟨_, rfl⟩
  have b1 : Boxed (((w.alloc (.cells #[pS M.p] 24)).alloc (.cells #[.slice a u.size c] 28)).alloc (.cells #[.int .i64 0] 3)) w.heap.size 24 (pS M.p) := ((Boxed.new w _ _).alloc _).alloc _
  have b2 : Boxed (((w.alloc (.cells #[pS M.p] 24)).alloc (.cells #[.slice a u.size c] 28)).alloc (.cells #[.int .i64 0] 3)) (w.heap.size + 1) 28 (.slice a u.size c) := by
    have := (Boxed.new (w.alloc (.cells #[pS M.p] 24)) 28 (.slice a u.size c)).alloc (.cells #[.int .i64 0] 3)
    simpa using this
  have b3 : Boxed (((w.alloc (.cells #[pS M.p] 24)).alloc (.cells #[.slice a u.size c] 28)).alloc (.cells #[.int .i64 0] 3)) (w.heap.size + 1 + 1) 3 (.int .i64 0) := by
    have := Boxed.new ((w.alloc (.cells #[pS M.p] 24)).alloc (.cells #[.slice a u.size c] 28)) 3 (.int .i64 0)
    simpa using this
  have HAL : Hid (∀ w3, Below w.heap.size w w3 → w.heap.size + 3 ≤ w3.heap.size → Boxed w3 w.heap.size 24 (pS M.p) → Boxed w3 (w.heap.size + 1) 28 (.slice a u.size c) → Boxed w3 (w.heap.size + 1 + 1) 3 (.int .i64 0) →
      Calls Try.prog 29 #[pS M.p, .func (Fn.func 33) #[] #[.pointer (some ⟨w.heap.size + 1, 0, none⟩), .pointer (some ⟨w.heap.size, 0, none⟩), .pointer (some ⟨w.heap.size + 1 + 1, 0, none⟩)]] w3 fun e w' => ∃ V', e = .returned (.int .i64 (takeF S u).2.1) ∧
        SIs w' V' M (takeF S u).2.2 ∧ Boxed w' (w.heap.size + 1 + 1) 3 (.int .i64 (takeF S u).1) ∧ Keep (fun i => i = M.p ∨ M.now.blk i) w w' ∧ ∀ i, V' i → V i ∨ w.heap.size ≤ i) := by
    refine Lib.hid fun w3 hb hsz h1 h2 h3 => ?_
    have h3S := h.below hb
    have hkb : Keep (fun i => i = M.p ∨ M.now.blk i) w w3 := Keep.ofBelow hb _
    by_cases hd : S.dd = true
    · refine (alive_no _ _ h3S hd).mono ?_
      rintro e w' ⟨rfl, rfl⟩
      unfold takeF
      rw [if_pos hd]
      exact ⟨V, rfl, h3S, h3, hkb, fun i hi => .inl hi⟩
    · have ht := takeC (w.heap.size + 1) w.heap.size (w.heap.size + 1 + 1) (.slice a u.size c) u w3 h3S (hB.below hb) hu h2 h1 h3 (fun hf => by have := h.lt _ hf; omega)
      refine (alive_yes _ _ (enters_of Try.func33 (by kernel_rfl) rfl) (fun x w' => x = (takeS S u).2.1 ∧ ∃ V', SIs w' V' M (takeS S u).2.2 ∧ Boxed w' (w.heap.size + 1 + 1) 3 (.int .i64 (takeS S u).1) ∧ Keep (fun i => i = M.p ∨ M.now.blk i) w w' ∧ ∀ i, V' i → V i ∨ w.heap.size ≤ i) w3 h3S (by simpa using hd) (ht.mono ?_)).mono ?_
      · rintro e w' ⟨V', rfl, g1, g2, g3, g4⟩
        refine ⟨_, rfl, rfl, V', g1, g2, hkb.trans g3 (fun i hi => ?_), fun i hi => (g4 i hi).elim .inl (fun h' => .inr (Nat.le_trans hb.size h'))⟩
        rcases hi with e | e | e
        · exact .inl (.inl e)
        · exact .inl (.inr e)
        · exact .inr (by omega)
      · rintro e w' ⟨x, rfl, rfl, V', g1, g2, g3, g4⟩
        unfold takeF
        rw [if_neg hd]
        exact ⟨V', rfl, g1, g2, g3, g4⟩
  have HA := Lib.hid (HAL.out _ k3 (by simp) b1 b2 b3)
  have HL := Lib.hid h
  unfold pS at HA ⊢
  clear k3 hx b1 b2 b3 HAL h
  go_enter Try.func9, Try.ntmps9
  go_wp2_with (first
    | (go_at_call 29; refine HA.out.mono ?_; rintro e w4 ⟨V', rfl, g1, g2, g3, g4⟩
       have G1 := Lib.hid g1
       have G2 := Lib.hid g2
       have G3 := Lib.hid g3
       have c2 := g2.cell
       have f2 := g2.frozen
       have hcs := (g2.set (.int .i64 (takeF S u).1)).cell
       clear g1 g2 g3))
  refine bodyPost_ret (v := .tuple #[.int .i64 (takeF S u).1, .int .i64 (takeF S u).2.1]) (by simp [results, Try.func9, hcs, go_sem]) rfl ?_
  have hlt : ∀ i, M.foot i → i < w.heap.size := HL.out.lt
  have kb : Keep (fun i => i = w.heap.size + 1 + 1) w4 (w4.setCell ⟨w.heap.size + 1 + 1, 0, none⟩ (.int .i64 (takeF S u).1)) := (Keep.refl _ _).setEq _ _
  refine ⟨V', rfl, G1.out.keep kb (fun i hi e => by have := hlt i hi; omega) (fun i c z hc e => ?_), G3.out.trans kb (fun i hi => .inr (by omega)), g4⟩
  rw [e] at hc
  have h1 := G2.out
  unfold Boxed at h1
  rw [hc] at h1
  simp only [Option.some.injEq, Obj.cells.injEq] at h1
  exact absurd h1.2.1 (by decide)
end Go.Proofs.Ytlmngghkhnnaeaa
