/- The walk of a store's Back: its closure. -/
import Derived.Test.YtlmngghkhnnaeaaQMark
import Derived.Laws.IdiomCopy
import Derived.IntWalk
namespace Go.Proofs.Ytlmngghkhnnaeaa
open Go.RowKit
set_option maxRecDepth 100000
set_option maxHeartbeats 1000000
set_option linter.unusedVariables false
set_option linter.unusedSimpArgs false
/-- a store whose change is another one, of new blocks, and whose marks are some of those -/
theorem SIs.turn {V : Nat → Prop} {w w5 : World} {M : SM} {S : SS} (h : SIs w V M S) (hk : Keep (fun i => i = M.p) w w5) (m' : StM) (s' : St) (hm : StIs w5 V m' s') (hnew : ∀ i, m'.blk i → w.heap.size ≤ i) (hlen : s'.taken.length = S.st.taken.length)
    (mV' : Value) (mm' : List StM) (marks' : List St) (hr : w5.ownsRow 0 59 5 mV' marks'.length (mkCells mm' marks')) (hl : mm'.length = marks'.length)
    (hsub : ∀ (i : Nat) m s, mm'[i]? = some m → marks'[i]? = some s → ∃ j : Nat, M.mm[j]? = some m ∧ S.marks[j]? = some s) (hV' : ∀ i, mV'.ownBlock = some i → M.mV.ownBlock = some i)
    (wm' : StM) (ws' : St) (hw : StIs w5 V wm' ws') (hwl : ws'.taken.length = S.st.taken.length) (hws : wm' = M.wasM ∨ ∀ i, wm'.blk i → w.heap.size ≤ i ∧ ¬ m'.blk i)
    (hp : w5.heap[M.p]? = some (.cells (sArr { M with now := m', wasM := wm', mV := mV', mm := mm' } { S with st := s', was := ws', marks := marks' }) 62 (0, 0))) :
    SNext w w5 V V M { M with now := m', wasM := wm', mV := mV', mm := mm' } { S with st := s', was := ws', marks := marks' } := by
  have hB : ∀ i c z, w.heap[i]? = some (.cells c 5 z) → ¬ i = M.p := fun i c z hc e => h.nbytes i c z hc (.inl e)
  have hst : ∀ (m : StM) (s : St), StIs w V m s → ∀ i, m.blk i → ¬ i = M.p := fun m s hs i hi e => absurd (hs.kind i hi _ _ _ (e ▸ h.blk)) (by decide)
  have hmm : ∀ m ∈ mm', m ∈ M.mm := by
    intro m hm
    obtain ⟨k, s, h1, h2⟩ := zip_get hl hm
    obtain ⟨j, h3, _⟩ := hsub k m s h1 h2
    exact List.mem_of_getElem? h3
  have hmlt : ∀ m ∈ M.mm, ∀ i, m.blk i → i < w.heap.size := by
    intro m hm i hi
    obtain ⟨k, s, h1, h2⟩ := zip_get h.mlen hm
    exact (h.mks k m s h1 h2).1.lt i hi
  refine ⟨⟨hp, hm, hw, hr, hl, ?_, h.disk.keep hk (fun i hi e => (h.apart i (.inl e)).2.2.2 hi) hB, hwl.trans hlen.symm, h.ndisk.trans hlen.symm, ?_, ?_, h.stamp, h.head⟩, rfl, rfl, hk.mono (fun i hi => .inl hi), ?_, fun i hi => .inl hi⟩
  · intro i m s h1 h2
    obtain ⟨j, h3, h4⟩ := hsub i m s h1 h2
    obtain ⟨g1, g2⟩ := h.mks j m s h3 h4
    exact ⟨g1.keepB hk (hst _ _ g1) hB, g2.trans hlen.symm⟩
  · intro i hi
    have hi' := hnew i hi
    refine ⟨?_, fun m hm hb => ?_, fun e => ?_⟩
    · rcases hws with e | e
      · intro hb
        have hb' : M.wasM.blk i := by have : wm'.blk i := hb; rwa [e] at this
        have := h.was.lt i hb'; omega
      · intro hb; exact (e i hb).2 hi
    · have := hmlt m (hmm m hm) i hb; omega
    · have := h.lt M.bw (.inr (.inr (.inr (.inr (.inr (.inr (.inr (.inl rfl))))))))
      have e' : i = M.bw := e
      omega
  · have hbw := h.lt M.bw (.inr (.inr (.inr (.inr (.inr (.inr (.inr (.inl rfl))))))))
    rintro i (hi | ⟨m, hm, hi⟩)
    · rcases hws with e | e
      · exact h.sepw i (.inl (by have : wm'.blk i := hi; rwa [e] at this))
      · intro e'
        have := (e i hi).1
        have e' : i = M.bw := e'
        omega
    · exact h.sepw i (.inr ⟨m, hmm m hm, hi⟩)
  · rintro i (e | e | e | ⟨m, hm, e⟩ | e | e)
    · exact .inl (.inl e)
    · exact .inr (hnew i e)
    · rcases hws with e' | e'
      · left; right; right; left
        have : wm'.blk i := e
        rwa [e'] at this
      · exact .inr (e' i e).1
    · exact .inl (.inr (.inr (.inr (.inl ⟨m, hmm m hm, e⟩))))
    · exact .inl (.inr (.inr (.inr (.inr (.inl (hV' i e))))))
    · exact .inl (.inr (.inr (.inr (.inr (.inr e)))))
/-- back to a mark -/
def backS (S : SS) (x : Int) : Int × SS := if x < 1 ∨ (S.marks.length : Int) < x then (1, S) else (0, { S with st := S.marks.getD (x.toNat - 1) S.st, marks := S.marks.take x.toNat })
theorem slice60 (g n c k : Nat) (x : Int) (hx : x = k) (h0 : 0 < n) (hk : k ≤ n) (hn : n ≤ c) (hc : c ≤ maxLen) (W : World) : (Instr.slice 60 (.slice (some ⟨g, 0, none⟩) n c) none (some (.int .i64 x)) none).run Try.prog W = .ok (.slice (some ⟨g, 0, none⟩) k c) W := by
  subst hx
  have e60 : Try.prog.underlying 60 = some (.slice (Try.prog.elem 60)) := by kernel_rfl
  have so5 : ∀ W, (sizeOf (Try.prog.elem 60)).run Try.prog W = .ok 5 W := fun W => by kernel_rfl
  rw [run_slice_h (P := Try.prog) W 60 (some ⟨g, 0, none⟩) n c e60 .i64 (k : Int) (by omega) (by omega), so5]
  simp only [Result.andThen, sliced, Int.toNat_natCast]
  rw [if_neg (by omega)]
  simp [Addr.add]
theorem drew_heap (w : World) : w.drew.heap = w.heap := rfl
theorem back_end {V : Nat → Prop} {w w1 : World} {M : SM} {S : SS} (h : SIs w V M S) (g c : Nat) (hg : M.mV = .slice (some ⟨g, 0, none⟩) S.marks.length c) (x : Int) (h1 : 1 ≤ x) (h2 : x ≤ S.marks.length) (m' : StM) (hb : Below w.heap.size w w1)
    (hst : StIs w1 V m' (S.marks.getD (x.toNat - 1) S.st)) (hnew : ∀ i, m'.blk i → w.heap.size ≤ i) :
    SNext w (((w1.setCells M.p 0 (stCells m' (S.marks.getD (x.toNat - 1) S.st))).setCell ⟨M.p, 11, none⟩ (.slice (some ⟨g, 0, none⟩) x.toNat c)).drew) V V M { M with now := m', mV := .slice (some ⟨g, 0, none⟩) x.toNat c, mm := M.mm.take x.toNat } (backS S x).2 := by
  obtain ⟨k, rfl⟩ : ∃ k : Nat, x = k := ⟨x.toNat, by omega⟩
  simp only [Int.toNat_natCast] at hst ⊢
  have hpl : M.p < w.heap.size := blk_lt h.blk
  have hk0 : k - 1 < S.marks.length := by omega
  have hget : S.marks.getD (k - 1) S.st = S.marks[k - 1] := by rw [List.getD_eq_getElem?_getD, List.getElem?_eq_getElem hk0]; rfl
  have hlen : (S.marks.getD (k - 1) S.st).taken.length = S.st.taken.length := by
    rw [hget]
    exact (h.mks (k - 1) (M.mm[k - 1]'(by rw [h.mlen]; exact hk0)) _ (List.getElem?_eq_getElem _) (List.getElem?_eq_getElem hk0)).2
  have hb1 : w1.heap[M.p]? = some (.cells (sArr M S) 62 (0, 0)) := (Keep.ofBelow hb (fun _ => False)).blk h.blk (fun h => h)
  have hb2 := blk_setCells (stCells m' (S.marks.getD (k - 1) S.st)) 0 w1 _ hb1
  rw [sArr_now] at hb2
  have hb3 := blk_setCell hb2 11 (.slice (some ⟨g, 0, none⟩) k c)
  have kp : Keep (fun i => i = M.p) w (((w1.setCells M.p 0 (stCells m' (S.marks.getD (k - 1) S.st))).setCell ⟨M.p, 11, none⟩ (.slice (some ⟨g, 0, none⟩) k c)).drew) := ((Keep.setCells _ 0 w1 (Keep.ofBelow hb (fun i => i = M.p))).setEq 11 _).drew
  have kp1 : Keep (fun i => i = M.p) w1 (((w1.setCells M.p 0 (stCells m' (S.marks.getD (k - 1) S.st))).setCell ⟨M.p, 11, none⟩ (.slice (some ⟨g, 0, none⟩) k c)).drew) := ((Keep.setCells _ 0 w1 (Keep.refl _ w1)).setEq 11 _).drew
  have hB : ∀ i c z, w.heap[i]? = some (.cells c 5 z) → ¬ i = M.p := fun i c z hc e => h.nbytes i c z hc (.inl e)
  have e := h.turn kp m' (S.marks.getD (k - 1) S.st) (hst.keepB kp1 (fun i hi e => by have := hnew i hi; omega) (fun i c' z hc e => by rw [e, hb1] at hc; cases hc)) hnew hlen (.slice (some ⟨g, 0, none⟩) k c) (M.mm.take k) (S.marks.take k) ?_ (by simp [h.mlen])
    (fun i m s h1 h2 => by
      rw [List.getElem?_take] at h1 h2
      by_cases hi : i < k
      · rw [if_pos hi] at h1 h2; exact ⟨i, h1, h2⟩
      · rw [if_neg hi] at h1; cases h1) (fun i hi => by rw [hg]; exact hi) M.wasM S.was (h.was.keepB kp (fun i hi e => absurd (h.was.kind i hi _ _ _ (e ▸ h.blk)) (by decide)) hB) h.nwas (.inl rfl) ?_
  · have hbs : (backS S k).2 = { S with st := S.marks.getD (k - 1) S.st, was := S.was, marks := S.marks.take k } := by
      unfold backS
      rw [if_neg (by omega), Int.toNat_natCast]
    rw [hbs]
    exact e
  · have hr := row_kept h.mrow kp (fun i hi e => mV_p h (e ▸ hi))
    refine ⟨by rw [mkCells_len _ _ (by simp [h.mlen])], ?_⟩
    rcases hr.2 with ⟨hn, _⟩ | ⟨g', cap, cur, he, hB', hgg, hn, hm, hs, ht⟩
    · rw [hg] at hn; cases hn
    · rw [hg] at he
      injection he with he1 he2 he3
      injection he1 with he1
      injection he1 with he1
      subst he1; subst he3
      refine .inr ⟨g, c, cur, by simp [show min k S.marks.length = k by omega], hB', hgg, by simp; omega, hm, hs, ?_⟩
      rw [mkCells_take k _ _ h.mlen, ← ht, List.take_take, List.length_take, show min k S.marks.length = k by omega, show min (k * 5) (S.marks.length * 5) = k * 5 by omega]
  · rw [drew_heap, hb3]
    congr 2
theorem backC {V : Nat → Prop} {M : SM} {S : SS} (qm qs : Nat) (x : Int) (w : World) (h : SIs w V M S) (cs : Boxed w qs 24 (pS M.p)) (cm : Boxed w qm 3 (.int .i64 x)) (hm : S.marks.length ≤ 1000001) :
    Calls Try.prog 56 #[.pointer (some ⟨qm, 0, none⟩), .pointer (some ⟨qs, 0, none⟩)] w fun e w' => e = .returned (.int .i64 (backS S x).1) ∧ ∃ M', SNext w w' V V M M' (backS S x).2 := by
  have HH := Lib.hid h
  obtain ⟨n, hn⟩ : ∃ n, n = S.marks.length := ⟨_, rfl⟩
  have hbs : backS S x = if x < 1 ∨ (n : Int) < x then (1, S) else (0, { S with st := S.marks.getD (x.toNat - 1) S.st, marks := S.marks.take x.toNat }) := by rw [hn]; rfl
  obtain ⟨va, vc, hmv⟩ : ∃ a c, M.mV = .slice a n c := by
    rcases h.mrow.2 with ⟨e, h0⟩ | ⟨g, cap, cur, e, _⟩
    · exact ⟨none, 0, by rw [e, hn, h0]⟩
    · exact ⟨_, _, by rw [e, hn]⟩
  obtain ⟨p, hp⟩ : ∃ p, p = M.p := ⟨_, rfl⟩
  have HBX := Lib.hid fun (X : World) (hX : Keep (fun i => i = p) w X) => show X.cell? ⟨qs, 0, none⟩ = some (.pointer (some ⟨p, 0, none⟩)) ∧ X.cell? ⟨qm, 0, none⟩ = some (.int .i64 x) by
    have hpb := h.blk
    have key : ∀ b T v, Boxed w b T v → T ≠ 62 → ¬ b = p := by
      rintro b T v hb hT' rfl
      unfold Boxed at hb; rw [hp, hpb] at hb; simp only [Option.some.injEq, Obj.cells.injEq] at hb; exact hT' hb.2.1.symm
    have b1 := (hX.blk cs (key _ _ _ cs (by decide)))
    have b2 := (hX.blk cm (key _ _ _ cm (by decide)))
    exact ⟨by rw [blk_cell b1, hp]; rfl, by rw [blk_cell b2]; rfl⟩
  have HD0 := Lib.hid (HBX.out w.drew ((Keep.refl _ w).drew))
  have hc11 : w.drew.cell? ⟨p, 11, none⟩ = some (.slice va n vc) := by rw [hp]; exact hmv ▸ blk_cell h.blk 11
  have hnm : n ≤ 1000001 := by omega
  by_cases h1 : x < 1
  · rw [if_pos (.inl h1)] at hbs
    have HBS := Lib.hid hbs
    have hq : decide (x < 1) = true := decide_eq_true h1
    clear h hn hbs cs cm hm hmv hp
    go_enter Try.func56, Try.ntmps56
    go_wp2_with fail
    refine wp_region_held_drew (S := (fun w' => w'.cell? ⟨qs, 0, none⟩ = some (.pointer (some ⟨p, 0, none⟩)) ∧ w'.cell? ⟨qm, 0, none⟩ = some (.int .i64 x))) (by kernel_rfl) ?_ (fun hHeld0 => ?_)
    · (try dsimp only)
      with_reducible exact HD0.out
    refine takeN (v := ?_) 0 rfl (by kernel_rfl) (by kernel_rfl) (by kernel_rfl) (fun _ _ _ h => h) (by rfl) ?_ hHeld0 ?_
    rotate_left
    · intro w hSw; (try dsimp only at hSw); go_simp; with_reducible rfl
    try simp only [Act.put, List.setIfInBounds_toArray, List.set_cons_zero, List.set_cons_succ]
    refine takeN (v := ?_) 1 rfl (by kernel_rfl) (by kernel_rfl) (by kernel_rfl) (fun _ _ _ h => h) (by rfl) ?_ hHeld0 ?_
    rotate_left
    · intro w hSw; (try dsimp only at hSw); go_simp; with_reducible rfl
    try simp only [Act.put, List.setIfInBounds_toArray, List.set_cons_zero, List.set_cons_succ]
    refine takeN (v := ?_) 2 rfl (by kernel_rfl) (by kernel_rfl) (by kernel_rfl) (fun _ _ _ h => h) (by rfl) ?_ hHeld0 ?_
    rotate_left
    · intro w hSw; (try dsimp only at hSw); go_simp; with_reducible rfl
    try simp only [Act.put, List.setIfInBounds_toArray, List.set_cons_zero, List.set_cons_succ]
    refine skipN 3 rfl (by kernel_rfl) (by kernel_rfl) (by kernel_rfl) (fun _ _ _ h => h) (by rfl) hHeld0 ?_
    try simp only [Act.put, List.setIfInBounds_toArray, List.set_cons_zero, List.set_cons_succ]
    refine skipN 4 rfl (by kernel_rfl) (by kernel_rfl) (by kernel_rfl) (fun _ _ _ h => h) (by rfl) hHeld0 ?_
    try simp only [Act.put, List.setIfInBounds_toArray, List.set_cons_zero, List.set_cons_succ]
    refine skipN 5 rfl (by kernel_rfl) (by kernel_rfl) (by kernel_rfl) (fun _ _ _ h => h) (by rfl) hHeld0 ?_
    try simp only [Act.put, List.setIfInBounds_toArray, List.set_cons_zero, List.set_cons_succ]
    refine skipN 6 rfl (by kernel_rfl) (by kernel_rfl) (by kernel_rfl) (fun _ _ _ h => h) (by rfl) hHeld0 ?_
    try simp only [Act.put, List.setIfInBounds_toArray, List.set_cons_zero, List.set_cons_succ]
    refine skipN 7 rfl (by kernel_rfl) (by kernel_rfl) (by kernel_rfl) (fun _ _ _ h => h) (by rfl) hHeld0 ?_
    try simp only [Act.put, List.setIfInBounds_toArray, List.set_cons_zero, List.set_cons_succ]
    refine skipN 8 rfl (by kernel_rfl) (by kernel_rfl) (by kernel_rfl) (fun _ _ _ h => h) (by rfl) hHeld0 ?_
    try simp only [Act.put, List.setIfInBounds_toArray, List.set_cons_zero, List.set_cons_succ]
    refine skipN 9 rfl (by kernel_rfl) (by kernel_rfl) (by kernel_rfl) (fun _ _ _ h => h) (by rfl) hHeld0 ?_
    try simp only [Act.put, List.setIfInBounds_toArray, List.set_cons_zero, List.set_cons_succ]
    refine takeN (v := ?_) 10 rfl (by kernel_rfl) (by kernel_rfl) (by kernel_rfl) (fun _ _ _ h => h) (by rfl) ?_ hHeld0 ?_
    rotate_left
    · intro w hSw; (try dsimp only at hSw); go_simp; with_reducible rfl
    try simp only [Act.put, List.setIfInBounds_toArray, List.set_cons_zero, List.set_cons_succ]
    refine wpAnyH_done (by kernel_rfl) ?_ _
    go_wp2
    go_ret
    rw [HBS.out]
    exact ⟨rfl, M, SNext.refl HH.out ((Below.refl _ w).drew)⟩
  · have hq : decide (x < 1) = false := decide_eq_false h1
    by_cases h2 : (n : Int) < x
    · rw [if_pos (.inr h2)] at hbs
      have HBS := Lib.hid hbs
      have hq2 : decide (x > (n : Int)) = true := decide_eq_true h2
      clear h hn hbs cs cm hm hmv hp
      go_enter Try.func56, Try.ntmps56
      go_wp2_with fail
      refine wp_region_held_drew (S := (fun w' => w'.cell? ⟨qs, 0, none⟩ = some (.pointer (some ⟨p, 0, none⟩)) ∧ w'.cell? ⟨qm, 0, none⟩ = some (.int .i64 x) ∧ w'.cell? ⟨p, 11, none⟩ = some (.slice va n vc))) (by kernel_rfl) ?_ (fun hHeld0 => ?_)
      · (try dsimp only)
        with_reducible exact ⟨HD0.out.1, HD0.out.2, hc11⟩
      refine takeN (v := ?_) 0 rfl (by kernel_rfl) (by kernel_rfl) (by kernel_rfl) (fun _ _ _ h => h) (by rfl) ?_ hHeld0 ?_
      rotate_left
      · intro w hSw; (try dsimp only at hSw); go_simp; with_reducible rfl
      try simp only [Act.put, List.setIfInBounds_toArray, List.set_cons_zero, List.set_cons_succ]
      refine takeN (v := ?_) 1 rfl (by kernel_rfl) (by kernel_rfl) (by kernel_rfl) (fun _ _ _ h => h) (by rfl) ?_ hHeld0 ?_
      rotate_left
      · intro w hSw; (try dsimp only at hSw); go_simp; with_reducible rfl
      try simp only [Act.put, List.setIfInBounds_toArray, List.set_cons_zero, List.set_cons_succ]
      refine takeN (v := ?_) 2 rfl (by kernel_rfl) (by kernel_rfl) (by kernel_rfl) (fun _ _ _ h => h) (by rfl) ?_ hHeld0 ?_
      rotate_left
      · intro w hSw; (try dsimp only at hSw); go_simp; with_reducible rfl
      try simp only [Act.put, List.setIfInBounds_toArray, List.set_cons_zero, List.set_cons_succ]
      refine takeN (v := ?_) 3 rfl (by kernel_rfl) (by kernel_rfl) (by kernel_rfl) (fun _ _ _ h => h) (by rfl) ?_ hHeld0 ?_
      rotate_left
      · intro w hSw; (try dsimp only at hSw); go_simp; with_reducible rfl
      try simp only [Act.put, List.setIfInBounds_toArray, List.set_cons_zero, List.set_cons_succ]
      refine takeN (v := ?_) 4 rfl (by kernel_rfl) (by kernel_rfl) (by kernel_rfl) (fun _ _ _ h => h) (by rfl) ?_ hHeld0 ?_
      rotate_left
      · intro w hSw; (try dsimp only at hSw); go_simp; with_reducible rfl
      try simp only [Act.put, List.setIfInBounds_toArray, List.set_cons_zero, List.set_cons_succ]
      refine takeN (v := ?_) 5 rfl (by kernel_rfl) (by kernel_rfl) (by kernel_rfl) (fun _ _ _ h => h) (by rfl) ?_ hHeld0 ?_
      rotate_left
      · intro w hSw; (try dsimp only at hSw); go_simp; with_reducible rfl
      try simp only [Act.put, List.setIfInBounds_toArray, List.set_cons_zero, List.set_cons_succ]
      refine takeN (v := ?_) 6 rfl (by kernel_rfl) (by kernel_rfl) (by kernel_rfl) (fun _ _ _ h => h) (by rfl) ?_ hHeld0 ?_
      rotate_left
      · intro w hSw; (try dsimp only at hSw); go_simp; with_reducible rfl
      try simp only [Act.put, List.setIfInBounds_toArray, List.set_cons_zero, List.set_cons_succ]
      refine takeN (v := ?_) 7 rfl (by kernel_rfl) (by kernel_rfl) (by kernel_rfl) (fun _ _ _ h => h) (by rfl) ?_ hHeld0 ?_
      rotate_left
      · intro w hSw; (try dsimp only at hSw); go_simp; with_reducible rfl
      try simp only [Act.put, List.setIfInBounds_toArray, List.set_cons_zero, List.set_cons_succ]
      refine wpAnyH_ready (rs := [8]) (by kernel_rfl) (by simp) ?_
      refine readyN rfl (fun K hK => ?_) ?_
      · -- operation 8
        go_simp
        refine hK.out _ _ ?_ (fun hHeld1 => ?_)
        · (try dsimp only)
          with_reducible exact ⟨HD0.out.1, HD0.out.2, hc11⟩
        clear hK K hHeld0
        try simp only [Act.put, List.setIfInBounds_toArray, List.set_cons_zero, List.set_cons_succ]
        refine takeN (v := ?_) 9 rfl (by kernel_rfl) (by kernel_rfl) (by kernel_rfl) (fun _ _ _ h => h) (by rfl) ?_ hHeld1 ?_
        rotate_left
        · intro w hSw; (try dsimp only at hSw); go_simp; with_reducible rfl
        try simp only [Act.put, List.setIfInBounds_toArray, List.set_cons_zero, List.set_cons_succ]
        refine takeN (v := ?_) 10 rfl (by kernel_rfl) (by kernel_rfl) (by kernel_rfl) (fun _ _ _ h => h) (by rfl) ?_ hHeld1 ?_
        rotate_left
        · intro w hSw; (try dsimp only at hSw); go_simp; with_reducible rfl
        try simp only [Act.put, List.setIfInBounds_toArray, List.set_cons_zero, List.set_cons_succ]
        refine wpAnyH_done (by kernel_rfl) ?_ _
        go_wp2
        go_ret
        rw [HBS.out]
        exact ⟨rfl, M, SNext.refl HH.out ((Below.refl _ w).drew)⟩
      exact AllReadyH.nil
    · rw [if_neg (by omega)] at hbs
      have hq2 : decide (x > (n : Int)) = false := decide_eq_false (by omega)
      have hxl : x ≤ (n : Int) := by omega
      obtain ⟨g, hg⟩ : ∃ g, va = some ⟨g, 0, none⟩ ∧ n ≤ vc ∧ vc ≤ maxLen := by
        rcases h.mrow.2 with ⟨e, h0⟩ | ⟨g, cap, cur, e, _, _, hnc, hcm, _⟩
        · omega
        · rw [hmv] at e
          injection e with e1 e2 e3
          exact ⟨g, e1, by omega, by omega⟩
      obtain ⟨hva, hnc, hcm⟩ := hg
      subst hva
      obtain ⟨k, hk⟩ : ∃ k : Nat, x = k := ⟨x.toNat, by omega⟩
      have hk0 : k - 1 < S.marks.length := by omega
      have hk1 : k - 1 < M.mm.length := by rw [h.mlen]; exact hk0
      have hget : S.marks.getD (x.toNat - 1) S.st = S.marks[k - 1] := by rw [List.getD_eq_getElem?_getD, show x.toNat - 1 = k - 1 by omega, List.getElem?_eq_getElem hk0]; rfl
      have hms := (h.mks (k - 1) M.mm[k - 1] (S.marks.getD (x.toNat - 1) S.st) (List.getElem?_eq_getElem hk1) (by rw [hget]; exact List.getElem?_eq_getElem hk0)).1
      have hcell : ∀ j v, (stCells M.mm[k - 1] (S.marks.getD (x.toNat - 1) S.st))[j]? = some v → w.cell? ⟨g, (x.toNat - 1) * 5 + j, none⟩ = some v := by
        intro j v hj
        have h3 := h.mrow.cells (g := g) (by rw [hmv]; rfl) _ _ (mkCells_get M.mm S.marks (k - 1) M.mm[k - 1] (S.marks.getD (x.toNat - 1) S.st) (List.getElem?_eq_getElem hk1) (by rw [hget]; exact List.getElem?_eq_getElem hk0) j v hj)
        rw [Go.WideShapes.add_plain, Nat.zero_add] at h3
        rwa [show x.toNat - 1 = k - 1 by omega]
      obtain ⟨m0, hm0⟩ : ∃ m0, m0 = M.mm[k - 1] := ⟨_, rfl⟩
      obtain ⟨s0, hs0⟩ : ∃ s0, s0 = S.marks.getD (x.toNat - 1) S.st := ⟨_, rfl⟩
      rw [← hm0, ← hs0] at hms hcell
      have HCL := Lib.hid (show ∀ j v, (stCells m0 s0)[j]? = some v → w.drew.cell? ⟨g, (x.toNat - 1) * 5 + j, none⟩ = some v from hcell)
      have HMS := Lib.hid (copied_any V m0 s0 w.drew.drew (hms.below (((Below.refl _ w).drew).drew)))
      have HSL := Lib.hid fun (W : World) => slice60 g n vc x.toNat x (by omega) (by omega) (by omega) hnc hcm W
      have hsl := HSL.out
      have HEND := Lib.hid fun (m' : StM) (w1 : World) (hb : Below w.heap.size w w1) (hst : StIs w1 V m' s0) (hnew : ∀ i, m'.blk i → w.heap.size ≤ i) => back_end h g vc (by rw [hmv, hn]) x (by omega) (by omega) m' hb (hs0 ▸ hst) hnew
      rw [← hs0, ← hp] at HEND
      have HP0 := Lib.hid (show w.heap[p]? = some (.cells (sArr M S) 62 (0, 0)) by rw [hp]; exact h.blk)
      have HBS := Lib.hid hbs
      have i1 : ¬ (x - 1 < 0) := by omega
      have i2 : x - 1 < (n : Int) := by omega
      have i3 : (1 : Int) ≤ x := by omega
      have i4 : 0 ≤ x - 1 := by omega
      have i5 : (x - 1).toNat < n := by omega
      have i6 : IntKind.i64.wrap (x - 1) = x - 1 := IntWalk.i64_in _ (by omega)
      clear h hn hbs cs cm hm hmv hp hget hms hcell hm0 hs0 hk0 hk1 hk
      go_enter Try.func56, Try.ntmps56
      go_wp2_with fail
      refine wp_region_held_drew (S := (fun w' => w'.cell? ⟨qs, 0, none⟩ = some (.pointer (some ⟨p, 0, none⟩)) ∧ w'.cell? ⟨qm, 0, none⟩ = some (.int .i64 x) ∧ w'.cell? ⟨p, 11, none⟩ = some (.slice (some ⟨g, 0, none⟩) n vc))) (by kernel_rfl) ?_ (fun hHeld0 => ?_)
      · (try dsimp only)
        with_reducible exact ⟨HD0.out.1, HD0.out.2, hc11⟩
      refine takeN (v := ?_) 0 rfl (by kernel_rfl) (by kernel_rfl) (by kernel_rfl) (fun _ _ _ h => h) (by rfl) ?_ hHeld0 ?_
      rotate_left
      · intro w hSw; (try dsimp only at hSw); go_simp; with_reducible rfl
      try simp only [Act.put, List.setIfInBounds_toArray, List.set_cons_zero, List.set_cons_succ]
      refine takeN (v := ?_) 1 rfl (by kernel_rfl) (by kernel_rfl) (by kernel_rfl) (fun _ _ _ h => h) (by rfl) ?_ hHeld0 ?_
      rotate_left
      · intro w hSw; (try dsimp only at hSw); go_simp; with_reducible rfl
      try simp only [Act.put, List.setIfInBounds_toArray, List.set_cons_zero, List.set_cons_succ]
      refine takeN (v := ?_) 2 rfl (by kernel_rfl) (by kernel_rfl) (by kernel_rfl) (fun _ _ _ h => h) (by rfl) ?_ hHeld0 ?_
      rotate_left
      · intro w hSw; (try dsimp only at hSw); go_simp; with_reducible rfl
      try simp only [Act.put, List.setIfInBounds_toArray, List.set_cons_zero, List.set_cons_succ]
      refine takeN (v := ?_) 3 rfl (by kernel_rfl) (by kernel_rfl) (by kernel_rfl) (fun _ _ _ h => h) (by rfl) ?_ hHeld0 ?_
      rotate_left
      · intro w hSw; (try dsimp only at hSw); go_simp; with_reducible rfl
      try simp only [Act.put, List.setIfInBounds_toArray, List.set_cons_zero, List.set_cons_succ]
      refine takeN (v := ?_) 4 rfl (by kernel_rfl) (by kernel_rfl) (by kernel_rfl) (fun _ _ _ h => h) (by rfl) ?_ hHeld0 ?_
      rotate_left
      · intro w hSw; (try dsimp only at hSw); go_simp; with_reducible rfl
      try simp only [Act.put, List.setIfInBounds_toArray, List.set_cons_zero, List.set_cons_succ]
      refine takeN (v := ?_) 5 rfl (by kernel_rfl) (by kernel_rfl) (by kernel_rfl) (fun _ _ _ h => h) (by rfl) ?_ hHeld0 ?_
      rotate_left
      · intro w hSw; (try dsimp only at hSw); go_simp; with_reducible rfl
      try simp only [Act.put, List.setIfInBounds_toArray, List.set_cons_zero, List.set_cons_succ]
      refine takeN (v := ?_) 6 rfl (by kernel_rfl) (by kernel_rfl) (by kernel_rfl) (fun _ _ _ h => h) (by rfl) ?_ hHeld0 ?_
      rotate_left
      · intro w hSw; (try dsimp only at hSw); go_simp; with_reducible rfl
      try simp only [Act.put, List.setIfInBounds_toArray, List.set_cons_zero, List.set_cons_succ]
      refine takeN (v := ?_) 7 rfl (by kernel_rfl) (by kernel_rfl) (by kernel_rfl) (fun _ _ _ h => h) (by rfl) ?_ hHeld0 ?_
      rotate_left
      · intro w hSw; (try dsimp only at hSw); go_simp; with_reducible rfl
      try simp only [Act.put, List.setIfInBounds_toArray, List.set_cons_zero, List.set_cons_succ]
      refine wpAnyH_ready (rs := [8]) (by kernel_rfl) (by simp) ?_
      refine readyN rfl (fun K hK => ?_) ?_
      · -- operation 8
        go_simp
        refine hK.out _ _ ?_ (fun hHeld1 => ?_)
        · (try dsimp only)
          with_reducible exact ⟨HD0.out.1, HD0.out.2, hc11⟩
        clear hK K hHeld0
        try simp only [Act.put, List.setIfInBounds_toArray, List.set_cons_zero, List.set_cons_succ]
        refine takeN (v := ?_) 9 rfl (by kernel_rfl) (by kernel_rfl) (by kernel_rfl) (fun _ _ _ h => h) (by rfl) ?_ hHeld1 ?_
        rotate_left
        · intro w hSw; (try dsimp only at hSw); go_simp; with_reducible rfl
        try simp only [Act.put, List.setIfInBounds_toArray, List.set_cons_zero, List.set_cons_succ]
        refine takeN (v := ?_) 10 rfl (by kernel_rfl) (by kernel_rfl) (by kernel_rfl) (fun _ _ _ h => h) (by rfl) ?_ hHeld1 ?_
        rotate_left
        · intro w hSw; (try dsimp only at hSw); go_simp; with_reducible rfl
        try simp only [Act.put, List.setIfInBounds_toArray, List.set_cons_zero, List.set_cons_succ]
        refine wpAnyH_done (by kernel_rfl) ?_ _
        have hd2 : w.drew.drew.cell? ⟨p, 11, none⟩ = some (.slice (some ⟨g, 0, none⟩) n vc) := hc11
        have HD2 := Lib.hid (And.intro (show w.drew.drew.cell? ⟨qs, 0, none⟩ = some (.pointer (some ⟨p, 0, none⟩)) from HD0.out.1) (And.intro (show w.drew.drew.cell? ⟨qm, 0, none⟩ = some (.int .i64 x) from HD0.out.2) hd2))
        go_wp2_with fail
        refine wp_region_held_drew (S := (fun w' => w'.cell? ⟨qs, 0, none⟩ = some (.pointer (some ⟨p, 0, none⟩)) ∧ w'.cell? ⟨qm, 0, none⟩ = some (.int .i64 x) ∧ w'.cell? ⟨p, 11, none⟩ = some (.slice (some ⟨g, 0, none⟩) n vc))) (by kernel_rfl) ?_ (fun hHeld0 => ?_)
        · (try dsimp only)
          first | with_reducible exact HD2.out | with_reducible exact HD3.out | with_reducible exact HD4.out
        refine takeN (v := ?_) 0 rfl (by kernel_rfl) (by kernel_rfl) (by kernel_rfl) (fun _ _ _ h => h) (by rfl) ?_ hHeld0 ?_
        rotate_left
        · intro w hSw; (try dsimp only at hSw); go_simp; with_reducible rfl
        try simp only [Act.put, List.setIfInBounds_toArray, List.set_cons_zero, List.set_cons_succ]
        refine takeN (v := ?_) 1 rfl (by kernel_rfl) (by kernel_rfl) (by kernel_rfl) (fun _ _ _ h => h) (by rfl) ?_ hHeld0 ?_
        rotate_left
        · intro w hSw; (try dsimp only at hSw); go_simp; with_reducible rfl
        try simp only [Act.put, List.setIfInBounds_toArray, List.set_cons_zero, List.set_cons_succ]
        refine takeN (v := ?_) 2 rfl (by kernel_rfl) (by kernel_rfl) (by kernel_rfl) (fun _ _ _ h => h) (by rfl) ?_ hHeld0 ?_
        rotate_left
        · intro w hSw; (try dsimp only at hSw); go_simp; with_reducible rfl
        try simp only [Act.put, List.setIfInBounds_toArray, List.set_cons_zero, List.set_cons_succ]
        refine takeN (v := ?_) 3 rfl (by kernel_rfl) (by kernel_rfl) (by kernel_rfl) (fun _ _ _ h => h) (by rfl) ?_ hHeld0 ?_
        rotate_left
        · intro w hSw; (try dsimp only at hSw); go_simp; with_reducible rfl
        try simp only [Act.put, List.setIfInBounds_toArray, List.set_cons_zero, List.set_cons_succ]
        refine takeN (v := ?_) 4 rfl (by kernel_rfl) (by kernel_rfl) (by kernel_rfl) (fun _ _ _ h => h) (by rfl) ?_ hHeld0 ?_
        rotate_left
        · intro w hSw; (try dsimp only at hSw); go_simp; with_reducible rfl
        try simp only [Act.put, List.setIfInBounds_toArray, List.set_cons_zero, List.set_cons_succ]
        refine takeN (v := ?_) 5 rfl (by kernel_rfl) (by kernel_rfl) (by kernel_rfl) (fun _ _ _ h => h) (by rfl) ?_ hHeld0 ?_
        rotate_left
        · intro w hSw; (try dsimp only at hSw); go_simp; with_reducible rfl
        try simp only [Act.put, List.setIfInBounds_toArray, List.set_cons_zero, List.set_cons_succ]
        refine takeN (v := ?_) 6 rfl (by kernel_rfl) (by kernel_rfl) (by kernel_rfl) (fun _ _ _ h => h) (by rfl) ?_ hHeld0 ?_
        rotate_left
        · intro w hSw; (try dsimp only at hSw); go_simp; with_reducible rfl
        try simp only [Act.put, List.setIfInBounds_toArray, List.set_cons_zero, List.set_cons_succ]
        refine takeN (v := ?_) 7 rfl (by kernel_rfl) (by kernel_rfl) (by kernel_rfl) (fun _ _ _ h => h) (by rfl) ?_ hHeld0 ?_
        rotate_left
        · intro w hSw; (try dsimp only at hSw); go_simp; with_reducible rfl
        try simp only [Act.put, List.setIfInBounds_toArray, List.set_cons_zero, List.set_cons_succ]
        refine wpAnyH_ready (rs := [8]) (by kernel_rfl) (by simp) ?_
        refine readyN rfl (fun K hK => ?_) ?_
        · -- operation 8
          first
            | (refine wp_load5 (.tmp 21) rfl g ((x.toNat - 1) * 5) rfl (stCells m0 s0) rfl HCL.out ?_)
            | (refine wp_store5 (.tmp 25) (.tmp 23) rfl p 0 rfl (stCells m' s0) rfl rfl 62 (sArr M S) HP1.out (by simp [sArr]) (stCells_one _ _) ?_)
            | (go_at_call 32; refine HMS.out.mono ?_; rintro e w1 ⟨m', rfl, hst, hnew, hb⟩
               have HB1 := Lib.hid (show Below w.heap.size w w1 from (((Below.refl w.heap.size w).drew).drew).trans hb)
               have HE := Lib.hid (HEND.out m' w1 HB1.out hst hnew)
               have HP1 := Lib.hid ((Keep.ofBelow HB1.out (fun _ => False)).blk HP0.out (fun h => h))
               have HD3 := Lib.hid (And.intro (HBX.out w1 (Keep.ofBelow HB1.out _)).1 (And.intro (HBX.out w1 (Keep.ofBelow HB1.out _)).2 (show w1.cell? ⟨p, 11, none⟩ = some (.slice (some ⟨g, 0, none⟩) n vc) from (Keep.ofBelow HB1.out (fun _ => False)).cell hc11 (fun h => h))))
               have HK4 := Lib.hid (Keep.setCells (stCells m' s0) 0 w1 (Keep.ofBelow HB1.out (fun i => i = p)))
               have HD4 := Lib.hid (And.intro (HBX.out _ HK4.out).1 (And.intro (HBX.out _ HK4.out).2 (show (w1.setCells p 0 (stCells m' s0)).cell? ⟨p, 11, none⟩ = some (.slice (some ⟨g, 0, none⟩) n vc) from ((World.cell?_setCells_out p (stCells m' s0) 0 w1 ⟨p, 11, none⟩ (fun _ _ => .inr (by show 0 + (stCells m' s0).length ≤ 11; rw [stCells_len]; omega))).trans HD3.out.2.2))))
               clear hst hnew hb)
          refine hK.out _ _ ?_ (fun hHeld1 => ?_)
          · (try dsimp only)
            first | with_reducible exact HD2.out | with_reducible exact HD3.out | with_reducible exact HD4.out
          clear hK K hHeld0
          try simp only [Act.put, List.setIfInBounds_toArray, List.set_cons_zero, List.set_cons_succ]
          refine wpAnyH_ready (rs := [9]) (by kernel_rfl) (by simp) ?_
          refine readyN rfl (fun K hK => ?_) ?_
          · -- operation 9
            go_simp
            first
              | (refine wp_load5 (.tmp 21) rfl g ((x.toNat - 1) * 5) rfl (stCells m0 s0) rfl HCL.out ?_)
              | (refine wp_store5 (.tmp 25) (.tmp 23) rfl p 0 rfl (stCells m' s0) rfl rfl 62 (sArr M S) HP1.out (by simp [sArr]) (stCells_one _ _) ?_)
              | (go_at_call 32; refine HMS.out.mono ?_; rintro e w1 ⟨m', rfl, hst, hnew, hb⟩
                 have HB1 := Lib.hid (show Below w.heap.size w w1 from (((Below.refl w.heap.size w).drew).drew).trans hb)
                 have HE := Lib.hid (HEND.out m' w1 HB1.out hst hnew)
                 have HP1 := Lib.hid ((Keep.ofBelow HB1.out (fun _ => False)).blk HP0.out (fun h => h))
                 have HD3 := Lib.hid (And.intro (HBX.out w1 (Keep.ofBelow HB1.out _)).1 (And.intro (HBX.out w1 (Keep.ofBelow HB1.out _)).2 (show w1.cell? ⟨p, 11, none⟩ = some (.slice (some ⟨g, 0, none⟩) n vc) from (Keep.ofBelow HB1.out (fun _ => False)).cell hc11 (fun h => h))))
                 have HK4 := Lib.hid (Keep.setCells (stCells m' s0) 0 w1 (Keep.ofBelow HB1.out (fun i => i = p)))
                 have HD4 := Lib.hid (And.intro (HBX.out _ HK4.out).1 (And.intro (HBX.out _ HK4.out).2 (show (w1.setCells p 0 (stCells m' s0)).cell? ⟨p, 11, none⟩ = some (.slice (some ⟨g, 0, none⟩) n vc) from ((World.cell?_setCells_out p (stCells m' s0) 0 w1 ⟨p, 11, none⟩ (fun _ _ => .inr (by show 0 + (stCells m' s0).length ≤ 11; rw [stCells_len]; omega))).trans HD3.out.2.2))))
                 clear hst hnew hb)
            go_wp2_with fail
            refine hK.out _ _ ?_ (fun hHeld2 => ?_)
            · (try dsimp only)
              first | with_reducible exact HD2.out | with_reducible exact HD3.out | with_reducible exact HD4.out
            clear hK K hHeld1
            try simp only [Act.put, List.setIfInBounds_toArray, List.set_cons_zero, List.set_cons_succ]
            refine takeN (v := ?_) 10 rfl (by kernel_rfl) (by kernel_rfl) (by kernel_rfl) (fun _ _ _ h => h) (by rfl) ?_ hHeld2 ?_
            rotate_left
            · intro w hSw; (try dsimp only at hSw); go_simp; with_reducible rfl
            try simp only [Act.put, List.setIfInBounds_toArray, List.set_cons_zero, List.set_cons_succ]
            refine takeN (v := ?_) 11 rfl (by kernel_rfl) (by kernel_rfl) (by kernel_rfl) (fun _ _ _ h => h) (by rfl) ?_ hHeld2 ?_
            rotate_left
            · intro w hSw; (try dsimp only at hSw); go_simp; with_reducible rfl
            try simp only [Act.put, List.setIfInBounds_toArray, List.set_cons_zero, List.set_cons_succ]
            refine wpAnyH_ready (rs := [12]) (by kernel_rfl) (by simp) ?_
            refine readyN rfl (fun K hK => ?_) ?_
            · -- operation 12
              first
                | (refine wp_load5 (.tmp 21) rfl g ((x.toNat - 1) * 5) rfl (stCells m0 s0) rfl HCL.out ?_)
                | (refine wp_store5 (.tmp 25) (.tmp 23) rfl p 0 rfl (stCells m' s0) rfl rfl 62 (sArr M S) HP1.out (by simp [sArr]) (stCells_one _ _) ?_)
                | (go_at_call 32; refine HMS.out.mono ?_; rintro e w1 ⟨m', rfl, hst, hnew, hb⟩
                   have HB1 := Lib.hid (show Below w.heap.size w w1 from (((Below.refl w.heap.size w).drew).drew).trans hb)
                   have HE := Lib.hid (HEND.out m' w1 HB1.out hst hnew)
                   have HP1 := Lib.hid ((Keep.ofBelow HB1.out (fun _ => False)).blk HP0.out (fun h => h))
                   have HD3 := Lib.hid (And.intro (HBX.out w1 (Keep.ofBelow HB1.out _)).1 (And.intro (HBX.out w1 (Keep.ofBelow HB1.out _)).2 (show w1.cell? ⟨p, 11, none⟩ = some (.slice (some ⟨g, 0, none⟩) n vc) from (Keep.ofBelow HB1.out (fun _ => False)).cell hc11 (fun h => h))))
                   have HK4 := Lib.hid (Keep.setCells (stCells m' s0) 0 w1 (Keep.ofBelow HB1.out (fun i => i = p)))
                   have HD4 := Lib.hid (And.intro (HBX.out _ HK4.out).1 (And.intro (HBX.out _ HK4.out).2 (show (w1.setCells p 0 (stCells m' s0)).cell? ⟨p, 11, none⟩ = some (.slice (some ⟨g, 0, none⟩) n vc) from ((World.cell?_setCells_out p (stCells m' s0) 0 w1 ⟨p, 11, none⟩ (fun _ _ => .inr (by show 0 + (stCells m' s0).length ≤ 11; rw [stCells_len]; omega))).trans HD3.out.2.2))))
                   clear hst hnew hb)
              refine hK.out _ _ ?_ (fun hHeld3 => ?_)
              · (try dsimp only)
                first | with_reducible exact HD2.out | with_reducible exact HD3.out | with_reducible exact HD4.out
              clear hK K hHeld2
              try simp only [Act.put, List.setIfInBounds_toArray, List.set_cons_zero, List.set_cons_succ]
              refine wpAnyH_done (by kernel_rfl) ?_ _
              go_wp2_with fail
              obtain ⟨X, hX⟩ : ∃ X, X = w1.setCells p 0 (stCells m' s0) := ⟨_, rfl⟩
              have HB4 := Lib.hid (blk_setCells (stCells m' s0) 0 w1 _ HP1.out)
              rw [← hX] at HE HK4 HD4 HB4 ⊢
              have HXX := Lib.hid hX
              clear hX
              have z11 : X.cell? ⟨p, 11, none⟩ = some (.slice (some ⟨g, 0, none⟩) n vc) := HD4.out.2.2
              have z11' : X.drew.cell? ⟨p, 11, none⟩ = some (.slice (some ⟨g, 0, none⟩) n vc) := HD4.out.2.2
              have f11 : X.frozen? ⟨p, 11, none⟩ = false := blk_frozen HB4.out 11
              have HD5 := Lib.hid (HBX.out X.drew (HK4.out.drew))
              have HD6 := Lib.hid (HBX.out _ ((HK4.out.setEq 11 (.slice (some ⟨g, 0, none⟩) x.toNat vc)).drew))
              refine wp_region_held_drew (S := (fun w' => w'.cell? ⟨qs, 0, none⟩ = some (.pointer (some ⟨p, 0, none⟩)) ∧ w'.cell? ⟨qm, 0, none⟩ = some (.int .i64 x))) (by kernel_rfl) ?_ (fun hHeld0 => ?_)
              · (try dsimp only)
                first | with_reducible exact HD5.out | with_reducible exact HD6.out
              refine takeN (v := ?_) 0 rfl (by kernel_rfl) (by kernel_rfl) (by kernel_rfl) (fun _ _ _ h => h) (by rfl) ?_ hHeld0 ?_
              rotate_left
              · intro w hSw; (try dsimp only at hSw); go_simp; with_reducible rfl
              try simp only [Act.put, List.setIfInBounds_toArray, List.set_cons_zero, List.set_cons_succ]
              refine takeN (v := ?_) 1 rfl (by kernel_rfl) (by kernel_rfl) (by kernel_rfl) (fun _ _ _ h => h) (by rfl) ?_ hHeld0 ?_
              rotate_left
              · intro w hSw; (try dsimp only at hSw); go_simp; with_reducible rfl
              try simp only [Act.put, List.setIfInBounds_toArray, List.set_cons_zero, List.set_cons_succ]
              refine takeN (v := ?_) 2 rfl (by kernel_rfl) (by kernel_rfl) (by kernel_rfl) (fun _ _ _ h => h) (by rfl) ?_ hHeld0 ?_
              rotate_left
              · intro w hSw; (try dsimp only at hSw); go_simp; with_reducible rfl
              try simp only [Act.put, List.setIfInBounds_toArray, List.set_cons_zero, List.set_cons_succ]
              refine takeN (v := ?_) 3 rfl (by kernel_rfl) (by kernel_rfl) (by kernel_rfl) (fun _ _ _ h => h) (by rfl) ?_ hHeld0 ?_
              rotate_left
              · intro w hSw; (try dsimp only at hSw); go_simp; with_reducible rfl
              try simp only [Act.put, List.setIfInBounds_toArray, List.set_cons_zero, List.set_cons_succ]
              refine takeN (v := ?_) 5 rfl (by kernel_rfl) (by kernel_rfl) (by kernel_rfl) (fun _ _ _ h => h) (by rfl) ?_ hHeld0 ?_
              rotate_left
              · intro w hSw; (try dsimp only at hSw); go_simp; with_reducible rfl
              try simp only [Act.put, List.setIfInBounds_toArray, List.set_cons_zero, List.set_cons_succ]
              refine wpAnyH_ready (rs := [4]) (by kernel_rfl) (by simp) ?_
              refine readyN rfl (fun K hK => ?_) ?_
              · -- operation 4
                go_simp
                refine hK.out _ _ ?_ (fun hHeld1 => ?_)
                · (try dsimp only)
                  first | with_reducible exact HD5.out | with_reducible exact HD6.out
                clear hK K hHeld0
                try simp only [Act.put, List.setIfInBounds_toArray, List.set_cons_zero, List.set_cons_succ]
                refine takeN (v := ?_) 6 rfl (by kernel_rfl) (by kernel_rfl) (by kernel_rfl) (fun _ _ _ h => h) (by rfl) ?_ hHeld1 ?_
                rotate_left
                · intro w hSw; (try dsimp only at hSw); go_simp; with_reducible rfl
                try simp only [Act.put, List.setIfInBounds_toArray, List.set_cons_zero, List.set_cons_succ]
                refine takeN (v := ?_) 7 rfl (by kernel_rfl) (by kernel_rfl) (by kernel_rfl) (fun _ _ _ h => h) (by rfl) ?_ hHeld1 ?_
                rotate_left
                · intro w hSw; (try dsimp only at hSw); go_simp; with_reducible rfl
                try simp only [Act.put, List.setIfInBounds_toArray, List.set_cons_zero, List.set_cons_succ]
                refine takeN (v := ?_) 8 rfl (by kernel_rfl) (by kernel_rfl) (by kernel_rfl) (fun _ _ _ h => h) (by rfl) ?_ hHeld1 ?_
                rotate_left
                · intro w hSw; (try dsimp only at hSw); go_simp; with_reducible rfl
                try simp only [Act.put, List.setIfInBounds_toArray, List.set_cons_zero, List.set_cons_succ]
                refine wpAnyH_ready (rs := [9]) (by kernel_rfl) (by simp) ?_
                refine readyN rfl (fun K hK => ?_) ?_
                · -- operation 9
                  go_simp
                  refine hK.out _ _ ?_ (fun hHeld2 => ?_)
                  · (try dsimp only)
                    first | with_reducible exact HD5.out | with_reducible exact HD6.out
                  clear hK K hHeld1
                  try simp only [Act.put, List.setIfInBounds_toArray, List.set_cons_zero, List.set_cons_succ]
                  refine wpAnyH_done (by kernel_rfl) ?_ _
                  go_wp2
                  go_ret
                  rw [HBS.out] at HE ⊢
                  exact ⟨rfl, _, HE.out⟩
                exact AllReadyH.nil
              exact AllReadyH.nil
            exact AllReadyH.nil
          exact AllReadyH.nil
        exact AllReadyH.nil
      exact AllReadyH.nil
end Go.Proofs.Ytlmngghkhnnaeaa
