/- The walk of a store's Commit: its closure. The walk of a store's Commit. -/
import Derived.Test.YtlmngghkhnnaeaaQFlu
import Derived.Test.YtlmngghkhnnaeaaQHd5
namespace Go.Proofs.Ytlmngghkhnnaeaa
open Go.RowKit
set_option maxRecDepth 100000
set_option maxHeartbeats 4000000
set_option linter.unusedVariables false
set_option linter.unusedSimpArgs false
def doneSt (s : St) : St := { s with held := List.replicate s.taken.length false, fresh := [], touched := false }
def doneS (S : SS) : SS := { S with st := doneSt S.st, was := doneSt S.st, marks := [] }
def deadS (S : SS) : SS := { S with dead := true }
def commitS (S : SS) (L : List Int) : Int × SS :=
  if S.st.touched = true then (if (flushF S L).1 = 0 then (0, doneS (flushF S L).2) else (9, deadS (flushF S L).2)) else (0, doneS S)
theorem SIs.flat {V : Nat → Prop} {w w' : World} {M : SM} {S : SS} (h : SIs w V M S) (hk : Keep (fun i => i = M.p) w w') : StIs w' V M.now S.st ∧ StIs w' V M.wasM S.was ∧ (∀ (i : Nat) m s, M.mm[i]? = some m → S.marks[i]? = some s → StIs w' V m s ∧ s.taken.length = S.st.taken.length) ∧ DiskIs w' M.pd M.bl M.bw M.ov S.D ∧ w'.ownsRow 0 59 5 M.mV S.marks.length (mkCells M.mm S.marks) := by
  have hB : ∀ i c z, w.heap[i]? = some (.cells c 5 z) → ¬ i = M.p := fun i c z hc e => h.nbytes i c z hc (.inl e)
  have hst : ∀ (m : StM) (s : St), StIs w V m s → ∀ i, m.blk i → ¬ i = M.p := fun m s hs i hi e => absurd (hs.kind i hi _ _ _ (e ▸ h.blk)) (by decide)
  exact ⟨h.now.keepB hk (hst _ _ h.now) hB, h.was.keepB hk (hst _ _ h.was) hB, fun i m s g1 g2 => ⟨(h.mks i m s g1 g2).1.keepB hk (hst _ _ (h.mks i m s g1 g2).1) hB, (h.mks i m s g1 g2).2⟩, h.disk.keep hk (fun i hi e => (h.apart i (.inl e)).2.2.2 hi) hB, row_kept h.mrow hk (fun i hi e => mV_p h (e ▸ hi))⟩
theorem SIs.kill {V : Nat → Prop} {w : World} {M : SM} {S : SS} (h : SIs w V M S) : SNext w (w.setCell ⟨M.p, 14, none⟩ (.bool true)) V V M M (deadS S) := by
  have hk : Keep (fun i => i = M.p) w (w.setCell ⟨M.p, 14, none⟩ (.bool true)) := (Keep.refl _ w).setEq 14 _
  obtain ⟨g1, g2, g3, g4, g5⟩ := h.flat hk
  refine ⟨⟨?_, g1, g2, g5, h.mlen, g3, g4, h.nwas, h.ndisk, h.sep, h.sepw, h.stamp, h.head⟩, rfl, rfl, hk.mono (fun i hi => .inl hi), fun i hi => .inl hi, fun i hi => .inl hi⟩
  rw [blk_setCell h.blk 14]; simp [sArr, deadS]
theorem SIs.nomarks {V : Nat → Prop} {w : World} {M : SM} {S : SS} (h : SIs w V M S) : SNext w (w.setCell ⟨M.p, 11, none⟩ (.slice none 0 0)) V V M { M with mV := .slice none 0 0, mm := [] } { S with marks := [] } := by
  have hk : Keep (fun i => i = M.p) w (w.setCell ⟨M.p, 11, none⟩ (.slice none 0 0)) := (Keep.refl _ w).setEq 11 _
  obtain ⟨g1, g2, g3, g4, g5⟩ := h.flat hk
  refine ⟨⟨?_, g1, g2, World.ownsRow_nil _ _ _ _, rfl, fun i m s h1 _ => by simp at h1, g4, h.nwas, h.ndisk, fun i hi => ⟨(h.sep i hi).1, fun m hm => by simp at hm, (h.sep i hi).2.2⟩, ?_, h.stamp, h.head⟩, rfl, rfl, hk.mono (fun i hi => .inl hi), ?_, fun i hi => .inl hi⟩
  · rw [blk_setCell h.blk 11]; simp [sArr]
  · rintro i (hi | ⟨m, hm, _⟩)
    · exact h.sepw i (.inl hi)
    · simp at hm
  · rintro i (e | e | e | ⟨m, hm, e⟩ | e | e)
    · exact .inl (.inl e)
    · exact .inl (.inr (.inl e))
    · exact .inl (.inr (.inr (.inl e)))
    · simp at hm
    · cases e
    · exact .inl (.inr (.inr (.inr (.inr (.inr e)))))
theorem SIs.setWas {V : Nat → Prop} {w w1 : World} {M : SM} {S : SS} (h : SIs w V M S) (hb : Below w.heap.size w w1) (m2 : StM) (s2 : St) (hst : StIs w1 V m2 s2) (hnew : ∀ i, m2.blk i → w.heap.size ≤ i) (hl : s2.taken.length = S.st.taken.length) :
    SNext w (w1.setCells M.p 6 (stCells m2 s2)) V V M { M with wasM := m2 } { S with was := s2 } := by
  have h1 := h.below hb
  have hpl : M.p < w.heap.size := blk_lt h.blk
  have hk : Keep (fun i => i = M.p) w1 (w1.setCells M.p 6 (stCells m2 s2)) := Keep.setCells _ 6 w1 (Keep.refl _ w1)
  obtain ⟨g1, g2, g3, g4, g5⟩ := h1.flat hk
  have hbw := h.lt M.bw (.inr (.inr (.inr (.inr (.inr (.inr (.inr (.inl rfl))))))))
  refine ⟨⟨?_, g1, hst.keepB hk (fun i hi e => by have := hnew i hi; omega) (fun i c' z hc e => by rw [e, h1.blk] at hc; cases hc), g5, h.mlen, g3, g4, hl, h.ndisk, ?_, ?_, h.stamp, h.head⟩, rfl, rfl, (Keep.ofBelow hb _).trans (hk.mono (G := M.foot) (fun i hi => .inl hi)) (fun i hi => .inl hi), ?_, fun i hi => .inl hi⟩
  · rw [blk_setCells _ 6 w1 _ h1.blk, sArr_was]
  · intro i hi
    refine ⟨fun hb' => ?_, (h.sep i hi).2.1, (h.sep i hi).2.2⟩
    have := hnew i hb'
    have := h.now.lt i hi
    omega
  · rintro i (hi | hi)
    · intro e
      have := hnew i hi
      have e' : i = M.bw := e
      omega
    · exact h.sepw i (.inr hi)
  · rintro i (e | e | e | e | e | e)
    · exact .inl (.inl e)
    · exact .inl (.inr (.inl e))
    · exact .inr (hnew i e)
    · exact .inl (.inr (.inr (.inr (.inl e))))
    · exact .inl (.inr (.inr (.inr (.inr (.inl e)))))
    · exact .inl (.inr (.inr (.inr (.inr (.inr e)))))
/-- what Commit has laid: new bools, a new map -/
theorem SIs.done1 {V : Nat → Prop} {w X : World} {M : SM} {S : SS} (h : SIs w V M S) (n b1 b2 : Nat) (hn : n = S.st.taken.length) (mc : Array Value) (hmc : mc = madeCells #[Value.bool false] n) (hk : Below w.heap.size w X) (h1 : w.heap.size ≤ b1) (h2 : w.heap.size ≤ b2) (hm1 : X.heap[b1]? = some (.cells mc 4 (0, 0))) (hm2 : X.heap[b2]? = some (.map #[] 0)) :
    ∃ M', SNext w (((((X.setCell ⟨M.p, 2, none⟩ (.slice (some ⟨b1, 0, none⟩) n n)).setCell ⟨M.p, 3, none⟩ (.map (some b2))).setCell ⟨M.p, 4, none⟩ (.bool false)).setCell ⟨M.p, 11, none⟩ (.slice none 0 0)).drew) V V M M' { S with st := doneSt S.st, marks := [] } := by
  have hX := h.below hk
  have hpl : M.p < w.heap.size := blk_lt h.blk
  have hkp : Keep (fun i => i = M.p) X (((X.setCell ⟨M.p, 2, none⟩ (.slice (some ⟨b1, 0, none⟩) n n)).setCell ⟨M.p, 3, none⟩ (.map (some b2))).setCell ⟨M.p, 4, none⟩ (.bool false)) := (((Keep.refl _ X).setEq 2 _).setEq 3 _).setEq 4 _
  obtain ⟨g1, g2, g3, g4, g5⟩ := hX.flat hkp
  have hnl : n ≤ 4096 := by rw [hn]; exact h.now.hi
  have hbr : BR X b1 n (List.replicate n false) := .made hmc hm1 hnl
  obtain ⟨W4, hW4⟩ : ∃ W4, W4 = ((X.setCell ⟨M.p, 2, none⟩ (.slice (some ⟨b1, 0, none⟩) n n)).setCell ⟨M.p, 3, none⟩ (.map (some b2))).setCell ⟨M.p, 4, none⟩ (.bool false) := ⟨_, rfl⟩
  have hb4 := blk_setCell (blk_setCell (blk_setCell hX.blk 2 (.slice (some ⟨b1, 0, none⟩) n n)) 3 (.map (some b2))) 4 (.bool false)
  rw [← hW4] at hkp g1 g2 g3 g4 g5 hb4 ⊢
  have hkw : Keep (fun i => i = M.p ∨ M.now.blk i) w W4 := (Keep.ofBelow hk _).trans (hkp.mono (G := fun i => i = M.p ∨ M.now.blk i) (fun i hi => .inl hi)) (fun i hi => .inl hi)
  have hne : ∀ i, w.heap.size ≤ i → ¬ i = M.p := fun i hi e => by omega
  have hup := h.upd (V' := V) hkw (fun i hi => hi) { M.now with bh := b1, ch := n, bf := b2 } (fun i hi => by
      rcases hi with e | e | e
      · exact .inl (.inl e)
      · have e' : i = b1 := e; exact .inr (by omega)
      · have e' : i = b2 := e; exact .inr (by omega)) (doneSt S.st) rfl (by
      rw [hb4]; congr 2; simp [sArr, doneSt, hn]) {
    t := g1.t
    h := by rw [show (doneSt S.st).held = List.replicate n false by simp [doneSt, hn]]; exact hbr.keep hkp (hne b1 h1)
    f := ⟨[], (show IMapAt X b2 [] from ⟨#[], 0, hm2, IKVs.nil, by simp, by simp⟩).keep hkp (hne b2 h2), rfl, fun i q hq => by simp [doneSt] at hq⟩
    ne := fun e => by have := h.now.t.lt; have e' : M.now.bt = b1 := e; omega
    len := by simp [doneSt]
    lo := h.now.lo
    hi := h.now.hi
    root := h.now.root
    keys := fun q hq => by simp [doneSt] at hq
    nodup := by simp [doneSt] }
  have hup' : SNext w W4 V V M { M with now := { M.now with bh := b1, ch := n, bf := b2 } } { S with st := doneSt S.st } :=
    ⟨hup, rfl, rfl, hkw.mono (fun i hi => by rcases hi with hi | hi; exact .inl hi; exact .inr (.inl hi)), by
      rintro i (e | e | e | e | e | e)
      · exact .inl (.inl e)
      · rcases e with e | e | e
        · exact .inl (.inr (.inl (.inl e)))
        · have e' : i = b1 := e; exact .inr (by omega)
        · have e' : i = b2 := e; exact .inr (by omega)
      · exact .inl (.inr (.inr (.inl e)))
      · exact .inl (.inr (.inr (.inr (.inl e))))
      · exact .inl (.inr (.inr (.inr (.inr (.inl e)))))
      · exact .inl (.inr (.inr (.inr (.inr (.inr e))))), fun i hi => .inl hi⟩
  have hnm := hup'.is.nomarks
  have hend := hup'.trans (hnm.trans (SNext.refl hnm.is ((Below.refl _ _).drew)))
  exact ⟨_, hend⟩
/-- what Commit has laid, in whatever order -/
theorem SIs.done2 {V : Nat → Prop} {w X : World} {M : SM} {S : SS} (h : SIs w V M S) (p : Nat) (hpp : p = M.p) (n b1 b2 : Nat) (hn : n = S.st.taken.length) (mc : Array Value) (hmc : mc = madeCells #[Value.bool false] n) (hk : Keep (fun i => i = p) w X) (h1 : w.heap.size ≤ b1) (h2 : w.heap.size ≤ b2) (hm1 : X.heap[b1]? = some (.cells mc 4 (0, 0))) (hm2 : X.heap[b2]? = some (.map #[] 0))
    (hp : X.heap[p]? = some (.cells (((((sArr M S).setIfInBounds 2 (.slice (some ⟨b1, 0, none⟩) n n)).setIfInBounds 3 (.map (some b2))).setIfInBounds 4 (.bool false)).setIfInBounds 11 (.slice none 0 0)) 62 (0, 0))) :
    ∃ M', SNext w X V V M M' { S with st := doneSt S.st, marks := [] } := by
  subst hpp
  obtain ⟨g1, g2, g3, g4, g5⟩ := h.flat hk
  have hnl : n ≤ 4096 := by rw [hn]; exact h.now.hi
  have hbr : BR X b1 n (List.replicate n false) := .made hmc hm1 hnl
  have hbw := h.lt M.bw (.inr (.inr (.inr (.inr (.inr (.inr (.inr (.inl rfl))))))))
  refine ⟨{ M with now := { M.now with bh := b1, ch := n, bf := b2 }, mV := .slice none 0 0, mm := [] }, ⟨?_, {
    t := g1.t
    h := by rw [show (doneSt S.st).held = List.replicate n false by simp [doneSt, hn]]; exact hbr
    f := ⟨[], (show IMapAt X b2 [] from ⟨#[], 0, hm2, IKVs.nil, by simp, by simp⟩), rfl, fun i q hq => by simp [doneSt] at hq⟩
    ne := fun e => by have := h.now.t.lt; have e' : M.now.bt = b1 := e; omega
    len := by simp [doneSt]
    lo := h.now.lo
    hi := h.now.hi
    root := h.now.root
    keys := fun q hq => by simp [doneSt] at hq
    nodup := by simp [doneSt] }, g2, World.ownsRow_nil _ _ _ _, rfl, fun i m s h1 _ => by simp at h1, g4, h.nwas, h.ndisk, ?_, ?_, h.stamp, h.head⟩, rfl, rfl, hk.mono (fun i hi => .inl hi), ?_, fun i hi => .inl hi⟩
  · rw [hp]; congr 2; simp [sArr, doneSt, hn]
  · intro i hi
    refine ⟨?_, fun m hm => by simp at hm, ?_⟩
    · rcases hi with e | e | e
      · exact (h.sep i (.inl e)).1
      · intro hb; have := h.was.lt i hb; have e' : i = b1 := e; omega
      · intro hb; have := h.was.lt i hb; have e' : i = b2 := e; omega
    · rcases hi with e | e | e
      · exact (h.sep i (.inl e)).2.2
      · intro hb; have hb' : i = M.bw := hb; have e' : i = b1 := e; omega
      · intro hb; have hb' : i = M.bw := hb; have e' : i = b2 := e; omega
  · rintro i (hi | ⟨m, hm, _⟩)
    · exact h.sepw i (.inl hi)
    · simp at hm
  · rintro i (e | e | e | ⟨m, hm, e⟩ | e | e)
    · exact .inl (.inl e)
    · rcases e with e | e | e
      · exact .inl (.inr (.inl (.inl e)))
      · have e' : i = b1 := e; exact .inr (by omega)
      · have e' : i = b2 := e; exact .inr (by omega)
    · exact .inl (.inr (.inr (.inl e)))
    · simp at hm
    · cases e
    · exact .inl (.inr (.inr (.inr (.inr (.inr e)))))
/-- block p holds those cells -/
def PF (p : Nat) (X : World) (c : Array Value) : Prop := X.heap[p]? = some (.cells c 62 (0, 0))
theorem PF.alloc {p : Nat} {X : World} {c : Array Value} (h : PF p X c) (o : Obj) : PF p (X.alloc o) c := blk_alloc h o
theorem PF.drew {p : Nat} {X : World} {c : Array Value} (h : PF p X c) : PF p X.drew c := h
theorem PF.set {p : Nat} {X : World} {c : Array Value} (h : PF p X c) (k : Nat) (v : Value) : PF p (X.setCell ⟨p, k, none⟩ v) (c.setIfInBounds k v) := blk_setCell h k v
theorem PF.cell {p : Nat} {X : World} {c : Array Value} (h : PF p X c) (k : Nat) {v : Value} (hc : c[k]? = some v) : X.cell? ⟨p, k, none⟩ = some v := by rw [blk_cell h, hc]
/-- cell 1 of block p is v -/
def PR (p : Nat) (v : Value) (X : World) : Prop := ∃ c, PF p X c ∧ c[1]? = some v
theorem PR.alloc {p : Nat} {v : Value} {X : World} (h : PR p v X) (o : Obj) : PR p v (X.alloc o) := by obtain ⟨c, h1, h2⟩ := h; exact ⟨c, h1.alloc o, h2⟩
theorem PR.drew {p : Nat} {v : Value} {X : World} (h : PR p v X) : PR p v X.drew := h
theorem PR.set {p : Nat} {v : Value} {X : World} (h : PR p v X) (k : Nat) (hk : (k != 1) = true) (u : Value) : PR p v (X.setCell ⟨p, k, none⟩ u) := by
  obtain ⟨c, h1, h2⟩ := h
  exact ⟨_, h1.set k u, by rw [Array.getElem?_setIfInBounds, if_neg (by simpa using hk)]; exact h2⟩
theorem PR.cell {p : Nat} {v : Value} {X : World} (h : PR p v X) : X.cell? ⟨p, 1, none⟩ = some v := by obtain ⟨c, h1, h2⟩ := h; exact h1.cell 1 h2
/-- block b, none of p, holds o -/
def PB (p b : Nat) (X : World) (o : Obj) : Prop := X.heap[b]? = some o ∧ b ≠ p
theorem PB.new {p b : Nat} {Y : World} (hb : Y.heap.size = b) (hne : b ≠ p) (o : Obj) : PB p b (Y.alloc o) o := ⟨blk_newAt hb o, hne⟩
theorem PB.alloc {p b : Nat} {X : World} {o : Obj} (h : PB p b X o) (x : Obj) : PB p b (X.alloc x) o := ⟨blk_alloc h.1 x, h.2⟩
theorem PB.drew {p b : Nat} {X : World} {o : Obj} (h : PB p b X o) : PB p b X.drew o := h
theorem PB.set {p b : Nat} {X : World} {o : Obj} (h : PB p b X o) (k : Nat) (v : Value) : PB p b (X.setCell ⟨p, k, none⟩ v) o := ⟨(Below.heap_setCell _ _ _ _ h.2).trans h.1, h.2⟩
theorem commitC {V : Nat → Prop} {M : SM} {S : SS} (qs : Nat) (w : World) (h : SIs w V M S) (hd : S.dd = false) (hs : S.stamp + 1 ≤ 18446744073709551615) (cs : Boxed w qs 24 (pS M.p)) (hq : ¬ M.foot qs) :
    Calls Try.prog 30 #[.pointer (some ⟨qs, 0, none⟩)] w fun e w' => ∃ L, L.Perm (S.st.fresh.map (·.1)) ∧ e = .returned (.int .i64 (commitS S L).1) ∧ ∃ M', SNext w w' V V M M' (commitS S L).2 := by
  have hdd : S.D.dead = false := by unfold SS.dd at hd; simp only [Bool.or_eq_false_iff] at hd; exact hd.2
  have HFL := Lib.hid (sflush_any w h hdd hs)
  obtain ⟨p, hp⟩ : ∃ p, p = M.p := ⟨_, rfl⟩
  have cbox : ∀ X, Keep M.foot w X → X.cell? ⟨qs, 0, none⟩ = some (.pointer (some ⟨p, 0, none⟩)) := fun X hX => by
    have := hX.cell cs.cell hq
    rw [this, hp]; rfl
  have CB := Lib.hid cbox
  have cq := cbox w (Keep.refl _ w)
  have c4 : w.cell? ⟨p, 4, none⟩ = some (.bool S.st.touched) := by rw [hp]; exact blk_cell h.blk 4
  have HH := Lib.hid h
  unfold pS at HFL
  rw [← hp] at HFL
  have HP := Lib.hid hp
  obtain ⟨tc, htc⟩ : ∃ tc, tc = S.st.touched := ⟨_, rfl⟩
  rw [← htc] at c4
  have HTC := Lib.hid htc
  clear h hd hs cs hq hdd cbox hp htc
  go_enter Try.func30, Try.ntmps30
  go_upto_if 6 with fail
  go_cut [1] (fun s1 wx => s1 = .int .i64 0 ∧ Hid (∃ L ov S2, L.Perm (S.st.fresh.map (·.1)) ∧ commitS S L = (0, doneS S2) ∧ SNext w wx V V M (M.onto ov) S2))
  case first =>
    cases tc with
    | false =>
      go_wp2_with fail
      go_meet
      exact ⟨rfl, Lib.hid ⟨_, M.ov, S, List.Perm.refl _, by unfold commitS; rw [if_neg (by rw [← HTC.out]; decide)], SNext.refl HH.out (Below.refl _ _)⟩⟩
    | true =>
      go_wp2_with fail
      refine HFL.out.mono ?_
      rintro e w1 ⟨L, hL, rfl, ov, hn⟩
      have hcs : commitS S L = if (flushF S L).1 = 0 then (0, doneS (flushF S L).2) else (9, deadS (flushF S L).2) := by unfold commitS; rw [if_pos HTC.out.symm]
      have h09 : (flushF S L).1 = 0 ∨ (flushF S L).1 = 9 := by
        unfold flushF flMid flEnd
        (repeat' split) <;> simp
      obtain ⟨r, hr⟩ : ∃ r, r = flushF S L := ⟨_, rfl⟩
      rw [← hr] at hn hcs h09 ⊢
      have HL := Lib.hid hL
      have HN := Lib.hid hn
      have HCS := Lib.hid hcs
      have cq1 := CB.out w1 hn.keep
      have f14 : w1.frozen? ⟨p, 14, none⟩ = false := by rw [HP.out]; exact blk_frozen hn.is.blk 14
      have c14 : w1.cell? ⟨p, 14, none⟩ = some (.bool r.2.dead) := by rw [HP.out]; exact blk_cell hn.is.blk 14
      clear hL hn hcs hr
      obtain ⟨r1, r2⟩ := r
      simp only at h09 HN HCS c14 ⊢
      rcases h09 with rfl | rfl
      · go_wp2_with fail
        go_meet
        exact ⟨rfl, Lib.hid ⟨L, ov, r2, HL.out, by rw [HCS.out]; simp, HN.out⟩⟩
      · go_wp2_with fail
        go_ret
        refine ⟨L, HL.out, ?_⟩
        rw [HCS.out, if_neg (by decide)]
        have hk := HN.out.is.kill
        rw [show (M.onto ov).p = p from HP.out.symm] at hk
        exact ⟨rfl, M.onto ov, HN.out.trans hk⟩
  case rest =>
    obtain ⟨rfl, HR⟩ := hcut
    obtain ⟨L, ov, S2, hL, hcs, hn⟩ := HR.out
    have hS := hn.is
    have hlo := hS.now.lo
    have hhi := hS.now.hi
    obtain ⟨n, hnn⟩ : ∃ n, n = S2.st.taken.length := ⟨_, rfl⟩
    have hn4 : 4 ≤ n ∧ n ≤ 4096 := by rw [hnn]; exact ⟨hlo, hhi⟩
    have hb0 := hS.blk
    have HL := Lib.hid hL
    have HCS := Lib.hid hcs
    have HN := Lib.hid hn
    have CQ := Lib.hid fun (X : World) (hb : Keep (fun i => i = p) wc X) => CB.out X (hn.keep.trans (hb.mono (G := M.foot) (fun i hi => .inl (by rw [hi, HP.out]))) (fun i hi => .inl hi))
    have CT := Lib.hid fun (X : World) (hb : Below wc.heap.size wc X) => show X.cell? ⟨p, 1, none⟩ = some (.slice (some ⟨M.now.bt, 0, none⟩) n M.now.ct) from by rw [HP.out, hnn]; exact blk_cell ((Keep.ofBelow hb (fun _ => False)).blk hb0 (fun h => h)) 1
    have hmk := fun W : World => run_make_row' (P := Try.prog) 57 4 (.bool false) 1 uBools iBool rfl .i64 .i64 n (by omega) (by omega) W
    obtain ⟨mc, hmc⟩ : ∃ mc, mc = madeCells #[Value.bool false] n := ⟨_, rfl⟩
    rw [← hmc] at hmk
    have hmm : ∀ w : World, (Instr.makeMap 51 none).run Try.prog w = .ok (.map (some w.heap.size)) (w.alloc (.map #[] 0)) := fun w => by kernel_rfl
    have HMC := Lib.hid hmc
    have HNN := Lib.hid hnn
    have HB0 := Lib.hid (show wc.heap[p]? = some (.cells (sArr (M.onto ov) S2) 62 (0, 0)) from by rw [HP.out]; exact hb0)
    have cqd : wc.drew.cell? ⟨qs, 0, none⟩ = some (.pointer (some ⟨p, 0, none⟩)) := CQ.out _ ((Keep.refl _ wc).drew)
    have ctd : wc.drew.cell? ⟨p, 1, none⟩ = some (.slice (some ⟨M.now.bt, 0, none⟩) n M.now.ct) := CT.out _ ((Below.refl _ wc).drew)
    have HCD := Lib.hid (And.intro cqd ctd)
    clear hL hcs hn hS hlo hhi hnn hb0 hmc c4 cq cqd ctd HFL HR
    go_wp2_with fail
    have hpl : p < wc.heap.size := blk_lt HB0.out
    have z2 : ∀ (X : World), Keep (fun _ => False) wc X → (X.cell? ⟨p, 2, none⟩ = some (.slice (some ⟨M.now.bh, 0, none⟩) S2.st.held.length M.now.ch) ∧ X.cell? ⟨p, 3, none⟩ = some (.map (some M.now.bf)) ∧ X.cell? ⟨p, 4, none⟩ = some (.bool S2.st.touched) ∧ X.cell? ⟨p, 11, none⟩ = some M.mV) ∧ (X.frozen? ⟨p, 2, none⟩ = false ∧ X.frozen? ⟨p, 3, none⟩ = false ∧ X.frozen? ⟨p, 4, none⟩ = false ∧ X.frozen? ⟨p, 11, none⟩ = false) := by
      intro X hX
      have h1 := hX.blk HB0.out (fun h => h)
      exact ⟨⟨blk_cell h1 2, blk_cell h1 3, blk_cell h1 4, blk_cell h1 11⟩, blk_frozen h1 2, blk_frozen h1 3, blk_frozen h1 4, blk_frozen h1 11⟩
    have y1 := fun (A : Obj) => z2 (wc.alloc A).drew ((((Keep.refl _ wc).alloc A)).drew)
    have y2 := fun (A B : Obj) => z2 ((wc.alloc A).alloc B).drew (((((Keep.refl _ wc).alloc A)).alloc B).drew)
    have x0 := z2 wc (Keep.refl _ wc)
    have PF0 := Lib.hid (show PF p wc (sArr (M.onto ov) S2) from HB0.out)
    have PR0 := Lib.hid (show PR p (.slice (some ⟨M.now.bt, 0, none⟩) n M.now.ct) wc from ⟨_, PF0.out, by simp [sArr, SM.onto, HNN.out]⟩)
    have HN1 := Lib.hid (show S2.st.taken.length = n from HNN.out.symm)
    have CE := Lib.hid fun (X : World) (hX : Keep (fun i => i = p) wc X) (v : Value) (c : Array Value) (hc : X.heap[p]? = some (.cells c 62 (0, 0))) (h1 : c[1]? = some (.slice (some ⟨M.now.bt, 0, none⟩) n M.now.ct)) => show X.cell? ⟨qs, 0, none⟩ = some (.pointer (some ⟨p, 0, none⟩)) ∧ X.cell? ⟨p, 1, none⟩ = some (.slice (some ⟨M.now.bt, 0, none⟩) n M.now.ct) from ⟨CQ.out X hX, by rw [blk_cell hc, h1]⟩
    clear z2
    go_upto_region 5 with fail
    go_cut [1] (fun s1 wx => s1 = .int .i64 0 ∧ Hid (∃ M', SNext wc wx V V (M.onto ov) M' { S2 with st := doneSt S2.st, marks := [] }))
    case first =>
      refine wp_region_held_drew (S := (fun w' => w'.cell? ⟨qs, 0, none⟩ = some (.pointer (some ⟨p, 0, none⟩)) ∧ w'.cell? ⟨p, 1, none⟩ = some (.slice (some ⟨M.now.bt, 0, none⟩) n M.now.ct))) (by kernel_rfl) ?_ (fun hHeld0 => ?_)
      · (try dsimp only)
        first | with_reducible exact HCD.out | exact ⟨CQ.out _ (by repeat first | with_reducible exact Keep.refl _ _ | with_reducible refine Keep.drew ?_ | with_reducible refine Keep.alloc ?_ _ | with_reducible refine Keep.setEq ?_ _ _), PR.cell (p := p) (by repeat first | with_reducible exact PR0.out | with_reducible refine PR.drew ?_ | with_reducible refine PR.alloc ?_ _ | (with_reducible refine PR.set ?_ _ ?_ _; rotate_left; decide))⟩
      refine takeN (v := ?_) 0 rfl (by kernel_rfl) (by kernel_rfl) (by kernel_rfl) (fun _ _ _ h => h) (by rfl) ?_ hHeld0 ?_
      rotate_left
      · intro w hSw; (try dsimp only at hSw); go_simp; with_reducible rfl
      try simp only [Act.put, List.setIfInBounds_toArray, List.set_cons_zero, List.set_cons_succ]
      refine takeN (v := ?_) 1 rfl (by kernel_rfl) (by kernel_rfl) (by kernel_rfl) (fun _ _ _ h => h) (by rfl) ?_ hHeld0 ?_
      rotate_left
      · intro w hSw; (try dsimp only at hSw); go_simp; with_reducible rfl
      try simp only [Act.put, List.setIfInBounds_toArray, List.set_cons_zero, List.set_cons_succ]
      refine takeN (v := ?_) 2 rfl (by kernel_rfl) (by kernel_rfl) (by kernel_rfl) (fun _ _ _ h => h) (by rfl) ?_ hHeld0 ?_
      rotate_left
      · intro w hSw; (try dsimp only at hSw); go_simp; with_reducible rfl
      try simp only [Act.put, List.setIfInBounds_toArray, List.set_cons_zero, List.set_cons_succ]
      refine takeN (v := ?_) 3 rfl (by kernel_rfl) (by kernel_rfl) (by kernel_rfl) (fun _ _ _ h => h) (by rfl) ?_ hHeld0 ?_
      rotate_left
      · intro w hSw; (try dsimp only at hSw); go_simp; with_reducible rfl
      try simp only [Act.put, List.setIfInBounds_toArray, List.set_cons_zero, List.set_cons_succ]
      refine takeN (v := ?_) 4 rfl (by kernel_rfl) (by kernel_rfl) (by kernel_rfl) (fun _ _ _ h => h) (by rfl) ?_ hHeld0 ?_
      rotate_left
      · intro w hSw; (try dsimp only at hSw); go_simp; with_reducible rfl
      try simp only [Act.put, List.setIfInBounds_toArray, List.set_cons_zero, List.set_cons_succ]
      refine takeN (v := ?_) 5 rfl (by kernel_rfl) (by kernel_rfl) (by kernel_rfl) (fun _ _ _ h => h) (by rfl) ?_ hHeld0 ?_
      rotate_left
      · intro w hSw; (try dsimp only at hSw); go_simp; with_reducible rfl
      try simp only [Act.put, List.setIfInBounds_toArray, List.set_cons_zero, List.set_cons_succ]
      refine takeN (v := ?_) 6 rfl (by kernel_rfl) (by kernel_rfl) (by kernel_rfl) (fun _ _ _ h => h) (by rfl) ?_ hHeld0 ?_
      rotate_left
      · intro w hSw; (try dsimp only at hSw); go_simp; with_reducible rfl
      try simp only [Act.put, List.setIfInBounds_toArray, List.set_cons_zero, List.set_cons_succ]
      refine takeN (v := ?_) 7 rfl (by kernel_rfl) (by kernel_rfl) (by kernel_rfl) (fun _ _ _ h => h) (by rfl) ?_ hHeld0 ?_
      rotate_left
      · intro w hSw; (try dsimp only at hSw); go_simp; with_reducible rfl
      try simp only [Act.put, List.setIfInBounds_toArray, List.set_cons_zero, List.set_cons_succ]
      refine takeN (v := ?_) 8 rfl (by kernel_rfl) (by kernel_rfl) (by kernel_rfl) (fun _ _ _ h => h) (by rfl) ?_ hHeld0 ?_
      rotate_left
      · intro w hSw; (try dsimp only at hSw); go_simp; with_reducible rfl
      try simp only [Act.put, List.setIfInBounds_toArray, List.set_cons_zero, List.set_cons_succ]
      refine wpAnyH_ready (rs := [9, 11]) (by kernel_rfl) (by simp) ?_
      refine readyN rfl (fun K hK => ?_) ?_
      · -- operation 9
        go_simp
        refine hK.out _ _ ?_ (fun hHeld1 => ?_)
        · (try dsimp only)
          first | with_reducible exact HCD.out | exact ⟨CQ.out _ (by repeat first | with_reducible exact Keep.refl _ _ | with_reducible refine Keep.drew ?_ | with_reducible refine Keep.alloc ?_ _ | with_reducible refine Keep.setEq ?_ _ _), PR.cell (p := p) (by repeat first | with_reducible exact PR0.out | with_reducible refine PR.drew ?_ | with_reducible refine PR.alloc ?_ _ | (with_reducible refine PR.set ?_ _ ?_ _; rotate_left; decide))⟩
        clear hK K hHeld0
        try simp only [Act.put, List.setIfInBounds_toArray, List.set_cons_zero, List.set_cons_succ]
        refine wpAnyH_ready (rs := [10, 11]) (by kernel_rfl) (by simp) ?_
        refine readyN rfl (fun K hK => ?_) ?_
        · -- operation 10
          go_simp
          refine hK.out _ _ ?_ (fun hHeld2 => ?_)
          · (try dsimp only)
            first | with_reducible exact HCD.out | exact ⟨CQ.out _ (by repeat first | with_reducible exact Keep.refl _ _ | with_reducible refine Keep.drew ?_ | with_reducible refine Keep.alloc ?_ _ | with_reducible refine Keep.setEq ?_ _ _), PR.cell (p := p) (by repeat first | with_reducible exact PR0.out | with_reducible refine PR.drew ?_ | with_reducible refine PR.alloc ?_ _ | (with_reducible refine PR.set ?_ _ ?_ _; rotate_left; decide))⟩
          clear hK K hHeld1
          try simp only [Act.put, List.setIfInBounds_toArray, List.set_cons_zero, List.set_cons_succ]
          refine takeN (v := ?_) 12 rfl (by kernel_rfl) (by kernel_rfl) (by kernel_rfl) (fun _ _ _ h => h) (by rfl) ?_ hHeld2 ?_
          rotate_left
          · intro w hSw; (try dsimp only at hSw); go_simp; with_reducible rfl
          try simp only [Act.put, List.setIfInBounds_toArray, List.set_cons_zero, List.set_cons_succ]
          refine takeN (v := ?_) 13 rfl (by kernel_rfl) (by kernel_rfl) (by kernel_rfl) (fun _ _ _ h => h) (by rfl) ?_ hHeld2 ?_
          rotate_left
          · intro w hSw; (try dsimp only at hSw); go_simp; with_reducible rfl
          try simp only [Act.put, List.setIfInBounds_toArray, List.set_cons_zero, List.set_cons_succ]
          refine takeN (v := ?_) 14 rfl (by kernel_rfl) (by kernel_rfl) (by kernel_rfl) (fun _ _ _ h => h) (by rfl) ?_ hHeld2 ?_
          rotate_left
          · intro w hSw; (try dsimp only at hSw); go_simp; with_reducible rfl
          try simp only [Act.put, List.setIfInBounds_toArray, List.set_cons_zero, List.set_cons_succ]
          refine wpAnyH_ready (rs := [11, 15]) (by kernel_rfl) (by simp) ?_
          refine readyN rfl (fun K hK => ?_) ?_
          · -- operation 11
            go_simp
            refine hK.out _ _ ?_ (fun hHeld3 => ?_)
            · (try dsimp only)
              first | with_reducible exact HCD.out | exact ⟨CQ.out _ (by repeat first | with_reducible exact Keep.refl _ _ | with_reducible refine Keep.drew ?_ | with_reducible refine Keep.alloc ?_ _ | with_reducible refine Keep.setEq ?_ _ _), PR.cell (p := p) (by repeat first | with_reducible exact PR0.out | with_reducible refine PR.drew ?_ | with_reducible refine PR.alloc ?_ _ | (with_reducible refine PR.set ?_ _ ?_ _; rotate_left; decide))⟩
            clear hK K hHeld2
            try simp only [Act.put, List.setIfInBounds_toArray, List.set_cons_zero, List.set_cons_succ]
            refine wpAnyH_ready (rs := [15]) (by kernel_rfl) (by simp) ?_
            refine readyN rfl (fun K hK => ?_) ?_
            · -- operation 15
              go_simp
              refine hK.out _ _ ?_ (fun hHeld4 => ?_)
              · (try dsimp only)
                first | with_reducible exact HCD.out | exact ⟨CQ.out _ (by repeat first | with_reducible exact Keep.refl _ _ | with_reducible refine Keep.drew ?_ | with_reducible refine Keep.alloc ?_ _ | with_reducible refine Keep.setEq ?_ _ _), PR.cell (p := p) (by repeat first | with_reducible exact PR0.out | with_reducible refine PR.drew ?_ | with_reducible refine PR.alloc ?_ _ | (with_reducible refine PR.set ?_ _ ?_ _; rotate_left; decide))⟩
              clear hK K hHeld3
              try simp only [Act.put, List.setIfInBounds_toArray, List.set_cons_zero, List.set_cons_succ]
              refine takeN (v := ?_) 16 rfl (by kernel_rfl) (by kernel_rfl) (by kernel_rfl) (fun _ _ _ h => h) (by rfl) ?_ hHeld4 ?_
              rotate_left
              · intro w hSw; (try dsimp only at hSw); go_simp; with_reducible rfl
              try simp only [Act.put, List.setIfInBounds_toArray, List.set_cons_zero, List.set_cons_succ]
              refine takeN (v := ?_) 17 rfl (by kernel_rfl) (by kernel_rfl) (by kernel_rfl) (fun _ _ _ h => h) (by rfl) ?_ hHeld4 ?_
              rotate_left
              · intro w hSw; (try dsimp only at hSw); go_simp; with_reducible rfl
              try simp only [Act.put, List.setIfInBounds_toArray, List.set_cons_zero, List.set_cons_succ]
              refine takeN (v := ?_) 18 rfl (by kernel_rfl) (by kernel_rfl) (by kernel_rfl) (fun _ _ _ h => h) (by rfl) ?_ hHeld4 ?_
              rotate_left
              · intro w hSw; (try dsimp only at hSw); go_simp; with_reducible rfl
              try simp only [Act.put, List.setIfInBounds_toArray, List.set_cons_zero, List.set_cons_succ]
              refine wpAnyH_ready (rs := [19]) (by kernel_rfl) (by simp) ?_
              refine readyN rfl (fun K hK => ?_) ?_
              · -- operation 19
                go_simp
                refine hK.out _ _ ?_ (fun hHeld5 => ?_)
                · (try dsimp only)
                  first | with_reducible exact HCD.out | exact ⟨CQ.out _ (by repeat first | with_reducible exact Keep.refl _ _ | with_reducible refine Keep.drew ?_ | with_reducible refine Keep.alloc ?_ _ | with_reducible refine Keep.setEq ?_ _ _), PR.cell (p := p) (by repeat first | with_reducible exact PR0.out | with_reducible refine PR.drew ?_ | with_reducible refine PR.alloc ?_ _ | (with_reducible refine PR.set ?_ _ ?_ _; rotate_left; decide))⟩
                clear hK K hHeld4
                try simp only [Act.put, List.setIfInBounds_toArray, List.set_cons_zero, List.set_cons_succ]
                refine takeN (v := ?_) 20 rfl (by kernel_rfl) (by kernel_rfl) (by kernel_rfl) (fun _ _ _ h => h) (by rfl) ?_ hHeld5 ?_
                rotate_left
                · intro w hSw; (try dsimp only at hSw); go_simp; with_reducible rfl
                try simp only [Act.put, List.setIfInBounds_toArray, List.set_cons_zero, List.set_cons_succ]
                refine takeN (v := ?_) 21 rfl (by kernel_rfl) (by kernel_rfl) (by kernel_rfl) (fun _ _ _ h => h) (by rfl) ?_ hHeld5 ?_
                rotate_left
                · intro w hSw; (try dsimp only at hSw); go_simp; with_reducible rfl
                try simp only [Act.put, List.setIfInBounds_toArray, List.set_cons_zero, List.set_cons_succ]
                refine takeN (v := ?_) 22 rfl (by kernel_rfl) (by kernel_rfl) (by kernel_rfl) (fun _ _ _ h => h) (by rfl) ?_ hHeld5 ?_
                rotate_left
                · intro w hSw; (try dsimp only at hSw); go_simp; with_reducible rfl
                try simp only [Act.put, List.setIfInBounds_toArray, List.set_cons_zero, List.set_cons_succ]
                refine wpAnyH_ready (rs := [23]) (by kernel_rfl) (by simp) ?_
                refine readyN rfl (fun K hK => ?_) ?_
                · -- operation 23
                  go_simp
                  refine hK.out _ _ ?_ (fun hHeld6 => ?_)
                  · (try dsimp only)
                    first | with_reducible exact HCD.out | exact ⟨CQ.out _ (by repeat first | with_reducible exact Keep.refl _ _ | with_reducible refine Keep.drew ?_ | with_reducible refine Keep.alloc ?_ _ | with_reducible refine Keep.setEq ?_ _ _), PR.cell (p := p) (by repeat first | with_reducible exact PR0.out | with_reducible refine PR.drew ?_ | with_reducible refine PR.alloc ?_ _ | (with_reducible refine PR.set ?_ _ ?_ _; rotate_left; decide))⟩
                  clear hK K hHeld5
                  try simp only [Act.put, List.setIfInBounds_toArray, List.set_cons_zero, List.set_cons_succ]
                  refine takeN (v := ?_) 24 rfl (by kernel_rfl) (by kernel_rfl) (by kernel_rfl) (fun _ _ _ h => h) (by rfl) ?_ hHeld6 ?_
                  rotate_left
                  · intro w hSw; (try dsimp only at hSw); go_simp; with_reducible rfl
                  try simp only [Act.put, List.setIfInBounds_toArray, List.set_cons_zero, List.set_cons_succ]
                  refine takeN (v := ?_) 25 rfl (by kernel_rfl) (by kernel_rfl) (by kernel_rfl) (fun _ _ _ h => h) (by rfl) ?_ hHeld6 ?_
                  rotate_left
                  · intro w hSw; (try dsimp only at hSw); go_simp; with_reducible rfl
                  try simp only [Act.put, List.setIfInBounds_toArray, List.set_cons_zero, List.set_cons_succ]
                  refine wpAnyH_ready (rs := [26]) (by kernel_rfl) (by simp) ?_
                  refine readyN rfl (fun K hK => ?_) ?_
                  · -- operation 26
                    go_simp
                    refine hK.out _ _ ?_ (fun hHeld7 => ?_)
                    · (try dsimp only)
                      first | with_reducible exact HCD.out | exact ⟨CQ.out _ (by repeat first | with_reducible exact Keep.refl _ _ | with_reducible refine Keep.drew ?_ | with_reducible refine Keep.alloc ?_ _ | with_reducible refine Keep.setEq ?_ _ _), PR.cell (p := p) (by repeat first | with_reducible exact PR0.out | with_reducible refine PR.drew ?_ | with_reducible refine PR.alloc ?_ _ | (with_reducible refine PR.set ?_ _ ?_ _; rotate_left; decide))⟩
                    clear hK K hHeld6
                    try simp only [Act.put, List.setIfInBounds_toArray, List.set_cons_zero, List.set_cons_succ]
                    refine wpAnyH_done (by kernel_rfl) ?_ _
                    go_wp2_with fail
                    go_meet
                    refine ⟨rfl, Lib.hid ?_⟩
                    first
                      | (refine HN.out.is.done2 p HP.out n wc.heap.size (wc.heap.size + 1) HNN.out mc HMC.out ?_ (Nat.le_refl _) (Nat.le_succ _) ?_ ?_ ?_
                         · (repeat first | with_reducible exact Keep.refl _ _ | with_reducible refine Keep.drew ?_ | with_reducible refine Keep.alloc ?_ _ | with_reducible refine Keep.setEq ?_ _ _)
                         · (refine And.left (b := wc.heap.size ≠ p) ?_; change PB p wc.heap.size _ _; repeat first | with_reducible refine PB.drew ?_ | with_reducible refine PB.set ?_ _ _ | exact PB.new (by simp [World.setCell]) (by omega) _ | with_reducible refine PB.alloc ?_ _)
                         · (refine And.left (b := (wc.heap.size + 1) ≠ p) ?_; change PB p (wc.heap.size + 1) _ _; repeat first | with_reducible refine PB.drew ?_ | with_reducible refine PB.set ?_ _ _ | exact PB.new (by simp [World.setCell]) (by omega) _ | with_reducible refine PB.alloc ?_ _)
                         · (change PF p _ _; repeat first | with_reducible exact PF0.out | with_reducible refine PF.drew ?_ | with_reducible refine PF.alloc ?_ _ | with_reducible refine PF.set ?_ _ _))
                      | (refine HN.out.is.done2 p HP.out n (wc.heap.size + 1) wc.heap.size HNN.out mc HMC.out ?_ (Nat.le_succ _) (Nat.le_refl _) ?_ ?_ ?_
                         · (repeat first | with_reducible exact Keep.refl _ _ | with_reducible refine Keep.drew ?_ | with_reducible refine Keep.alloc ?_ _ | with_reducible refine Keep.setEq ?_ _ _)
                         · (refine And.left (b := (wc.heap.size + 1) ≠ p) ?_; change PB p (wc.heap.size + 1) _ _; repeat first | with_reducible refine PB.drew ?_ | with_reducible refine PB.set ?_ _ _ | exact PB.new (by simp [World.setCell]) (by omega) _ | with_reducible refine PB.alloc ?_ _)
                         · (refine And.left (b := wc.heap.size ≠ p) ?_; change PB p wc.heap.size _ _; repeat first | with_reducible refine PB.drew ?_ | with_reducible refine PB.set ?_ _ _ | exact PB.new (by simp [World.setCell]) (by omega) _ | with_reducible refine PB.alloc ?_ _)
                         · (change PF p _ _; repeat first | with_reducible exact PF0.out | with_reducible refine PF.drew ?_ | with_reducible refine PF.alloc ?_ _ | with_reducible refine PF.set ?_ _ _))
                  exact AllReadyH.nil
                exact AllReadyH.nil
              exact AllReadyH.nil
            exact AllReadyH.nil
          refine readyN rfl (fun K hK => ?_) ?_
          · -- operation 15
            go_simp
            refine hK.out _ _ ?_ (fun hHeld3 => ?_)
            · (try dsimp only)
              first | with_reducible exact HCD.out | exact ⟨CQ.out _ (by repeat first | with_reducible exact Keep.refl _ _ | with_reducible refine Keep.drew ?_ | with_reducible refine Keep.alloc ?_ _ | with_reducible refine Keep.setEq ?_ _ _), PR.cell (p := p) (by repeat first | with_reducible exact PR0.out | with_reducible refine PR.drew ?_ | with_reducible refine PR.alloc ?_ _ | (with_reducible refine PR.set ?_ _ ?_ _; rotate_left; decide))⟩
            clear hK K hHeld2
            try simp only [Act.put, List.setIfInBounds_toArray, List.set_cons_zero, List.set_cons_succ]
            refine wpAnyH_ready (rs := [11]) (by kernel_rfl) (by simp) ?_
            refine readyN rfl (fun K hK => ?_) ?_
            · -- operation 11
              go_simp
              refine hK.out _ _ ?_ (fun hHeld4 => ?_)
              · (try dsimp only)
                first | with_reducible exact HCD.out | exact ⟨CQ.out _ (by repeat first | with_reducible exact Keep.refl _ _ | with_reducible refine Keep.drew ?_ | with_reducible refine Keep.alloc ?_ _ | with_reducible refine Keep.setEq ?_ _ _), PR.cell (p := p) (by repeat first | with_reducible exact PR0.out | with_reducible refine PR.drew ?_ | with_reducible refine PR.alloc ?_ _ | (with_reducible refine PR.set ?_ _ ?_ _; rotate_left; decide))⟩
              clear hK K hHeld3
              try simp only [Act.put, List.setIfInBounds_toArray, List.set_cons_zero, List.set_cons_succ]
              refine takeN (v := ?_) 16 rfl (by kernel_rfl) (by kernel_rfl) (by kernel_rfl) (fun _ _ _ h => h) (by rfl) ?_ hHeld4 ?_
              rotate_left
              · intro w hSw; (try dsimp only at hSw); go_simp; with_reducible rfl
              try simp only [Act.put, List.setIfInBounds_toArray, List.set_cons_zero, List.set_cons_succ]
              refine takeN (v := ?_) 17 rfl (by kernel_rfl) (by kernel_rfl) (by kernel_rfl) (fun _ _ _ h => h) (by rfl) ?_ hHeld4 ?_
              rotate_left
              · intro w hSw; (try dsimp only at hSw); go_simp; with_reducible rfl
              try simp only [Act.put, List.setIfInBounds_toArray, List.set_cons_zero, List.set_cons_succ]
              refine takeN (v := ?_) 18 rfl (by kernel_rfl) (by kernel_rfl) (by kernel_rfl) (fun _ _ _ h => h) (by rfl) ?_ hHeld4 ?_
              rotate_left
              · intro w hSw; (try dsimp only at hSw); go_simp; with_reducible rfl
              try simp only [Act.put, List.setIfInBounds_toArray, List.set_cons_zero, List.set_cons_succ]
              refine wpAnyH_ready (rs := [19]) (by kernel_rfl) (by simp) ?_
              refine readyN rfl (fun K hK => ?_) ?_
              · -- operation 19
                go_simp
                refine hK.out _ _ ?_ (fun hHeld5 => ?_)
                · (try dsimp only)
                  first | with_reducible exact HCD.out | exact ⟨CQ.out _ (by repeat first | with_reducible exact Keep.refl _ _ | with_reducible refine Keep.drew ?_ | with_reducible refine Keep.alloc ?_ _ | with_reducible refine Keep.setEq ?_ _ _), PR.cell (p := p) (by repeat first | with_reducible exact PR0.out | with_reducible refine PR.drew ?_ | with_reducible refine PR.alloc ?_ _ | (with_reducible refine PR.set ?_ _ ?_ _; rotate_left; decide))⟩
                clear hK K hHeld4
                try simp only [Act.put, List.setIfInBounds_toArray, List.set_cons_zero, List.set_cons_succ]
                refine takeN (v := ?_) 20 rfl (by kernel_rfl) (by kernel_rfl) (by kernel_rfl) (fun _ _ _ h => h) (by rfl) ?_ hHeld5 ?_
                rotate_left
                · intro w hSw; (try dsimp only at hSw); go_simp; with_reducible rfl
                try simp only [Act.put, List.setIfInBounds_toArray, List.set_cons_zero, List.set_cons_succ]
                refine takeN (v := ?_) 21 rfl (by kernel_rfl) (by kernel_rfl) (by kernel_rfl) (fun _ _ _ h => h) (by rfl) ?_ hHeld5 ?_
                rotate_left
                · intro w hSw; (try dsimp only at hSw); go_simp; with_reducible rfl
                try simp only [Act.put, List.setIfInBounds_toArray, List.set_cons_zero, List.set_cons_succ]
                refine takeN (v := ?_) 22 rfl (by kernel_rfl) (by kernel_rfl) (by kernel_rfl) (fun _ _ _ h => h) (by rfl) ?_ hHeld5 ?_
                rotate_left
                · intro w hSw; (try dsimp only at hSw); go_simp; with_reducible rfl
                try simp only [Act.put, List.setIfInBounds_toArray, List.set_cons_zero, List.set_cons_succ]
                refine wpAnyH_ready (rs := [23]) (by kernel_rfl) (by simp) ?_
                refine readyN rfl (fun K hK => ?_) ?_
                · -- operation 23
                  go_simp
                  refine hK.out _ _ ?_ (fun hHeld6 => ?_)
                  · (try dsimp only)
                    first | with_reducible exact HCD.out | exact ⟨CQ.out _ (by repeat first | with_reducible exact Keep.refl _ _ | with_reducible refine Keep.drew ?_ | with_reducible refine Keep.alloc ?_ _ | with_reducible refine Keep.setEq ?_ _ _), PR.cell (p := p) (by repeat first | with_reducible exact PR0.out | with_reducible refine PR.drew ?_ | with_reducible refine PR.alloc ?_ _ | (with_reducible refine PR.set ?_ _ ?_ _; rotate_left; decide))⟩
                  clear hK K hHeld5
                  try simp only [Act.put, List.setIfInBounds_toArray, List.set_cons_zero, List.set_cons_succ]
                  refine takeN (v := ?_) 24 rfl (by kernel_rfl) (by kernel_rfl) (by kernel_rfl) (fun _ _ _ h => h) (by rfl) ?_ hHeld6 ?_
                  rotate_left
                  · intro w hSw; (try dsimp only at hSw); go_simp; with_reducible rfl
                  try simp only [Act.put, List.setIfInBounds_toArray, List.set_cons_zero, List.set_cons_succ]
                  refine takeN (v := ?_) 25 rfl (by kernel_rfl) (by kernel_rfl) (by kernel_rfl) (fun _ _ _ h => h) (by rfl) ?_ hHeld6 ?_
                  rotate_left
                  · intro w hSw; (try dsimp only at hSw); go_simp; with_reducible rfl
                  try simp only [Act.put, List.setIfInBounds_toArray, List.set_cons_zero, List.set_cons_succ]
                  refine wpAnyH_ready (rs := [26]) (by kernel_rfl) (by simp) ?_
                  refine readyN rfl (fun K hK => ?_) ?_
                  · -- operation 26
                    go_simp
                    refine hK.out _ _ ?_ (fun hHeld7 => ?_)
                    · (try dsimp only)
                      first | with_reducible exact HCD.out | exact ⟨CQ.out _ (by repeat first | with_reducible exact Keep.refl _ _ | with_reducible refine Keep.drew ?_ | with_reducible refine Keep.alloc ?_ _ | with_reducible refine Keep.setEq ?_ _ _), PR.cell (p := p) (by repeat first | with_reducible exact PR0.out | with_reducible refine PR.drew ?_ | with_reducible refine PR.alloc ?_ _ | (with_reducible refine PR.set ?_ _ ?_ _; rotate_left; decide))⟩
                    clear hK K hHeld6
                    try simp only [Act.put, List.setIfInBounds_toArray, List.set_cons_zero, List.set_cons_succ]
                    refine wpAnyH_done (by kernel_rfl) ?_ _
                    go_wp2_with fail
                    go_meet
                    refine ⟨rfl, Lib.hid ?_⟩
                    first
                      | (refine HN.out.is.done2 p HP.out n wc.heap.size (wc.heap.size + 1) HNN.out mc HMC.out ?_ (Nat.le_refl _) (Nat.le_succ _) ?_ ?_ ?_
                         · (repeat first | with_reducible exact Keep.refl _ _ | with_reducible refine Keep.drew ?_ | with_reducible refine Keep.alloc ?_ _ | with_reducible refine Keep.setEq ?_ _ _)
                         · (refine And.left (b := wc.heap.size ≠ p) ?_; change PB p wc.heap.size _ _; repeat first | with_reducible refine PB.drew ?_ | with_reducible refine PB.set ?_ _ _ | exact PB.new (by simp [World.setCell]) (by omega) _ | with_reducible refine PB.alloc ?_ _)
                         · (refine And.left (b := (wc.heap.size + 1) ≠ p) ?_; change PB p (wc.heap.size + 1) _ _; repeat first | with_reducible refine PB.drew ?_ | with_reducible refine PB.set ?_ _ _ | exact PB.new (by simp [World.setCell]) (by omega) _ | with_reducible refine PB.alloc ?_ _)
                         · (change PF p _ _; repeat first | with_reducible exact PF0.out | with_reducible refine PF.drew ?_ | with_reducible refine PF.alloc ?_ _ | with_reducible refine PF.set ?_ _ _))
                      | (refine HN.out.is.done2 p HP.out n (wc.heap.size + 1) wc.heap.size HNN.out mc HMC.out ?_ (Nat.le_succ _) (Nat.le_refl _) ?_ ?_ ?_
                         · (repeat first | with_reducible exact Keep.refl _ _ | with_reducible refine Keep.drew ?_ | with_reducible refine Keep.alloc ?_ _ | with_reducible refine Keep.setEq ?_ _ _)
                         · (refine And.left (b := (wc.heap.size + 1) ≠ p) ?_; change PB p (wc.heap.size + 1) _ _; repeat first | with_reducible refine PB.drew ?_ | with_reducible refine PB.set ?_ _ _ | exact PB.new (by simp [World.setCell]) (by omega) _ | with_reducible refine PB.alloc ?_ _)
                         · (refine And.left (b := wc.heap.size ≠ p) ?_; change PB p wc.heap.size _ _; repeat first | with_reducible refine PB.drew ?_ | with_reducible refine PB.set ?_ _ _ | exact PB.new (by simp [World.setCell]) (by omega) _ | with_reducible refine PB.alloc ?_ _)
                         · (change PF p _ _; repeat first | with_reducible exact PF0.out | with_reducible refine PF.drew ?_ | with_reducible refine PF.alloc ?_ _ | with_reducible refine PF.set ?_ _ _))
                  exact AllReadyH.nil
                exact AllReadyH.nil
              exact AllReadyH.nil
            exact AllReadyH.nil
          exact AllReadyH.nil
        refine readyN rfl (fun K hK => ?_) ?_
        · -- operation 11
          go_simp
          refine hK.out _ _ ?_ (fun hHeld2 => ?_)
          · (try dsimp only)
            first | with_reducible exact HCD.out | exact ⟨CQ.out _ (by repeat first | with_reducible exact Keep.refl _ _ | with_reducible refine Keep.drew ?_ | with_reducible refine Keep.alloc ?_ _ | with_reducible refine Keep.setEq ?_ _ _), PR.cell (p := p) (by repeat first | with_reducible exact PR0.out | with_reducible refine PR.drew ?_ | with_reducible refine PR.alloc ?_ _ | (with_reducible refine PR.set ?_ _ ?_ _; rotate_left; decide))⟩
          clear hK K hHeld1
          try simp only [Act.put, List.setIfInBounds_toArray, List.set_cons_zero, List.set_cons_succ]
          refine wpAnyH_ready (rs := [10]) (by kernel_rfl) (by simp) ?_
          refine readyN rfl (fun K hK => ?_) ?_
          · -- operation 10
            go_simp
            refine hK.out _ _ ?_ (fun hHeld3 => ?_)
            · (try dsimp only)
              first | with_reducible exact HCD.out | exact ⟨CQ.out _ (by repeat first | with_reducible exact Keep.refl _ _ | with_reducible refine Keep.drew ?_ | with_reducible refine Keep.alloc ?_ _ | with_reducible refine Keep.setEq ?_ _ _), PR.cell (p := p) (by repeat first | with_reducible exact PR0.out | with_reducible refine PR.drew ?_ | with_reducible refine PR.alloc ?_ _ | (with_reducible refine PR.set ?_ _ ?_ _; rotate_left; decide))⟩
            clear hK K hHeld2
            try simp only [Act.put, List.setIfInBounds_toArray, List.set_cons_zero, List.set_cons_succ]
            refine takeN (v := ?_) 12 rfl (by kernel_rfl) (by kernel_rfl) (by kernel_rfl) (fun _ _ _ h => h) (by rfl) ?_ hHeld3 ?_
            rotate_left
            · intro w hSw; (try dsimp only at hSw); go_simp; with_reducible rfl
            try simp only [Act.put, List.setIfInBounds_toArray, List.set_cons_zero, List.set_cons_succ]
            refine takeN (v := ?_) 13 rfl (by kernel_rfl) (by kernel_rfl) (by kernel_rfl) (fun _ _ _ h => h) (by rfl) ?_ hHeld3 ?_
            rotate_left
            · intro w hSw; (try dsimp only at hSw); go_simp; with_reducible rfl
            try simp only [Act.put, List.setIfInBounds_toArray, List.set_cons_zero, List.set_cons_succ]
            refine takeN (v := ?_) 14 rfl (by kernel_rfl) (by kernel_rfl) (by kernel_rfl) (fun _ _ _ h => h) (by rfl) ?_ hHeld3 ?_
            rotate_left
            · intro w hSw; (try dsimp only at hSw); go_simp; with_reducible rfl
            try simp only [Act.put, List.setIfInBounds_toArray, List.set_cons_zero, List.set_cons_succ]
            refine wpAnyH_ready (rs := [15]) (by kernel_rfl) (by simp) ?_
            refine readyN rfl (fun K hK => ?_) ?_
            · -- operation 15
              go_simp
              refine hK.out _ _ ?_ (fun hHeld4 => ?_)
              · (try dsimp only)
                first | with_reducible exact HCD.out | exact ⟨CQ.out _ (by repeat first | with_reducible exact Keep.refl _ _ | with_reducible refine Keep.drew ?_ | with_reducible refine Keep.alloc ?_ _ | with_reducible refine Keep.setEq ?_ _ _), PR.cell (p := p) (by repeat first | with_reducible exact PR0.out | with_reducible refine PR.drew ?_ | with_reducible refine PR.alloc ?_ _ | (with_reducible refine PR.set ?_ _ ?_ _; rotate_left; decide))⟩
              clear hK K hHeld3
              try simp only [Act.put, List.setIfInBounds_toArray, List.set_cons_zero, List.set_cons_succ]
              refine takeN (v := ?_) 16 rfl (by kernel_rfl) (by kernel_rfl) (by kernel_rfl) (fun _ _ _ h => h) (by rfl) ?_ hHeld4 ?_
              rotate_left
              · intro w hSw; (try dsimp only at hSw); go_simp; with_reducible rfl
              try simp only [Act.put, List.setIfInBounds_toArray, List.set_cons_zero, List.set_cons_succ]
              refine takeN (v := ?_) 17 rfl (by kernel_rfl) (by kernel_rfl) (by kernel_rfl) (fun _ _ _ h => h) (by rfl) ?_ hHeld4 ?_
              rotate_left
              · intro w hSw; (try dsimp only at hSw); go_simp; with_reducible rfl
              try simp only [Act.put, List.setIfInBounds_toArray, List.set_cons_zero, List.set_cons_succ]
              refine takeN (v := ?_) 18 rfl (by kernel_rfl) (by kernel_rfl) (by kernel_rfl) (fun _ _ _ h => h) (by rfl) ?_ hHeld4 ?_
              rotate_left
              · intro w hSw; (try dsimp only at hSw); go_simp; with_reducible rfl
              try simp only [Act.put, List.setIfInBounds_toArray, List.set_cons_zero, List.set_cons_succ]
              refine wpAnyH_ready (rs := [19]) (by kernel_rfl) (by simp) ?_
              refine readyN rfl (fun K hK => ?_) ?_
              · -- operation 19
                go_simp
                refine hK.out _ _ ?_ (fun hHeld5 => ?_)
                · (try dsimp only)
                  first | with_reducible exact HCD.out | exact ⟨CQ.out _ (by repeat first | with_reducible exact Keep.refl _ _ | with_reducible refine Keep.drew ?_ | with_reducible refine Keep.alloc ?_ _ | with_reducible refine Keep.setEq ?_ _ _), PR.cell (p := p) (by repeat first | with_reducible exact PR0.out | with_reducible refine PR.drew ?_ | with_reducible refine PR.alloc ?_ _ | (with_reducible refine PR.set ?_ _ ?_ _; rotate_left; decide))⟩
                clear hK K hHeld4
                try simp only [Act.put, List.setIfInBounds_toArray, List.set_cons_zero, List.set_cons_succ]
                refine takeN (v := ?_) 20 rfl (by kernel_rfl) (by kernel_rfl) (by kernel_rfl) (fun _ _ _ h => h) (by rfl) ?_ hHeld5 ?_
                rotate_left
                · intro w hSw; (try dsimp only at hSw); go_simp; with_reducible rfl
                try simp only [Act.put, List.setIfInBounds_toArray, List.set_cons_zero, List.set_cons_succ]
                refine takeN (v := ?_) 21 rfl (by kernel_rfl) (by kernel_rfl) (by kernel_rfl) (fun _ _ _ h => h) (by rfl) ?_ hHeld5 ?_
                rotate_left
                · intro w hSw; (try dsimp only at hSw); go_simp; with_reducible rfl
                try simp only [Act.put, List.setIfInBounds_toArray, List.set_cons_zero, List.set_cons_succ]
                refine takeN (v := ?_) 22 rfl (by kernel_rfl) (by kernel_rfl) (by kernel_rfl) (fun _ _ _ h => h) (by rfl) ?_ hHeld5 ?_
                rotate_left
                · intro w hSw; (try dsimp only at hSw); go_simp; with_reducible rfl
                try simp only [Act.put, List.setIfInBounds_toArray, List.set_cons_zero, List.set_cons_succ]
                refine wpAnyH_ready (rs := [23]) (by kernel_rfl) (by simp) ?_
                refine readyN rfl (fun K hK => ?_) ?_
                · -- operation 23
                  go_simp
                  refine hK.out _ _ ?_ (fun hHeld6 => ?_)
                  · (try dsimp only)
                    first | with_reducible exact HCD.out | exact ⟨CQ.out _ (by repeat first | with_reducible exact Keep.refl _ _ | with_reducible refine Keep.drew ?_ | with_reducible refine Keep.alloc ?_ _ | with_reducible refine Keep.setEq ?_ _ _), PR.cell (p := p) (by repeat first | with_reducible exact PR0.out | with_reducible refine PR.drew ?_ | with_reducible refine PR.alloc ?_ _ | (with_reducible refine PR.set ?_ _ ?_ _; rotate_left; decide))⟩
                  clear hK K hHeld5
                  try simp only [Act.put, List.setIfInBounds_toArray, List.set_cons_zero, List.set_cons_succ]
                  refine takeN (v := ?_) 24 rfl (by kernel_rfl) (by kernel_rfl) (by kernel_rfl) (fun _ _ _ h => h) (by rfl) ?_ hHeld6 ?_
                  rotate_left
                  · intro w hSw; (try dsimp only at hSw); go_simp; with_reducible rfl
                  try simp only [Act.put, List.setIfInBounds_toArray, List.set_cons_zero, List.set_cons_succ]
                  refine takeN (v := ?_) 25 rfl (by kernel_rfl) (by kernel_rfl) (by kernel_rfl) (fun _ _ _ h => h) (by rfl) ?_ hHeld6 ?_
                  rotate_left
                  · intro w hSw; (try dsimp only at hSw); go_simp; with_reducible rfl
                  try simp only [Act.put, List.setIfInBounds_toArray, List.set_cons_zero, List.set_cons_succ]
                  refine wpAnyH_ready (rs := [26]) (by kernel_rfl) (by simp) ?_
                  refine readyN rfl (fun K hK => ?_) ?_
                  · -- operation 26
                    go_simp
                    refine hK.out _ _ ?_ (fun hHeld7 => ?_)
                    · (try dsimp only)
                      first | with_reducible exact HCD.out | exact ⟨CQ.out _ (by repeat first | with_reducible exact Keep.refl _ _ | with_reducible refine Keep.drew ?_ | with_reducible refine Keep.alloc ?_ _ | with_reducible refine Keep.setEq ?_ _ _), PR.cell (p := p) (by repeat first | with_reducible exact PR0.out | with_reducible refine PR.drew ?_ | with_reducible refine PR.alloc ?_ _ | (with_reducible refine PR.set ?_ _ ?_ _; rotate_left; decide))⟩
                    clear hK K hHeld6
                    try simp only [Act.put, List.setIfInBounds_toArray, List.set_cons_zero, List.set_cons_succ]
                    refine wpAnyH_done (by kernel_rfl) ?_ _
                    go_wp2_with fail
                    go_meet
                    refine ⟨rfl, Lib.hid ?_⟩
                    first
                      | (refine HN.out.is.done2 p HP.out n wc.heap.size (wc.heap.size + 1) HNN.out mc HMC.out ?_ (Nat.le_refl _) (Nat.le_succ _) ?_ ?_ ?_
                         · (repeat first | with_reducible exact Keep.refl _ _ | with_reducible refine Keep.drew ?_ | with_reducible refine Keep.alloc ?_ _ | with_reducible refine Keep.setEq ?_ _ _)
                         · (refine And.left (b := wc.heap.size ≠ p) ?_; change PB p wc.heap.size _ _; repeat first | with_reducible refine PB.drew ?_ | with_reducible refine PB.set ?_ _ _ | exact PB.new (by simp [World.setCell]) (by omega) _ | with_reducible refine PB.alloc ?_ _)
                         · (refine And.left (b := (wc.heap.size + 1) ≠ p) ?_; change PB p (wc.heap.size + 1) _ _; repeat first | with_reducible refine PB.drew ?_ | with_reducible refine PB.set ?_ _ _ | exact PB.new (by simp [World.setCell]) (by omega) _ | with_reducible refine PB.alloc ?_ _)
                         · (change PF p _ _; repeat first | with_reducible exact PF0.out | with_reducible refine PF.drew ?_ | with_reducible refine PF.alloc ?_ _ | with_reducible refine PF.set ?_ _ _))
                      | (refine HN.out.is.done2 p HP.out n (wc.heap.size + 1) wc.heap.size HNN.out mc HMC.out ?_ (Nat.le_succ _) (Nat.le_refl _) ?_ ?_ ?_
                         · (repeat first | with_reducible exact Keep.refl _ _ | with_reducible refine Keep.drew ?_ | with_reducible refine Keep.alloc ?_ _ | with_reducible refine Keep.setEq ?_ _ _)
                         · (refine And.left (b := (wc.heap.size + 1) ≠ p) ?_; change PB p (wc.heap.size + 1) _ _; repeat first | with_reducible refine PB.drew ?_ | with_reducible refine PB.set ?_ _ _ | exact PB.new (by simp [World.setCell]) (by omega) _ | with_reducible refine PB.alloc ?_ _)
                         · (refine And.left (b := wc.heap.size ≠ p) ?_; change PB p wc.heap.size _ _; repeat first | with_reducible refine PB.drew ?_ | with_reducible refine PB.set ?_ _ _ | exact PB.new (by simp [World.setCell]) (by omega) _ | with_reducible refine PB.alloc ?_ _)
                         · (change PF p _ _; repeat first | with_reducible exact PF0.out | with_reducible refine PF.drew ?_ | with_reducible refine PF.alloc ?_ _ | with_reducible refine PF.set ?_ _ _))
                  exact AllReadyH.nil
                exact AllReadyH.nil
              exact AllReadyH.nil
            exact AllReadyH.nil
          exact AllReadyH.nil
        exact AllReadyH.nil
      refine readyN rfl (fun K hK => ?_) ?_
      · -- operation 11
        go_simp
        refine hK.out _ _ ?_ (fun hHeld1 => ?_)
        · (try dsimp only)
          first | with_reducible exact HCD.out | exact ⟨CQ.out _ (by repeat first | with_reducible exact Keep.refl _ _ | with_reducible refine Keep.drew ?_ | with_reducible refine Keep.alloc ?_ _ | with_reducible refine Keep.setEq ?_ _ _), PR.cell (p := p) (by repeat first | with_reducible exact PR0.out | with_reducible refine PR.drew ?_ | with_reducible refine PR.alloc ?_ _ | (with_reducible refine PR.set ?_ _ ?_ _; rotate_left; decide))⟩
        clear hK K hHeld0
        try simp only [Act.put, List.setIfInBounds_toArray, List.set_cons_zero, List.set_cons_succ]
        refine wpAnyH_ready (rs := [9]) (by kernel_rfl) (by simp) ?_
        refine readyN rfl (fun K hK => ?_) ?_
        · -- operation 9
          go_simp
          refine hK.out _ _ ?_ (fun hHeld2 => ?_)
          · (try dsimp only)
            first | with_reducible exact HCD.out | exact ⟨CQ.out _ (by repeat first | with_reducible exact Keep.refl _ _ | with_reducible refine Keep.drew ?_ | with_reducible refine Keep.alloc ?_ _ | with_reducible refine Keep.setEq ?_ _ _), PR.cell (p := p) (by repeat first | with_reducible exact PR0.out | with_reducible refine PR.drew ?_ | with_reducible refine PR.alloc ?_ _ | (with_reducible refine PR.set ?_ _ ?_ _; rotate_left; decide))⟩
          clear hK K hHeld1
          try simp only [Act.put, List.setIfInBounds_toArray, List.set_cons_zero, List.set_cons_succ]
          refine wpAnyH_ready (rs := [10]) (by kernel_rfl) (by simp) ?_
          refine readyN rfl (fun K hK => ?_) ?_
          · -- operation 10
            go_simp
            refine hK.out _ _ ?_ (fun hHeld3 => ?_)
            · (try dsimp only)
              first | with_reducible exact HCD.out | exact ⟨CQ.out _ (by repeat first | with_reducible exact Keep.refl _ _ | with_reducible refine Keep.drew ?_ | with_reducible refine Keep.alloc ?_ _ | with_reducible refine Keep.setEq ?_ _ _), PR.cell (p := p) (by repeat first | with_reducible exact PR0.out | with_reducible refine PR.drew ?_ | with_reducible refine PR.alloc ?_ _ | (with_reducible refine PR.set ?_ _ ?_ _; rotate_left; decide))⟩
            clear hK K hHeld2
            try simp only [Act.put, List.setIfInBounds_toArray, List.set_cons_zero, List.set_cons_succ]
            refine takeN (v := ?_) 12 rfl (by kernel_rfl) (by kernel_rfl) (by kernel_rfl) (fun _ _ _ h => h) (by rfl) ?_ hHeld3 ?_
            rotate_left
            · intro w hSw; (try dsimp only at hSw); go_simp; with_reducible rfl
            try simp only [Act.put, List.setIfInBounds_toArray, List.set_cons_zero, List.set_cons_succ]
            refine takeN (v := ?_) 13 rfl (by kernel_rfl) (by kernel_rfl) (by kernel_rfl) (fun _ _ _ h => h) (by rfl) ?_ hHeld3 ?_
            rotate_left
            · intro w hSw; (try dsimp only at hSw); go_simp; with_reducible rfl
            try simp only [Act.put, List.setIfInBounds_toArray, List.set_cons_zero, List.set_cons_succ]
            refine takeN (v := ?_) 14 rfl (by kernel_rfl) (by kernel_rfl) (by kernel_rfl) (fun _ _ _ h => h) (by rfl) ?_ hHeld3 ?_
            rotate_left
            · intro w hSw; (try dsimp only at hSw); go_simp; with_reducible rfl
            try simp only [Act.put, List.setIfInBounds_toArray, List.set_cons_zero, List.set_cons_succ]
            refine wpAnyH_ready (rs := [15]) (by kernel_rfl) (by simp) ?_
            refine readyN rfl (fun K hK => ?_) ?_
            · -- operation 15
              go_simp
              refine hK.out _ _ ?_ (fun hHeld4 => ?_)
              · (try dsimp only)
                first | with_reducible exact HCD.out | exact ⟨CQ.out _ (by repeat first | with_reducible exact Keep.refl _ _ | with_reducible refine Keep.drew ?_ | with_reducible refine Keep.alloc ?_ _ | with_reducible refine Keep.setEq ?_ _ _), PR.cell (p := p) (by repeat first | with_reducible exact PR0.out | with_reducible refine PR.drew ?_ | with_reducible refine PR.alloc ?_ _ | (with_reducible refine PR.set ?_ _ ?_ _; rotate_left; decide))⟩
              clear hK K hHeld3
              try simp only [Act.put, List.setIfInBounds_toArray, List.set_cons_zero, List.set_cons_succ]
              refine takeN (v := ?_) 16 rfl (by kernel_rfl) (by kernel_rfl) (by kernel_rfl) (fun _ _ _ h => h) (by rfl) ?_ hHeld4 ?_
              rotate_left
              · intro w hSw; (try dsimp only at hSw); go_simp; with_reducible rfl
              try simp only [Act.put, List.setIfInBounds_toArray, List.set_cons_zero, List.set_cons_succ]
              refine takeN (v := ?_) 17 rfl (by kernel_rfl) (by kernel_rfl) (by kernel_rfl) (fun _ _ _ h => h) (by rfl) ?_ hHeld4 ?_
              rotate_left
              · intro w hSw; (try dsimp only at hSw); go_simp; with_reducible rfl
              try simp only [Act.put, List.setIfInBounds_toArray, List.set_cons_zero, List.set_cons_succ]
              refine takeN (v := ?_) 18 rfl (by kernel_rfl) (by kernel_rfl) (by kernel_rfl) (fun _ _ _ h => h) (by rfl) ?_ hHeld4 ?_
              rotate_left
              · intro w hSw; (try dsimp only at hSw); go_simp; with_reducible rfl
              try simp only [Act.put, List.setIfInBounds_toArray, List.set_cons_zero, List.set_cons_succ]
              refine wpAnyH_ready (rs := [19]) (by kernel_rfl) (by simp) ?_
              refine readyN rfl (fun K hK => ?_) ?_
              · -- operation 19
                go_simp
                refine hK.out _ _ ?_ (fun hHeld5 => ?_)
                · (try dsimp only)
                  first | with_reducible exact HCD.out | exact ⟨CQ.out _ (by repeat first | with_reducible exact Keep.refl _ _ | with_reducible refine Keep.drew ?_ | with_reducible refine Keep.alloc ?_ _ | with_reducible refine Keep.setEq ?_ _ _), PR.cell (p := p) (by repeat first | with_reducible exact PR0.out | with_reducible refine PR.drew ?_ | with_reducible refine PR.alloc ?_ _ | (with_reducible refine PR.set ?_ _ ?_ _; rotate_left; decide))⟩
                clear hK K hHeld4
                try simp only [Act.put, List.setIfInBounds_toArray, List.set_cons_zero, List.set_cons_succ]
                refine takeN (v := ?_) 20 rfl (by kernel_rfl) (by kernel_rfl) (by kernel_rfl) (fun _ _ _ h => h) (by rfl) ?_ hHeld5 ?_
                rotate_left
                · intro w hSw; (try dsimp only at hSw); go_simp; with_reducible rfl
                try simp only [Act.put, List.setIfInBounds_toArray, List.set_cons_zero, List.set_cons_succ]
                refine takeN (v := ?_) 21 rfl (by kernel_rfl) (by kernel_rfl) (by kernel_rfl) (fun _ _ _ h => h) (by rfl) ?_ hHeld5 ?_
                rotate_left
                · intro w hSw; (try dsimp only at hSw); go_simp; with_reducible rfl
                try simp only [Act.put, List.setIfInBounds_toArray, List.set_cons_zero, List.set_cons_succ]
                refine takeN (v := ?_) 22 rfl (by kernel_rfl) (by kernel_rfl) (by kernel_rfl) (fun _ _ _ h => h) (by rfl) ?_ hHeld5 ?_
                rotate_left
                · intro w hSw; (try dsimp only at hSw); go_simp; with_reducible rfl
                try simp only [Act.put, List.setIfInBounds_toArray, List.set_cons_zero, List.set_cons_succ]
                refine wpAnyH_ready (rs := [23]) (by kernel_rfl) (by simp) ?_
                refine readyN rfl (fun K hK => ?_) ?_
                · -- operation 23
                  go_simp
                  refine hK.out _ _ ?_ (fun hHeld6 => ?_)
                  · (try dsimp only)
                    first | with_reducible exact HCD.out | exact ⟨CQ.out _ (by repeat first | with_reducible exact Keep.refl _ _ | with_reducible refine Keep.drew ?_ | with_reducible refine Keep.alloc ?_ _ | with_reducible refine Keep.setEq ?_ _ _), PR.cell (p := p) (by repeat first | with_reducible exact PR0.out | with_reducible refine PR.drew ?_ | with_reducible refine PR.alloc ?_ _ | (with_reducible refine PR.set ?_ _ ?_ _; rotate_left; decide))⟩
                  clear hK K hHeld5
                  try simp only [Act.put, List.setIfInBounds_toArray, List.set_cons_zero, List.set_cons_succ]
                  refine takeN (v := ?_) 24 rfl (by kernel_rfl) (by kernel_rfl) (by kernel_rfl) (fun _ _ _ h => h) (by rfl) ?_ hHeld6 ?_
                  rotate_left
                  · intro w hSw; (try dsimp only at hSw); go_simp; with_reducible rfl
                  try simp only [Act.put, List.setIfInBounds_toArray, List.set_cons_zero, List.set_cons_succ]
                  refine takeN (v := ?_) 25 rfl (by kernel_rfl) (by kernel_rfl) (by kernel_rfl) (fun _ _ _ h => h) (by rfl) ?_ hHeld6 ?_
                  rotate_left
                  · intro w hSw; (try dsimp only at hSw); go_simp; with_reducible rfl
                  try simp only [Act.put, List.setIfInBounds_toArray, List.set_cons_zero, List.set_cons_succ]
                  refine wpAnyH_ready (rs := [26]) (by kernel_rfl) (by simp) ?_
                  refine readyN rfl (fun K hK => ?_) ?_
                  · -- operation 26
                    go_simp
                    refine hK.out _ _ ?_ (fun hHeld7 => ?_)
                    · (try dsimp only)
                      first | with_reducible exact HCD.out | exact ⟨CQ.out _ (by repeat first | with_reducible exact Keep.refl _ _ | with_reducible refine Keep.drew ?_ | with_reducible refine Keep.alloc ?_ _ | with_reducible refine Keep.setEq ?_ _ _), PR.cell (p := p) (by repeat first | with_reducible exact PR0.out | with_reducible refine PR.drew ?_ | with_reducible refine PR.alloc ?_ _ | (with_reducible refine PR.set ?_ _ ?_ _; rotate_left; decide))⟩
                    clear hK K hHeld6
                    try simp only [Act.put, List.setIfInBounds_toArray, List.set_cons_zero, List.set_cons_succ]
                    refine wpAnyH_done (by kernel_rfl) ?_ _
                    go_wp2_with fail
                    go_meet
                    refine ⟨rfl, Lib.hid ?_⟩
                    first
                      | (refine HN.out.is.done2 p HP.out n wc.heap.size (wc.heap.size + 1) HNN.out mc HMC.out ?_ (Nat.le_refl _) (Nat.le_succ _) ?_ ?_ ?_
                         · (repeat first | with_reducible exact Keep.refl _ _ | with_reducible refine Keep.drew ?_ | with_reducible refine Keep.alloc ?_ _ | with_reducible refine Keep.setEq ?_ _ _)
                         · (refine And.left (b := wc.heap.size ≠ p) ?_; change PB p wc.heap.size _ _; repeat first | with_reducible refine PB.drew ?_ | with_reducible refine PB.set ?_ _ _ | exact PB.new (by simp [World.setCell]) (by omega) _ | with_reducible refine PB.alloc ?_ _)
                         · (refine And.left (b := (wc.heap.size + 1) ≠ p) ?_; change PB p (wc.heap.size + 1) _ _; repeat first | with_reducible refine PB.drew ?_ | with_reducible refine PB.set ?_ _ _ | exact PB.new (by simp [World.setCell]) (by omega) _ | with_reducible refine PB.alloc ?_ _)
                         · (change PF p _ _; repeat first | with_reducible exact PF0.out | with_reducible refine PF.drew ?_ | with_reducible refine PF.alloc ?_ _ | with_reducible refine PF.set ?_ _ _))
                      | (refine HN.out.is.done2 p HP.out n (wc.heap.size + 1) wc.heap.size HNN.out mc HMC.out ?_ (Nat.le_succ _) (Nat.le_refl _) ?_ ?_ ?_
                         · (repeat first | with_reducible exact Keep.refl _ _ | with_reducible refine Keep.drew ?_ | with_reducible refine Keep.alloc ?_ _ | with_reducible refine Keep.setEq ?_ _ _)
                         · (refine And.left (b := (wc.heap.size + 1) ≠ p) ?_; change PB p (wc.heap.size + 1) _ _; repeat first | with_reducible refine PB.drew ?_ | with_reducible refine PB.set ?_ _ _ | exact PB.new (by simp [World.setCell]) (by omega) _ | with_reducible refine PB.alloc ?_ _)
                         · (refine And.left (b := wc.heap.size ≠ p) ?_; change PB p wc.heap.size _ _; repeat first | with_reducible refine PB.drew ?_ | with_reducible refine PB.set ?_ _ _ | exact PB.new (by simp [World.setCell]) (by omega) _ | with_reducible refine PB.alloc ?_ _)
                         · (change PF p _ _; repeat first | with_reducible exact PF0.out | with_reducible refine PF.drew ?_ | with_reducible refine PF.alloc ?_ _ | with_reducible refine PF.set ?_ _ _))
                  exact AllReadyH.nil
                exact AllReadyH.nil
              exact AllReadyH.nil
            exact AllReadyH.nil
          exact AllReadyH.nil
        exact AllReadyH.nil
      exact AllReadyH.nil
    case rest =>
      obtain ⟨rfl, HR2⟩ := hcut
      obtain ⟨M', hn'⟩ := HR2.out
      have hS' := hn'.is
      have hpM : p = M'.p := by rw [HP.out]; exact hn'.p.symm
      have HPM := Lib.hid hpM
      have HN' := Lib.hid (HN.out.trans hn')
      have HS' := Lib.hid hS'
      have HB1 := Lib.hid (show wc.drew.heap[p]? = some (.cells (sArr M' { S2 with st := doneSt S2.st, marks := [] }) 62 (0, 0)) by rw [hpM]; exact hS'.blk)
      have HLC := Lib.hid (show ∀ j v, (stCells M'.now (doneSt S2.st))[j]? = some v → wc.drew.cell? ⟨p, 0 + j, none⟩ = some v by rw [hpM]; exact sArr_nowC hS'.blk)
      have HCP := Lib.hid (copied_any V M'.now (doneSt S2.st) wc.drew (hS'.now.below ((Below.refl _ wc).drew)))
      have hq0 : wc.drew.cell? ⟨qs, 0, none⟩ = some (.pointer (some ⟨p, 0, none⟩)) := CB.out wc HN'.out.keep
      have HQ0 := Lib.hid hq0
      have CQ2 := Lib.hid fun (X : World) (hb : Keep (fun i => i = p) wc X) => CB.out X (HN'.out.keep.trans (hb.mono (G := M'.foot) (fun i hi => .inl (by rw [hi, HPM.out]))) (fun i hi => HN'.out.foot i hi))
      clear hS' hpM hn' hq0 HR2 CQ CT hmk hmm y1 y2 x0 CE PF0 PR0 HB0
      go_wp2_with fail
      refine wp_region_held_drew (S := (fun w' => w'.cell? ⟨qs, 0, none⟩ = some (.pointer (some ⟨p, 0, none⟩)))) (by kernel_rfl) ?_ (fun hHeld0 => ?_)
      · (try dsimp only)
        first | with_reducible exact HQ0.out | with_reducible exact CQ2.out _ HK3.out | with_reducible exact CQ2.out _ HK4.out
      refine takeN (v := ?_) 0 rfl (by kernel_rfl) (by kernel_rfl) (by kernel_rfl) (fun _ _ _ h => h) (by rfl) ?_ hHeld0 ?_
      rotate_left
      · intro w hSw; (try dsimp only at hSw); go_simp; with_reducible rfl
      try simp only [Act.put, List.setIfInBounds_toArray, List.set_cons_zero, List.set_cons_succ]
      refine takeN (v := ?_) 1 rfl (by kernel_rfl) (by kernel_rfl) (by kernel_rfl) (fun _ _ _ h => h) (by rfl) ?_ hHeld0 ?_
      rotate_left
      · intro w hSw; (try dsimp only at hSw); go_simp; with_reducible rfl
      try simp only [Act.put, List.setIfInBounds_toArray, List.set_cons_zero, List.set_cons_succ]
      refine takeN (v := ?_) 2 rfl (by kernel_rfl) (by kernel_rfl) (by kernel_rfl) (fun _ _ _ h => h) (by rfl) ?_ hHeld0 ?_
      rotate_left
      · intro w hSw; (try dsimp only at hSw); go_simp; with_reducible rfl
      try simp only [Act.put, List.setIfInBounds_toArray, List.set_cons_zero, List.set_cons_succ]
      refine takeN (v := ?_) 3 rfl (by kernel_rfl) (by kernel_rfl) (by kernel_rfl) (fun _ _ _ h => h) (by rfl) ?_ hHeld0 ?_
      rotate_left
      · intro w hSw; (try dsimp only at hSw); go_simp; with_reducible rfl
      try simp only [Act.put, List.setIfInBounds_toArray, List.set_cons_zero, List.set_cons_succ]
      refine wpAnyH_ready (rs := [4]) (by kernel_rfl) (by simp) ?_
      refine readyN rfl (fun K hK => ?_) ?_
      · -- operation 4
        first
          | (go_at_call 32; refine HCP.out.mono ?_; rintro e w3 ⟨m2, rfl, hst, hnew, hb⟩
             have HB3 := Lib.hid (show Below wc.heap.size wc w3 from ((Below.refl wc.heap.size wc).drew).trans hb)
             have HST := Lib.hid hst
             have HNEW := Lib.hid hnew
             have HK3 := Lib.hid (Keep.ofBelow HB3.out (fun i => i = p))
             have HK4 := Lib.hid (Keep.setCells (stCells m2 (doneSt S2.st)) 6 w3 HK3.out)
             have HP3 := Lib.hid ((Keep.ofBelow hb (fun _ => False)).blk HB1.out (fun h => h))
             clear hst hnew hb)
          | (refine wp_load5 (.tmp 39) rfl p 0 rfl (stCells M'.now (doneSt S2.st)) rfl HLC.out ?_)
          | (refine wp_store5 (.tmp 43) (.tmp 41) rfl p 6 rfl (stCells m2 (doneSt S2.st)) rfl rfl 62 _ HP3.out (by simp [sArr]) (stCells_one _ _) ?_)
        refine hK.out _ _ ?_ (fun hHeld1 => ?_)
        · (try dsimp only)
          first | with_reducible exact HQ0.out | with_reducible exact CQ2.out _ HK3.out | with_reducible exact CQ2.out _ HK4.out
        clear hK K hHeld0
        try simp only [Act.put, List.setIfInBounds_toArray, List.set_cons_zero, List.set_cons_succ]
        refine wpAnyH_ready (rs := [5]) (by kernel_rfl) (by simp) ?_
        refine readyN rfl (fun K hK => ?_) ?_
        · -- operation 5
          go_simp
          first
            | (go_at_call 32; refine HCP.out.mono ?_; rintro e w3 ⟨m2, rfl, hst, hnew, hb⟩
               have HB3 := Lib.hid (show Below wc.heap.size wc w3 from ((Below.refl wc.heap.size wc).drew).trans hb)
               have HST := Lib.hid hst
               have HNEW := Lib.hid hnew
               have HK3 := Lib.hid (Keep.ofBelow HB3.out (fun i => i = p))
               have HK4 := Lib.hid (Keep.setCells (stCells m2 (doneSt S2.st)) 6 w3 HK3.out)
               have HP3 := Lib.hid ((Keep.ofBelow hb (fun _ => False)).blk HB1.out (fun h => h))
               clear hst hnew hb)
            | (refine wp_load5 (.tmp 39) rfl p 0 rfl (stCells M'.now (doneSt S2.st)) rfl HLC.out ?_)
            | (refine wp_store5 (.tmp 43) (.tmp 41) rfl p 6 rfl (stCells m2 (doneSt S2.st)) rfl rfl 62 _ HP3.out (by simp [sArr]) (stCells_one _ _) ?_)
          go_wp2_with fail
          refine hK.out _ _ ?_ (fun hHeld2 => ?_)
          · (try dsimp only)
            first | with_reducible exact HQ0.out | with_reducible exact CQ2.out _ HK3.out | with_reducible exact CQ2.out _ HK4.out
          clear hK K hHeld1
          try simp only [Act.put, List.setIfInBounds_toArray, List.set_cons_zero, List.set_cons_succ]
          refine takeN (v := ?_) 6 rfl (by kernel_rfl) (by kernel_rfl) (by kernel_rfl) (fun _ _ _ h => h) (by rfl) ?_ hHeld2 ?_
          rotate_left
          · intro w hSw; (try dsimp only at hSw); go_simp; with_reducible rfl
          try simp only [Act.put, List.setIfInBounds_toArray, List.set_cons_zero, List.set_cons_succ]
          refine takeN (v := ?_) 7 rfl (by kernel_rfl) (by kernel_rfl) (by kernel_rfl) (fun _ _ _ h => h) (by rfl) ?_ hHeld2 ?_
          rotate_left
          · intro w hSw; (try dsimp only at hSw); go_simp; with_reducible rfl
          try simp only [Act.put, List.setIfInBounds_toArray, List.set_cons_zero, List.set_cons_succ]
          refine wpAnyH_ready (rs := [8]) (by kernel_rfl) (by simp) ?_
          refine readyN rfl (fun K hK => ?_) ?_
          · -- operation 8
            first
              | (go_at_call 32; refine HCP.out.mono ?_; rintro e w3 ⟨m2, rfl, hst, hnew, hb⟩
                 have HB3 := Lib.hid (show Below wc.heap.size wc w3 from ((Below.refl wc.heap.size wc).drew).trans hb)
                 have HST := Lib.hid hst
                 have HNEW := Lib.hid hnew
                 have HK3 := Lib.hid (Keep.ofBelow HB3.out (fun i => i = p))
                 have HK4 := Lib.hid (Keep.setCells (stCells m2 (doneSt S2.st)) 6 w3 HK3.out)
                 have HP3 := Lib.hid ((Keep.ofBelow hb (fun _ => False)).blk HB1.out (fun h => h))
                 clear hst hnew hb)
              | (refine wp_load5 (.tmp 39) rfl p 0 rfl (stCells M'.now (doneSt S2.st)) rfl HLC.out ?_)
              | (refine wp_store5 (.tmp 43) (.tmp 41) rfl p 6 rfl (stCells m2 (doneSt S2.st)) rfl rfl 62 _ HP3.out (by simp [sArr]) (stCells_one _ _) ?_)
            refine hK.out _ _ ?_ (fun hHeld3 => ?_)
            · (try dsimp only)
              first | with_reducible exact HQ0.out | with_reducible exact CQ2.out _ HK3.out | with_reducible exact CQ2.out _ HK4.out
            clear hK K hHeld2
            try simp only [Act.put, List.setIfInBounds_toArray, List.set_cons_zero, List.set_cons_succ]
            refine wpAnyH_done (by kernel_rfl) ?_ _
            go_wp2
            go_ret
            refine ⟨L, HL.out, ?_⟩
            rw [HCS.out]
            have hsw := HS'.out.setWas HB3.out m2 (doneSt S2.st) HST.out HNEW.out rfl
            rw [← HPM.out] at hsw
            exact ⟨rfl, _, HN'.out.trans hsw⟩
          exact AllReadyH.nil
        exact AllReadyH.nil
      exact AllReadyH.nil
end Go.Proofs.Ytlmngghkhnnaeaa
namespace Go.Proofs.Ytlmngghkhnnaeaa
open Go.RowKit
set_option maxRecDepth 100000
set_option linter.unusedVariables false
set_option linter.unusedSimpArgs false
def commitF (S : SS) (L : List Int) : Int × SS := if S.dd = true then (9, S) else commitS S L
theorem commit_nil (w : World) : Calls Try.prog 8 #[.pointer none] w fun e w' => e = .returned (.int .i64 8) ∧ Below w.heap.size w w' := by
  have k3 : Below w.heap.size w (w.alloc (.cells #[.pointer none] 24)) := (Below.refl _ w).alloc (Nat.le_refl _) _
  have K3 := Lib.hid k3
  clear k3
  go_enter Try.func8, Try.ntmps8
  go_wp2_with (go_at_call 29; refine (alive_nil _ _).mono ?_; rintro e w1 ⟨rfl, rfl⟩)
  go_ret
  exact ⟨rfl, K3.out⟩
theorem commit_any {V : Nat → Prop} {M : SM} {S : SS} (w : World) (h : SIs w V M S) (hs : S.stamp + 1 ≤ 18446744073709551615) :
    Calls Try.prog 8 #[pS M.p] w fun e w' => ∃ L, L.Perm (S.st.fresh.map (·.1)) ∧ e = .returned (.int .i64 (commitF S L).1) ∧ ∃ M', SNext w w' V V M M' (commitF S L).2 := by
  have k3 : Below w.heap.size w (w.alloc (.cells #[pS M.p] 24)) := (Below.refl _ w).alloc (Nat.le_refl _) _
  have b1 : Boxed (w.alloc (.cells #[pS M.p] 24)) w.heap.size 24 (pS M.p) := Boxed.new w _ _
  have HAL : Hid (∀ w3, Below w.heap.size w w3 → Boxed w3 w.heap.size 24 (pS M.p) →
      Calls Try.prog 29 #[pS M.p, .func (Fn.func 30) #[] #[.pointer (some ⟨w.heap.size, 0, none⟩)]] w3 fun e w' => ∃ L, L.Perm (S.st.fresh.map (·.1)) ∧ e = .returned (.int .i64 (commitF S L).1) ∧ ∃ M', SNext w w' V V M M' (commitF S L).2) := by
    refine Lib.hid fun w3 hb h1 => ?_
    have h3S := h.below hb
    by_cases hd : S.dd = true
    · refine (alive_no _ _ h3S hd).mono ?_
      rintro e w' ⟨rfl, rfl⟩
      refine ⟨_, List.Perm.refl _, ?_⟩
      unfold commitF
      rw [if_pos hd]
      exact ⟨rfl, M, (SNext.refl h3S (Below.refl _ _)).early hb⟩
    · have ht := commitC w.heap.size w3 h3S (by simpa using hd) hs h1 (fun hf => by have := h.lt _ hf; omega)
      refine (alive_yes _ _ (enters_of Try.func30 (by kernel_rfl) rfl) (fun y w' => ∃ L, L.Perm (S.st.fresh.map (·.1)) ∧ y = (commitS S L).1 ∧ ∃ M', SNext w w' V V M M' (commitS S L).2) w3 h3S (by simpa using hd) (ht.mono ?_)).mono ?_
      · rintro e w' ⟨L, hL, rfl, M', g1⟩
        exact ⟨_, rfl, L, hL, rfl, M', g1.early hb⟩
      · rintro e w' ⟨y, rfl, L, hL, rfl, M', g1⟩
        refine ⟨L, hL, ?_⟩
        unfold commitF
        rw [if_neg hd]
        exact ⟨rfl, M', g1⟩
  have HA := Lib.hid (HAL.out _ k3 b1)
  unfold pS at HA ⊢
  clear k3 b1 HAL h hs
  go_enter Try.func8, Try.ntmps8
  go_wp2_with (first
    | (go_at_call 29; refine HA.out.mono ?_; rintro e w4 ⟨L, hL, rfl, g1⟩
       have HL := Lib.hid hL
       have G1 := Lib.hid g1
       clear g1 hL))
  go_ret
  exact ⟨L, HL.out, rfl, G1.out⟩
end Go.Proofs.Ytlmngghkhnnaeaa
