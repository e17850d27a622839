/- The walk of a store's Read. A store's disk is another one; the walk of a store's write. -/
import Derived.Test.YtlmngghkhnnaeaaQMBack2
import Derived.Test.YtlmngghkhnnaeaaQPut4
namespace Go.Proofs.Ytlmngghkhnnaeaa
open Go.RowKit
set_option maxRecDepth 100000
set_option maxHeartbeats 1000000
set_option linter.unusedVariables false
set_option linter.unusedSimpArgs false
def readF (S : SS) (x : Int) : Int × ByteArray := if S.dd = true then (9, ByteArray.empty) else readS S x
theorem sread_nil (x : Int) (w : World) : Calls Try.prog 21 #[.pointer none, .int .i64 x] w fun e w' => e = .returned (.tuple #[.slice none 0 0, .int .i64 8]) ∧ Below w.heap.size w w' := by
  have k3 : Below w.heap.size w (((w.alloc (.cells #[.pointer none] 24)).alloc (.cells #[.int .i64 x] 3)).alloc (.cells #[.slice none 0 0] 28)) := by go_grown
  have hqo : (((w.alloc (.cells #[.pointer none] 24)).alloc (.cells #[.int .i64 x] 3)).alloc (.cells #[.slice none 0 0] 28)).heap[w.heap.size + 1 + 1]? = some (.cells #[.slice none 0 0] 28 (0, 0)) := blk_newAt (by simp) _
  obtain ⟨W, hW⟩ : ∃ W, W = ((w.alloc (.cells #[.pointer none] 24)).alloc (.cells #[.int .i64 x] 3)).alloc (.cells #[.slice none 0 0] 28) := ⟨_, rfl⟩
  rw [← hW] at k3 hqo
  have K3 := Lib.hid k3
  have hcz := blk_cell hqo 0
  have hfz := blk_frozen hqo 0
  have hcs := blk_cell (blk_setCell hqo 0 (.slice none 0 0)) 0
  simp at hcz hcs
  have HW := Lib.hid hW
  clear k3 hqo hW
  go_enter Try.func21, Try.ntmps21
  go_wp2_with (go_at_call 29; rw [← HW.out]; refine (alive_nil _ _).mono ?_; rintro e w1 ⟨rfl, rfl⟩)
  refine bodyPost_ret (v := .tuple #[.slice none 0 0, .int .i64 8]) (by simp [results, Try.func21, hcs, go_sem]) rfl ?_
  exact ⟨rfl, K3.out.setCell (by show w.heap.size ≤ w.heap.size + 1 + 1; omega) _⟩
theorem sread_any {V : Nat → Prop} {M : SM} {S : SS} (x : Int) (w : World) (h : SIs w V M S) :
    Calls Try.prog 21 #[pS M.p, .int .i64 x] w fun e w' => ∃ v, e = .returned (.tuple #[v, .int .i64 (readF S x).1]) ∧ ((readF S x).1 = 0 → Own 5 w' w.heap.size v (readF S x).2) ∧ ((readF S x).1 ≠ 0 → v = .slice none 0 0) ∧ Below w.heap.size w w' := by
  obtain ⟨R, hR⟩ : ∃ R, R = readF S x := ⟨_, rfl⟩
  have hcon : ∀ W, W = ((w.alloc (.cells #[pS M.p] 24)).alloc (.cells #[.int .i64 x] 3)).alloc (.cells #[.slice none 0 0] 28) →
      Calls Try.prog 29 #[pS M.p, .func (Fn.func 55) #[] #[.pointer (some ⟨w.heap.size, 0, none⟩), .pointer (some ⟨w.heap.size + 1, 0, none⟩), .pointer (some ⟨w.heap.size + 1 + 1, 0, none⟩)]] W
        fun e w' => e = .returned (.int .i64 R.1) ∧ ∃ a n cp, w'.heap[w.heap.size + 1 + 1]? = some (.cells #[.slice a n cp] 28 (0, 0)) ∧ (R.1 = 0 → Own 5 w' w.heap.size (.slice a n cp) R.2) ∧ (R.1 ≠ 0 → Value.slice a n cp = .slice none 0 0) ∧ Below w.heap.size w w' := by
    rintro W rfl
    have hW : Below w.heap.size w (((w.alloc (.cells #[pS M.p] 24)).alloc (.cells #[.int .i64 x] 3)).alloc (.cells #[.slice none 0 0] 28)) := by go_grown
    have hqo : Boxed (((w.alloc (.cells #[pS M.p] 24)).alloc (.cells #[.int .i64 x] 3)).alloc (.cells #[.slice none 0 0] 28)) (w.heap.size + 1 + 1) 28 (.slice none 0 0) := blk_newAt (by simp) _
    have hqd : Boxed (((w.alloc (.cells #[pS M.p] 24)).alloc (.cells #[.int .i64 x] 3)).alloc (.cells #[.slice none 0 0] 28)) w.heap.size 24 (pS M.p) := blk_alloc (blk_alloc (blk_new w _) _) _
    have hqa : Boxed (((w.alloc (.cells #[pS M.p] 24)).alloc (.cells #[.int .i64 x] 3)).alloc (.cells #[.slice none 0 0] 28)) (w.heap.size + 1) 3 (.int .i64 x) := blk_alloc (blk_newAt (by simp) _) _
    generalize ((w.alloc (.cells #[pS M.p] 24)).alloc (.cells #[.int .i64 x] 3)).alloc (.cells #[.slice none 0 0] 28) = W at *
    have h3S := h.below hW
    by_cases hd : S.dd = true
    · refine (alive_no _ _ h3S hd).mono ?_
      rintro e w' ⟨rfl, rfl⟩
      have hR' : R = (9, ByteArray.empty) := by rw [hR]; unfold readF; rw [if_pos hd]
      subst hR'
      exact ⟨rfl, none, 0, 0, hqo, (fun e => absurd e (by decide)), fun _ => rfl, hW⟩
    · have hR' : R = readS S x := by rw [hR]; unfold readF; rw [if_neg hd]
      have ht := sreadC w.heap.size (w.heap.size + 1) (w.heap.size + 1 + 1) x W h3S (by simpa using hd) hqd hqa hqo
      rw [← hR'] at ht
      refine (alive_yes _ _ (enters_of Try.func55 (by kernel_rfl) rfl) (fun y w' => y = R.1 ∧ ReadAt W w' (w.heap.size + 1 + 1) R ∧ Keep (fun i => i = w.heap.size + 1 + 1) W w') W h3S (by simpa using hd) (ht.mono ?_)).mono ?_
      · rintro e w' ⟨rfl, g1, g2⟩
        exact ⟨_, rfl, rfl, g1, g2⟩
      · rintro e w' ⟨y, rfl, rfl, ⟨v, g1, g2, g3⟩, g4⟩
        have hb : Below w.heap.size w w' := hW.trans (g4.below (B := w.heap.size) hW.size (fun i hi => by omega))
        by_cases hz : R.1 = 0
        · obtain ⟨a, cp, rfl⟩ := (g2 hz).size
          exact ⟨rfl, a, _, cp, g1, fun _ => (g2 hz).lower hW.size, fun e => absurd hz e, hb⟩
        · obtain rfl := g3 hz
          exact ⟨rfl, none, 0, 0, g1, fun e => absurd e hz, fun _ => rfl, hb⟩
  rw [← hR]
  have HC := Lib.hid hcon
  unfold pS at *
  clear h hcon hR
  obtain ⟨c, bts⟩ := R
  simp only at HC ⊢
  go_enter Try.func21, Try.ntmps21
  go_wp2_with fail
  refine (HC.out _ rfl).mono ?_
  rintro e w1 ⟨rfl, a, n, cp, hq, h1, h2, h3⟩
  have hcz := blk_cell hq 0
  have hfz := blk_frozen hq 0
  simp at hcz
  have HQ := Lib.hid hq
  have H1 := Lib.hid h1
  have H2 := Lib.hid h2
  have H3 := Lib.hid h3
  clear hq h1 h2 h3 HC
  have hst := blk_setCell HQ.out 0 (.slice a n cp)
  have hcs := blk_cell hst 0
  have HS := Lib.hid hst
  simp at hcs
  clear hst
  go_wp2_with fail
  try simp only [Exit.inBlock, Exit.then]
  refine bodyPost_ret (v := .tuple #[.slice a n cp, .int .i64 c]) (by simp [results, Try.func21, hcs, go_sem]) rfl ?_
  refine ⟨_, rfl, fun h => ?_, fun h => H2.out h, H3.out.setCell (by show w.heap.size ≤ w.heap.size + 1 + 1; omega) _⟩
  exact (H1.out h).keep ((Keep.refl (fun i => i = w.heap.size + 1 + 1) w1).setCell (p := ⟨w.heap.size + 1 + 1, 0, none⟩) (.inl rfl) _) (fun k hk e => by
    subst e
    rcases (H1.out h).2 with ⟨he, _⟩ | ⟨g, cap, cur, he, _, hg, _⟩
    · rw [he] at hk; cases hk
    · rw [he] at hk; cases hk; rw [HQ.out] at hg; simp at hg)
end Go.Proofs.Ytlmngghkhnnaeaa
namespace Go.Proofs.Ytlmngghkhnnaeaa
open Go.RowKit
set_option maxRecDepth 100000
set_option maxHeartbeats 1000000
set_option linter.unusedVariables false
set_option linter.unusedSimpArgs false
def SM.onto (M : SM) (ov : Value) : SM := { M with ov := ov }
def SS.onto (S : SS) (D : DS) : SS := { S with D := D }
/-- the blocks of a store's disk are no others of the store -/
theorem SIs.disk_apart {V : Nat → Prop} {w : World} {M : SM} {S : SS} (h : SIs w V M S) : ∀ i, DF M.pd M.bl M.bw M.ov i → ¬ i = M.p ∧ ¬ M.now.blk i ∧ ¬ M.wasM.blk i ∧ (∀ m ∈ M.mm, ¬ m.blk i) ∧ M.mV.ownBlock ≠ some i := by
  have hst : ∀ (m : StM) (s : St), StIs w V m s → (∀ i, m.blk i → i ≠ M.bw) → ∀ i, m.blk i → ¬ DF M.pd M.bl M.bw M.ov i := by
    rintro m s hs hne i hi (rfl | rfl | rfl | hb)
    · exact absurd (hs.kind _ hi _ _ _ h.disk.blk) (by decide)
    · obtain ⟨ls, h1, _⟩ := h.disk.lasts
      exact absurd (hs.kind _ hi _ _ _ h1) (by decide)
    · exact hne _ hi rfl
    · obtain ⟨c1, h1⟩ := h.disk.order_blk hb
      exact absurd (hs.kind _ hi _ _ _ h1) (by decide)
  intro i hi
  refine ⟨?_, fun hb => hst _ _ h.now (fun j hj => (h.sep j hj).2.2) i hb hi, fun hb => hst _ _ h.was (fun j hj => h.sepw j (.inl hj)) i hb hi, fun m hm hb => ?_, fun e => ?_⟩
  · intro e; exact (h.apart i (.inl e)).2.2.2 hi
  · obtain ⟨k, s, h1, h2⟩ := zip_get h.mlen hm
    exact hst _ _ (h.mks k m s h1 h2).1 (fun j hj => h.sepw j (.inr ⟨m, hm, hj⟩)) i hb hi
  · obtain ⟨c', z', h'⟩ := row_blk h.mrow i e
    rcases hi with rfl | rfl | rfl | hb
    · rw [h.disk.blk] at h'; simp only [Option.some.injEq, Obj.cells.injEq] at h'; exact absurd h'.2.1 (by decide)
    · obtain ⟨ls, h1, _⟩ := h.disk.lasts
      rw [h1] at h'; simp only [Option.some.injEq, Obj.cells.injEq] at h'; exact absurd h'.2.1 (by decide)
    · obtain ⟨vs, ⟨es, c1, h1, _⟩, _⟩ := h.disk.waits
      rw [h1] at h'; cases h'
    · obtain ⟨c1, h1⟩ := h.disk.order_blk hb
      rw [h1] at h'; simp only [Option.some.injEq, Obj.cells.injEq] at h'; exact absurd h'.2.1 (by decide)
theorem SIs.setDisk {V : Nat → Prop} {w w' : World} {M : SM} {S : SS} (h : SIs w V M S) {D' : DS} (hn : Next w w' M.pd M.bl M.bw M.ov D') (hl : D'.L.length = S.D.L.length) : ∃ ov', SNext w w' V V M (M.onto ov') (S.onto D') := by
  obtain ⟨ov', h1, h2, h3⟩ := hn
  have hB : ∀ i c z, w.heap[i]? = some (.cells c 5 z) → ¬ DF M.pd M.bl M.bw M.ov i := fun i c z hc => h.disk.not_bytes i c z hc
  have ha := h.disk_apart
  refine ⟨ov', ⟨h2.blk h.blk (fun e => (ha _ e).1 rfl), h.now.keepB h2 (fun i hi e => (ha i e).2.1 hi) hB, h.was.keepB h2 (fun i hi e => (ha i e).2.2.1 hi) hB, row_kept h.mrow h2 (fun i hi e => (ha i e).2.2.2.2 hi), h.mlen,
    fun i m s g1 g2 => ⟨(h.mks i m s g1 g2).1.keepB h2 (fun j hj e => (ha j e).2.2.2.1 m (List.mem_of_getElem? g1) hj) hB, (h.mks i m s g1 g2).2⟩, h1, h.nwas, hl.trans h.ndisk, h.sep, h.sepw, h.stamp, h.head⟩, rfl, rfl, h2.mono (fun i hi => .inr (.inr (.inr (.inr (.inr hi))))), ?_, fun i hi => .inl hi⟩
  rintro i (e | e | e | e | e | e)
  · exact .inl (.inl e)
  · exact .inl (.inr (.inl e))
  · exact .inl (.inr (.inr (.inl e)))
  · exact .inl (.inr (.inr (.inr (.inl e))))
  · exact .inl (.inr (.inr (.inr (.inr (.inl e)))))
  · rcases e with e | e | e | e
    · exact .inl (.inr (.inr (.inr (.inr (.inr (.inl e))))))
    · exact .inl (.inr (.inr (.inr (.inr (.inr (.inr (.inl e)))))))
    · exact .inl (.inr (.inr (.inr (.inr (.inr (.inr (.inr (.inl e))))))))
    · rcases h3 i e with e | e
      · exact .inl (.inr (.inr (.inr (.inr (.inr (.inr (.inr (.inr e))))))))
      · exact .inr e
/-- a frame is written -/
def swrD (S : SS) (p kind : Int) (b : ByteArray) : DS := writeS S.D p (frP p kind S.stamp b)
def errN (dead : Bool) : Int := if dead = true then 9 else 0
theorem swrite_any {V : Nat → Prop} {M : SM} {S : SS} (p kind : Int) (v : Value) (b : ByteArray) (w : World) (h : SIs w V M S) (hd : S.D.dead = false) (p0 : 0 ≤ p) (p1 : p < S.st.taken.length) (k0 : 0 ≤ kind) (k1 : kind < 256) (hs : 1 ≤ S.stamp) (hS : BS w v b) (hb : b.size ≤ 4011) :
    Calls Try.prog 59 #[pS M.p, .int .i64 p, .int .u8 kind, v] w fun e w' => e = .returned (.int .i64 (errN (swrD S p kind b).dead)) ∧ ∃ ov', SNext w w' V V M (M.onto ov') (S.onto (swrD S p kind b)) := by
  have hp4 : p < 4096 := by have := h.now.hi; omega
  have HF := Lib.hid (fput_any p kind S.stamp v b p0 hp4 k0 k1 hs h.stamp.2 w hS hb)
  have hsz := frP_size p kind S.stamp b hb
  have HH := Lib.hid h
  have hsu : sureE S.D.dead S.D.L.length p (frP p kind S.stamp b).size = 0 := by
    unfold sureE
    rw [hd, h.ndisk, hsz, if_neg (by decide), if_neg (by omega)]
  have HWR := Lib.hid (show writeR S.D p (frP p kind S.stamp b) = swrD S p kind b by unfold writeR swrD; rw [if_pos hsu])
  have HWE := Lib.hid (show writeE S.D p (frP p kind S.stamp b) = errN (swrD S p kind b).dead by unfold writeE swrD errN; rw [if_pos hsu])
  have c13 : w.cell? ⟨M.p, 13, none⟩ = some (.int .u64 S.stamp) := blk_cell h.blk 13
  have HC5 := Lib.hid (show w.cell? ⟨M.p, 5, none⟩ = some (.pointer (some ⟨M.pd, 0, none⟩)) from blk_cell h.blk 5)
  obtain ⟨R, hR⟩ : ∃ R, R = frP p kind S.stamp b := ⟨_, rfl⟩
  rw [← hR] at HF HWR HWE
  obtain ⟨D', hD'⟩ : ∃ D', D' = swrD S p kind b := ⟨_, rfl⟩
  rw [← hD'] at HWR HWE ⊢
  have HL := Lib.hid (show D'.L.length = S.D.L.length by rw [hD']; rfl)
  obtain ⟨a, n, c, rfl⟩ : ∃ a n c, v = .slice a n c := by obtain ⟨a, c, e⟩ := hS.len; exact ⟨_, _, _, e⟩
  unfold pS
  clear h hS hsu hsz hR hD' hd hs
  go_enter Try.func59, Try.ntmps59
  go_wp2_with (go_at_call 18; refine HF.out.mono ?_; rintro e w1 ⟨v1, rfl, ho, hb1⟩; obtain ⟨a1, c1, rfl⟩ := ho.size
               have HO1 := Lib.hid ho
               have HB1 := Lib.hid hb1
               have c5 := (Keep.ofBelow hb1 (fun _ => False)).cell HC5.out (fun h => h)
               have HW1 := Lib.hid (write_any p (.slice a1 R.size c1) R w1 (HH.out.disk.below hb1) ho.bs (fun k hk hf => by
                 have h1 := (ho.base_le k hk).1
                 have h2 := HH.out.disk.lt k hf
                 omega))
               unfold dV at HW1
               rw [HWE.out, HWR.out] at HW1
               clear ho hb1)
  refine HW1.out.mono ?_
  rintro e w2 ⟨c, rfl, rfl, hn⟩
  have HN := Lib.hid (hn.later HB1.out)
  clear hn
  go_wp2
  go_ret
  exact ⟨rfl, HH.out.setDisk HN.out HL.out⟩
end Go.Proofs.Ytlmngghkhnnaeaa
