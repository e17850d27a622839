/- The walk of DiskNil. -/
import Derived.Test.YtpclfnamknioaaaGoes3
namespace Go.Proofs.Ytpclfnamknioaaa
open Go.RowKit
set_option maxRecDepth 100000
set_option maxHeartbeats 1000000
set_option linter.unusedVariables false
set_option linter.unusedSimpArgs false
theorem read_nil (at_ : Int) (w : World) : Calls Try.prog 14 #[.pointer none, .int .i64 at_] w fun e w' => e = .returned (.tuple #[.slice none 0 0, .int .i64 8]) ∧ Below w.heap.size w w' := by
  have hb : (((w.alloc (.cells #[.pointer none] 22)).alloc (.cells #[.int .i64 at_] 3)).alloc (.cells #[.slice none 0 0] 27)).heap[w.heap.size + 1 + 1]? = some (.cells #[.slice none 0 0] 27 (0, 0)) := blk_newAt (by simp) _
  have hst := blk_setCell hb 0 (.slice none 0 0)
  have hcs := blk_cell hst 0
  simp at hcs
  clear hb hst
  go_enter Try.func14, Try.ntmps14
  go_wp2_with fail
  refine (sure_nil _ _ _ _).mono ?_
  rintro e w1 ⟨rfl, rfl⟩
  go_wp2_with fail
  try simp only [Exit.inBlock, Exit.then]
  refine bodyPost_ret (v := .tuple #[.slice none 0 0, .int .i64 8]) (by simp [results, Try.func14, hcs, go_sem]) rfl ?_
  exact ⟨rfl, by go_grown⟩
theorem DiskIs.rebase {w : World} {p bl bw : Nat} {ov : Value} {S : DS} (h : DiskIs w p bl bw ov S) (hW : S.W = []) (hL : ∀ (i : Nat) (o : Pg), S.L[i]? = some o → o = none) : DiskIs w p bl bw ov { S with B := w.heap.size } := by
  refine ⟨h.blk, ?_, ?_, h.order, h.rng, h.nodup, h.fuse, h.len, Nat.le_refl _⟩
  · obtain ⟨ls, h1, h2, h3⟩ := h.lasts
    refine ⟨ls, h1, h2, fun i o ho => ?_⟩
    obtain ⟨v, a, b⟩ := h3 i o ho
    have := hL i o ho
    subst this
    exact ⟨v, a, b⟩
  · obtain ⟨vs, h1, h2, h3⟩ := h.waits
    exact ⟨vs, h1, h2, fun i q hq => by simp only [hW] at hq; simp at hq⟩
theorem PG.keepLow {B : Nat} {F : Nat → Prop} {w w' : World} {v : Value} {o : Option ByteArray} (h : PG B w v o) (hk : Keep F w w') (hF : ∀ i, B ≤ i → ¬ F i) : PG B w' v o := by
  cases o with
  | none => exact h
  | some s => exact ⟨h.1.keep hk (fun k hk' => hF k (h.1.base_le k hk').1), h.2⟩
theorem DiskIs.keepLow {w w' : World} {p bl bw : Nat} {ov : Value} {S : DS} {F : Nat → Prop} (h : DiskIs w p bl bw ov S) (hk : Keep F w w') (hF : ∀ i, DF p bl bw ov i → ¬ F i) (hB : ∀ i, S.B ≤ i → ¬ F i) : DiskIs w' p bl bw ov S := by
  refine ⟨hk.blk h.blk (hF _ (.inl rfl)), ?_, ?_, ?_, h.rng, h.nodup, h.fuse, h.len, Nat.le_trans h.low hk.size⟩
  · obtain ⟨ls, h1, h2, h3⟩ := h.lasts
    exact ⟨ls, hk.blk h1 (hF _ (.inr (.inl rfl))), h2, fun i o ho => by obtain ⟨v, a, b⟩ := h3 i o ho; exact ⟨v, a, b.keepLow hk hB⟩⟩
  · obtain ⟨vs, h1, h2, h3⟩ := h.waits
    exact ⟨vs, h1.keep hk (hF _ (.inr (.inr (.inl rfl)))), h2, fun i o ho => by obtain ⟨v, a, b⟩ := h3 i o ho; exact ⟨v, a, b.keepLow hk hB⟩⟩
  · refine ⟨h.order.1, ?_⟩
    rcases h.order.2 with hn | ⟨g, cap, cur, he, hb, hg, rest⟩
    · exact .inl hn
    · exact .inr ⟨g, cap, cur, he, hb, hk.blk hg (hF _ (.inr (.inr (.inr (by rw [he]; rfl))))), rest⟩
theorem ni1 (B : Nat) (u : ByteArray) (hu : u.size = 4096) : writeE { newS 1 with B := B } 0 u = 0 ∧ writeR { newS 1 with B := B } 0 u = ⟨[none], [(0, u)], -1, false, B⟩ := by
  unfold writeE writeR writeS burnS sureE newS wput
  simp [hu]
theorem nil_law (at_ b : Int) (ha0 : -9223372036854775808 ≤ at_) (ha1 : at_ ≤ 9223372036854775807) (hb0 : 0 ≤ b) (hb1 : b < 256) (w : World) : Calls Try.prog 8 #[.int .i64 at_, .int .u8 b] w fun e w' => e = .returned (.bool true) ∧ Below w.heap.size w w' := by
  go_enter Try.func8, Try.ntmps8
  go_wp2_with fail
  refine (fuse_nil _ _).mono ?_
  rintro e w1 ⟨rfl, rfl⟩
  go_wp2_with fail
  refine (kill_nil _).mono ?_
  rintro e w2 ⟨rfl, rfl⟩
  go_wp2_with fail
  refine (restart_nil _).mono ?_
  rintro e w3 ⟨rfl, hb3⟩
  have HL3 := Lib.hid hb3
  clear hb3
  go_wp2_with fail
  refine (read_nil at_ _).mono ?_
  rintro e w4 ⟨rfl, hb⟩
  have HL4 := Lib.hid (HL3.out.trans (hb.mono HL3.out.size))
  clear hb HL3
  go_wp2_with fail
  refine (write_nil at_ _).mono ?_
  rintro e w5 ⟨rfl, hb⟩
  have HL5 := Lib.hid (HL4.out.trans (hb.mono HL4.out.size))
  clear hb HL4
  go_wp2_with fail
  refine (flush_nil _).mono ?_
  rintro e w6 ⟨rfl, hb⟩
  have HL6 := Lib.hid (HL5.out.trans (hb.mono HL5.out.size))
  clear hb HL5
  go_wp2_with fail
  refine (dead_nil _).mono ?_
  rintro e w7 ⟨rfl, rfl⟩
  go_wp2_with fail
  refine (size_nil _).mono ?_
  rintro e w7 ⟨rfl, rfl⟩
  go_wp2_with fail
  refine (waits_nil _).mono ?_
  rintro e w7 ⟨rfl, rfl⟩
  go_wp2_with fail
  refine (new_ok 1 _ (by decide) (by decide)).mono ?_
  rintro e w8 ⟨rfl, hD, hb⟩
  unfold dV
  have hsz := HL6.out.size
  have HD8 := Lib.hid hD
  have HL8 := Lib.hid (HL6.out.trans (hb.mono HL6.out.size))
  have HDF : Hid (∀ i, DF (w7.heap.size + 2) w7.heap.size (w7.heap.size + 1) (.slice none 0 0) i → w2.heap.size ≤ i) := Lib.hid (by
    rintro i (rfl | rfl | rfl | e)
    · omega
    · omega
    · omega
    · cases e)
  generalize w7.heap.size + 2 = p at *
  generalize w7.heap.size + 1 = bw at *
  generalize w7.heap.size = bl at *
  clear hD hb hsz HL6
  go_wp2_with fail
  refine (page_law b b 0 hb0 hb1 hb0 hb1 (by decide) (by decide) _).mono ?_
  rintro e w9 ⟨v9, rfl, ho, hb⟩
  obtain ⟨g9, c9, rfl, _⟩ := ho.byte (pgB_size _ _ _)
  have hg9 := (ho.base_le g9 rfl).2
  have HO9 := Lib.hid ho
  have HD9 := Lib.hid ((HD8.out.below hb).rebase rfl (fun i o ho => by
    cases i with
    | zero => simp [newS] at ho; exact ho.symm
    | succ i => simp [newS] at ho))
  have HL9 := Lib.hid (HL8.out.trans (hb.mono HL8.out.size))
  clear ho hb HD8
  go_wp2_with fail
  refine (write_any 0 _ _ _ HD9.out HO9.out.bs (HD9.out.nb HO9.out)).mono ?_
  rintro e w10 ⟨c, rfl, rfl, ov', hD, hk, hov⟩
  rw [(ni1 _ _ (pgB_size _ _ _)).1]
  rw [(ni1 _ _ (pgB_size _ _ _)).2] at hD
  have HO10 := Lib.hid (HO9.out.keep hk (HD9.out.nb HO9.out))
  have HD10 := Lib.hid hD
  have HL10 := Lib.hid (HL9.out.trans (hk.below HL9.out.size HDF.out))
  clear hD hk hov HD9 HL9 HO9
  obtain ⟨g', c', he, _, _, _, hcel⟩ := HO10.out.byte (pgB_size _ _ _)
  obtain ⟨cur, hgb⟩ : ∃ cur, w10.heap[g9]? = some (.cells cur 5 (0, 0)) := by
    rcases HO10.out.2 with ⟨e, _⟩ | ⟨g, cap, cur, e, _, hg, _⟩
    · cases e
    · injection e with e1; injection e1 with e1; injection e1 with e1; subst e1; exact ⟨cur, hg⟩
  injection he with e1 e2 e3
  injection e1 with e1
  injection e1 with e1
  subst e1; subst e3
  have hc0 := hcel 0 _ (pgB_get hb0 hb1 hb0 hb1 0 (by decide))
  rw [show pgN b b 0 0 = b by unfold pgN; split <;> rfl] at hc0
  have hf0 := blk_frozen hgb 0
  have hk11 : ∀ x, Keep (fun i => i = g9) w10 (w10.setCell ⟨g9, 0, none⟩ x) := fun x => (Keep.refl (fun i => i = g9) w10).setCell (p := ⟨g9, 0, none⟩) (.inl rfl) x
  have hgw : w2.heap.size ≤ g9 := by
    have := (HO10.out.base_le g9 rfl).1
    have := HL8.out.size
    omega
  have HD11 := Lib.hid (fun x => HD10.out.keepLow (hk11 x) (fun i hi e => HD10.out.not_bytes g9 _ _ hgb (by cases e; exact hi)) (fun i hi e => by cases e; have : w9.heap.size ≤ g9 := hi; omega))
  have HL11 := Lib.hid (fun x => HL10.out.setCell (p := ⟨g9, 0, none⟩) (by exact hgw) x)
  clear hcel hgb hk11 hg9 hgw HD10 HL10 HO10
  go_wp2_with fail
  refine (read_any 0 _ (HD11.out _)).mono ?_
  rintro e w12 ⟨v12, c12, rfl, rfl, ho, _, hb⟩
  obtain ⟨g12, c12, rfl, hg12, hc12, hm12, hcel⟩ := (ho rfl).byte (pgB_size _ _ _)
  have hgg := (ho rfl)
  obtain ⟨cur, hgb⟩ : ∃ cur, w12.heap[g12]? = some (.cells cur 5 (0, 0)) := by
    rcases hgg.2 with ⟨e, _⟩ | ⟨g, cap, cur, e, _, hg, _⟩
    · cases e
    · injection e with e1; injection e1 with e1; injection e1 with e1; subst e1; exact ⟨cur, hg⟩
  have hx0 := hcel 0 _ (pgB_get hb0 hb1 hb0 hb1 0 (by decide))
  have hx1 := hcel 1 _ (pgB_get hb0 hb1 hb0 hb1 1 (by decide))
  rw [show pgN b b 0 0 = b by unfold pgN; split <;> rfl] at hx0
  rw [show pgN b b 0 1 = b by unfold pgN; split <;> rfl] at hx1
  have hf1 := blk_frozen hgb 1
  have HD12 := Lib.hid (fun x => (HD11.out _).below (hb.setCell (p := ⟨g12, 1, none⟩) (by exact hg12) x))
  have HL12 := Lib.hid (fun x => (HL11.out _).trans ((hb.setCell (p := ⟨g12, 1, none⟩) (by exact hg12) x).mono (HL11.out _).size))
  clear ho hb hcel hgb hgg hg12 hc12 hm12
  go_wp2_with fail
  refine (read_any 0 _ (HD12.out _)).mono ?_
  rintro e w13 ⟨v13, c13, rfl, rfl, ho, _, hb⟩
  obtain ⟨g13, c13, rfl, _, hc13, hm13, hcel⟩ := (ho rfl).byte (pgB_size _ _ _)
  have hy1 := hcel 1 _ (pgB_get hb0 hb1 hb0 hb1 1 (by decide))
  rw [show pgN b b 0 1 = b by unfold pgN; split <;> rfl] at hy1
  have HL13 := Lib.hid ((HL12.out _).trans (hb.mono (HL12.out _).size))
  clear ho hb hcel
  go_wp2_with fail
  refine (goes_any _).mono ?_
  rintro e w14 ⟨rfl, hb⟩
  have HL14 := Lib.hid (HL13.out.trans (hb.mono HL13.out.size))
  clear hb
  go_wp2_with fail
  go_ret
  exact ⟨rfl, HL14.out⟩
end Go.Proofs.Ytpclfnamknioaaa
