/- The walk of StoreNil. -/
import Derived.Test.YtlmngghkhnnaeaaQMMade5
namespace Go.Proofs.Ytlmngghkhnnaeaa
open Go.RowKit
set_option maxRecDepth 100000
set_option maxHeartbeats 2000000
set_option linter.unusedVariables false
set_option linter.unusedSimpArgs false
theorem PG.keepNo {B : Nat} {w w' : World} {v : Value} {o : Pg} (h : PG B w v o) (ho : o = none) : PG B w' v o := by
  subst ho; exact h
theorem DiskIs.keepNo {w w' : World} {p bl bw : Nat} {ov : Value} {S : DS} {F : Nat → Prop} (h : DiskIs w p bl bw ov S) (hk : Keep F w w') (hF : ∀ i, DF p bl bw ov i → ¬ F i) (hW : S.W = []) (hL : ∀ (i : Nat) (o : Pg), S.L[i]? = some o → o = none) : DiskIs w' p bl bw ov S := by
  refine ⟨hk.blk h.blk (hF _ (.inl rfl)), ?_, ?_, row_kept h.order hk (fun i hi => hF i (.inr (.inr (.inr hi)))), h.rng, h.nodup, h.fuse, h.len, Nat.le_trans h.low hk.size⟩
  · obtain ⟨ls, h1, h2, h3⟩ := h.lasts
    exact ⟨ls, hk.blk h1 (hF _ (.inr (.inl rfl))), h2, fun i o ho => by obtain ⟨v, a, b⟩ := h3 i o ho; exact ⟨v, a, b.keepNo (hL i o ho)⟩⟩
  · obtain ⟨vs, h1, h2, h3⟩ := h.waits
    exact ⟨vs, h1.keep hk (hF _ (.inr (.inr (.inl rfl)))), h2, fun i q hq => by rw [hW] at hq; simp at hq⟩
theorem SIs.keepV {F V : Nat → Prop} {w w' : World} {M : SM} {S : SS} (h : SIs w V M S) (hk : Keep F w w') (hF : ∀ i, M.foot i → ¬ F i) (hV : ∀ i, V i → ¬ F i) (hW : S.D.W = []) (hL : ∀ (i : Nat) (o : Pg), S.D.L[i]? = some o → o = none) : SIs w' V M S :=
  { h with
    blk := hk.blk h.blk (hF _ (.inl rfl))
    now := h.now.keep hk (fun i hi => hF i (.inr (.inl hi))) hV
    was := h.was.keep hk (fun i hi => hF i (.inr (.inr (.inl hi)))) hV
    mrow := row_kept h.mrow hk (fun i hi => hF i (.inr (.inr (.inr (.inr (.inl hi))))))
    mks := fun i m s hm hs => ⟨(h.mks i m s hm hs).1.keep hk (fun j hj => hF j (.inr (.inr (.inr (.inl ⟨m, List.mem_of_getElem? hm, hj⟩))))) hV, (h.mks i m s hm hs).2⟩
    disk := h.disk.keepNo hk (fun i hi => hF i (.inr (.inr (.inr (.inr (.inr hi)))))) hW hL }
theorem Own.byteN {w : World} {B : Nat} {v : Value} {s : ByteArray} {n : Nat} (hn0 : 0 < n) (h : Own 5 w B v s) (hs : s.size = n) : ∃ g cap, v = .slice (some ⟨g, 0, none⟩) n cap ∧ B ≤ g ∧ n ≤ cap ∧ cap ≤ maxLen ∧ ∀ (i : Nat) x, (Lib.strCells s)[i]? = some x → w.cell? ⟨g, i, none⟩ = some x := by
  rcases h.2 with ⟨_, h0⟩ | ⟨g, cap, cur, rfl, hb, hg, hn, hm, _, ht⟩
  · omega
  · refine ⟨g, cap, by rw [hs], hb, by omega, hm, fun i x hx => ?_⟩
    rw [blk_cell hg]
    rw [← ht, List.getElem?_take] at hx
    split at hx
    · simpa using hx
    · cases hx
def exXY : ByteArray := ⟨#[120, 121]⟩
def xySt : St := ⟨0, [false, false, true, false, false, false], List.replicate 6 false, [(2, exXY)], true⟩
theorem xy1 {S : SS} (hd : S.dd = false) (h : S.st = zeroSt 6) : takeF S exXY = (2, 0, { S with st := xySt }) := by
  rw [takeF_eq (p := 2) (r := [3, 4, 5]) hd (by decide) (by rw [h]; rfl), h]; rfl
theorem xy2 {S : SS} (hd : S.dd = false) (h : S.st = xySt) : readF S 2 = (0, exXY) := by
  unfold readF readS
  rw [if_neg (by rw [hd]; decide), h]; rfl
theorem lit2 (w : World) : BS (w.alloc (.cells #[.int .u8 120, .int .u8 121] 5 (2, 3))) (.slice (some ⟨w.heap.size, 0, none⟩) 2 2) exXY := by
  have := BS.lit (w := w) (k := w.heap.size) rfl 5 exXY (2, 3) (c := #[.int .u8 120, .int .u8 121]) (by rfl) (n := 2) rfl (by decide)
  exact this
theorem take_dead {V : Nat → Prop} {M : SM} {S : SS} (a : Option Addr) (n c : Nat) (w : World) (h : SIs w V M S) (hd : S.dd = true) : Calls Try.prog 9 #[pS M.p, .slice a n c] w fun e w' => e = .returned (.tuple #[.int .i64 0, .int .i64 9]) ∧ Below w.heap.size w w' := by
  have k3 : Below w.heap.size w (((w.alloc (.cells #[pS M.p] 24)).alloc (.cells #[.slice a n c] 28)).alloc (.cells #[.int .i64 0] 3)) := (((Below.refl _ w).alloc (Nat.le_refl _) _).alloc (by simp) _).alloc (by simp; omega) _
  have K3 := Lib.hid k3
  have b3 : Boxed (((w.alloc (.cells #[pS M.p] 24)).alloc (.cells #[.slice a n c] 28)).alloc (.cells #[.int .i64 0] 3)) (w.heap.size + 1 + 1) 3 (.int .i64 0) := by
    have := Boxed.new ((w.alloc (.cells #[pS M.p] 24)).alloc (.cells #[.slice a n c] 28)) 3 (.int .i64 0)
    simpa using this
  have hcs := (b3.set (.int .i64 0)).cell
  have HAL := Lib.hid (fun f => alive_no f _ (h.below k3) hd)
  unfold pS at k3 K3 hcs HAL ⊢
  clear k3 b3 h
  go_enter Try.func9, Try.ntmps9
  go_wp2_with (go_at_call 29; refine (HAL.out _).mono ?_; rintro e w1 ⟨rfl, rfl⟩)
  refine bodyPost_ret (v := .tuple #[.int .i64 0, .int .i64 9]) (by simp [results, Try.func9, hcs, go_sem]) rfl ?_
  refine ⟨rfl, ?_⟩
  exact K3.out
theorem snil_law (at_ : Int) (a : Option Addr) (n c : Nat) (w : World) : Calls Try.prog 5 #[.int .i64 at_, .slice a n c] w fun e w' => e = .returned (.bool true) ∧ Below w.heap.size w w' := by
  have HM := fun w1 => Lib.hid (made_any 6 w1 (by decide) (by decide))
  obtain ⟨i0, i1, i2, i3, i4, i5⟩ := S0_law (n := 6) (by decide)
  have hd0 : (S0 6).dd = false := i0.dd
  obtain ⟨S, hS⟩ : ∃ S, S = S0 6 := ⟨_, rfl⟩
  rw [← hS] at HM i0 i1 i2 i3 i4 i5 hd0
  have E1 := Lib.hid (xy1 hd0 i1)
  have E2 := Lib.hid (xy2 (S := { S with st := xySt }) hd0 rfl)
  have HW := Lib.hid (show S.D.W = [] by rw [i4]; rfl)
  have HL := Lib.hid (show ∀ (i : Nat) (o : Pg), S.D.L[i]? = some o → o = none by
    intro i o ho
    rw [i4] at ho
    unfold newS at ho
    simp only [List.getElem?_replicate] at ho
    split at ho
    · cases ho; rfl
    · cases ho)
  have HST := Lib.hid (show S.stamp + 1 ≤ 18446744073709551615 by rw [i3]; decide)
  obtain ⟨Sx, hSx⟩ : ∃ Sx, Sx = ({ S with st := xySt } : SS) := ⟨_, rfl⟩
  obtain ⟨Sd, hSd⟩ : ∃ Sd, Sd = Sx.onto { Sx.D with dead := true } := ⟨_, rfl⟩
  have HD := Lib.hid (show Sd.dd = true by rw [hSd]; unfold SS.dd SS.onto; simp)
  have HDD := Lib.hid (show Sd.D.dead = true by rw [hSd]; rfl)
  have HSX := Lib.hid hSx
  have HSD := Lib.hid hSd
  have HSTd := Lib.hid (show Sd.stamp + 1 ≤ 18446744073709551615 by rw [hSd, hSx]; exact HST.out)
  rw [← hSx] at E1 E2
  have R9 := Lib.hid (show readF Sd 2 = (9, ByteArray.empty) by unfold readF; rw [if_pos HD.out])
  have G9 := Lib.hid (show ∀ x, giveF Sd x = (9, Sd) by intro x; unfold giveF; rw [if_pos HD.out])
  have C9 := Lib.hid (show ∀ L, commitF Sd L = (9, Sd) by intro x; unfold commitF; rw [if_pos HD.out])
  have L9 := Lib.hid (show leftN Sd = 0 by unfold leftN; rw [if_pos HD.out])
  clear i0 i1 i2 i3 i4 i5 hd0 hS hSx hSd HST
  unfold pS at HM
  unfold dV at HM
  have hkc := kc5
  go_enter Try.func5, Try.ntmps5
  go_wp2_with fail
  refine (abort_nil _).mono ?_
  rintro e w1 ⟨rfl, rfl⟩
  go_wp2_with fail
  refine (sread_nil at_ _).mono ?_
  rintro e w1 ⟨rfl, hb⟩
  have H1 := Lib.hid hb
  clear hb
  go_wp2_with fail
  refine (take_nil a n c _).mono ?_
  rintro e w2 ⟨rfl, hb⟩
  have H2 := Lib.hid (H1.out.trans (hb.mono H1.out.size))
  clear hb H1
  go_wp2_with fail
  refine (give_nil at_ _).mono ?_
  rintro e w3 ⟨rfl, hb⟩
  have H3 := Lib.hid (H2.out.trans (hb.mono H2.out.size))
  clear hb H2
  go_wp2_with fail
  refine (setr_nil at_ _).mono ?_
  rintro e w4 ⟨rfl, hb⟩
  have H4 := Lib.hid (H3.out.trans (hb.mono H3.out.size))
  clear hb H3
  go_wp2_with fail
  refine (back_nil at_ _).mono ?_
  rintro e w5 ⟨rfl, hb⟩
  have H5 := Lib.hid (H4.out.trans (hb.mono H4.out.size))
  clear hb H4
  go_wp2_with fail
  refine (commit_nil _).mono ?_
  rintro e w6 ⟨rfl, hb⟩
  have H6 := Lib.hid (H5.out.trans (hb.mono H5.out.size))
  clear hb H5
  go_wp2_with fail
  refine (mark_nil _).mono ?_
  rintro e w7 ⟨rfl, rfl⟩
  go_wp2_with fail
  refine (sroot_nil _).mono ?_
  rintro e w7 ⟨rfl, rfl⟩
  go_wp2_with fail
  refine (sleft_nil _).mono ?_
  rintro e w7 ⟨rfl, rfl⟩
  go_wp2_with fail
  refine (sdead_nil _).mono ?_
  rintro e w7 ⟨rfl, rfl⟩
  go_wp2_with fail
  refine (HM _).out.mono ?_
  rintro e w7 ⟨pd, M, rfl, h1, h2, h3, h4⟩
  obtain ⟨p, hp⟩ : ∃ p, p = M.p := ⟨_, rfl⟩
  rw [← hp]
  have hs6 := H6.out.size
  have H7 := Lib.hid (show SIs w7 noV M S ∧ p = M.p ∧ M.pd = pd ∧ (∀ i, M.foot i → w.heap.size ≤ i) ∧ Below w.heap.size w w7 from ⟨h1, hp, h2, fun i hi => Nat.le_trans hs6 (h3 i hi), H6.out.trans (h4.mono H6.out.size)⟩)
  clear h1 h2 h3 h4 hp hs6
  go_wp2_with fail
  have h2 := take_any (.slice (some ⟨w7.heap.size, 0, none⟩) 2 2) exXY _ (H7.out.1.below ((Below.refl _ w7).alloc (Nat.le_refl _) _)) (lit2 w7) (by decide)
  rw [E1.out] at h2
  unfold pS at h2
  rw [← H7.out.2.1] at h2
  refine h2.mono ?_
  clear h2
  rintro e w8 ⟨V', rfl, g1, g2, g3⟩
  obtain ⟨k, hk⟩ : ∃ k, k = w7.heap.size := ⟨_, rfl⟩
  rw [← hk]
  have hnf : ∀ i, M.foot i → ¬ i = k := fun i hi e => by
    have := H7.out.1.lt i hi; omega
  have hblk : w8.heap[k]? = some (.cells #[.int .u8 120, .int .u8 121] 5 (2, 3)) := g2.blk (by rw [hk]; exact blk_newAt (by simp) _) (fun e => by
    rcases e with e | e
    · exact hnf M.p (.inl rfl) (H7.out.2.1.symm.trans e.symm)
    · exact hnf k (.inr (.inl e)) rfl)
  have hfz : w8.frozen? ⟨k, 0, none⟩ = false := by simp [World.frozen?, hblk]
  have hx0 : w8.cell? ⟨k, 0, none⟩ = some (.int .u8 120) := by rw [blk_cell hblk 0]; rfl
  have H8 := Lib.hid (fun x => show AtS w (w8.setCell ⟨k, 0, none⟩ x) M Sx noA by
    have hkk : Keep (fun i => i = k) w8 (w8.setCell ⟨k, 0, none⟩ x) := (Keep.refl (fun i => i = k) w8).setCell (p := ⟨k, 0, none⟩) (.inl rfl) x
    have hlo := H7.out.2.2.2.1
    have hbe := H7.out.2.2.2.2
    have hb8 : Below w.heap.size w w8 := (hbe.alloc hbe.size _).trans (g2.below (B := w.heap.size) (by simp; have := hbe.size; omega) (fun i hi => hlo i (by rcases hi with e | e; exact .inl (e.trans H7.out.2.1); exact .inr (.inl e))))
    refine ⟨⟨V', g1.keepV hkk hnf (fun i hi e => ?_) (by rw [HSX.out]; exact HW.out) (by rw [HSX.out]; exact HL.out)⟩, fun i hi => ⟨hlo i hi, fun h => h⟩, hb8.setCell (p := ⟨k, 0, none⟩) (by show w.heap.size ≤ k; have := hbe.size; omega) x, fun i hi => hi.elim⟩
    rcases g3 i hi with h | h
    · exact h.elim
    · simp at h; omega)
  have HP := Lib.hid H7.out.2.1
  have HPD := Lib.hid H7.out.2.2.1
  clear g1 g2 g3 hnf hblk hk H7
  go_wp2_with fail
  have h2 := at_read 2 (H8.out (.int .u8 122))
  rw [E2.out] at h2
  unfold pS at h2
  rw [← HP.out] at h2
  refine h2.mono ?_
  clear h2
  rintro e w9 ⟨v, rfl, g1, _, h1, _, hb⟩
  have ho := g1 rfl
  have hcv := BS.string (P := Try.prog) ho.bs 28 5 9 (by kernel_rfl) (by kernel_rfl) (by kernel_rfl)
  obtain ⟨g, gc, rfl, hg2, _, _, hcel⟩ := Own.byteN (n := 2) (by decide) ho rfl
  obtain ⟨cur, hg1⟩ : ∃ cur, w9.heap[g]? = some (.cells cur 5 (0, 0)) := by
    rcases ho.2 with ⟨e, _⟩ | ⟨g, cap, cur, e, _, hg, _⟩
    · cases e
    · injection e with e1; injection e1 with e1; injection e1 with e1; subst e1; exact ⟨cur, hg⟩
  have hf1 := blk_frozen hg1 1
  have hx1 := hcel 1 (.int .u8 121) rfl
  have H9 := Lib.hid (fun x => show AtS w (w9.setCell ⟨g, 1, none⟩ x) M Sx noA from ((H8.out (.int .u8 122)).later (hb.setCell (p := ⟨g, 1, none⟩) hg2 x)).1)
  clear g1 h1 hb ho hg1 hg2 hcel
  have hxl : exXY.toList = [120, 121] := by first | decide | kernel_rfl | simp [exXY, ByteArray.toList, ByteArray.toList.loop]
  go_wp2_with fail
  have h2 := at_read 2 (H9.out (.int .u8 122))
  rw [E2.out] at h2
  unfold pS at h2
  rw [← HP.out] at h2
  refine h2.mono ?_
  clear h2
  rintro e w10 ⟨v, rfl, g1, _, h1, _, hb⟩
  have ho := g1 rfl
  have hcv := BS.string (P := Try.prog) ho.bs 28 5 9 (by kernel_rfl) (by kernel_rfl) (by kernel_rfl)
  obtain ⟨va, vc, rfl⟩ := ho.size
  have H10 := Lib.hid h1
  clear g1 h1 hb ho
  go_wp2_with fail
  have h2 := at_dkill H10.out
  unfold dV at h2
  rw [HPD.out] at h2
  refine h2.mono ?_
  clear h2
  rintro e w11 ⟨rfl, M2, e1, e2, h1, _⟩
  rw [← HSD.out] at h1
  have H11 := Lib.hid (show AtS w w11 M2 Sd noA ∧ p = M2.p ∧ M2.pd = pd from ⟨h1, by rw [e1]; exact HP.out, by rw [e2]; exact HPD.out⟩)
  clear h1 e1 e2
  go_wp2_with fail
  have h2 := at_read 2 H11.out.1
  rw [R9.out] at h2
  unfold pS at h2
  rw [← H11.out.2.1] at h2
  refine h2.mono ?_
  clear h2
  rintro e w12 ⟨v, rfl, _, g1, h1, _, hb⟩
  have hv := g1 (by decide)
  subst hv
  have H12 := Lib.hid (show AtS w w12 M2 Sd noA ∧ p = M2.p ∧ M2.pd = pd from ⟨h1, H11.out.2.1, H11.out.2.2⟩)
  clear h1 g1 hb
  go_wp2_with fail
  obtain ⟨V12, h12⟩ := H12.out.1.is
  have h2 := take_dead a n c w12 h12 HD.out
  unfold pS at h2
  rw [← H12.out.2.1] at h2
  refine h2.mono ?_
  clear h2 h12
  rintro e w13 ⟨rfl, hb⟩
  have H13 := Lib.hid (show AtS w w13 M2 Sd noA ∧ p = M2.p ∧ M2.pd = pd from ⟨(H12.out.1.later hb).1, H12.out.2.1, H12.out.2.2⟩)
  clear hb
  go_wp2_with fail
  obtain ⟨V13, h13⟩ := H13.out.1.is
  have h2 := open_dead w13 h13.disk HDD.out
  unfold dV at h2
  rw [H13.out.2.2] at h2
  refine h2.mono ?_
  clear h2 h13
  rintro e w14 ⟨rfl, rfl⟩
  go_wp2_with fail
  have h2 := at_commit H13.out.1 HSTd.out
  unfold pS at h2
  rw [← H13.out.2.1] at h2
  refine h2.mono ?_
  clear h2
  rintro e w14 ⟨L, _, rfl, M4, e1, e2, h1, _⟩
  rw [C9.out] at h1
  rw [C9.out]
  have H14 := Lib.hid (show AtS w w14 M4 Sd noA ∧ p = M4.p from ⟨h1, by rw [e1]; exact H13.out.2.1⟩)
  clear h1 e1 e2
  go_wp2_with fail
  have h2 := at_give 2 H14.out.1
  rw [G9.out] at h2
  unfold pS at h2
  rw [← H14.out.2] at h2
  refine h2.mono ?_
  clear h2
  rintro e w15 ⟨rfl, M5, e1, e2, h1, _⟩
  have H15 := Lib.hid (show AtS w w15 M5 Sd noA ∧ p = M5.p from ⟨h1, by rw [e1]; exact H14.out.2⟩)
  clear h1 e1 e2
  go_wp2_with fail
  have h2 := at_dead H15.out.1
  rw [HD.out] at h2
  unfold pS at h2
  rw [← H15.out.2] at h2
  refine h2.mono ?_
  clear h2
  rintro e w16 ⟨rfl, rfl⟩
  go_wp2_with fail
  have h2 := at_left H15.out.1
  rw [L9.out] at h2
  unfold pS at h2
  rw [← H15.out.2] at h2
  refine h2.mono ?_
  clear h2
  rintro e w16 ⟨rfl, h1, _⟩
  have H16 := Lib.hid h1.below
  clear h1
  go_wp2_with fail
  refine (goes_any _).mono ?_
  rintro e w17 ⟨rfl, hb⟩
  have H17 := Lib.hid (H16.out.trans (hb.mono H16.out.size))
  clear hb
  go_wp2_with fail
  go_ret
  exact ⟨rfl, H17.out⟩
end Go.Proofs.Ytlmngghkhnnaeaa
