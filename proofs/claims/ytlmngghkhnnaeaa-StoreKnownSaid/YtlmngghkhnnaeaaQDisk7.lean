/- The walk of what disk's Write does. -/
import Derived.Test.YtlmngghkhnnaeaaQMDisk5
import Derived.Test.YtlmngghkhnnaeaaQApp
namespace Go.Proofs.Ytlmngghkhnnaeaa
open Go.RowKit
set_option maxRecDepth 100000
set_option maxHeartbeats 2000000
set_option linter.unusedVariables false
set_option linter.unusedSimpArgs false
def wput (k : Int) (u : ByteArray) : Wt → Wt
  | [] => [(k, u)]
  | q :: l => if k = q.1 then (k, u) :: l else q :: wput k u l
def writeS (S : DS) (at_ : Int) (u : ByteArray) : DS := burnS { S with W := wput at_ u S.W }
theorem wput_keys (k : Int) (u : ByteArray) : ∀ l : Wt, (wput k u l).map (·.1) = if (wget k l).isSome then l.map (·.1) else l.map (·.1) ++ [k]
  | [] => rfl
  | q :: l => by
    by_cases h : k = q.1
    · simp [wput, wget, h]
    · have ih := wput_keys k u l
      simp only [wput, wget, if_neg h, List.map_cons, ih]
      split <;> rfl
theorem wget_none (k : Int) : ∀ l : Wt, wget k l = none → k ∉ l.map (·.1)
  | [], _ => by simp
  | q :: l, h => by
    by_cases hk : k = q.1
    · simp [wget, hk] at h
    · simp only [wget, if_neg hk] at h
      have := wget_none k l h
      simp only [List.map_cons, List.mem_cons]
      rintro (e | e)
      · exact hk e
      · exact this e
theorem wput_nodup (k : Int) (u : ByteArray) (l : Wt) (h : (l.map (·.1)).Nodup) : ((wput k u l).map (·.1)).Nodup := by
  rw [wput_keys]
  cases hg : wget k l with
  | none =>
    simp only [Option.isSome_none, Bool.false_eq_true, if_false]
    refine List.nodup_append.2 ⟨h, by simp, ?_⟩
    intro x hx y hy
    rw [List.mem_singleton] at hy
    exact fun e => wget_none k l hg (by rw [← hy, ← e]; exact hx)
  | some x => simpa using h
theorem wput_mem (k : Int) (u : ByteArray) : ∀ (l : Wt) (q : Int × ByteArray), q ∈ wput k u l → q = (k, u) ∨ q ∈ l
  | [], q, h => by simp [wput] at h; exact .inl h
  | x :: l, q, h => by
    by_cases hk : k = x.1
    · simp only [wput, if_pos hk, List.mem_cons] at h
      rcases h with h | h
      · exact .inl h
      · exact .inr (List.mem_cons_of_mem _ h)
    · simp only [wput, if_neg hk, List.mem_cons] at h
      rcases h with h | h
      · exact .inr (by rw [h]; exact List.mem_cons_self)
      · rcases wput_mem k u l q h with h | h
        · exact .inl h
        · exact .inr (List.mem_cons_of_mem _ h)
theorem put_rel {B : Nat} {w : World} (k : Int) (u : ByteArray) (v : Value) (hv : PG B w v (some u)) : ∀ (W : Wt) (vs : IM), vs.length = W.length → (∀ (i : Nat) (q : Int × ByteArray), W[i]? = some q → ∃ v, vs[i]? = some (q.1, v) ∧ PG B w v (some q.2)) →
    (IM.put k v vs).length = (wput k u W).length ∧ ∀ (i : Nat) (q : Int × ByteArray), (wput k u W)[i]? = some q → ∃ v', (IM.put k v vs)[i]? = some (q.1, v') ∧ PG B w v' (some q.2)
  | [], [], _, _ => by
    refine ⟨rfl, fun i q hq => ?_⟩
    cases i with
    | zero => simp [wput] at hq; subst hq; exact ⟨v, rfl, hv⟩
    | succ i => simp [wput] at hq
  | [], _ :: _, h, _ => by simp at h
  | _ :: _, [], h, _ => by simp at h
  | q :: W, x :: vs, h, hx => by
    obtain ⟨v0, h1, h2⟩ := hx 0 q rfl
    simp only [List.getElem?_cons_zero, Option.some.injEq] at h1
    subst h1
    by_cases hk : k = q.1
    · simp only [IM.put, wput, if_pos hk]
      refine ⟨by simpa using h, fun i q' hq' => ?_⟩
      cases i with
      | zero => simp at hq'; subst hq'; exact ⟨v, rfl, hv⟩
      | succ i => exact hx (i + 1) q' hq'
    · obtain ⟨g1, g2⟩ := put_rel k u v hv W vs (by simpa using h) (fun i q' hq' => hx (i + 1) q' hq')
      simp only [IM.put, wput, if_neg hk]
      refine ⟨by simpa using g1, fun i q' hq' => ?_⟩
      cases i with
      | zero => simp at hq'; subst hq'; exact ⟨v0, rfl, h2⟩
      | succ i => exact g2 i q' hq'
theorem IMapAt.uniq {w : World} {b : Nat} {l l' : IM} (h : IMapAt w b l) (h' : IMapAt w b l') : l = l' := by
  obtain ⟨es, c, h1, h2, _⟩ := h
  obtain ⟨es', c', h1', h2', _⟩ := h'
  rw [h1] at h1'
  simp only [Option.some.injEq, Obj.map.injEq] at h1'
  obtain ⟨rfl, _⟩ := h1'
  unfold IKVs at h2 h2'
  rw [h2] at h2'
  refine (List.map_inj_right (fun x y hxy => ?_)).1 h2'
  simp only [Prod.mk.injEq, Value.int.injEq, true_and] at hxy
  exact Prod.ext hxy.1 hxy.2
section
variable {p bl bw : Nat} {ov : Value} {S : DS}
/-- one more page waits, or another -/
theorem DiskIs.put {w w5 : World} (h : DiskIs w p bl bw ov S) (at_ : Nat) (hat : at_ < S.L.length) (u : ByteArray) (ov' v : Value) (vs : IM) (hvs : IMapAt w bw vs) (hk : Keep (DF p bl bw ov) w w5)
    (hp : w5.heap[p]? = some (.cells (dCells bl bw ov' S.L.length S.fuse S.dead) 54 (0, 0))) (hbl : w5.heap[bl]? = w.heap[bl]?) (hv : PG S.B w5 v (some u)) (hm : IMapAt w5 bw (IM.put at_ v vs))
    (ho : w5.ownsRow 0 3 1 ov' (wput at_ u S.W).length (((wput at_ u S.W).map (·.1)).map (Value.int .i64))) : DiskIs w5 p bl bw ov' { S with W := wput at_ u S.W } := by
  refine ⟨hp, ?_, ?_, by rw [List.map_map] at ho; exact ho, ?_, wput_nodup _ _ _ h.nodup, h.fuse, h.len, Nat.le_trans h.low hk.size⟩
  · obtain ⟨ls, h1, h2, h3⟩ := h.lasts
    exact ⟨ls, hbl.trans h1, h2, fun i o ho => by obtain ⟨x, a, b⟩ := h3 i o ho; exact ⟨x, a, b.keep hk h.not_bytes⟩⟩
  · obtain ⟨vs', h1, h2, h3⟩ := h.waits
    have e : vs' = vs := h1.uniq hvs
    subst e
    obtain ⟨g1, g2⟩ := put_rel (w := w5) at_ u v hv S.W vs' h2 (fun i q hq => by obtain ⟨x, a, b⟩ := h3 i q hq; exact ⟨x, a, b.keep hk h.not_bytes⟩)
    exact ⟨_, hm, g1, g2⟩
  · intro q hq
    rcases wput_mem _ _ _ _ hq with e | e
    · rw [e]; exact ⟨Int.natCast_nonneg _, by simpa using hat⟩
    · exact h.rng q e
theorem BS.keep' {F : Nat → Prop} {w w' : World} {v : Value} {s : ByteArray} (h : BS w v s) (hk : Keep F w w') (hF : ∀ k, v.ownBlock = some k → ¬ F k) : BS w' v s := by
  obtain ⟨a, cap, rfl, hc, hm, hn, hx⟩ := h
  refine ⟨a, cap, rfl, hc, hm, hn, ?_⟩
  rcases hx with h0 | ⟨b, off, rfl, hcell⟩
  · exact .inl h0
  · exact .inr ⟨b, off, rfl, fun i hi => hk.cell (hcell i hi) (hF b rfl)⟩
theorem writeC (at_ : Nat) (hat : at_ < S.L.length) (qd qa qb : Nat) (bv : Value) (u : ByteArray) (w : World) (hD : DiskIs w p bl bw ov S) (hqd : w.cell? ⟨qd, 0, none⟩ = some (dV p)) (hqa : w.cell? ⟨qa, 0, none⟩ = some (.int .i64 at_))
    (hqb : w.cell? ⟨qb, 0, none⟩ = some bv) (hB : BS w bv u) (hu : u.size = 4096) (ne1 : ¬ DF p bl bw ov qd) (ne2 : ¬ DF p bl bw ov qa) (ne3 : ¬ DF p bl bw ov qb) (nb : ∀ k, bv.ownBlock = some k → ¬ DF p bl bw ov k) :
    Calls Try.prog 53 #[.pointer (some ⟨qd, 0, none⟩), .pointer (some ⟨qa, 0, none⟩), .pointer (some ⟨qb, 0, none⟩)] w fun e w' => ∃ c, e = .returned (.int .i64 c) ∧ c = (if (writeS S at_ u).dead = true then 9 else 0) ∧
      ∃ ov', DiskIs w' p bl bw ov' (writeS S at_ u) ∧ Keep (DF p bl bw ov) w w' ∧ ∀ i, ov'.ownBlock = some i → ov.ownBlock = some i ∨ w.heap.size ≤ i := by
  obtain ⟨vs, hm1, hm2, hm3⟩ := hD.waits
  obtain ⟨ap1, ap2, ap3, ap4, ap5, ap6⟩ := hD.apart
  have hlen := hD.len
  have hwl := hD.wlen
  obtain ⟨ab, cb, rfl⟩ := hB.len
  obtain ⟨xv, ok, hok, hg⟩ : ∃ xv ok, ok = (wget at_ S.W).isSome ∧ imapGetV vs at_ = .tuple #[xv, .bool ok] := by
    rcases waits_get S.W vs w at_ hm2 hm3 with ⟨e1, e2⟩ | ⟨v, x, e1, e2, _⟩
    · exact ⟨_, false, by rw [e2]; rfl, by unfold imapGetV; rw [e1]; rfl⟩
    · exact ⟨_, true, by rw [e2]; rfl, by unfold imapGetV; rw [e1]; rfl⟩
  have hfact : ∀ w', Keep (fun i => i = bw) w w' → w'.cell? ⟨qd, 0, none⟩ = some (.pointer (some ⟨p, 0, none⟩)) ∧ w'.cell? ⟨qa, 0, none⟩ = some (.int .i64 at_) ∧ w'.cell? ⟨p, 1, none⟩ = some (.map (some bw)) ∧ w'.cell? ⟨p, 2, none⟩ = some ov := fun w' hk =>
    ⟨hk.cell hqd (fun e => ne1 (.inr (.inr (.inl e)))), hk.cell hqa (fun e => ne2 (.inr (.inr (.inl e)))), hk.cell hD.c1 ap2, hk.cell hD.c2 ap2⟩
  have hlook : (Instr.lookup 51 (.map (some bw)) (.int .i64 at_) true).run Try.prog w.drew = .ok (.tuple #[xv, .bool ok]) w.drew := by
    rw [← hg]; exact im_ok (hm1.keep ((Keep.refl (fun _ => False) w).drew) (fun h => h)) at_
  have HF := Lib.hid hfact
  have HD := Lib.hid hD
  have HM := Lib.hid hm1
  have HB := Lib.hid hB
  have HQB := Lib.hid hqb
  have HOK := Lib.hid hok
  obtain ⟨hf1, hf2, hf3, hf4⟩ := hfact _ ((Keep.refl _ w).drew)
  obtain ⟨d, hd⟩ : ∃ d, d = (writeS S at_ u).dead := ⟨_, rfl⟩
  rw [← hd]
  have HDD := Lib.hid hd
  have HU := Lib.hid hu
  clear hD hm1 hm2 hm3 hB hqb hok hg hfact hd hu
  go_enter Try.func53, Try.ntmps53
  go_wp2_with fail
  refine wp_region_held_drew (S := (fun w' => w'.cell? ⟨qd, 0, none⟩ = some (.pointer (some ⟨p, 0, none⟩)) ∧ w'.cell? ⟨qa, 0, none⟩ = some (.int .i64 at_) ∧ w'.cell? ⟨p, 1, none⟩ = some (.map (some bw)) ∧ (Instr.lookup 51 (.map (some bw)) (.int .i64 at_) true).run Try.prog w' = .ok (.tuple #[xv, .bool ok]) w')) (by kernel_rfl) ?_ (fun hHeld0 => ?_)
  · (try dsimp only)
    exact ⟨hf1, hf2, hf3, hlook⟩
  refine takeN (v := ?_) 0 rfl (by kernel_rfl) (by kernel_rfl) (by kernel_rfl) (fun _ _ _ h => h) (by rfl) ?_ hHeld0 ?_
  rotate_left
  · intro w hSw; (try dsimp only at hSw); go_simp; with_reducible rfl
  try simp only [Act.put, List.setIfInBounds_toArray, List.set_cons_zero, List.set_cons_succ]
  refine takeN (v := ?_) 1 rfl (by kernel_rfl) (by kernel_rfl) (by kernel_rfl) (fun _ _ _ h => h) (by rfl) ?_ hHeld0 ?_
  rotate_left
  · intro w hSw; (try dsimp only at hSw); go_simp; with_reducible rfl
  try simp only [Act.put, List.setIfInBounds_toArray, List.set_cons_zero, List.set_cons_succ]
  refine takeN (v := ?_) 2 rfl (by kernel_rfl) (by kernel_rfl) (by kernel_rfl) (fun _ _ _ h => h) (by rfl) ?_ hHeld0 ?_
  rotate_left
  · intro w hSw; (try dsimp only at hSw); go_simp; with_reducible rfl
  try simp only [Act.put, List.setIfInBounds_toArray, List.set_cons_zero, List.set_cons_succ]
  refine takeN (v := ?_) 3 rfl (by kernel_rfl) (by kernel_rfl) (by kernel_rfl) (fun _ _ _ h => h) (by rfl) ?_ hHeld0 ?_
  rotate_left
  · intro w hSw; (try dsimp only at hSw); go_simp; with_reducible rfl
  try simp only [Act.put, List.setIfInBounds_toArray, List.set_cons_zero, List.set_cons_succ]
  refine takeN (v := ?_) 4 rfl (by kernel_rfl) (by kernel_rfl) (by kernel_rfl) (fun _ _ _ h => h) (by rfl) ?_ hHeld0 ?_
  rotate_left
  · intro w hSw; (try dsimp only at hSw); go_simp; with_reducible rfl
  try simp only [Act.put, List.setIfInBounds_toArray, List.set_cons_zero, List.set_cons_succ]
  refine wpAnyH_ready (rs := [5]) (by kernel_rfl) (by simp) ?_
  refine readyN rfl (fun K hK => ?_) ?_
  · -- operation 5
    go_simp
    refine hK.out _ _ ?_ (fun hHeld1 => ?_)
    · (try dsimp only)
      exact ⟨hf1, hf2, hf3, hlook⟩
    clear hK K hHeld0
    try simp only [Act.put, List.setIfInBounds_toArray, List.set_cons_zero, List.set_cons_succ]
    refine takeN (v := ?_) 6 rfl (by kernel_rfl) (by kernel_rfl) (by kernel_rfl) (fun _ _ _ h => h) (by rfl) ?_ hHeld1 ?_
    rotate_left
    · intro w hSw; (try dsimp only at hSw); go_simp; with_reducible rfl
    try simp only [Act.put, List.setIfInBounds_toArray, List.set_cons_zero, List.set_cons_succ]
    refine takeN (v := ?_) 7 rfl (by kernel_rfl) (by kernel_rfl) (by kernel_rfl) (fun _ _ _ h => h) (by rfl) ?_ hHeld1 ?_
    rotate_left
    · intro w hSw; (try dsimp only at hSw); go_simp; with_reducible rfl
    try simp only [Act.put, List.setIfInBounds_toArray, List.set_cons_zero, List.set_cons_succ]
    refine takeN (v := ?_) 8 rfl (by kernel_rfl) (by kernel_rfl) (by kernel_rfl) (fun _ _ _ h => h) (by rfl) ?_ hHeld1 ?_
    rotate_left
    · intro w hSw; (try dsimp only at hSw); go_simp; with_reducible rfl
    try simp only [Act.put, List.setIfInBounds_toArray, List.set_cons_zero, List.set_cons_succ]
    refine takeN (v := ?_) 9 rfl (by kernel_rfl) (by kernel_rfl) (by kernel_rfl) (fun _ _ _ h => h) (by rfl) ?_ hHeld1 ?_
    rotate_left
    · intro w hSw; (try dsimp only at hSw); go_simp; with_reducible rfl
    try simp only [Act.put, List.setIfInBounds_toArray, List.set_cons_zero, List.set_cons_succ]
    refine takeN (v := ?_) 10 rfl (by kernel_rfl) (by kernel_rfl) (by kernel_rfl) (fun _ _ _ h => h) (by rfl) ?_ hHeld1 ?_
    rotate_left
    · intro w hSw; (try dsimp only at hSw); go_simp; with_reducible rfl
    try simp only [Act.put, List.setIfInBounds_toArray, List.set_cons_zero, List.set_cons_succ]
    refine wpAnyH_done (by kernel_rfl) ?_ _
    clear hf1 hf2 hf3 hf4 hlook
    go_upto_if 16 with fail
    go_cut [] (fun wx => Hid (∃ ov', wx.heap[p]? = some (.cells (dCells bl bw ov' S.L.length S.fuse S.dead) 54 (0, 0)) ∧ wx.heap[bl]? = w.heap[bl]? ∧ wx.heap[bw]? = w.heap[bw]? ∧ Keep (DF p bl bw ov) w wx ∧ wx.ownsRow 0 3 1 ov' (wput at_ u S.W).length (((wput at_ u S.W).map (·.1)).map (Value.int .i64)) ∧ ∀ i, ov'.ownBlock = some i → ov.ownBlock = some i ∨ w.heap.size ≤ i))
    case first =>
      cases ok with
      | true =>
        go_wp2_with fail
        go_meet
        refine Lib.hid ⟨ov, HD.out.blk, rfl, rfl, (Keep.refl _ _).drew, ?_, fun i hi => .inl hi⟩
        have hk := wput_keys (at_ : Int) u S.W
        rw [← HOK.out, if_pos rfl] at hk
        have hl := congrArg List.length hk
        rw [List.length_map, List.length_map] at hl
        rw [hk, hl, List.map_map]
        exact HD.out.order
      | false =>
        obtain ⟨i0, hi, hzz⟩ := Option.map_eq_some_iff.1 iInt
        simp only [Prod.mk.injEq] at hzz
        obtain ⟨hz0, hz1, hz2⟩ := hzz
        have k1 : Keep (DF p bl bw ov) w (w.drew.drew.alloc (.cells #[.int .i64 at_] 3)) := (((Keep.refl _ _).drew).drew).alloc _
        have hown : (w.drew.drew.alloc (.cells #[.int .i64 at_] 3)).ownsRow 0 3 1 ov S.W.length (S.W.map fun q => .int .i64 q.1) := (HD.out.below ((((Below.refl w.heap.size w).drew).drew).alloc (Nat.le_refl _) _)).order
        obtain ⟨v2, w2, hap, ho2, hg2, _, hat2⟩ := run_append_own_at (P := Try.prog) (w.drew.drew.alloc (.cells #[.int .i64 at_] 3)) 0 52 52 3 i0 _ 1 8 uInts hi hz0 hz1 hz2 rfl (by decide) ov S.W.length (S.W.map fun q => .int .i64 q.1) hown ⟨w.heap.size, 0, none⟩ 1 1 [.int .i64 at_] rfl (by
          intro j x hj
          rw [Go.WideShapes.add_plain, Nat.zero_add]
          cases j with
          | zero => simp at hj; subst hj; exact by rw [blk_cell (blk_newAt (by simp) _)]; rfl
          | succ j => simp at hj) (by intro x hx; rw [List.mem_singleton] at hx; rw [hx]; rfl) (by unfold maxLen; omega) (by omega) (Nat.zero_le _)
        obtain ⟨g2, cap2, rfl⟩ : ∃ g2 cap2, v2 = .slice (some ⟨g2, 0, none⟩) (S.W.length + 1) cap2 := by
          rcases ho2.2 with ⟨_, h0⟩ | ⟨g, cap, cur, he, _⟩
          · omega
          · exact ⟨g, cap, he⟩
        have k2 : Keep (DF p bl bw ov) w w2 := k1.trans (keep_grown hg2) (fun i hi => .inl (.inr (.inr (.inr hi))))
        have hb2 : w2.heap[p]? = some (.cells (dCells bl bw ov S.L.length S.fuse S.dead) 54 (0, 0)) := by
          rw [(keep_grown hg2).block p (by have := blk_lt HD.out.blk; simp; omega) (fun e => HD.out.apart.2.2.2.1 e)]
          exact blk_alloc HD.out.blk _
        have hcz2 := blk_cell hb2 2
        simp [dCells] at hcz2
        have hfz2 := blk_frozen hb2 2
        have k3 : Keep (DF p bl bw ov) w (w2.setCell ⟨p, 2, none⟩ (.slice (some ⟨g2, 0, none⟩) (S.W.length + 1) cap2)) := k2.setCell (p := ⟨p, 2, none⟩) (.inl (.inl rfl)) _
        have hq2 : ∀ w', Keep (DF p bl bw ov) w w' → w'.cell? ⟨qd, 0, none⟩ = some (.pointer (some ⟨p, 0, none⟩)) ∧ w'.cell? ⟨qa, 0, none⟩ = some (.int .i64 at_) := fun w' hk => ⟨hk.cell hqd ne1, hk.cell hqa ne2⟩
        have HQ2 := Lib.hid hq2
        have hp1 : w.drew.drew.cell? ⟨p, 2, none⟩ = some ov := HD.out.c2
        have hp2 : (w.drew.drew.alloc (.cells #[.int .i64 at_] 3)).cell? ⟨p, 2, none⟩ = some ov := by
          have h0 := (Keep.ofBelow ((((Below.refl w.heap.size w).drew).drew).alloc (Nat.le_refl _) (.cells #[.int .i64 at_] 3)) (fun _ => False)).cell HD.out.c2 (fun h => h)
          exact h0
        have hp3 : (w.alloc (.cells #[.int .i64 at_] 3)).drew.drew.cell? ⟨p, 2, none⟩ = some ov := hp2
        have K1 := Lib.hid k1
        have K2 := Lib.hid k2
        have K3 := Lib.hid k3
        have HO2 := Lib.hid ho2
        have HG2 := Lib.hid hg2
        have HB2 := Lib.hid hb2
        have HAT2 := Lib.hid hat2
        clear k1 hown ho2 hg2 hat2 k2 hb2 k3 hq2 hi hz0 hz1 hz2
        go_wp2_with fail
        refine wp_region_held_drew (S := (fun w' => w'.cell? ⟨qd, 0, none⟩ = some (.pointer (some ⟨p, 0, none⟩)) ∧ w'.cell? ⟨qa, 0, none⟩ = some (.int .i64 at_))) (by kernel_rfl) ?_ (fun hHeld0 => ?_)
        · (try dsimp only)
          first | exact HQ2.out _ (((Keep.refl _ _).drew).drew) | exact HQ2.out _ K1.out | exact HQ2.out _ K2.out | exact HQ2.out _ K3.out
        refine takeN (v := ?_) 0 rfl (by kernel_rfl) (by kernel_rfl) (by kernel_rfl) (fun _ _ _ h => h) (by rfl) ?_ hHeld0 ?_
        rotate_left
        · intro w hSw; (try dsimp only at hSw); go_simp; with_reducible rfl
        try simp only [Act.put, List.setIfInBounds_toArray, List.set_cons_zero, List.set_cons_succ]
        refine takeN (v := ?_) 1 rfl (by kernel_rfl) (by kernel_rfl) (by kernel_rfl) (fun _ _ _ h => h) (by rfl) ?_ hHeld0 ?_
        rotate_left
        · intro w hSw; (try dsimp only at hSw); go_simp; with_reducible rfl
        try simp only [Act.put, List.setIfInBounds_toArray, List.set_cons_zero, List.set_cons_succ]
        refine takeN (v := ?_) 2 rfl (by kernel_rfl) (by kernel_rfl) (by kernel_rfl) (fun _ _ _ h => h) (by rfl) ?_ hHeld0 ?_
        rotate_left
        · intro w hSw; (try dsimp only at hSw); go_simp; with_reducible rfl
        try simp only [Act.put, List.setIfInBounds_toArray, List.set_cons_zero, List.set_cons_succ]
        refine takeN (v := ?_) 3 rfl (by kernel_rfl) (by kernel_rfl) (by kernel_rfl) (fun _ _ _ h => h) (by rfl) ?_ hHeld0 ?_
        rotate_left
        · intro w hSw; (try dsimp only at hSw); go_simp; with_reducible rfl
        try simp only [Act.put, List.setIfInBounds_toArray, List.set_cons_zero, List.set_cons_succ]
        refine takeN (v := ?_) 5 rfl (by kernel_rfl) (by kernel_rfl) (by kernel_rfl) (fun _ _ _ h => h) (by rfl) ?_ hHeld0 ?_
        rotate_left
        · intro w hSw; (try dsimp only at hSw); go_simp; with_reducible rfl
        try simp only [Act.put, List.setIfInBounds_toArray, List.set_cons_zero, List.set_cons_succ]
        refine wpAnyH_ready (rs := [4, 6]) (by kernel_rfl) (by simp) ?_
        refine readyN rfl (fun K hK => ?_) ?_
        · -- operation 4
          go_simp
          refine hK.out _ _ ?_ (fun hHeld1 => ?_)
          · (try dsimp only)
            first | exact HQ2.out _ (((Keep.refl _ _).drew).drew) | exact HQ2.out _ K1.out | exact HQ2.out _ K2.out | exact HQ2.out _ K3.out
          clear hK K hHeld0
          try simp only [Act.put, List.setIfInBounds_toArray, List.set_cons_zero, List.set_cons_succ]
          refine wpAnyH_ready (rs := [6]) (by kernel_rfl) (by simp) ?_
          refine readyN rfl (fun K hK => ?_) ?_
          · -- operation 6
            go_simp
            refine hK.out _ _ ?_ (fun hHeld2 => ?_)
            · (try dsimp only)
              first | exact HQ2.out _ (((Keep.refl _ _).drew).drew) | exact HQ2.out _ K1.out | exact HQ2.out _ K2.out | exact HQ2.out _ K3.out
            clear hK K hHeld1
            try simp only [Act.put, List.setIfInBounds_toArray, List.set_cons_zero, List.set_cons_succ]
            refine wpAnyH_ready (rs := [7]) (by kernel_rfl) (by simp) ?_
            refine readyN rfl (fun K hK => ?_) ?_
            · -- operation 7
              refine wp_append_run _ _ 52 rfl rfl rfl hap ?_
              refine hK.out _ _ ?_ (fun hHeld3 => ?_)
              · (try dsimp only)
                first | exact HQ2.out _ (((Keep.refl _ _).drew).drew) | exact HQ2.out _ K1.out | exact HQ2.out _ K2.out | exact HQ2.out _ K3.out
              clear hK K hHeld2
              try simp only [Act.put, List.setIfInBounds_toArray, List.set_cons_zero, List.set_cons_succ]
              refine takeN (v := ?_) 8 rfl (by kernel_rfl) (by kernel_rfl) (by kernel_rfl) (fun _ _ _ h => h) (by rfl) ?_ hHeld3 ?_
              rotate_left
              · intro w hSw; (try dsimp only at hSw); go_simp; with_reducible rfl
              try simp only [Act.put, List.setIfInBounds_toArray, List.set_cons_zero, List.set_cons_succ]
              refine takeN (v := ?_) 9 rfl (by kernel_rfl) (by kernel_rfl) (by kernel_rfl) (fun _ _ _ h => h) (by rfl) ?_ hHeld3 ?_
              rotate_left
              · intro w hSw; (try dsimp only at hSw); go_simp; with_reducible rfl
              try simp only [Act.put, List.setIfInBounds_toArray, List.set_cons_zero, List.set_cons_succ]
              refine wpAnyH_ready (rs := [10]) (by kernel_rfl) (by simp) ?_
              refine readyN rfl (fun K hK => ?_) ?_
              · -- operation 10
                go_simp
                refine hK.out _ _ ?_ (fun hHeld4 => ?_)
                · (try dsimp only)
                  first | exact HQ2.out _ (((Keep.refl _ _).drew).drew) | exact HQ2.out _ K1.out | exact HQ2.out _ K2.out | exact HQ2.out _ K3.out
                clear hK K hHeld3
                try simp only [Act.put, List.setIfInBounds_toArray, List.set_cons_zero, List.set_cons_succ]
                refine wpAnyH_done (by kernel_rfl) ?_ _
                go_wp2_with fail
                go_meet
                have hk := wput_keys (at_ : Int) u S.W
                rw [← HOK.out, if_neg (by decide)] at hk
                have hl := congrArg List.length hk
                rw [List.length_append, List.length_map, List.length_map, List.length_singleton] at hl
                obtain ⟨ap1, ap2, ap3, ap4, ap5, ap6⟩ := HD.out.apart
                have hsame : ∀ i, i < w.heap.size → i ≠ p → ov.ownBlock ≠ some i → (w2.setCell ⟨p, 2, none⟩ (.slice (some ⟨g2, 0, none⟩) (S.W.length + 1) cap2)).heap[i]? = w.heap[i]? := fun i hi hp ho => by
                  rw [Below.heap_setCell _ _ _ _ hp, (keep_grown HG2.out).block i (by simp; omega) ho]
                  exact Below.heap_alloc w _ i hi
                have hlt := HD.out.lt
                have hgp : g2 ≠ p := by
                  rintro rfl
                  rcases HAT2.out with e | e
                  · exact ap4 e.symm
                  · have := hlt g2 (.inl rfl)
                    simp [Value.ownBlock] at e
                    omega
                refine Lib.hid ⟨_, blk_setCell HB2.out 2 _, hsame bl (hlt _ (.inr (.inl rfl))) (fun e => ap1 e.symm) ap5, hsame bw (hlt _ (.inr (.inr (.inl rfl)))) (fun e => ap2 e.symm) ap6, K3.out, ?_, ?_⟩
                · rw [hk, hl]
                  have ho := HO2.out
                  refine ⟨by simp, ?_⟩
                  rcases ho.2 with ⟨he, _⟩ | ⟨g, cap, cur, he, hb, hg, hn, hm, hs, ht⟩
                  · cases he
                  · injection he with he1 he2 he3
                    injection he1 with he1
                    injection he1 with he1
                    subst he1; subst he3
                    refine .inr ⟨_, _, cur, rfl, hb, (Below.heap_setCell _ _ _ _ hgp).trans hg, hn, hm, hs, ht.trans ?_⟩
                    simp [List.map_map, Function.comp_def]
                · intro i hi
                  rcases HAT2.out with e | e
                  · exact .inl (e ▸ hi)
                  · rw [e] at hi
                    simp at hi
                    exact .inr (by omega)
              exact AllReadyH.nil
            exact AllReadyH.nil
          exact AllReadyH.nil
        refine readyN rfl (fun K hK => ?_) ?_
        · -- operation 6
          go_simp
          refine hK.out _ _ ?_ (fun hHeld1 => ?_)
          · (try dsimp only)
            first | exact HQ2.out _ (((Keep.refl _ _).drew).drew) | exact HQ2.out _ K1.out | exact HQ2.out _ K2.out | exact HQ2.out _ K3.out
          clear hK K hHeld0
          try simp only [Act.put, List.setIfInBounds_toArray, List.set_cons_zero, List.set_cons_succ]
          refine wpAnyH_ready (rs := [4]) (by kernel_rfl) (by simp) ?_
          refine readyN rfl (fun K hK => ?_) ?_
          · -- operation 4
            go_simp
            refine hK.out _ _ ?_ (fun hHeld2 => ?_)
            · (try dsimp only)
              first | exact HQ2.out _ (((Keep.refl _ _).drew).drew) | exact HQ2.out _ K1.out | exact HQ2.out _ K2.out | exact HQ2.out _ K3.out
            clear hK K hHeld1
            try simp only [Act.put, List.setIfInBounds_toArray, List.set_cons_zero, List.set_cons_succ]
            refine wpAnyH_ready (rs := [7]) (by kernel_rfl) (by simp) ?_
            refine readyN rfl (fun K hK => ?_) ?_
            · -- operation 7
              refine wp_append_run _ _ 52 rfl rfl rfl hap ?_
              refine hK.out _ _ ?_ (fun hHeld3 => ?_)
              · (try dsimp only)
                first | exact HQ2.out _ (((Keep.refl _ _).drew).drew) | exact HQ2.out _ K1.out | exact HQ2.out _ K2.out | exact HQ2.out _ K3.out
              clear hK K hHeld2
              try simp only [Act.put, List.setIfInBounds_toArray, List.set_cons_zero, List.set_cons_succ]
              refine takeN (v := ?_) 8 rfl (by kernel_rfl) (by kernel_rfl) (by kernel_rfl) (fun _ _ _ h => h) (by rfl) ?_ hHeld3 ?_
              rotate_left
              · intro w hSw; (try dsimp only at hSw); go_simp; with_reducible rfl
              try simp only [Act.put, List.setIfInBounds_toArray, List.set_cons_zero, List.set_cons_succ]
              refine takeN (v := ?_) 9 rfl (by kernel_rfl) (by kernel_rfl) (by kernel_rfl) (fun _ _ _ h => h) (by rfl) ?_ hHeld3 ?_
              rotate_left
              · intro w hSw; (try dsimp only at hSw); go_simp; with_reducible rfl
              try simp only [Act.put, List.setIfInBounds_toArray, List.set_cons_zero, List.set_cons_succ]
              refine wpAnyH_ready (rs := [10]) (by kernel_rfl) (by simp) ?_
              refine readyN rfl (fun K hK => ?_) ?_
              · -- operation 10
                go_simp
                refine hK.out _ _ ?_ (fun hHeld4 => ?_)
                · (try dsimp only)
                  first | exact HQ2.out _ (((Keep.refl _ _).drew).drew) | exact HQ2.out _ K1.out | exact HQ2.out _ K2.out | exact HQ2.out _ K3.out
                clear hK K hHeld3
                try simp only [Act.put, List.setIfInBounds_toArray, List.set_cons_zero, List.set_cons_succ]
                refine wpAnyH_done (by kernel_rfl) ?_ _
                go_wp2_with fail
                go_meet
                have hk := wput_keys (at_ : Int) u S.W
                rw [← HOK.out, if_neg (by decide)] at hk
                have hl := congrArg List.length hk
                rw [List.length_append, List.length_map, List.length_map, List.length_singleton] at hl
                obtain ⟨ap1, ap2, ap3, ap4, ap5, ap6⟩ := HD.out.apart
                have hsame : ∀ i, i < w.heap.size → i ≠ p → ov.ownBlock ≠ some i → (w2.setCell ⟨p, 2, none⟩ (.slice (some ⟨g2, 0, none⟩) (S.W.length + 1) cap2)).heap[i]? = w.heap[i]? := fun i hi hp ho => by
                  rw [Below.heap_setCell _ _ _ _ hp, (keep_grown HG2.out).block i (by simp; omega) ho]
                  exact Below.heap_alloc w _ i hi
                have hlt := HD.out.lt
                have hgp : g2 ≠ p := by
                  rintro rfl
                  rcases HAT2.out with e | e
                  · exact ap4 e.symm
                  · have := hlt g2 (.inl rfl)
                    simp [Value.ownBlock] at e
                    omega
                refine Lib.hid ⟨_, blk_setCell HB2.out 2 _, hsame bl (hlt _ (.inr (.inl rfl))) (fun e => ap1 e.symm) ap5, hsame bw (hlt _ (.inr (.inr (.inl rfl)))) (fun e => ap2 e.symm) ap6, K3.out, ?_, ?_⟩
                · rw [hk, hl]
                  have ho := HO2.out
                  refine ⟨by simp, ?_⟩
                  rcases ho.2 with ⟨he, _⟩ | ⟨g, cap, cur, he, hb, hg, hn, hm, hs, ht⟩
                  · cases he
                  · injection he with he1 he2 he3
                    injection he1 with he1
                    injection he1 with he1
                    subst he1; subst he3
                    refine .inr ⟨_, _, cur, rfl, hb, (Below.heap_setCell _ _ _ _ hgp).trans hg, hn, hm, hs, ht.trans ?_⟩
                    simp [List.map_map, Function.comp_def]
                · intro i hi
                  rcases HAT2.out with e | e
                  · exact .inl (e ▸ hi)
                  · rw [e] at hi
                    simp at hi
                    exact .inr (by omega)
              exact AllReadyH.nil
            exact AllReadyH.nil
          exact AllReadyH.nil
        exact AllReadyH.nil
    case rest =>
      obtain ⟨ov', hb1, hb2, hb3, hk1, ho1, hat1⟩ := hcut.out
      obtain ⟨ap1, ap2, ap3, ap4, ap5, ap6⟩ := HD.out.apart
      have hmc : IMapAt wc bw vs := by
        obtain ⟨es, c, h1, h2⟩ := HM.out
        exact ⟨es, c, hb3.trans h1, h2⟩
      have hfact2 : ∀ w', Keep (fun i => i = bw) wc w' → w'.cell? ⟨qd, 0, none⟩ = some (.pointer (some ⟨p, 0, none⟩)) ∧ w'.cell? ⟨qa, 0, none⟩ = some (.int .i64 at_) ∧ w'.cell? ⟨p, 1, none⟩ = some (.map (some bw)) ∧ w'.cell? ⟨qb, 0, none⟩ = some (.slice ab u.size cb) := fun w' hk =>
        ⟨hk.cell (hk1.cell hqd ne1) (fun e => ne1 (.inr (.inr (.inl e)))), hk.cell (hk1.cell hqa ne2) (fun e => ne2 (.inr (.inr (.inl e)))), hk.cell (by rw [blk_cell hb1]; rfl) ap2, hk.cell (hk1.cell HQB.out ne3) (fun e => ne3 (.inr (.inr (.inl e))))⟩
      have HF2 := Lib.hid hfact2
      have HBC := Lib.hid ((HB.out.keep' hk1 nb : BS wc (.slice ab u.size cb) u))
      have HMC := Lib.hid hmc
      have HP1 := Lib.hid hb1
      have HP2 := Lib.hid hb2
      have HK1 := Lib.hid hk1
      have HO1 := Lib.hid ho1
      have HAT1 := Lib.hid hat1
      clear hb1 hb2 hb3 hk1 ho1 hat1 hmc hfact2 hcut
      go_wp2_with fail
      refine wp_region_held_drew (S := (fun w' => w'.cell? ⟨qd, 0, none⟩ = some (.pointer (some ⟨p, 0, none⟩)) ∧ w'.cell? ⟨qa, 0, none⟩ = some (.int .i64 at_) ∧ w'.cell? ⟨p, 1, none⟩ = some (.map (some bw)) ∧ w'.cell? ⟨qb, 0, none⟩ = some (.slice ab u.size cb))) (by kernel_rfl) ?_ (fun hHeld0 => ?_)
      · (try dsimp only)
        first | exact HF2.out _ ((Keep.refl _ _).drew) | exact HF2.out _ (Keep.ofBelow HB4.out _) | exact HF2.out _ HK5.out
      refine takeN (v := ?_) 0 rfl (by kernel_rfl) (by kernel_rfl) (by kernel_rfl) (fun _ _ _ h => h) (by rfl) ?_ hHeld0 ?_
      rotate_left
      · intro w hSw; (try dsimp only at hSw); go_simp; with_reducible rfl
      try simp only [Act.put, List.setIfInBounds_toArray, List.set_cons_zero, List.set_cons_succ]
      refine takeN (v := ?_) 1 rfl (by kernel_rfl) (by kernel_rfl) (by kernel_rfl) (fun _ _ _ h => h) (by rfl) ?_ hHeld0 ?_
      rotate_left
      · intro w hSw; (try dsimp only at hSw); go_simp; with_reducible rfl
      try simp only [Act.put, List.setIfInBounds_toArray, List.set_cons_zero, List.set_cons_succ]
      refine takeN (v := ?_) 2 rfl (by kernel_rfl) (by kernel_rfl) (by kernel_rfl) (fun _ _ _ h => h) (by rfl) ?_ hHeld0 ?_
      rotate_left
      · intro w hSw; (try dsimp only at hSw); go_simp; with_reducible rfl
      try simp only [Act.put, List.setIfInBounds_toArray, List.set_cons_zero, List.set_cons_succ]
      refine takeN (v := ?_) 3 rfl (by kernel_rfl) (by kernel_rfl) (by kernel_rfl) (fun _ _ _ h => h) (by rfl) ?_ hHeld0 ?_
      rotate_left
      · intro w hSw; (try dsimp only at hSw); go_simp; with_reducible rfl
      try simp only [Act.put, List.setIfInBounds_toArray, List.set_cons_zero, List.set_cons_succ]
      refine takeN (v := ?_) 4 rfl (by kernel_rfl) (by kernel_rfl) (by kernel_rfl) (fun _ _ _ h => h) (by rfl) ?_ hHeld0 ?_
      rotate_left
      · intro w hSw; (try dsimp only at hSw); go_simp; with_reducible rfl
      try simp only [Act.put, List.setIfInBounds_toArray, List.set_cons_zero, List.set_cons_succ]
      refine takeN (v := ?_) 5 rfl (by kernel_rfl) (by kernel_rfl) (by kernel_rfl) (fun _ _ _ h => h) (by rfl) ?_ hHeld0 ?_
      rotate_left
      · intro w hSw; (try dsimp only at hSw); go_simp; with_reducible rfl
      try simp only [Act.put, List.setIfInBounds_toArray, List.set_cons_zero, List.set_cons_succ]
      refine wpAnyH_ready (rs := [6]) (by kernel_rfl) (by simp) ?_
      refine readyN rfl (fun K hK => ?_) ?_
      · -- operation 6
        go_simp
        (go_at_call 35; refine (cloneb_any _ u _ HBC.out.drew (by have := HU.out; omega)).mono ?_; rintro e w4 ⟨v4, rfl, ho, hb⟩; obtain ⟨a4, c4, rfl⟩ := ho.size
         have HO4 := Lib.hid ho
         have HB4 := Lib.hid (show Below wc.heap.size wc w4 from ((Below.refl wc.heap.size wc).drew).trans hb)
         obtain ⟨w5, hup, hm5, hk5⟩ := (HMC.out.keep (Keep.ofBelow HB4.out (fun _ => False)) (fun h => h)).update (P := Try.prog) (t := 51) (kt := 3) (et := 28) (by kernel_rfl) (by kernel_rfl) at_ (.slice a4 u.size c4)
         have HM5 := Lib.hid hm5
         have HK45 := Lib.hid (hk5 w4 (Keep.refl _ _))
         have HK5 := Lib.hid (hk5 wc (Keep.ofBelow HB4.out _))
         clear ho hb hm5 hk5)
        go_wp2_with fail
        refine hK.out _ _ ?_ (fun hHeld1 => ?_)
        · (try dsimp only)
          first | exact HF2.out _ ((Keep.refl _ _).drew) | exact HF2.out _ (Keep.ofBelow HB4.out _) | exact HF2.out _ HK5.out
        clear hK K hHeld0
        try simp only [Act.put, List.setIfInBounds_toArray, List.set_cons_zero, List.set_cons_succ]
        refine wpAnyH_ready (rs := [7]) (by kernel_rfl) (by simp) ?_
        refine readyN rfl (fun K hK => ?_) ?_
        · -- operation 7
          go_simp
          refine hK.out _ _ ?_ (fun hHeld2 => ?_)
          · (try dsimp only)
            first | exact HF2.out _ ((Keep.refl _ _).drew) | exact HF2.out _ (Keep.ofBelow HB4.out _) | exact HF2.out _ HK5.out
          clear hK K hHeld1
          try simp only [Act.put, List.setIfInBounds_toArray, List.set_cons_zero, List.set_cons_succ]
          refine wpAnyH_done (by kernel_rfl) ?_ _
          have hbwlt : bw < wc.heap.size := HMC.out.lt
          have hbllt : bl < wc.heap.size := by have := HD.out.lt bl (.inr (.inl rfl)); have := HK1.out.size; omega
          have hv5 : PG S.B w5 (.slice a4 u.size c4) (some u) := ⟨(HO4.out.lower (Nat.le_trans HD.out.low HK1.out.size)).keep HK45.out (fun k hk e => by have h1 := (HO4.out.base_le k hk).1; have h2 : wc.heap.size ≤ k := h1; omega), HU.out⟩
          have ho5 : w5.ownsRow 0 3 1 ov' (wput at_ u S.W).length (((wput at_ u S.W).map (·.1)).map (Value.int .i64)) := by
            refine ⟨HO1.out.1, ?_⟩
            rcases HO1.out.2 with hn | ⟨g, cap, cur, he, hb, hg, rest⟩
            · exact .inl hn
            · refine .inr ⟨g, cap, cur, he, hb, HK5.out.blk hg (fun e => ?_), rest⟩
              obtain ⟨es, c, h1, _⟩ := HMC.out
              rw [← e, hg] at h1
              simp at h1
          have hD5 := HD.out.put at_ hat u ov' (.slice a4 u.size c4) vs HM.out (HK1.out.trans HK5.out (fun i hi => .inl (.inr (.inr (.inl hi))))) (HK5.out.blk HP1.out ap2) ((HK5.out.block bl hbllt ap3).trans HP2.out) hv5 HM5.out ho5
          have hq5 := (HF2.out _ HK5.out).1
          have HD5 := Lib.hid hD5
          clear hv5 ho5 hD5 hbwlt hbllt
          go_wp2_with fail
          refine (burns_any w5 HD5.out).mono ?_
          rintro e w6 ⟨rfl, hD6, hk6⟩
          have HD6 := Lib.hid hD6
          have HK6 := Lib.hid (((HK1.out.trans HK5.out (fun i hi => .inl (.inr (.inr (.inl hi)))) : Keep (DF p bl bw ov) w w5)).trans hk6 (fun i hi => .inl (.inl hi)))
          rw [show (burnS { S with W := wput at_ u S.W }).dead = d from HDD.out.symm]
          clear hD6 hk6
          cases d with
          | true =>
            go_wp2_with fail
            go_ret
            exact ⟨_, rfl, rfl, ov', HD6.out, HK6.out, HAT1.out⟩
          | false =>
            go_wp2_with fail
            go_ret
            exact ⟨_, rfl, rfl, ov', HD6.out, HK6.out, HAT1.out⟩
        exact AllReadyH.nil
      exact AllReadyH.nil
  exact AllReadyH.nil
end
end Go.Proofs.Ytlmngghkhnnaeaa
