/- A reader whose bytes lie in a block that does not change. plan.Get. -/
import Derived.Test.YtidppalhjknlfaaGreatDoorQMRow
import Derived.Test.YtidppalhjknlfaaGreatDoorQMMake
namespace Go.Proofs.YtidppalhjknlfaaGreatDoor
open Go.RowKit Go.Shelf
set_option maxRecDepth 100000
set_option linter.unusedVariables false
set_option linter.unusedSimpArgs false
/-- a reader that is not spoilt, with the bytes in a block below B -/
def RdB (B : Nat) (w : World) (q : Nat) (s : ByteArray) : Prop :=
  ∃ v, w.heap[q]? = some (.cells #[v, .bool false] 131 (0, 0)) ∧ BS w v s ∧ s.size ≤ 35184372088832 ∧ ∀ k, v.ownBlock = some k → k < B
theorem RdB.is {B : Nat} {w : World} {q : Nat} {s : ByteArray} (h : RdB B w q s) : RdIs w q ⟨s, false⟩ := by
  obtain ⟨v, h1, h2, h3, _⟩ := h
  exact ⟨v, h1, h2, h3⟩
theorem RdB.of {w : World} {q : Nat} {s : ByteArray} (h : RdIs w q ⟨s, false⟩) (h0 : 0 < s.size) : RdB w.heap.size w q s := by
  obtain ⟨v, h1, h2, h3⟩ := h
  refine ⟨v, h1, h2, h3, fun k hk => ?_⟩
  obtain ⟨a, c, rfl⟩ := h2.len
  obtain ⟨b, off, rfl, hc⟩ := h2.at_ (i := 0) h0
  cases hk
  have h0 := hc 0 (by omega)
  rcases Nat.lt_or_ge b w.heap.size with hg | hg
  · exact hg
  · simp [World.cell?, Array.getElem?_eq_none hg] at h0
theorem RdB.keep {B : Nat} {F : Nat → Prop} {w w' : World} {q : Nat} {s : ByteArray} (h : RdB B w q s) (hk : Keep F w w') (h0 : ¬ F q) (hF : ∀ k, F k → B ≤ k ∨ ∀ (o : Nat) x, w.cell? ⟨k, o, none⟩ ≠ some (.int .u8 x)) : RdB B w' q s := by
  obtain ⟨v, h1, h2, h3, h4⟩ := h
  refine ⟨v, hk.blk h1 h0, ?_, h3, h4⟩
  obtain ⟨a, cap, rfl, g1, g2, g3, g4⟩ := h2
  refine ⟨a, cap, rfl, g1, g2, g3, ?_⟩
  rcases g4 with g4 | ⟨b, off, rfl, g4⟩
  · exact .inl g4
  · exact .inr ⟨b, off, rfl, fun i hi => hk.cell (g4 i hi) (fun hb => by
      rcases hF _ hb with h5 | h5
      · have h6 : B ≤ b := h5
        have := h4 b rfl; omega
      · exact h5 _ _ (g4 i hi))⟩
theorem RdB.below {B : Nat} {w w' : World} {q : Nat} {s : ByteArray} (h : RdB B w q s) (hb : Below w.heap.size w w') : RdB B w' q s := h.keep (Keep.ofBelow hb (fun _ => False)) (fun h => h) (fun _ h => h.elim)
theorem RdB.lt {B : Nat} {w : World} {q : Nat} {s : ByteArray} (h : RdB B w q s) : q < w.heap.size := h.is.lt
theorem sl_loB (a : Option Addr) (c : Nat) (s : ByteArray) (n : Nat) (k : IntKind) (z : Int) (hz : z = n) (hn : n ≤ s.size) (hc : s.size ≤ c) (hcm : c ≤ maxLen) (hnone : a = none → c = 0) : ∃ a' m c', m = s.size - n ∧
    (∀ W, (Instr.slice 76 (.slice a s.size c) (some (.int k z)) none none).run Tryz.prog W = .ok (.slice a' m c') W) ∧ (∀ W, BS W (.slice a s.size c) s → BS W (.slice a' m c') (s.extract n s.size)) ∧ ∀ B, (∀ k, (Value.slice a s.size c).ownBlock = some k → k < B) → ∀ k, (Value.slice a' m c').ownBlock = some k → k < B := by
  subst hz
  refine ⟨if c = n then a else a.map (·.add (n * 1)), s.size - n, c - n, rfl, fun W => ?_, fun W hW => ?_, fun B hB k hk => ?_⟩
  · rw [run_slice_l (P := Tryz.prog) W 76 a s.size c elemB k (n : Int) (by omega) (by omega), so1]
    simp only [Result.andThen, sliced, Int.toNat_natCast]
  · refine hW.cut n s.size hn (Nat.le_refl _) (fun h => ?_) (by omega) (by omega) (fun h => ?_)
    · rw [if_neg (by omega), Nat.mul_one]
    · split at h
      · rw [hnone h]; omega
      · cases a with
        | none => rw [hnone rfl]; omega
        | some x => cases h
  · refine hB k ?_
    cases a with
    | none => simp [Value.ownBlock] at hk
    | some x =>
      split at hk
      · exact hk
      · simp only [Option.map_some, Value.ownBlock] at hk ⊢
        rw [← hk]; simp only [Addr.add]; split <;> rfl
theorem from_iB (B q : Nat) (s : ByteArray) (n : Nat) (z : Int) (hz : z = n) (hn : n ≤ 8) (hns : n ≤ s.size) (w : World) (h : RdB B w q s) :
    Calls Tryz.prog 68 #[.pointer (some ⟨q, 0, none⟩), .int .u64 z, .func (Fn.func 69) #[] #[]] w fun e w' => e = .returned (.int .i64 (wrap64 (valB (s.extract 0 n)))) ∧ RdB B w' q (s.extract n s.size) ∧ Keep (fun i => i = q) w w' := by
  subst hz
  obtain ⟨v, h1, h2, h3, h4⟩ := h
  obtain ⟨a, c, rfl⟩ := h2.len
  obtain ⟨_, hsc, hcm, hnone⟩ := h2.capm
  have hc0 := blk_cell h1 0
  have hc1 := blk_cell h1 1
  have hf0 := blk_frozen h1 0
  simp at hc0 hc1
  have H1 := Lib.hid h1
  have H2 := Lib.hid h2
  have H3 := Lib.hid h3
  have hwr : IntKind.u64.wrap (s.size : Int) = s.size := by rw [IntKind.wrap_u64]; omega
  have i1 : ¬ (s.size : Int) < (n : Int) := by omega
  obtain ⟨a1, c1, e1, b1⟩ := sl_hi a c s n .u64 n rfl (by omega) hsc hcm hnone
  obtain ⟨a2, m, c2, hm, e2, b2, b3⟩ := sl_loB a c s n .u64 n rfl (by omega) hsc hcm hnone
  have HS := Lib.hid (intc_w _ _ w (b1 w h2) (by rw [ByteArray.size_extract]; omega))
  have B2 := Lib.hid b2
  have B3 := Lib.hid (b3 B h4)
  have HM := Lib.hid hm
  clear h1 h2 h3 h4 b1 b2 b3 hm
  go_enter Tryz.func68, Tryz.ntmps68
  go_wp2_with fail
  refine HS.out.mono ?_
  rintro e w1 ⟨rfl, rfl⟩
  go_wp2
  go_ret
  have hk : Keep (fun i => i = q) w (w.setCell ⟨q, 0, none⟩ (.slice a2 m c2)) := Keep.setCell (F := fun i => i = q) (Keep.refl _ _) (p := ⟨q, 0, none⟩) (.inl rfl) _
  refine ⟨rfl, ⟨_, blk_setCell H1.out 0 _, ?_, by show (s.extract n s.size).size ≤ _; rw [ByteArray.size_extract]; have := H3.out; omega, B3.out⟩, hk⟩
  exact (B2.out w H2.out).keep hk (rd_nocell H1.out ⟨_, _, _, rfl⟩)
theorem int_rB (B q : Nat) (s : ByteArray) (h8 : 8 ≤ s.size) (w : World) (h : RdB B w q s) :
    Calls Tryz.prog 46 #[.pointer (some ⟨q, 0, none⟩)] w fun e w' => e = .returned (.int .i64 (wrap64 (valB (s.extract 0 8)))) ∧ RdB B w' q (s.extract 8 s.size) ∧ Keep (fun i => i = q) w w' := by
  have HC := Lib.hid (from_iB B q s 8 8 rfl (by decide) h8 w h)
  clear h
  go_enter Tryz.func46, Tryz.ntmps46
  go_wp2_with fail
  refine HC.out.mono ?_
  rintro e w1 ⟨rfl, hr, hk⟩
  have HR := Lib.hid hr
  have HK := Lib.hid hk
  clear hr hk
  go_wp2
  go_ret
  exact ⟨rfl, HR.out, HK.out⟩
theorem int_rB8 (B q : Nat) (n : Int) (hn : W64 n) (t : ByteArray) (w : World) (h : RdB B w q (i8 n ++ t)) :
    Calls Tryz.prog 46 #[.pointer (some ⟨q, 0, none⟩)] w fun e w' => e = .returned (.int .i64 n) ∧ RdB B w' q t ∧ Keep (fun i => i = q) w w' := by
  have h8 : 8 ≤ (i8 n ++ t).size := by rw [size_append, i8_size]; omega
  have := int_rB B q _ h8 w h
  obtain ⟨r1, r2⟩ := rd8 n t hn
  have hok : Rd.ok ⟨i8 n ++ t, false⟩ 8 = true := by unfold Rd.ok; rw [decide_eq_true h8]; rfl
  unfold Rd.val at r1
  unfold Rd.skip at r2
  rw [if_pos hok] at r1 r2
  injection r2 with r2 _
  rw [r1, r2] at this
  exact this
end Go.Proofs.YtidppalhjknlfaaGreatDoor
namespace Go.Proofs.YtidppalhjknlfaaGreatDoor
open Go.RowKit Go.Shelf
set_option maxRecDepth 100000
set_option maxHeartbeats 1000000
set_option linter.unusedVariables false
set_option linter.unusedSimpArgs false
attribute [local go_sem] Oper.semAt_some
theorem Pl.num_w {p : Pl} (hp : p.Ok) (x : Fin 5) : W64 (p.num x) := by
  match x with
  | 0 => exact hp.daily
  | 1 => exact hp.monthly
  | 2 => exact hp.over
  | 3 => exact hp.roll
  | 4 => exact hp.base
theorem NUMS_drop (k : Nat) (h : k < 5) : NUMS.drop k = NUMS.getD k 0 :: NUMS.drop (k + 1) := by
  match k, h with
  | 0, _ => rfl
  | 1, _ => rfl
  | 2, _ => rfl
  | 3, _ => rfl
  | 4, _ => rfl
theorem uTr : Tryz.prog.underlying 33 = some (.slice 103) := by kernel_rfl
theorem iTr : (Tryz.prog.info? 103).map (fun i => (i.zero, i.size, i.bytes)) = some (some (.agg #[.int .i64 0, .int .i64 0]), shT.sz, 16) := by kernel_rfl
theorem fillP_no8 (N : Fin 5 → Int) (c : Array Value) (hc : ∀ (o : Nat) x, c[o]? ≠ some (.int .u8 x)) (pre : List (Fin 5)) : ∀ (o : Nat) x, (fillP N c pre)[o]? ≠ some (.int .u8 x) := by
  unfold fillP
  have key : ∀ (pre : List (Fin 5)) (a : Array Value × Nat), (∀ (o : Nat) x, a.1[o]? ≠ some (.int .u8 x)) → ∀ (o : Nat) x, (pre.foldl (fun (a : Array Value × Nat) x => (a.1.setIfInBounds (x.val + 1) (.int .i64 (N (NUMS.getD a.2 0))), a.2 + 1)) a).1[o]? ≠ some (.int .u8 x) := by
    intro pre
    induction pre with
    | nil => intro a h; exact h
    | cons y pre ih =>
      intro a h
      rw [List.foldl_cons]
      refine ih _ (fun o x e => ?_)
      rw [Array.getElem?_setIfInBounds] at e
      split at e
      · split at e
        · injection e with e; injection e with e1; cases e1
        · cases e
      · exact h o x e
  exact key pre (c, 0) hc
theorem zero_no8 (a b c d e f : Int) (g : Value) (hg : ∀ x, g ≠ .int .u8 x) : ∀ (o : Nat) x, (#[.int .u32 a, .int .i64 b, .int .i64 c, .int .i64 d, .int .i64 e, .int .i64 f, g] : Array Value)[o]? ≠ some (.int .u8 x) := by
  intro o x h
  match o, h with
  | 0, h => simp at h
  | 1, h => simp at h
  | 2, h => simp at h
  | 3, h => simp at h
  | 4, h => simp at h
  | 5, h => simp at h
  | 6, h => simp at h; exact hg x h
  | o + 7, h => simp at h
theorem blk_ownF {β : Type} (B : Nat) (f : β → Array Value) (T : TypeId) (n₀ : Nat) : OwnFrom n₀ (fun (s : β) W => W.heap[B]? = some (.cells (f s) T (0, 0))) := by
  intro _ X Y row h hg hr
  refine (hg.block B (Array.getElem?_eq_some_iff.1 h).1 (fun e' => ?_)).trans h
  obtain ⟨_, o, ho, hc⟩ := hr B e'.symm
  rw [h] at ho; cases ho; cases hc
theorem set7 {w : World} {B : Nat} {T : TypeId} {c0 c1 c2 c3 c4 c5 c6 x0 x1 x2 x3 x4 x5 x6 : Value} (h : w.heap[B]? = some (.cells #[c0, c1, c2, c3, c4, c5, c6] T (0, 0))) :
    (((((((w.setCell ⟨B, 0, none⟩ x0).setCell ⟨B, 1, none⟩ x1).setCell ⟨B, 2, none⟩ x2).setCell ⟨B, 3, none⟩ x3).setCell ⟨B, 4, none⟩ x4).setCell ⟨B, 5, none⟩ x5).setCell ⟨B, 6, none⟩ x6).heap[B]? = some (.cells #[x0, x1, x2, x3, x4, x5, x6] T (0, 0)) ∧ Keep (fun i => i = B) w (((((((w.setCell ⟨B, 0, none⟩ x0).setCell ⟨B, 1, none⟩ x1).setCell ⟨B, 2, none⟩ x2).setCell ⟨B, 3, none⟩ x3).setCell ⟨B, 4, none⟩ x4).setCell ⟨B, 5, none⟩ x5).setCell ⟨B, 6, none⟩ x6) := by
  refine ⟨?_, ?_⟩
  · have h1 := blk_setCell h 0 x0
    have h2 := blk_setCell h1 1 x1
    have h3 := blk_setCell h2 2 x2
    have h4 := blk_setCell h3 3 x3
    have h5 := blk_setCell h4 4 x4
    have h6 := blk_setCell h5 5 x5
    exact blk_setCell h6 6 x6
  · have k0 := (Keep.refl (fun i => i = B) w).setCell (p := ⟨B, 0, none⟩) (.inl rfl) x0
    have k1 := k0.setCell (p := ⟨B, 1, none⟩) (.inl rfl) x1
    have k2 := k1.setCell (p := ⟨B, 2, none⟩) (.inl rfl) x2
    have k3 := k2.setCell (p := ⟨B, 3, none⟩) (.inl rfl) x3
    have k4 := k3.setCell (p := ⟨B, 4, none⟩) (.inl rfl) x4
    have k5 := k4.setCell (p := ⟨B, 5, none⟩) (.inl rfl) x5
    exact k5.setCell (p := ⟨B, 6, none⟩) (.inl rfl) x6
theorem pget_any (p : Pl) (hp : p.Ok) (hck : plchk p = true) (v : Value) (w : World) (hv : BS w v p.enc) :
    Calls Tryz.prog 48 #[v] w fun e w' => ∃ tv, e = .returned (.tuple #[p.val tv, .int .i64 0]) ∧ GR shT w' tv p.tiers ∧ (∀ k, tv.ownBlock = some k → w.heap.size ≤ k) ∧ Below w.heap.size w w' := by
  have hlen : 1 ≤ p.tiers.length ∧ p.tiers.length ≤ 4 := by
    unfold plchk tchk at hck
    simp only [Bool.and_eq_true, decide_eq_true_eq] at hck
    exact hck.2.2.1
  have hsz : p.enc.size ≤ 1000 := by
    unfold Pl.enc
    rw [encT_size, size_append, encL_size, i8_size, show (be8 p.id).size = 8 from be_size _ 8]
    show 8 + 8 * 5 + 8 + 16 * p.tiers.length ≤ 1000
    omega
  obtain ⟨a, c, rfl⟩ := hv.len
  have HN := Lib.hid fun (W : World) (h : BS W (.slice a p.enc.size c) p.enc) => new_r (.slice a p.enc.size c) p.enc W h (by omega)
  obtain ⟨u, hu⟩ : ∃ u, u = i8 (p.tiers.length : Int) ++ tiersR p.tiers := ⟨_, rfl⟩
  have her := p.enc_right
  rw [← hu] at her
  obtain ⟨k1, k2⟩ := rdb8 p.id (numsR p.num NUMS u) hp.id.1 (by have := hp.id.2; omega)
  have HU := Lib.hid fun (q : Nat) (W : World) (h : RdIs W q ⟨p.enc, false⟩) => uint_r q ⟨p.enc, false⟩ W h
  rw [her, k1, k2, ← her] at HU
  have HA := Lib.hid numbers_any
  have HV := Lib.hid hv
  have tw : IntKind.u32.wrap p.id = p.id := by rw [IntKind.wrap_u32]; have := hp.id; omega
  have HB0 := Lib.hid ((Below.refl w.heap.size w).alloc (Nat.le_refl _) (.cells #[.int .u32 0, .int .i64 0, .int .i64 0, .int .i64 0, .int .i64 0, .int .i64 0, .slice none 0 0] 35))
  have HZ0 := Lib.hid (blk_new w (.cells #[.int .u32 0, .int .i64 0, .int .i64 0, .int .i64 0, .int .i64 0, .int .i64 0, .slice none 0 0] 35))
  have HPO := Lib.hid hp
  have HCK := Lib.hid hck
  have HUU := Lib.hid hu
  clear hv hu her k1 k2 hp hck hsz
  generalize hen : p.enc.size = en at *
  clear hen
  refine (callsIn_wide (n := 9)).1 ?_
  refine callsIn_of_wp_marks Tryz.func48 rfl trivial ?_ rfl
  simp only [Tryz.ntmps48, List.size_toArray, List.length_cons, List.length_nil, Nat.reduceAdd, Nat.reduceSub, Array.replicate_succ, Array.replicate_zero, List.push_toArray, List.append_toArray, List.nil_append, List.cons_append]
  gi_wp2_with (first
    | (refine ⟨trivial, ?_⟩; gi_at_call 45; refine (callsIn_wide.2 (HN.out _ (HV.out.alloc _))).mono ?_; rintro e w1 ⟨q, rfl, hq, hr, hb⟩
       have HR1 := Lib.hid hr
       have HB1 := Lib.hid (HB0.out.trans (hb.mono HB0.out.size))
       have HZ1 := Lib.hid ((Keep.ofBelow hb (fun _ => False)).blk HZ0.out (fun h => h))
       have hql := hr.lt
       have hqw : w.heap.size < q := by have := hq; simp at this; omega
       have HBX := Lib.hid (blk_new w1 (.cells #[.pointer (some ⟨q, 0, none⟩)] 98))
       clear hr hb hq)
    | (refine ⟨trivial, ?_⟩; gi_at_call 71; refine (callsIn_wide.2 (HU.out q _ (HR1.out.below ((Below.refl _ _).alloc (Nat.le_refl _) _)))).mono ?_; rintro e w2 ⟨rfl, hr, hk⟩
       have HR2 := Lib.hid hr
       have HB2 := Lib.hid ((HB1.out.alloc HB1.out.size (.cells #[.pointer (some ⟨q, 0, none⟩)] 98)).trans (hk.below (B := w.heap.size) (by have := HB1.out.size; simp; omega) (fun i hi => by omega)))
       have HZ2 := Lib.hid (hk.blk (blk_alloc HZ1.out _) (fun e => by omega))
       have hbx2 := hk.blk HBX.out (fun e => by omega)
       have kbx2 := blk_cell hbx2 0
       have HBX2 := Lib.hid hbx2
       have hs2 : w1.heap.size < w2.heap.size := blk_lt hbx2
       clear hr hk hbx2)
    | (refine ⟨trivial, ?_⟩; gi_at_call 51; refine (callsIn_wide.2 (HA.out _ _)).mono ?_; rintro e w' ⟨rfl, rfl⟩))
  have hb6 : Below w2.heap.size w2 ((w2.alloc (.cells #[.int .u32 p.id, .int .i64 0, .int .i64 0, .int .i64 0, .int .i64 0, .int .i64 0, .slice none 0 0] 35)).alloc (.cells #[.pointer (some ⟨w2.heap.size, 0, none⟩)] 108)) := ((Below.refl _ _).alloc (Nat.le_refl _) _).alloc (by simp) _
  have q6 := blk_alloc (blk_new w2 (.cells #[.int .u32 p.id, .int .i64 0, .int .i64 0, .int .i64 0, .int .i64 0, .int .i64 0, .slice none 0 0] 35)) (.cells #[.pointer (some ⟨w2.heap.size, 0, none⟩)] 108)
  have q7 := blk_newAt (w := w2.alloc (.cells #[.int .u32 p.id, .int .i64 0, .int .i64 0, .int .i64 0, .int .i64 0, .int .i64 0, .slice none 0 0] 35)) (k := w2.heap.size + 1) (by simp) (.cells #[.pointer (some ⟨w2.heap.size, 0, none⟩)] 108)
  have hr6 := HR2.out.below hb6
  have hbx6 := (Keep.ofBelow hb6 (fun _ => False)).blk HBX2.out (fun h => h)
  have hz6 := (Keep.ofBelow hb6 (fun _ => False)).blk HZ2.out (fun h => h)
  have hB6 : Below w.heap.size w ((w2.alloc (.cells #[.int .u32 p.id, .int .i64 0, .int .i64 0, .int .i64 0, .int .i64 0, .int .i64 0, .slice none 0 0] 35)).alloc (.cells #[.pointer (some ⟨w2.heap.size, 0, none⟩)] 108)) := HB2.out.trans (hb6.mono HB2.out.size)
  obtain ⟨W0, hW0⟩ : ∃ W0, (w2.alloc (.cells #[.int .u32 p.id, .int .i64 0, .int .i64 0, .int .i64 0, .int .i64 0, .int .i64 0, .slice none 0 0] 35)).alloc (.cells #[.pointer (some ⟨w2.heap.size, 0, none⟩)] 108) = W0 := ⟨_, rfl⟩
  have hsz0 : W0.heap.size = w2.heap.size + 2 := by rw [← hW0]; simp
  rw [hW0] at q6 q7 hr6 hbx6 hz6 hB6 ⊢
  clear hW0 hb6
  refine wpIn_rangeFunc_ownH rfl (by decide) (gf := 74) (lb := #[.pointer (some ⟨w2.heap.size + 1, 0, none⟩)]) rfl trivial (enters_of Tryz.func74 (by kernel_rfl) rfl)
    (nums1_stops (9 - 1) (by decide) w2.heap.size (w2.heap.size + 1) W0 q7) KpN.trans (fun W l o o' _ h hc _ => KpN.putObj W l o o' h hc) (Below.refl _ _) (fun _ => rfl)
    (fun pre W => ((RdIs W q ⟨numsR p.num (NUMS.drop pre.length) u, false⟩ ∧ W.heap[w2.heap.size]? = some (.cells (fillP p.num #[.int .u32 p.id, .int .i64 0, .int .i64 0, .int .i64 0, .int .i64 0, .int .i64 0, .slice none 0 0] pre) 35 (0, 0))) ∧ (W.heap[w1.heap.size]? = some (.cells #[.pointer (some ⟨q, 0, none⟩)] 98 (0, 0)) ∧ W.heap[w.heap.size]? = some (.cells #[.int .u32 0, .int .i64 0, .int .i64 0, .int .i64 0, .int .i64 0, .int .i64 0, .slice none 0 0] 35 (0, 0)))) ∧ Below w.heap.size w W)
    (fun _ _ _ => False)
    (OwnFrom.and (OwnFrom.and (OwnFrom.and (RdIs.own q (fun pre : List (Fin 5) => ⟨numsR p.num (NUMS.drop pre.length) u, false⟩) _) (blk_ownF _ (fun pre => fillP p.num #[.int .u32 p.id, .int .i64 0, .int .i64 0, .int .i64 0, .int .i64 0, .int .i64 0, .slice none 0 0] pre) _ _)) (OwnFrom.and (blk_own _ _ _ _) (blk_own _ _ _ _))) (ownFrom_below (Nat.le_refl _) (by omega)))
    (fun _ _ _ _ _ hs _ _ => hs)
    ⟨⟨⟨hr6, q6⟩, hbx6, hz6⟩, hB6⟩
    (fun x a' _ => a' = { tmps := #[.slice a en c, undef, .pointer (some ⟨w.heap.size, 0, none⟩), .int .i64 0, .pointer (some ⟨w1.heap.size, 0, none⟩), .int .u64 p.id, .pointer (some ⟨w2.heap.size, 0, none⟩), .pointer (some ⟨w2.heap.size, x.val + 1, none⟩), undef, .slice a en c, .pointer (some ⟨q, 0, none⟩), .pointer (some ⟨q, 0, none⟩), .int .u64 p.id, .int .u64 p.id, .int .u32 p.id, .agg #[.int .u32 p.id, .int .i64 0, .int .i64 0, .int .i64 0, .int .i64 0, .int .i64 0, .slice none 0 0], .func (Fn.func 74) #[] #[.pointer (some ⟨w2.heap.size + 1, 0, none⟩)], .pointer (some ⟨w2.heap.size, x.val + 1, none⟩), .int .i64 (mostN x), undef, undef, undef, undef, undef, undef, undef, undef, undef, undef, undef, undef, undef, undef, undef, undef, undef, undef, undef, undef, undef, undef, undef, undef, undef, undef, undef, undef, undef, undef, undef, undef, undef, undef, undef, undef, undef, undef, undef, undef, undef], defers := [] })
    (fun _ _ _ _ _ _ hs _ _ => hs)
    ?assign ?body ?done ?stop
  case assign =>
    rintro l pre x W K hI hK
    gi_wp2
    exact hK _ _ (KeepsFrom.refl _ _) (KpN.below (Below.refl _ _)) hI rfl
  case body =>
    rintro l pre x a' W hl0 ⟨r, hr0⟩ ⟨⟨⟨hr, h6⟩, hbx, hz⟩, hB⟩ rfl hlt
    have hnd := NUMS_drop pre.length hlt
    have hfs := fillP_snoc p.num #[.int .u32 p.id, .int .i64 0, .int .i64 0, .int .i64 0, .int .i64 0, .int .i64 0, .slice none 0 0] pre x
    have hn8 := fillP_no8 p.num #[.int .u32 p.id, .int .i64 0, .int .i64 0, .int .i64 0, .int .i64 0, .int .i64 0, .slice none 0 0] (zero_no8 _ _ _ _ _ _ _ (fun x e => by cases e)) pre
    have hfz := fillP_size p.num #[.int .u32 p.id, .int .i64 0, .int .i64 0, .int .i64 0, .int .i64 0, .int .i64 0, .slice none 0 0] pre
    obtain ⟨y, hy⟩ : ∃ y, y = NUMS.getD pre.length 0 := ⟨_, rfl⟩
    rw [← hy] at hnd hfs
    rw [hnd] at hr
    obtain ⟨r1, r2⟩ := rd8 (p.num y) (numsR p.num (NUMS.drop (pre.length + 1)) u) (Pl.num_w HPO.out y)
    have hir := int_r q ⟨i8 (p.num y) ++ numsR p.num (NUMS.drop (pre.length + 1)) u, false⟩ W hr
    rw [r1, r2] at hir
    have HIR := Lib.hid hir
    obtain ⟨old, hold⟩ : ∃ old, (fillP p.num #[.int .u32 p.id, .int .i64 0, .int .i64 0, .int .i64 0, .int .i64 0, .int .i64 0, .slice none 0 0] pre)[x.val + 1]? = some old := ⟨_, Array.getElem?_eq_getElem (by rw [hfz]; show x.val + 1 < 7; omega)⟩
    have kbx := blk_cell hbx 0
    obtain ⟨cs, hcs⟩ : ∃ cs, cs = fillP p.num #[.int .u32 p.id, .int .i64 0, .int .i64 0, .int .i64 0, .int .i64 0, .int .i64 0, .slice none 0 0] pre := ⟨_, rfl⟩
    rw [← hcs] at hfs hold h6 hn8
    have HN8 := Lib.hid hn8
    have H6 := Lib.hid h6
    have HFS := Lib.hid hfs
    have HBX6 := Lib.hid hbx
    have HZ6 := Lib.hid hz
    have HB6 := Lib.hid hB
    have HRR := Lib.hid hr
    have hws := hB.size
    obtain ⟨ny, hny⟩ : ∃ ny, ny = p.num y := ⟨_, rfl⟩
    rw [← hny] at HIR HFS
    clear hnd hfs hfz hn8 hy hr r1 r2 hir hcs h6 hbx hz hB hny
    gi_wp2_with (refine ⟨trivial, ?_⟩; gi_at_call 46; refine (CallsIn.inRound l (callsIn_wide.2 HIR.out)).mono ?_; rintro e w5 ⟨rfl, hr5, hk5⟩
                 have h65 := hk5.blk H6.out (fun e => by omega)
                 have k5 : w5.cell? ⟨w2.heap.size, x.val + 1, none⟩ = some old := by rw [blk_cell h65]; exact hold
                 have f5 := blk_frozen h65 (x.val + 1)
                 have H65 := Lib.hid h65
                 have HR5 := Lib.hid hr5
                 have HK5 := Lib.hid hk5
                 clear hr5 hk5 h65)
    have hq6 : q ≠ w2.heap.size := by have := hs2; omega
    have kk := (Keep.refl (fun i => i = w2.heap.size) w5).setCell (p := ⟨w2.heap.size, x.val + 1, none⟩) (.inl rfl) (.int .i64 ny)
    have hqc := HRR.out
    obtain ⟨rv, hqb, _⟩ := hqc
    have ho5 : KeepsOthers W w5 := ⟨HK5.out.size, fun k o hk ho => (HK5.out.block k (Array.getElem?_eq_some_iff.1 hk).1 (fun e => by subst e; rw [hqb] at hk; cases hk; cases ho)).trans hk⟩
    have hp5 : KpN W w5 := KpN.keep HK5.out (fun k c e z hk he e' => by
      subst e'
      rw [hqb] at hk; cases hk
      rcases he with he | he
      · exact absurd he (by decide)
      · exact absurd he (by decide))
    have hp6 : KpN w5 (w5.setCell ⟨w2.heap.size, x.val + 1, none⟩ (.int .i64 ny)) := KpN.keep kk (fun k c e z hk he e' => by
      subst e'
      rw [H65.out] at hk; cases hk
      rcases he with he | he
      · exact absurd he (by decide)
      · exact absurd he (by decide))
    refine ⟨(ho5.trans (KeepsOthers.setCell _ _ _)).from _, hp5.trans hp6, ⟨⟨?_, ?_⟩, ?_, ?_⟩, ?_⟩
    · show RdIs _ q ⟨numsR p.num (NUMS.drop (pre ++ [x]).length) u, false⟩
      rw [List.length_append, List.length_singleton]
      refine HR5.out.keep kk hq6 (fun b o y hc e => ?_)
      subst e
      rw [blk_cell H65.out] at hc
      exact HN8.out o y hc
    · rw [HFS.out]; exact blk_setCell H65.out _ _
    · exact kk.blk (HK5.out.blk HBX6.out (fun e => by omega)) (fun e => by omega)
    · exact kk.blk (HK5.out.blk HZ6.out (fun e => by omega)) (fun e => by have := HB2.out.size; have := blk_lt HZ2.out; omega)
    · exact (HB6.out.trans (HK5.out.below (B := w.heap.size) hws (fun i hi => by omega))).setCell (p := ⟨w2.heap.size, x.val + 1, none⟩) (by have := HB2.out.size; simp; omega) _
  case done =>
    rintro D ys W hD rfl ⟨⟨⟨hr, h6⟩, hbx, hz⟩, hB⟩ hK
    have h6' : W.heap[w2.heap.size]? = some (.cells #[.int .u32 p.id, .int .i64 p.daily, .int .i64 p.monthly, .int .i64 p.over, .int .i64 p.roll, .int .i64 p.base, .slice none 0 0] 35 (0, 0)) := h6
    have hr' : RdIs W q ⟨u, false⟩ := hr
    rw [HUU.out] at hr'
    have hir := int_rB8 W.heap.size q (p.tiers.length : Int) (by unfold W64; omega) (tiersR p.tiers) W (RdB.of hr' (by rw [size_append, i8_size]; omega))
    have HIR := Lib.hid hir
    have kbx := blk_cell hbx 0
    have H6 := Lib.hid h6'
    have HBX6 := Lib.hid hbx
    have HZ6 := Lib.hid hz
    have HB6 := Lib.hid hB
    have HKD := Lib.hid hK
    have hws := hB.size
    have hidd := HPO.out.id
    have hqD : q < D := by have := hs2; omega
    have hqc := hr'
    obtain ⟨rv, hqb, _⟩ := hqc
    have HQB := Lib.hid hqb
    clear hr h6 hbx hz hB hK h6' hr' hir hqb
    have hDW : D < W.heap.size := blk_lt HKD.out
    have hwq : w.heap.size < w1.heap.size := blk_lt HZ1.out
    obtain ⟨n, hn⟩ : ∃ n, n = p.tiers.length := ⟨_, rfl⟩
    have HNN := Lib.hid hn
    rw [← hn] at HIR
    have hn4 : 1 ≤ n ∧ n ≤ 4 := by omega
    clear hn hlen
    have i1 : ¬ p.id > 4294967295 := by omega
    have i2 : ¬ (n : Int) < 0 := by omega
    have i3 : ¬ (n : Int) > 4 := by omega
    gi_wp2_with (refine ⟨trivial, ?_⟩; gi_at_call 46; refine (callsIn_wide.2 HIR.out).mono ?_; rintro e w5 ⟨rfl, hr5, hk5⟩
                 have HR5 := Lib.hid hr5
                 have HP5 := Lib.hid (hk5.blk H6.out (fun e => by omega))
                 have HBX5 := Lib.hid (hk5.blk HBX6.out (fun e => by omega))
                 have HZ5 := Lib.hid (hk5.blk HZ6.out (fun e => by omega))
                 have HD5 := Lib.hid (hk5.blk HKD.out (fun e => by omega))
                 have HB5 := Lib.hid (HB6.out.trans (hk5.below (B := w.heap.size) hws (fun i hi => by omega)))
                 have hs5 := hk5.size
                 clear hr5 hk5)
    gi_loopw [37] (fun i wr => ∃ j : Nat, j ≤ n ∧ i = .int .i64 j ∧ Hid (∃ ta tc, wr.heap[w2.heap.size]? = some (.cells #[.int .u32 p.id, .int .i64 p.daily, .int .i64 p.monthly, .int .i64 p.over, .int .i64 p.roll, .int .i64 p.base, .slice ta j tc] 35 (0, 0)) ∧ wr.ownsRow W.heap.size 103 shT.sz (.slice ta j tc) j (shT.cells (p.tiers.take j))) ∧ Hid (RdB W.heap.size wr q (tiersR (p.tiers.drop j))) ∧ Hid (wr.heap[w1.heap.size]? = some (.cells #[.pointer (some ⟨q, 0, none⟩)] 98 (0, 0))) ∧ Hid (wr.heap[w.heap.size]? = some (.cells #[.int .u32 0, .int .i64 0, .int .i64 0, .int .i64 0, .int .i64 0, .int .i64 0, .slice none 0 0] 35 (0, 0))) ∧ Hid (wr.heap[D]? = some (.deferred (some []))) ∧ Hid (Below w.heap.size w wr) ∧ W.heap.size ≤ wr.heap.size) (fun i _ => n - (intOf i).toNat)
    case atStart => exact ⟨0, by omega, rfl, Lib.hid ⟨none, 0, HP5.out, World.ownsRow_nil _ _ _ _⟩, HR5, HBX5, HZ5, HD5, HB5, hs5⟩
    case round =>
      clear HR5 HBX5 HZ5 HD5 HB5 HP5 hs5
      obtain ⟨j, hj, rfl, HT, HR, HBX, HZ, HDD, HB, hsr⟩ := hrel
      obtain ⟨ta, tc, hpb, hrow⟩ := HT.out
      have hws := HB.out.size
      by_cases hlt : j < n
      · obtain ⟨t, ht⟩ : ∃ t, p.tiers[j]? = some t := ⟨_, List.getElem?_eq_getElem (by rw [← HNN.out]; exact hlt)⟩
        have htm := List.mem_of_getElem? ht
        obtain ⟨tw1, tw2⟩ := HPO.out.tiers t htm
        have htk : p.tiers.take (j + 1) = p.tiers.take j ++ [t] := by rw [List.take_add_one, ht]; rfl
        have hdr : p.tiers.drop j = t :: p.tiers.drop (j + 1) := by
          rw [List.drop_eq_getElem_cons (by rw [← HNN.out]; exact hlt), (List.getElem?_eq_some_iff.1 ht).2]
        have hr := HR.out
        rw [hdr] at hr
        have hrd : RdB W.heap.size wr.drew q (i8 t.upto ++ (i8 t.price ++ tiersR (p.tiers.drop (j + 1)))) := hr
        have HI1 := Lib.hid (int_rB8 W.heap.size q t.upto tw1 (i8 t.price ++ tiersR (p.tiers.drop (j + 1))) wr.drew hrd)
        have HI2 := Lib.hid fun (X : World) (h : RdB W.heap.size X q (i8 t.price ++ tiersR (p.tiers.drop (j + 1)))) => int_rB8 W.heap.size q t.price tw2 (tiersR (p.tiers.drop (j + 1))) X h
        have HTK := Lib.hid htk
        have k60 : wr.drew.cell? ⟨w2.heap.size, 6, none⟩ = some (.slice ta j tc) := blk_cell hpb 6
        have HPB := Lib.hid (show wr.drew.heap[w2.heap.size]? = _ from hpb)
        have HRW := Lib.hid hrow
        have BX7 := Lib.hid (show wr.drew.heap[w1.heap.size]? = _ from HBX.out)
        have HB7 := Lib.hid (show Below w.heap.size w wr.drew from HB.out.drew)
        have CC := Lib.hid fun (X : World) (h : X.heap[w1.heap.size]? = some (.cells #[.pointer (some ⟨q, 0, none⟩)] 98 (0, 0))) => show X.cell? ⟨w1.heap.size, 0, none⟩ = some (.pointer (some ⟨q, 0, none⟩)) from blk_cell h 0
        have hlj : (p.tiers.take j).length = j := by rw [List.length_take, ← HNN.out]; omega
        have hl1 : (p.tiers.take j).length + [t].length = j + 1 := by rw [hlj]; rfl
        have hi8 : (j : Int) < (n : Int) := by omega
        have hsd : W.heap.size ≤ wr.drew.heap.size := hsr
        have e6 : w1.heap.size < w2.heap.size := hs2
        clear ht htm tw1 tw2 htk hdr hr hrd hpb hrow HT
        gi_wp2
        refine wpIn_wide.2 (wp_strict ?_)
        refine wp_region_held_drew (S := (fun w' => w'.cell? ⟨w1.heap.size, 0, none⟩ = some (.pointer (some ⟨q, 0, none⟩)))) (by kernel_rfl) ?_ (fun hHeld0 => ?_)
        · (try dsimp only)
          first | with_reducible exact CC.out _ BX11.out | with_reducible exact CC.out _ BX10.out | with_reducible exact CC.out _ BXA.out | with_reducible exact CC.out _ BX9.out | with_reducible exact CC.out _ BX8.out | with_reducible exact CC.out _ BX7.out
        refine takeN (v := ?_) 0 rfl (by kernel_rfl) (by kernel_rfl) (by kernel_rfl) (fun _ _ _ h => h) (by rfl) ?_ hHeld0 ?_
        rotate_left
        · intro w hSw; (try dsimp only at hSw); go_simp; with_reducible rfl
        try simp only [Act.put, List.setIfInBounds_toArray, List.set_cons_zero, List.set_cons_succ]
        refine takeN (v := ?_) 2 rfl (by kernel_rfl) (by kernel_rfl) (by kernel_rfl) (fun _ _ _ h => h) (by rfl) ?_ hHeld0 ?_
        rotate_left
        · intro w hSw; (try dsimp only at hSw); go_simp; with_reducible rfl
        try simp only [Act.put, List.setIfInBounds_toArray, List.set_cons_zero, List.set_cons_succ]
        refine takeN (v := ?_) 4 rfl (by kernel_rfl) (by kernel_rfl) (by kernel_rfl) (fun _ _ _ h => h) (by rfl) ?_ hHeld0 ?_
        rotate_left
        · intro w hSw; (try dsimp only at hSw); go_simp; with_reducible rfl
        try simp only [Act.put, List.setIfInBounds_toArray, List.set_cons_zero, List.set_cons_succ]
        refine wpAnyH_ready (rs := [1, 3]) (by kernel_rfl) (by simp) ?_
        refine readyN rfl (fun K hK => ?_) ?_
        · -- operation 1
          go_simp
          refine hK.out _ _ ?_ (fun hHeld1 => ?_)
          · (try dsimp only)
            first | with_reducible exact CC.out _ BX11.out | with_reducible exact CC.out _ BX10.out | with_reducible exact CC.out _ BXA.out | with_reducible exact CC.out _ BX9.out | with_reducible exact CC.out _ BX8.out | with_reducible exact CC.out _ BX7.out
          clear hK K hHeld0
          try simp only [Act.put, List.setIfInBounds_toArray, List.set_cons_zero, List.set_cons_succ]
          refine wpAnyH_ready (rs := [3]) (by kernel_rfl) (by simp) ?_
          refine readyN rfl (fun K hK => ?_) ?_
          · -- operation 3
            go_simp
            first
              | (refine wp_app_go 33 103 16 _ uTr iTr rfl (by decide) W.heap.size _ _ rfl _ _ (p.tiers.take j) [t] rfl rfl (by rw [hlj]; exact rowS_below HRW9.out ((Below.refl _ _).alloc (Nat.le_refl _) _)) (GR.lit (S := shT) w9 _ [t] (by simp)) (by simp) (by simp; omega) (by simp; omega) (by simp) ?_
                 intro v10 w10 ho hk hat
                 rw [hl1] at ho
                 obtain ⟨ta', tc', rfl⟩ := rowS_shape ho
                 have hlow := rowS_low HRW9.out
                 have hne : ∀ k, k < W.heap.size → ¬ (Value.slice ta j tc).ownBlock = some k := fun k hkk e => by have := (hlow k e).1; omega
                 have hpb10 := hk.blk HPBA.out (hne _ (by omega))
                 have k6b := blk_cell hpb10 6
                 have f6b := blk_frozen hpb10 6
                 have HPB10 := Lib.hid hpb10
                 have BX10 := Lib.hid (hk.blk BXA.out (hne _ (by omega)))
                 have BX11 := Lib.hid (((Keep.refl (fun i => i = w2.heap.size) w10).setCell (p := ⟨w2.heap.size, 6, none⟩) (.inl rfl) (.slice ta' (j + 1) tc')).blk BX10.out (fun e => by omega))
                 have HRW10 := Lib.hid ho
                 have HR10 := Lib.hid ((HR9.out.below ((Below.refl _ _).alloc (Nat.le_refl _) (.cells #[.int .i64 t.upto, .int .i64 t.price] 103))).keep hk (hne _ (by omega)) (fun k e => .inl (hlow k e).1))
                 have HK10 := Lib.hid (((HK9.out.mono (G := fun k => k = q ∨ k = w2.heap.size ∨ W.heap.size ≤ k) (fun i hi => .inl hi)).alloc _).trans hk (fun i hi => .inl (.inr (.inr (hlow i hi).1))))
                 clear ho hk hat hlow hne hpb10)
              | (go_at_call 46; refine HI1.out.mono ?_; rintro e w8 ⟨rfl, hr8, hk8⟩
                 have HR8 := Lib.hid hr8
                 have BX8 := Lib.hid (hk8.blk BX7.out (fun e => by omega))
                 have hpb8 := hk8.blk HPB.out (fun e => by omega)
                 have k68 := blk_cell hpb8 6
                 have HPB8 := Lib.hid hpb8
                 have HRW8 := Lib.hid (rowS_keep hk8 HRW.out (fun k hk e => by have := (rowS_low HRW.out k hk).1; omega))
                 have HK8 := Lib.hid hk8
                 clear hr8 hk8 hpb8 HI1)
              | (go_at_call 46; refine (HI2.out _ HR8.out).mono ?_; rintro e w9 ⟨rfl, hr9, hk9⟩
                 have HR9 := Lib.hid hr9
                 have BX9 := Lib.hid (hk9.blk BX8.out (fun e => by omega))
                 have hpb9 := hk9.blk HPB8.out (fun e => by omega)
                 have k69 := blk_cell hpb9 6
                 have HPB9 := Lib.hid hpb9
                 have HRW9 := Lib.hid (rowS_keep hk9 HRW8.out (fun k hk e => by have := (rowS_low HRW8.out k hk).1; omega))
                 have HK9 := Lib.hid (HK8.out.trans hk9 (fun i hi => .inl hi))
                 have BXA := Lib.hid (blk_alloc BX9.out (.cells #[.int .i64 t.upto, .int .i64 t.price] 103))
                 have hpba := blk_alloc HPB9.out (.cells #[.int .i64 t.upto, .int .i64 t.price] 103)
                 have k6a := blk_cell hpba 6
                 have HPBA := Lib.hid hpba
                 have hs9 := HK9.out.size
                 clear hr9 hk9 hpb9 hpba HI2)
              | fail
            go_wp2_with fail
            refine hK.out _ _ ?_ (fun hHeld2 => ?_)
            · (try dsimp only)
              first | with_reducible exact CC.out _ BX11.out | with_reducible exact CC.out _ BX10.out | with_reducible exact CC.out _ BXA.out | with_reducible exact CC.out _ BX9.out | with_reducible exact CC.out _ BX8.out | with_reducible exact CC.out _ BX7.out
            clear hK K hHeld1
            try simp only [Act.put, List.setIfInBounds_toArray, List.set_cons_zero, List.set_cons_succ]
            refine wpAnyH_ready (rs := [5]) (by kernel_rfl) (by simp) ?_
            refine readyN rfl (fun K hK => ?_) ?_
            · -- operation 5
              go_simp
              first
                | (refine wp_app_go 33 103 16 _ uTr iTr rfl (by decide) W.heap.size _ _ rfl _ _ (p.tiers.take j) [t] rfl rfl (by rw [hlj]; exact rowS_below HRW9.out ((Below.refl _ _).alloc (Nat.le_refl _) _)) (GR.lit (S := shT) w9 _ [t] (by simp)) (by simp) (by simp; omega) (by simp; omega) (by simp) ?_
                   intro v10 w10 ho hk hat
                   rw [hl1] at ho
                   obtain ⟨ta', tc', rfl⟩ := rowS_shape ho
                   have hlow := rowS_low HRW9.out
                   have hne : ∀ k, k < W.heap.size → ¬ (Value.slice ta j tc).ownBlock = some k := fun k hkk e => by have := (hlow k e).1; omega
                   have hpb10 := hk.blk HPBA.out (hne _ (by omega))
                   have k6b := blk_cell hpb10 6
                   have f6b := blk_frozen hpb10 6
                   have HPB10 := Lib.hid hpb10
                   have BX10 := Lib.hid (hk.blk BXA.out (hne _ (by omega)))
                   have BX11 := Lib.hid (((Keep.refl (fun i => i = w2.heap.size) w10).setCell (p := ⟨w2.heap.size, 6, none⟩) (.inl rfl) (.slice ta' (j + 1) tc')).blk BX10.out (fun e => by omega))
                   have HRW10 := Lib.hid ho
                   have HR10 := Lib.hid ((HR9.out.below ((Below.refl _ _).alloc (Nat.le_refl _) (.cells #[.int .i64 t.upto, .int .i64 t.price] 103))).keep hk (hne _ (by omega)) (fun k e => .inl (hlow k e).1))
                   have HK10 := Lib.hid (((HK9.out.mono (G := fun k => k = q ∨ k = w2.heap.size ∨ W.heap.size ≤ k) (fun i hi => .inl hi)).alloc _).trans hk (fun i hi => .inl (.inr (.inr (hlow i hi).1))))
                   clear ho hk hat hlow hne hpb10)
                | (go_at_call 46; refine HI1.out.mono ?_; rintro e w8 ⟨rfl, hr8, hk8⟩
                   have HR8 := Lib.hid hr8
                   have BX8 := Lib.hid (hk8.blk BX7.out (fun e => by omega))
                   have hpb8 := hk8.blk HPB.out (fun e => by omega)
                   have k68 := blk_cell hpb8 6
                   have HPB8 := Lib.hid hpb8
                   have HRW8 := Lib.hid (rowS_keep hk8 HRW.out (fun k hk e => by have := (rowS_low HRW.out k hk).1; omega))
                   have HK8 := Lib.hid hk8
                   clear hr8 hk8 hpb8 HI1)
                | (go_at_call 46; refine (HI2.out _ HR8.out).mono ?_; rintro e w9 ⟨rfl, hr9, hk9⟩
                   have HR9 := Lib.hid hr9
                   have BX9 := Lib.hid (hk9.blk BX8.out (fun e => by omega))
                   have hpb9 := hk9.blk HPB8.out (fun e => by omega)
                   have k69 := blk_cell hpb9 6
                   have HPB9 := Lib.hid hpb9
                   have HRW9 := Lib.hid (rowS_keep hk9 HRW8.out (fun k hk e => by have := (rowS_low HRW8.out k hk).1; omega))
                   have HK9 := Lib.hid (HK8.out.trans hk9 (fun i hi => .inl hi))
                   have BXA := Lib.hid (blk_alloc BX9.out (.cells #[.int .i64 t.upto, .int .i64 t.price] 103))
                   have hpba := blk_alloc HPB9.out (.cells #[.int .i64 t.upto, .int .i64 t.price] 103)
                   have k6a := blk_cell hpba 6
                   have HPBA := Lib.hid hpba
                   have hs9 := HK9.out.size
                   clear hr9 hk9 hpb9 hpba HI2)
                | fail
              go_wp2_with fail
              refine hK.out _ _ ?_ (fun hHeld3 => ?_)
              · (try dsimp only)
                first | with_reducible exact CC.out _ BX11.out | with_reducible exact CC.out _ BX10.out | with_reducible exact CC.out _ BXA.out | with_reducible exact CC.out _ BX9.out | with_reducible exact CC.out _ BX8.out | with_reducible exact CC.out _ BX7.out
              clear hK K hHeld2
              try simp only [Act.put, List.setIfInBounds_toArray, List.set_cons_zero, List.set_cons_succ]
              refine takeN (v := ?_) 6 rfl (by kernel_rfl) (by kernel_rfl) (by kernel_rfl) (fun _ _ _ h => h) (by rfl) ?_ hHeld3 ?_
              rotate_left
              · intro w hSw; (try dsimp only at hSw); go_simp; with_reducible rfl
              try simp only [Act.put, List.setIfInBounds_toArray, List.set_cons_zero, List.set_cons_succ]
              refine wpAnyH_ready (rs := [7]) (by kernel_rfl) (by simp) ?_
              refine readyN rfl (fun K hK => ?_) ?_
              · -- operation 7
                go_simp
                refine hK.out _ _ ?_ (fun hHeld4 => ?_)
                · (try dsimp only)
                  first | with_reducible exact CC.out _ BX11.out | with_reducible exact CC.out _ BX10.out | with_reducible exact CC.out _ BXA.out | with_reducible exact CC.out _ BX9.out | with_reducible exact CC.out _ BX8.out | with_reducible exact CC.out _ BX7.out
                clear hK K hHeld3
                try simp only [Act.put, List.setIfInBounds_toArray, List.set_cons_zero, List.set_cons_succ]
                refine wpAnyH_ready (rs := [8]) (by kernel_rfl) (by simp) ?_
                refine readyN rfl (fun K hK => ?_) ?_
                · -- operation 8
                  first
                    | (refine wp_app_go 33 103 16 _ uTr iTr rfl (by decide) W.heap.size _ _ rfl _ _ (p.tiers.take j) [t] rfl rfl (by rw [hlj]; exact rowS_below HRW9.out ((Below.refl _ _).alloc (Nat.le_refl _) _)) (GR.lit (S := shT) w9 _ [t] (by simp)) (by simp) (by simp; omega) (by simp; omega) (by simp) ?_
                       intro v10 w10 ho hk hat
                       rw [hl1] at ho
                       obtain ⟨ta', tc', rfl⟩ := rowS_shape ho
                       have hlow := rowS_low HRW9.out
                       have hne : ∀ k, k < W.heap.size → ¬ (Value.slice ta j tc).ownBlock = some k := fun k hkk e => by have := (hlow k e).1; omega
                       have hpb10 := hk.blk HPBA.out (hne _ (by omega))
                       have k6b := blk_cell hpb10 6
                       have f6b := blk_frozen hpb10 6
                       have HPB10 := Lib.hid hpb10
                       have BX10 := Lib.hid (hk.blk BXA.out (hne _ (by omega)))
                       have BX11 := Lib.hid (((Keep.refl (fun i => i = w2.heap.size) w10).setCell (p := ⟨w2.heap.size, 6, none⟩) (.inl rfl) (.slice ta' (j + 1) tc')).blk BX10.out (fun e => by omega))
                       have HRW10 := Lib.hid ho
                       have HR10 := Lib.hid ((HR9.out.below ((Below.refl _ _).alloc (Nat.le_refl _) (.cells #[.int .i64 t.upto, .int .i64 t.price] 103))).keep hk (hne _ (by omega)) (fun k e => .inl (hlow k e).1))
                       have HK10 := Lib.hid (((HK9.out.mono (G := fun k => k = q ∨ k = w2.heap.size ∨ W.heap.size ≤ k) (fun i hi => .inl hi)).alloc _).trans hk (fun i hi => .inl (.inr (.inr (hlow i hi).1))))
                       clear ho hk hat hlow hne hpb10)
                    | (go_at_call 46; refine HI1.out.mono ?_; rintro e w8 ⟨rfl, hr8, hk8⟩
                       have HR8 := Lib.hid hr8
                       have BX8 := Lib.hid (hk8.blk BX7.out (fun e => by omega))
                       have hpb8 := hk8.blk HPB.out (fun e => by omega)
                       have k68 := blk_cell hpb8 6
                       have HPB8 := Lib.hid hpb8
                       have HRW8 := Lib.hid (rowS_keep hk8 HRW.out (fun k hk e => by have := (rowS_low HRW.out k hk).1; omega))
                       have HK8 := Lib.hid hk8
                       clear hr8 hk8 hpb8 HI1)
                    | (go_at_call 46; refine (HI2.out _ HR8.out).mono ?_; rintro e w9 ⟨rfl, hr9, hk9⟩
                       have HR9 := Lib.hid hr9
                       have BX9 := Lib.hid (hk9.blk BX8.out (fun e => by omega))
                       have hpb9 := hk9.blk HPB8.out (fun e => by omega)
                       have k69 := blk_cell hpb9 6
                       have HPB9 := Lib.hid hpb9
                       have HRW9 := Lib.hid (rowS_keep hk9 HRW8.out (fun k hk e => by have := (rowS_low HRW8.out k hk).1; omega))
                       have HK9 := Lib.hid (HK8.out.trans hk9 (fun i hi => .inl hi))
                       have BXA := Lib.hid (blk_alloc BX9.out (.cells #[.int .i64 t.upto, .int .i64 t.price] 103))
                       have hpba := blk_alloc HPB9.out (.cells #[.int .i64 t.upto, .int .i64 t.price] 103)
                       have k6a := blk_cell hpba 6
                       have HPBA := Lib.hid hpba
                       have hs9 := HK9.out.size
                       clear hr9 hk9 hpb9 hpba HI2)
                    | fail
                  refine hK.out _ _ ?_ (fun hHeld5 => ?_)
                  · (try dsimp only)
                    first | with_reducible exact CC.out _ BX11.out | with_reducible exact CC.out _ BX10.out | with_reducible exact CC.out _ BXA.out | with_reducible exact CC.out _ BX9.out | with_reducible exact CC.out _ BX8.out | with_reducible exact CC.out _ BX7.out
                  clear hK K hHeld4
                  try simp only [Act.put, List.setIfInBounds_toArray, List.set_cons_zero, List.set_cons_succ]
                  refine takeN (v := ?_) 9 rfl (by kernel_rfl) (by kernel_rfl) (by kernel_rfl) (fun _ _ _ h => h) (by rfl) ?_ hHeld5 ?_
                  rotate_left
                  · intro w hSw; (try dsimp only at hSw); go_simp; with_reducible rfl
                  try simp only [Act.put, List.setIfInBounds_toArray, List.set_cons_zero, List.set_cons_succ]
                  refine wpAnyH_ready (rs := [10]) (by kernel_rfl) (by simp) ?_
                  refine readyN rfl (fun K hK => ?_) ?_
                  · -- operation 10
                    go_simp
                    refine hK.out _ _ ?_ (fun hHeld6 => ?_)
                    · (try dsimp only)
                      first | with_reducible exact CC.out _ BX11.out | with_reducible exact CC.out _ BX10.out | with_reducible exact CC.out _ BXA.out | with_reducible exact CC.out _ BX9.out | with_reducible exact CC.out _ BX8.out | with_reducible exact CC.out _ BX7.out
                    clear hK K hHeld5
                    try simp only [Act.put, List.setIfInBounds_toArray, List.set_cons_zero, List.set_cons_succ]
                    refine wpAnyH_done (by kernel_rfl) ?_ _
                    dsimp only
                    gi_wp2
                    have kk := HK10.out.setCell (p := ⟨w2.heap.size, 6, none⟩) (.inl (.inr (.inl rfl))) (.slice ta' (j + 1) tc')
                    have hqF : ¬ (q = w2.heap.size) := by omega
                    have hlow10 := rowS_low HRW10.out
                    have HT' := Lib.hid (show ∃ ta tc, (w10.setCell ⟨w2.heap.size, 6, none⟩ (.slice ta' (j + 1) tc')).heap[w2.heap.size]? = some (.cells #[.int .u32 p.id, .int .i64 p.daily, .int .i64 p.monthly, .int .i64 p.over, .int .i64 p.roll, .int .i64 p.base, .slice ta (j + 1 : Nat) tc] 35 (0, 0)) ∧ (w10.setCell ⟨w2.heap.size, 6, none⟩ (.slice ta' (j + 1) tc')).ownsRow W.heap.size 103 shT.sz (.slice ta (j + 1 : Nat) tc) (j + 1) (shT.cells (p.tiers.take (j + 1))) from
                      ⟨ta', tc', by rw [blk_setCell HPB10.out 6]; rfl, by
                        have ho := rowS_keep ((Keep.refl (fun i => i = w2.heap.size) w10).setCell (p := ⟨w2.heap.size, 6, none⟩) (.inl rfl) (.slice ta' (j + 1) tc')) HRW10.out (fun k hk e => by have := (hlow10 k hk).1; omega)
                        rw [← HTK.out] at ho
                        exact ho⟩)
                    have HR' := Lib.hid (HR10.out.keep ((Keep.refl (fun i => i = w2.heap.size) w10).setCell (p := ⟨w2.heap.size, 6, none⟩) (.inl rfl) (.slice ta' (j + 1) tc')) hqF (fun k e => .inr (fun o x hc => by subst e; rw [blk_cell HPB10.out] at hc; exact zero_no8 _ _ _ _ _ _ _ (fun x e => by cases e) o x hc)))
                    have HBX' := Lib.hid BX11.out
                    have HZ' := Lib.hid (kk.blk (show wr.drew.heap[w.heap.size]? = _ from HZ.out) (fun e => by rcases e with e | e | e <;> omega))
                    have HD' := Lib.hid (kk.blk (show wr.drew.heap[D]? = _ from HDD.out) (fun e => by rcases e with e | e | e <;> omega))
                    have HB' := Lib.hid (HB7.out.trans (kk.below (B := w.heap.size) HB7.out.size (fun i e => by rcases e with e | e | e <;> omega)))
                    have hs' := Nat.le_trans hsd kk.size
                    go_roundw
                    case rel => exact ⟨j + 1, by omega, by simp, HT', HR', HBX', HZ', HD', HB', hs'⟩
                    case measure => simp [intOf]; omega
                  exact AllReadyH.nil
                exact AllReadyH.nil
              exact AllReadyH.nil
            exact AllReadyH.nil
          exact AllReadyH.nil
        refine readyN rfl (fun K hK => ?_) ?_
        · -- operation 3
          go_simp
          first
            | (refine wp_app_go 33 103 16 _ uTr iTr rfl (by decide) W.heap.size _ _ rfl _ _ (p.tiers.take j) [t] rfl rfl (by rw [hlj]; exact rowS_below HRW9.out ((Below.refl _ _).alloc (Nat.le_refl _) _)) (GR.lit (S := shT) w9 _ [t] (by simp)) (by simp) (by simp; omega) (by simp; omega) (by simp) ?_
               intro v10 w10 ho hk hat
               rw [hl1] at ho
               obtain ⟨ta', tc', rfl⟩ := rowS_shape ho
               have hlow := rowS_low HRW9.out
               have hne : ∀ k, k < W.heap.size → ¬ (Value.slice ta j tc).ownBlock = some k := fun k hkk e => by have := (hlow k e).1; omega
               have hpb10 := hk.blk HPBA.out (hne _ (by omega))
               have k6b := blk_cell hpb10 6
               have f6b := blk_frozen hpb10 6
               have HPB10 := Lib.hid hpb10
               have BX10 := Lib.hid (hk.blk BXA.out (hne _ (by omega)))
               have BX11 := Lib.hid (((Keep.refl (fun i => i = w2.heap.size) w10).setCell (p := ⟨w2.heap.size, 6, none⟩) (.inl rfl) (.slice ta' (j + 1) tc')).blk BX10.out (fun e => by omega))
               have HRW10 := Lib.hid ho
               have HR10 := Lib.hid ((HR9.out.below ((Below.refl _ _).alloc (Nat.le_refl _) (.cells #[.int .i64 t.upto, .int .i64 t.price] 103))).keep hk (hne _ (by omega)) (fun k e => .inl (hlow k e).1))
               have HK10 := Lib.hid (((HK9.out.mono (G := fun k => k = q ∨ k = w2.heap.size ∨ W.heap.size ≤ k) (fun i hi => .inl hi)).alloc _).trans hk (fun i hi => .inl (.inr (.inr (hlow i hi).1))))
               clear ho hk hat hlow hne hpb10)
            | (go_at_call 46; refine HI1.out.mono ?_; rintro e w8 ⟨rfl, hr8, hk8⟩
               have HR8 := Lib.hid hr8
               have BX8 := Lib.hid (hk8.blk BX7.out (fun e => by omega))
               have hpb8 := hk8.blk HPB.out (fun e => by omega)
               have k68 := blk_cell hpb8 6
               have HPB8 := Lib.hid hpb8
               have HRW8 := Lib.hid (rowS_keep hk8 HRW.out (fun k hk e => by have := (rowS_low HRW.out k hk).1; omega))
               have HK8 := Lib.hid hk8
               clear hr8 hk8 hpb8 HI1)
            | (go_at_call 46; refine (HI2.out _ HR8.out).mono ?_; rintro e w9 ⟨rfl, hr9, hk9⟩
               have HR9 := Lib.hid hr9
               have BX9 := Lib.hid (hk9.blk BX8.out (fun e => by omega))
               have hpb9 := hk9.blk HPB8.out (fun e => by omega)
               have k69 := blk_cell hpb9 6
               have HPB9 := Lib.hid hpb9
               have HRW9 := Lib.hid (rowS_keep hk9 HRW8.out (fun k hk e => by have := (rowS_low HRW8.out k hk).1; omega))
               have HK9 := Lib.hid (HK8.out.trans hk9 (fun i hi => .inl hi))
               have BXA := Lib.hid (blk_alloc BX9.out (.cells #[.int .i64 t.upto, .int .i64 t.price] 103))
               have hpba := blk_alloc HPB9.out (.cells #[.int .i64 t.upto, .int .i64 t.price] 103)
               have k6a := blk_cell hpba 6
               have HPBA := Lib.hid hpba
               have hs9 := HK9.out.size
               clear hr9 hk9 hpb9 hpba HI2)
            | fail
          go_wp2_with fail
          refine hK.out _ _ ?_ (fun hHeld1 => ?_)
          · (try dsimp only)
            first | with_reducible exact CC.out _ BX11.out | with_reducible exact CC.out _ BX10.out | with_reducible exact CC.out _ BXA.out | with_reducible exact CC.out _ BX9.out | with_reducible exact CC.out _ BX8.out | with_reducible exact CC.out _ BX7.out
          clear hK K hHeld0
          try simp only [Act.put, List.setIfInBounds_toArray, List.set_cons_zero, List.set_cons_succ]
          refine wpAnyH_ready (rs := [1, 5]) (by kernel_rfl) (by simp) ?_
          refine readyN rfl (fun K hK => ?_) ?_
          · -- operation 1
            go_simp
            refine hK.out _ _ ?_ (fun hHeld2 => ?_)
            · (try dsimp only)
              first | with_reducible exact CC.out _ BX11.out | with_reducible exact CC.out _ BX10.out | with_reducible exact CC.out _ BXA.out | with_reducible exact CC.out _ BX9.out | with_reducible exact CC.out _ BX8.out | with_reducible exact CC.out _ BX7.out
            clear hK K hHeld1
            try simp only [Act.put, List.setIfInBounds_toArray, List.set_cons_zero, List.set_cons_succ]
            refine wpAnyH_ready (rs := [5]) (by kernel_rfl) (by simp) ?_
            refine readyN rfl (fun K hK => ?_) ?_
            · -- operation 5
              go_simp
              first
                | (refine wp_app_go 33 103 16 _ uTr iTr rfl (by decide) W.heap.size _ _ rfl _ _ (p.tiers.take j) [t] rfl rfl (by rw [hlj]; exact rowS_below HRW9.out ((Below.refl _ _).alloc (Nat.le_refl _) _)) (GR.lit (S := shT) w9 _ [t] (by simp)) (by simp) (by simp; omega) (by simp; omega) (by simp) ?_
                   intro v10 w10 ho hk hat
                   rw [hl1] at ho
                   obtain ⟨ta', tc', rfl⟩ := rowS_shape ho
                   have hlow := rowS_low HRW9.out
                   have hne : ∀ k, k < W.heap.size → ¬ (Value.slice ta j tc).ownBlock = some k := fun k hkk e => by have := (hlow k e).1; omega
                   have hpb10 := hk.blk HPBA.out (hne _ (by omega))
                   have k6b := blk_cell hpb10 6
                   have f6b := blk_frozen hpb10 6
                   have HPB10 := Lib.hid hpb10
                   have BX10 := Lib.hid (hk.blk BXA.out (hne _ (by omega)))
                   have BX11 := Lib.hid (((Keep.refl (fun i => i = w2.heap.size) w10).setCell (p := ⟨w2.heap.size, 6, none⟩) (.inl rfl) (.slice ta' (j + 1) tc')).blk BX10.out (fun e => by omega))
                   have HRW10 := Lib.hid ho
                   have HR10 := Lib.hid ((HR9.out.below ((Below.refl _ _).alloc (Nat.le_refl _) (.cells #[.int .i64 t.upto, .int .i64 t.price] 103))).keep hk (hne _ (by omega)) (fun k e => .inl (hlow k e).1))
                   have HK10 := Lib.hid (((HK9.out.mono (G := fun k => k = q ∨ k = w2.heap.size ∨ W.heap.size ≤ k) (fun i hi => .inl hi)).alloc _).trans hk (fun i hi => .inl (.inr (.inr (hlow i hi).1))))
                   clear ho hk hat hlow hne hpb10)
                | (go_at_call 46; refine HI1.out.mono ?_; rintro e w8 ⟨rfl, hr8, hk8⟩
                   have HR8 := Lib.hid hr8
                   have BX8 := Lib.hid (hk8.blk BX7.out (fun e => by omega))
                   have hpb8 := hk8.blk HPB.out (fun e => by omega)
                   have k68 := blk_cell hpb8 6
                   have HPB8 := Lib.hid hpb8
                   have HRW8 := Lib.hid (rowS_keep hk8 HRW.out (fun k hk e => by have := (rowS_low HRW.out k hk).1; omega))
                   have HK8 := Lib.hid hk8
                   clear hr8 hk8 hpb8 HI1)
                | (go_at_call 46; refine (HI2.out _ HR8.out).mono ?_; rintro e w9 ⟨rfl, hr9, hk9⟩
                   have HR9 := Lib.hid hr9
                   have BX9 := Lib.hid (hk9.blk BX8.out (fun e => by omega))
                   have hpb9 := hk9.blk HPB8.out (fun e => by omega)
                   have k69 := blk_cell hpb9 6
                   have HPB9 := Lib.hid hpb9
                   have HRW9 := Lib.hid (rowS_keep hk9 HRW8.out (fun k hk e => by have := (rowS_low HRW8.out k hk).1; omega))
                   have HK9 := Lib.hid (HK8.out.trans hk9 (fun i hi => .inl hi))
                   have BXA := Lib.hid (blk_alloc BX9.out (.cells #[.int .i64 t.upto, .int .i64 t.price] 103))
                   have hpba := blk_alloc HPB9.out (.cells #[.int .i64 t.upto, .int .i64 t.price] 103)
                   have k6a := blk_cell hpba 6
                   have HPBA := Lib.hid hpba
                   have hs9 := HK9.out.size
                   clear hr9 hk9 hpb9 hpba HI2)
                | fail
              go_wp2_with fail
              refine hK.out _ _ ?_ (fun hHeld3 => ?_)
              · (try dsimp only)
                first | with_reducible exact CC.out _ BX11.out | with_reducible exact CC.out _ BX10.out | with_reducible exact CC.out _ BXA.out | with_reducible exact CC.out _ BX9.out | with_reducible exact CC.out _ BX8.out | with_reducible exact CC.out _ BX7.out
              clear hK K hHeld2
              try simp only [Act.put, List.setIfInBounds_toArray, List.set_cons_zero, List.set_cons_succ]
              refine takeN (v := ?_) 6 rfl (by kernel_rfl) (by kernel_rfl) (by kernel_rfl) (fun _ _ _ h => h) (by rfl) ?_ hHeld3 ?_
              rotate_left
              · intro w hSw; (try dsimp only at hSw); go_simp; with_reducible rfl
              try simp only [Act.put, List.setIfInBounds_toArray, List.set_cons_zero, List.set_cons_succ]
              refine wpAnyH_ready (rs := [7]) (by kernel_rfl) (by simp) ?_
              refine readyN rfl (fun K hK => ?_) ?_
              · -- operation 7
                go_simp
                refine hK.out _ _ ?_ (fun hHeld4 => ?_)
                · (try dsimp only)
                  first | with_reducible exact CC.out _ BX11.out | with_reducible exact CC.out _ BX10.out | with_reducible exact CC.out _ BXA.out | with_reducible exact CC.out _ BX9.out | with_reducible exact CC.out _ BX8.out | with_reducible exact CC.out _ BX7.out
                clear hK K hHeld3
                try simp only [Act.put, List.setIfInBounds_toArray, List.set_cons_zero, List.set_cons_succ]
                refine wpAnyH_ready (rs := [8]) (by kernel_rfl) (by simp) ?_
                refine readyN rfl (fun K hK => ?_) ?_
                · -- operation 8
                  first
                    | (refine wp_app_go 33 103 16 _ uTr iTr rfl (by decide) W.heap.size _ _ rfl _ _ (p.tiers.take j) [t] rfl rfl (by rw [hlj]; exact rowS_below HRW9.out ((Below.refl _ _).alloc (Nat.le_refl _) _)) (GR.lit (S := shT) w9 _ [t] (by simp)) (by simp) (by simp; omega) (by simp; omega) (by simp) ?_
                       intro v10 w10 ho hk hat
                       rw [hl1] at ho
                       obtain ⟨ta', tc', rfl⟩ := rowS_shape ho
                       have hlow := rowS_low HRW9.out
                       have hne : ∀ k, k < W.heap.size → ¬ (Value.slice ta j tc).ownBlock = some k := fun k hkk e => by have := (hlow k e).1; omega
                       have hpb10 := hk.blk HPBA.out (hne _ (by omega))
                       have k6b := blk_cell hpb10 6
                       have f6b := blk_frozen hpb10 6
                       have HPB10 := Lib.hid hpb10
                       have BX10 := Lib.hid (hk.blk BXA.out (hne _ (by omega)))
                       have BX11 := Lib.hid (((Keep.refl (fun i => i = w2.heap.size) w10).setCell (p := ⟨w2.heap.size, 6, none⟩) (.inl rfl) (.slice ta' (j + 1) tc')).blk BX10.out (fun e => by omega))
                       have HRW10 := Lib.hid ho
                       have HR10 := Lib.hid ((HR9.out.below ((Below.refl _ _).alloc (Nat.le_refl _) (.cells #[.int .i64 t.upto, .int .i64 t.price] 103))).keep hk (hne _ (by omega)) (fun k e => .inl (hlow k e).1))
                       have HK10 := Lib.hid (((HK9.out.mono (G := fun k => k = q ∨ k = w2.heap.size ∨ W.heap.size ≤ k) (fun i hi => .inl hi)).alloc _).trans hk (fun i hi => .inl (.inr (.inr (hlow i hi).1))))
                       clear ho hk hat hlow hne hpb10)
                    | (go_at_call 46; refine HI1.out.mono ?_; rintro e w8 ⟨rfl, hr8, hk8⟩
                       have HR8 := Lib.hid hr8
                       have BX8 := Lib.hid (hk8.blk BX7.out (fun e => by omega))
                       have hpb8 := hk8.blk HPB.out (fun e => by omega)
                       have k68 := blk_cell hpb8 6
                       have HPB8 := Lib.hid hpb8
                       have HRW8 := Lib.hid (rowS_keep hk8 HRW.out (fun k hk e => by have := (rowS_low HRW.out k hk).1; omega))
                       have HK8 := Lib.hid hk8
                       clear hr8 hk8 hpb8 HI1)
                    | (go_at_call 46; refine (HI2.out _ HR8.out).mono ?_; rintro e w9 ⟨rfl, hr9, hk9⟩
                       have HR9 := Lib.hid hr9
                       have BX9 := Lib.hid (hk9.blk BX8.out (fun e => by omega))
                       have hpb9 := hk9.blk HPB8.out (fun e => by omega)
                       have k69 := blk_cell hpb9 6
                       have HPB9 := Lib.hid hpb9
                       have HRW9 := Lib.hid (rowS_keep hk9 HRW8.out (fun k hk e => by have := (rowS_low HRW8.out k hk).1; omega))
                       have HK9 := Lib.hid (HK8.out.trans hk9 (fun i hi => .inl hi))
                       have BXA := Lib.hid (blk_alloc BX9.out (.cells #[.int .i64 t.upto, .int .i64 t.price] 103))
                       have hpba := blk_alloc HPB9.out (.cells #[.int .i64 t.upto, .int .i64 t.price] 103)
                       have k6a := blk_cell hpba 6
                       have HPBA := Lib.hid hpba
                       have hs9 := HK9.out.size
                       clear hr9 hk9 hpb9 hpba HI2)
                    | fail
                  refine hK.out _ _ ?_ (fun hHeld5 => ?_)
                  · (try dsimp only)
                    first | with_reducible exact CC.out _ BX11.out | with_reducible exact CC.out _ BX10.out | with_reducible exact CC.out _ BXA.out | with_reducible exact CC.out _ BX9.out | with_reducible exact CC.out _ BX8.out | with_reducible exact CC.out _ BX7.out
                  clear hK K hHeld4
                  try simp only [Act.put, List.setIfInBounds_toArray, List.set_cons_zero, List.set_cons_succ]
                  refine takeN (v := ?_) 9 rfl (by kernel_rfl) (by kernel_rfl) (by kernel_rfl) (fun _ _ _ h => h) (by rfl) ?_ hHeld5 ?_
                  rotate_left
                  · intro w hSw; (try dsimp only at hSw); go_simp; with_reducible rfl
                  try simp only [Act.put, List.setIfInBounds_toArray, List.set_cons_zero, List.set_cons_succ]
                  refine wpAnyH_ready (rs := [10]) (by kernel_rfl) (by simp) ?_
                  refine readyN rfl (fun K hK => ?_) ?_
                  · -- operation 10
                    go_simp
                    refine hK.out _ _ ?_ (fun hHeld6 => ?_)
                    · (try dsimp only)
                      first | with_reducible exact CC.out _ BX11.out | with_reducible exact CC.out _ BX10.out | with_reducible exact CC.out _ BXA.out | with_reducible exact CC.out _ BX9.out | with_reducible exact CC.out _ BX8.out | with_reducible exact CC.out _ BX7.out
                    clear hK K hHeld5
                    try simp only [Act.put, List.setIfInBounds_toArray, List.set_cons_zero, List.set_cons_succ]
                    refine wpAnyH_done (by kernel_rfl) ?_ _
                    dsimp only
                    gi_wp2
                    have kk := HK10.out.setCell (p := ⟨w2.heap.size, 6, none⟩) (.inl (.inr (.inl rfl))) (.slice ta' (j + 1) tc')
                    have hqF : ¬ (q = w2.heap.size) := by omega
                    have hlow10 := rowS_low HRW10.out
                    have HT' := Lib.hid (show ∃ ta tc, (w10.setCell ⟨w2.heap.size, 6, none⟩ (.slice ta' (j + 1) tc')).heap[w2.heap.size]? = some (.cells #[.int .u32 p.id, .int .i64 p.daily, .int .i64 p.monthly, .int .i64 p.over, .int .i64 p.roll, .int .i64 p.base, .slice ta (j + 1 : Nat) tc] 35 (0, 0)) ∧ (w10.setCell ⟨w2.heap.size, 6, none⟩ (.slice ta' (j + 1) tc')).ownsRow W.heap.size 103 shT.sz (.slice ta (j + 1 : Nat) tc) (j + 1) (shT.cells (p.tiers.take (j + 1))) from
                      ⟨ta', tc', by rw [blk_setCell HPB10.out 6]; rfl, by
                        have ho := rowS_keep ((Keep.refl (fun i => i = w2.heap.size) w10).setCell (p := ⟨w2.heap.size, 6, none⟩) (.inl rfl) (.slice ta' (j + 1) tc')) HRW10.out (fun k hk e => by have := (hlow10 k hk).1; omega)
                        rw [← HTK.out] at ho
                        exact ho⟩)
                    have HR' := Lib.hid (HR10.out.keep ((Keep.refl (fun i => i = w2.heap.size) w10).setCell (p := ⟨w2.heap.size, 6, none⟩) (.inl rfl) (.slice ta' (j + 1) tc')) hqF (fun k e => .inr (fun o x hc => by subst e; rw [blk_cell HPB10.out] at hc; exact zero_no8 _ _ _ _ _ _ _ (fun x e => by cases e) o x hc)))
                    have HBX' := Lib.hid BX11.out
                    have HZ' := Lib.hid (kk.blk (show wr.drew.heap[w.heap.size]? = _ from HZ.out) (fun e => by rcases e with e | e | e <;> omega))
                    have HD' := Lib.hid (kk.blk (show wr.drew.heap[D]? = _ from HDD.out) (fun e => by rcases e with e | e | e <;> omega))
                    have HB' := Lib.hid (HB7.out.trans (kk.below (B := w.heap.size) HB7.out.size (fun i e => by rcases e with e | e | e <;> omega)))
                    have hs' := Nat.le_trans hsd kk.size
                    go_roundw
                    case rel => exact ⟨j + 1, by omega, by simp, HT', HR', HBX', HZ', HD', HB', hs'⟩
                    case measure => simp [intOf]; omega
                  exact AllReadyH.nil
                exact AllReadyH.nil
              exact AllReadyH.nil
            exact AllReadyH.nil
          refine readyN rfl (fun K hK => ?_) ?_
          · -- operation 5
            go_simp
            first
              | (refine wp_app_go 33 103 16 _ uTr iTr rfl (by decide) W.heap.size _ _ rfl _ _ (p.tiers.take j) [t] rfl rfl (by rw [hlj]; exact rowS_below HRW9.out ((Below.refl _ _).alloc (Nat.le_refl _) _)) (GR.lit (S := shT) w9 _ [t] (by simp)) (by simp) (by simp; omega) (by simp; omega) (by simp) ?_
                 intro v10 w10 ho hk hat
                 rw [hl1] at ho
                 obtain ⟨ta', tc', rfl⟩ := rowS_shape ho
                 have hlow := rowS_low HRW9.out
                 have hne : ∀ k, k < W.heap.size → ¬ (Value.slice ta j tc).ownBlock = some k := fun k hkk e => by have := (hlow k e).1; omega
                 have hpb10 := hk.blk HPBA.out (hne _ (by omega))
                 have k6b := blk_cell hpb10 6
                 have f6b := blk_frozen hpb10 6
                 have HPB10 := Lib.hid hpb10
                 have BX10 := Lib.hid (hk.blk BXA.out (hne _ (by omega)))
                 have BX11 := Lib.hid (((Keep.refl (fun i => i = w2.heap.size) w10).setCell (p := ⟨w2.heap.size, 6, none⟩) (.inl rfl) (.slice ta' (j + 1) tc')).blk BX10.out (fun e => by omega))
                 have HRW10 := Lib.hid ho
                 have HR10 := Lib.hid ((HR9.out.below ((Below.refl _ _).alloc (Nat.le_refl _) (.cells #[.int .i64 t.upto, .int .i64 t.price] 103))).keep hk (hne _ (by omega)) (fun k e => .inl (hlow k e).1))
                 have HK10 := Lib.hid (((HK9.out.mono (G := fun k => k = q ∨ k = w2.heap.size ∨ W.heap.size ≤ k) (fun i hi => .inl hi)).alloc _).trans hk (fun i hi => .inl (.inr (.inr (hlow i hi).1))))
                 clear ho hk hat hlow hne hpb10)
              | (go_at_call 46; refine HI1.out.mono ?_; rintro e w8 ⟨rfl, hr8, hk8⟩
                 have HR8 := Lib.hid hr8
                 have BX8 := Lib.hid (hk8.blk BX7.out (fun e => by omega))
                 have hpb8 := hk8.blk HPB.out (fun e => by omega)
                 have k68 := blk_cell hpb8 6
                 have HPB8 := Lib.hid hpb8
                 have HRW8 := Lib.hid (rowS_keep hk8 HRW.out (fun k hk e => by have := (rowS_low HRW.out k hk).1; omega))
                 have HK8 := Lib.hid hk8
                 clear hr8 hk8 hpb8 HI1)
              | (go_at_call 46; refine (HI2.out _ HR8.out).mono ?_; rintro e w9 ⟨rfl, hr9, hk9⟩
                 have HR9 := Lib.hid hr9
                 have BX9 := Lib.hid (hk9.blk BX8.out (fun e => by omega))
                 have hpb9 := hk9.blk HPB8.out (fun e => by omega)
                 have k69 := blk_cell hpb9 6
                 have HPB9 := Lib.hid hpb9
                 have HRW9 := Lib.hid (rowS_keep hk9 HRW8.out (fun k hk e => by have := (rowS_low HRW8.out k hk).1; omega))
                 have HK9 := Lib.hid (HK8.out.trans hk9 (fun i hi => .inl hi))
                 have BXA := Lib.hid (blk_alloc BX9.out (.cells #[.int .i64 t.upto, .int .i64 t.price] 103))
                 have hpba := blk_alloc HPB9.out (.cells #[.int .i64 t.upto, .int .i64 t.price] 103)
                 have k6a := blk_cell hpba 6
                 have HPBA := Lib.hid hpba
                 have hs9 := HK9.out.size
                 clear hr9 hk9 hpb9 hpba HI2)
              | fail
            go_wp2_with fail
            refine hK.out _ _ ?_ (fun hHeld2 => ?_)
            · (try dsimp only)
              first | with_reducible exact CC.out _ BX11.out | with_reducible exact CC.out _ BX10.out | with_reducible exact CC.out _ BXA.out | with_reducible exact CC.out _ BX9.out | with_reducible exact CC.out _ BX8.out | with_reducible exact CC.out _ BX7.out
            clear hK K hHeld1
            try simp only [Act.put, List.setIfInBounds_toArray, List.set_cons_zero, List.set_cons_succ]
            refine takeN (v := ?_) 6 rfl (by kernel_rfl) (by kernel_rfl) (by kernel_rfl) (fun _ _ _ h => h) (by rfl) ?_ hHeld2 ?_
            rotate_left
            · intro w hSw; (try dsimp only at hSw); go_simp; with_reducible rfl
            try simp only [Act.put, List.setIfInBounds_toArray, List.set_cons_zero, List.set_cons_succ]
            refine wpAnyH_ready (rs := [1, 7]) (by kernel_rfl) (by simp) ?_
            refine readyN rfl (fun K hK => ?_) ?_
            · -- operation 1
              go_simp
              refine hK.out _ _ ?_ (fun hHeld3 => ?_)
              · (try dsimp only)
                first | with_reducible exact CC.out _ BX11.out | with_reducible exact CC.out _ BX10.out | with_reducible exact CC.out _ BXA.out | with_reducible exact CC.out _ BX9.out | with_reducible exact CC.out _ BX8.out | with_reducible exact CC.out _ BX7.out
              clear hK K hHeld2
              try simp only [Act.put, List.setIfInBounds_toArray, List.set_cons_zero, List.set_cons_succ]
              refine wpAnyH_ready (rs := [7]) (by kernel_rfl) (by simp) ?_
              refine readyN rfl (fun K hK => ?_) ?_
              · -- operation 7
                go_simp
                refine hK.out _ _ ?_ (fun hHeld4 => ?_)
                · (try dsimp only)
                  first | with_reducible exact CC.out _ BX11.out | with_reducible exact CC.out _ BX10.out | with_reducible exact CC.out _ BXA.out | with_reducible exact CC.out _ BX9.out | with_reducible exact CC.out _ BX8.out | with_reducible exact CC.out _ BX7.out
                clear hK K hHeld3
                try simp only [Act.put, List.setIfInBounds_toArray, List.set_cons_zero, List.set_cons_succ]
                refine wpAnyH_ready (rs := [8]) (by kernel_rfl) (by simp) ?_
                refine readyN rfl (fun K hK => ?_) ?_
                · -- operation 8
                  first
                    | (refine wp_app_go 33 103 16 _ uTr iTr rfl (by decide) W.heap.size _ _ rfl _ _ (p.tiers.take j) [t] rfl rfl (by rw [hlj]; exact rowS_below HRW9.out ((Below.refl _ _).alloc (Nat.le_refl _) _)) (GR.lit (S := shT) w9 _ [t] (by simp)) (by simp) (by simp; omega) (by simp; omega) (by simp) ?_
                       intro v10 w10 ho hk hat
                       rw [hl1] at ho
                       obtain ⟨ta', tc', rfl⟩ := rowS_shape ho
                       have hlow := rowS_low HRW9.out
                       have hne : ∀ k, k < W.heap.size → ¬ (Value.slice ta j tc).ownBlock = some k := fun k hkk e => by have := (hlow k e).1; omega
                       have hpb10 := hk.blk HPBA.out (hne _ (by omega))
                       have k6b := blk_cell hpb10 6
                       have f6b := blk_frozen hpb10 6
                       have HPB10 := Lib.hid hpb10
                       have BX10 := Lib.hid (hk.blk BXA.out (hne _ (by omega)))
                       have BX11 := Lib.hid (((Keep.refl (fun i => i = w2.heap.size) w10).setCell (p := ⟨w2.heap.size, 6, none⟩) (.inl rfl) (.slice ta' (j + 1) tc')).blk BX10.out (fun e => by omega))
                       have HRW10 := Lib.hid ho
                       have HR10 := Lib.hid ((HR9.out.below ((Below.refl _ _).alloc (Nat.le_refl _) (.cells #[.int .i64 t.upto, .int .i64 t.price] 103))).keep hk (hne _ (by omega)) (fun k e => .inl (hlow k e).1))
                       have HK10 := Lib.hid (((HK9.out.mono (G := fun k => k = q ∨ k = w2.heap.size ∨ W.heap.size ≤ k) (fun i hi => .inl hi)).alloc _).trans hk (fun i hi => .inl (.inr (.inr (hlow i hi).1))))
                       clear ho hk hat hlow hne hpb10)
                    | (go_at_call 46; refine HI1.out.mono ?_; rintro e w8 ⟨rfl, hr8, hk8⟩
                       have HR8 := Lib.hid hr8
                       have BX8 := Lib.hid (hk8.blk BX7.out (fun e => by omega))
                       have hpb8 := hk8.blk HPB.out (fun e => by omega)
                       have k68 := blk_cell hpb8 6
                       have HPB8 := Lib.hid hpb8
                       have HRW8 := Lib.hid (rowS_keep hk8 HRW.out (fun k hk e => by have := (rowS_low HRW.out k hk).1; omega))
                       have HK8 := Lib.hid hk8
                       clear hr8 hk8 hpb8 HI1)
                    | (go_at_call 46; refine (HI2.out _ HR8.out).mono ?_; rintro e w9 ⟨rfl, hr9, hk9⟩
                       have HR9 := Lib.hid hr9
                       have BX9 := Lib.hid (hk9.blk BX8.out (fun e => by omega))
                       have hpb9 := hk9.blk HPB8.out (fun e => by omega)
                       have k69 := blk_cell hpb9 6
                       have HPB9 := Lib.hid hpb9
                       have HRW9 := Lib.hid (rowS_keep hk9 HRW8.out (fun k hk e => by have := (rowS_low HRW8.out k hk).1; omega))
                       have HK9 := Lib.hid (HK8.out.trans hk9 (fun i hi => .inl hi))
                       have BXA := Lib.hid (blk_alloc BX9.out (.cells #[.int .i64 t.upto, .int .i64 t.price] 103))
                       have hpba := blk_alloc HPB9.out (.cells #[.int .i64 t.upto, .int .i64 t.price] 103)
                       have k6a := blk_cell hpba 6
                       have HPBA := Lib.hid hpba
                       have hs9 := HK9.out.size
                       clear hr9 hk9 hpb9 hpba HI2)
                    | fail
                  refine hK.out _ _ ?_ (fun hHeld5 => ?_)
                  · (try dsimp only)
                    first | with_reducible exact CC.out _ BX11.out | with_reducible exact CC.out _ BX10.out | with_reducible exact CC.out _ BXA.out | with_reducible exact CC.out _ BX9.out | with_reducible exact CC.out _ BX8.out | with_reducible exact CC.out _ BX7.out
                  clear hK K hHeld4
                  try simp only [Act.put, List.setIfInBounds_toArray, List.set_cons_zero, List.set_cons_succ]
                  refine takeN (v := ?_) 9 rfl (by kernel_rfl) (by kernel_rfl) (by kernel_rfl) (fun _ _ _ h => h) (by rfl) ?_ hHeld5 ?_
                  rotate_left
                  · intro w hSw; (try dsimp only at hSw); go_simp; with_reducible rfl
                  try simp only [Act.put, List.setIfInBounds_toArray, List.set_cons_zero, List.set_cons_succ]
                  refine wpAnyH_ready (rs := [10]) (by kernel_rfl) (by simp) ?_
                  refine readyN rfl (fun K hK => ?_) ?_
                  · -- operation 10
                    go_simp
                    refine hK.out _ _ ?_ (fun hHeld6 => ?_)
                    · (try dsimp only)
                      first | with_reducible exact CC.out _ BX11.out | with_reducible exact CC.out _ BX10.out | with_reducible exact CC.out _ BXA.out | with_reducible exact CC.out _ BX9.out | with_reducible exact CC.out _ BX8.out | with_reducible exact CC.out _ BX7.out
                    clear hK K hHeld5
                    try simp only [Act.put, List.setIfInBounds_toArray, List.set_cons_zero, List.set_cons_succ]
                    refine wpAnyH_done (by kernel_rfl) ?_ _
                    dsimp only
                    gi_wp2
                    have kk := HK10.out.setCell (p := ⟨w2.heap.size, 6, none⟩) (.inl (.inr (.inl rfl))) (.slice ta' (j + 1) tc')
                    have hqF : ¬ (q = w2.heap.size) := by omega
                    have hlow10 := rowS_low HRW10.out
                    have HT' := Lib.hid (show ∃ ta tc, (w10.setCell ⟨w2.heap.size, 6, none⟩ (.slice ta' (j + 1) tc')).heap[w2.heap.size]? = some (.cells #[.int .u32 p.id, .int .i64 p.daily, .int .i64 p.monthly, .int .i64 p.over, .int .i64 p.roll, .int .i64 p.base, .slice ta (j + 1 : Nat) tc] 35 (0, 0)) ∧ (w10.setCell ⟨w2.heap.size, 6, none⟩ (.slice ta' (j + 1) tc')).ownsRow W.heap.size 103 shT.sz (.slice ta (j + 1 : Nat) tc) (j + 1) (shT.cells (p.tiers.take (j + 1))) from
                      ⟨ta', tc', by rw [blk_setCell HPB10.out 6]; rfl, by
                        have ho := rowS_keep ((Keep.refl (fun i => i = w2.heap.size) w10).setCell (p := ⟨w2.heap.size, 6, none⟩) (.inl rfl) (.slice ta' (j + 1) tc')) HRW10.out (fun k hk e => by have := (hlow10 k hk).1; omega)
                        rw [← HTK.out] at ho
                        exact ho⟩)
                    have HR' := Lib.hid (HR10.out.keep ((Keep.refl (fun i => i = w2.heap.size) w10).setCell (p := ⟨w2.heap.size, 6, none⟩) (.inl rfl) (.slice ta' (j + 1) tc')) hqF (fun k e => .inr (fun o x hc => by subst e; rw [blk_cell HPB10.out] at hc; exact zero_no8 _ _ _ _ _ _ _ (fun x e => by cases e) o x hc)))
                    have HBX' := Lib.hid BX11.out
                    have HZ' := Lib.hid (kk.blk (show wr.drew.heap[w.heap.size]? = _ from HZ.out) (fun e => by rcases e with e | e | e <;> omega))
                    have HD' := Lib.hid (kk.blk (show wr.drew.heap[D]? = _ from HDD.out) (fun e => by rcases e with e | e | e <;> omega))
                    have HB' := Lib.hid (HB7.out.trans (kk.below (B := w.heap.size) HB7.out.size (fun i e => by rcases e with e | e | e <;> omega)))
                    have hs' := Nat.le_trans hsd kk.size
                    go_roundw
                    case rel => exact ⟨j + 1, by omega, by simp, HT', HR', HBX', HZ', HD', HB', hs'⟩
                    case measure => simp [intOf]; omega
                  exact AllReadyH.nil
                exact AllReadyH.nil
              exact AllReadyH.nil
            refine readyN rfl (fun K hK => ?_) ?_
            · -- operation 7
              go_simp
              refine hK.out _ _ ?_ (fun hHeld3 => ?_)
              · (try dsimp only)
                first | with_reducible exact CC.out _ BX11.out | with_reducible exact CC.out _ BX10.out | with_reducible exact CC.out _ BXA.out | with_reducible exact CC.out _ BX9.out | with_reducible exact CC.out _ BX8.out | with_reducible exact CC.out _ BX7.out
              clear hK K hHeld2
              try simp only [Act.put, List.setIfInBounds_toArray, List.set_cons_zero, List.set_cons_succ]
              refine wpAnyH_ready (rs := [1]) (by kernel_rfl) (by simp) ?_
              refine readyN rfl (fun K hK => ?_) ?_
              · -- operation 1
                go_simp
                refine hK.out _ _ ?_ (fun hHeld4 => ?_)
                · (try dsimp only)
                  first | with_reducible exact CC.out _ BX11.out | with_reducible exact CC.out _ BX10.out | with_reducible exact CC.out _ BXA.out | with_reducible exact CC.out _ BX9.out | with_reducible exact CC.out _ BX8.out | with_reducible exact CC.out _ BX7.out
                clear hK K hHeld3
                try simp only [Act.put, List.setIfInBounds_toArray, List.set_cons_zero, List.set_cons_succ]
                refine wpAnyH_ready (rs := [8]) (by kernel_rfl) (by simp) ?_
                refine readyN rfl (fun K hK => ?_) ?_
                · -- operation 8
                  first
                    | (refine wp_app_go 33 103 16 _ uTr iTr rfl (by decide) W.heap.size _ _ rfl _ _ (p.tiers.take j) [t] rfl rfl (by rw [hlj]; exact rowS_below HRW9.out ((Below.refl _ _).alloc (Nat.le_refl _) _)) (GR.lit (S := shT) w9 _ [t] (by simp)) (by simp) (by simp; omega) (by simp; omega) (by simp) ?_
                       intro v10 w10 ho hk hat
                       rw [hl1] at ho
                       obtain ⟨ta', tc', rfl⟩ := rowS_shape ho
                       have hlow := rowS_low HRW9.out
                       have hne : ∀ k, k < W.heap.size → ¬ (Value.slice ta j tc).ownBlock = some k := fun k hkk e => by have := (hlow k e).1; omega
                       have hpb10 := hk.blk HPBA.out (hne _ (by omega))
                       have k6b := blk_cell hpb10 6
                       have f6b := blk_frozen hpb10 6
                       have HPB10 := Lib.hid hpb10
                       have BX10 := Lib.hid (hk.blk BXA.out (hne _ (by omega)))
                       have BX11 := Lib.hid (((Keep.refl (fun i => i = w2.heap.size) w10).setCell (p := ⟨w2.heap.size, 6, none⟩) (.inl rfl) (.slice ta' (j + 1) tc')).blk BX10.out (fun e => by omega))
                       have HRW10 := Lib.hid ho
                       have HR10 := Lib.hid ((HR9.out.below ((Below.refl _ _).alloc (Nat.le_refl _) (.cells #[.int .i64 t.upto, .int .i64 t.price] 103))).keep hk (hne _ (by omega)) (fun k e => .inl (hlow k e).1))
                       have HK10 := Lib.hid (((HK9.out.mono (G := fun k => k = q ∨ k = w2.heap.size ∨ W.heap.size ≤ k) (fun i hi => .inl hi)).alloc _).trans hk (fun i hi => .inl (.inr (.inr (hlow i hi).1))))
                       clear ho hk hat hlow hne hpb10)
                    | (go_at_call 46; refine HI1.out.mono ?_; rintro e w8 ⟨rfl, hr8, hk8⟩
                       have HR8 := Lib.hid hr8
                       have BX8 := Lib.hid (hk8.blk BX7.out (fun e => by omega))
                       have hpb8 := hk8.blk HPB.out (fun e => by omega)
                       have k68 := blk_cell hpb8 6
                       have HPB8 := Lib.hid hpb8
                       have HRW8 := Lib.hid (rowS_keep hk8 HRW.out (fun k hk e => by have := (rowS_low HRW.out k hk).1; omega))
                       have HK8 := Lib.hid hk8
                       clear hr8 hk8 hpb8 HI1)
                    | (go_at_call 46; refine (HI2.out _ HR8.out).mono ?_; rintro e w9 ⟨rfl, hr9, hk9⟩
                       have HR9 := Lib.hid hr9
                       have BX9 := Lib.hid (hk9.blk BX8.out (fun e => by omega))
                       have hpb9 := hk9.blk HPB8.out (fun e => by omega)
                       have k69 := blk_cell hpb9 6
                       have HPB9 := Lib.hid hpb9
                       have HRW9 := Lib.hid (rowS_keep hk9 HRW8.out (fun k hk e => by have := (rowS_low HRW8.out k hk).1; omega))
                       have HK9 := Lib.hid (HK8.out.trans hk9 (fun i hi => .inl hi))
                       have BXA := Lib.hid (blk_alloc BX9.out (.cells #[.int .i64 t.upto, .int .i64 t.price] 103))
                       have hpba := blk_alloc HPB9.out (.cells #[.int .i64 t.upto, .int .i64 t.price] 103)
                       have k6a := blk_cell hpba 6
                       have HPBA := Lib.hid hpba
                       have hs9 := HK9.out.size
                       clear hr9 hk9 hpb9 hpba HI2)
                    | fail
                  refine hK.out _ _ ?_ (fun hHeld5 => ?_)
                  · (try dsimp only)
                    first | with_reducible exact CC.out _ BX11.out | with_reducible exact CC.out _ BX10.out | with_reducible exact CC.out _ BXA.out | with_reducible exact CC.out _ BX9.out | with_reducible exact CC.out _ BX8.out | with_reducible exact CC.out _ BX7.out
                  clear hK K hHeld4
                  try simp only [Act.put, List.setIfInBounds_toArray, List.set_cons_zero, List.set_cons_succ]
                  refine takeN (v := ?_) 9 rfl (by kernel_rfl) (by kernel_rfl) (by kernel_rfl) (fun _ _ _ h => h) (by rfl) ?_ hHeld5 ?_
                  rotate_left
                  · intro w hSw; (try dsimp only at hSw); go_simp; with_reducible rfl
                  try simp only [Act.put, List.setIfInBounds_toArray, List.set_cons_zero, List.set_cons_succ]
                  refine wpAnyH_ready (rs := [10]) (by kernel_rfl) (by simp) ?_
                  refine readyN rfl (fun K hK => ?_) ?_
                  · -- operation 10
                    go_simp
                    refine hK.out _ _ ?_ (fun hHeld6 => ?_)
                    · (try dsimp only)
                      first | with_reducible exact CC.out _ BX11.out | with_reducible exact CC.out _ BX10.out | with_reducible exact CC.out _ BXA.out | with_reducible exact CC.out _ BX9.out | with_reducible exact CC.out _ BX8.out | with_reducible exact CC.out _ BX7.out
                    clear hK K hHeld5
                    try simp only [Act.put, List.setIfInBounds_toArray, List.set_cons_zero, List.set_cons_succ]
                    refine wpAnyH_done (by kernel_rfl) ?_ _
                    dsimp only
                    gi_wp2
                    have kk := HK10.out.setCell (p := ⟨w2.heap.size, 6, none⟩) (.inl (.inr (.inl rfl))) (.slice ta' (j + 1) tc')
                    have hqF : ¬ (q = w2.heap.size) := by omega
                    have hlow10 := rowS_low HRW10.out
                    have HT' := Lib.hid (show ∃ ta tc, (w10.setCell ⟨w2.heap.size, 6, none⟩ (.slice ta' (j + 1) tc')).heap[w2.heap.size]? = some (.cells #[.int .u32 p.id, .int .i64 p.daily, .int .i64 p.monthly, .int .i64 p.over, .int .i64 p.roll, .int .i64 p.base, .slice ta (j + 1 : Nat) tc] 35 (0, 0)) ∧ (w10.setCell ⟨w2.heap.size, 6, none⟩ (.slice ta' (j + 1) tc')).ownsRow W.heap.size 103 shT.sz (.slice ta (j + 1 : Nat) tc) (j + 1) (shT.cells (p.tiers.take (j + 1))) from
                      ⟨ta', tc', by rw [blk_setCell HPB10.out 6]; rfl, by
                        have ho := rowS_keep ((Keep.refl (fun i => i = w2.heap.size) w10).setCell (p := ⟨w2.heap.size, 6, none⟩) (.inl rfl) (.slice ta' (j + 1) tc')) HRW10.out (fun k hk e => by have := (hlow10 k hk).1; omega)
                        rw [← HTK.out] at ho
                        exact ho⟩)
                    have HR' := Lib.hid (HR10.out.keep ((Keep.refl (fun i => i = w2.heap.size) w10).setCell (p := ⟨w2.heap.size, 6, none⟩) (.inl rfl) (.slice ta' (j + 1) tc')) hqF (fun k e => .inr (fun o x hc => by subst e; rw [blk_cell HPB10.out] at hc; exact zero_no8 _ _ _ _ _ _ _ (fun x e => by cases e) o x hc)))
                    have HBX' := Lib.hid BX11.out
                    have HZ' := Lib.hid (kk.blk (show wr.drew.heap[w.heap.size]? = _ from HZ.out) (fun e => by rcases e with e | e | e <;> omega))
                    have HD' := Lib.hid (kk.blk (show wr.drew.heap[D]? = _ from HDD.out) (fun e => by rcases e with e | e | e <;> omega))
                    have HB' := Lib.hid (HB7.out.trans (kk.below (B := w.heap.size) HB7.out.size (fun i e => by rcases e with e | e | e <;> omega)))
                    have hs' := Nat.le_trans hsd kk.size
                    go_roundw
                    case rel => exact ⟨j + 1, by omega, by simp, HT', HR', HBX', HZ', HD', HB', hs'⟩
                    case measure => simp [intOf]; omega
                  exact AllReadyH.nil
                exact AllReadyH.nil
              exact AllReadyH.nil
            exact AllReadyH.nil
          exact AllReadyH.nil
        exact AllReadyH.nil
      · obtain rfl : j = n := by omega
        have hdr : p.tiers.drop j = [] := by rw [HNN.out]; exact List.drop_length
        have hfull : p.tiers.take j = p.tiers := by rw [HNN.out]; exact List.take_length
        have hr := HR.out
        rw [hdr] at hr
        rw [hfull] at hrow
        have HGR := Lib.hid (show GR shT wr (.slice ta j tc) p.tiers from GR.of_row (by rw [← HNN.out]; exact hrow))
        have HDO := Lib.hid (done_w q ⟨ByteArray.empty, false⟩ wr (show RdIs wr q ⟨ByteArray.empty, false⟩ from hr.is))
        have HPC := Lib.hid (pcheck_any p (.slice ta j tc) wr HGR.out)
        rw [HCK.out] at HPC
        have k0 : wr.cell? ⟨w2.heap.size, 0, none⟩ = some (.int .u32 p.id) := blk_cell hpb 0
        have k1 : wr.cell? ⟨w2.heap.size, 1, none⟩ = some (.int .i64 p.daily) := blk_cell hpb 1
        have k2 : wr.cell? ⟨w2.heap.size, 2, none⟩ = some (.int .i64 p.monthly) := blk_cell hpb 2
        have k3 : wr.cell? ⟨w2.heap.size, 3, none⟩ = some (.int .i64 p.over) := blk_cell hpb 3
        have k4 : wr.cell? ⟨w2.heap.size, 4, none⟩ = some (.int .i64 p.roll) := blk_cell hpb 4
        have k5 : wr.cell? ⟨w2.heap.size, 5, none⟩ = some (.int .i64 p.base) := blk_cell hpb 5
        have k6 : wr.cell? ⟨w2.heap.size, 6, none⟩ = some (.slice ta j tc) := blk_cell hpb 6
        have kbj := blk_cell HBX.out 0
        have HPB := Lib.hid hpb
        have hlow := rowS_low hrow
        clear hdr hfull hr hrow hpb HT HR
        gi_wp2_with (first
          | (refine ⟨trivial, ?_⟩; gi_at_call 47; refine (callsIn_wide.2 HDO.out).mono ?_; rintro e wd ⟨rfl, rfl⟩)
          | (refine ⟨trivial, ?_⟩; gi_at_call 49; refine (callsIn_wide.2 HPC.out).mono ?_; rintro e w5 ⟨rfl, hb5⟩
             have HB5 := Lib.hid hb5
             have hpb5 := (Keep.ofBelow hb5 (fun _ => False)).blk HPB.out (fun h => h)
             have hzz5 := (Keep.ofBelow hb5 (fun _ => False)).blk HZ.out (fun h => h)
             have m0 : w5.cell? ⟨w2.heap.size, 0, none⟩ = some (.int .u32 p.id) := blk_cell hpb5 0
             have z0 : w5.cell? ⟨w.heap.size, 0, none⟩ = some (.int .u32 0) := blk_cell hzz5 0
             have y0 := blk_frozen hzz5 0
             have m1 : w5.cell? ⟨w2.heap.size, 1, none⟩ = some (.int .i64 p.daily) := blk_cell hpb5 1
             have z1 : w5.cell? ⟨w.heap.size, 1, none⟩ = some (.int .i64 0) := blk_cell hzz5 1
             have y1 := blk_frozen hzz5 1
             have m2 : w5.cell? ⟨w2.heap.size, 2, none⟩ = some (.int .i64 p.monthly) := blk_cell hpb5 2
             have z2 : w5.cell? ⟨w.heap.size, 2, none⟩ = some (.int .i64 0) := blk_cell hzz5 2
             have y2 := blk_frozen hzz5 2
             have m3 : w5.cell? ⟨w2.heap.size, 3, none⟩ = some (.int .i64 p.over) := blk_cell hpb5 3
             have z3 : w5.cell? ⟨w.heap.size, 3, none⟩ = some (.int .i64 0) := blk_cell hzz5 3
             have y3 := blk_frozen hzz5 3
             have m4 : w5.cell? ⟨w2.heap.size, 4, none⟩ = some (.int .i64 p.roll) := blk_cell hpb5 4
             have z4 : w5.cell? ⟨w.heap.size, 4, none⟩ = some (.int .i64 0) := blk_cell hzz5 4
             have y4 := blk_frozen hzz5 4
             have m5 : w5.cell? ⟨w2.heap.size, 5, none⟩ = some (.int .i64 p.base) := blk_cell hpb5 5
             have z5 : w5.cell? ⟨w.heap.size, 5, none⟩ = some (.int .i64 0) := blk_cell hzz5 5
             have y5 := blk_frozen hzz5 5
             have m6 : w5.cell? ⟨w2.heap.size, 6, none⟩ = some (.slice ta j tc) := blk_cell hpb5 6
             have z6 : w5.cell? ⟨w.heap.size, 6, none⟩ = some (.slice none 0 0) := blk_cell hzz5 6
             have y6 := blk_frozen hzz5 6
             have HZZ5 := Lib.hid hzz5
             have HDD5 := Lib.hid ((Keep.ofBelow hb5 (fun _ => False)).blk HDD.out (fun h => h))
             clear hb5 hpb5 hzz5 k0 k1 k2 k3 k4 k5 k6)
          | (refine Eq.mpr (if_neg (fun h => Bool.false_ne_true h)) ?_))
        obtain ⟨h9, hk9⟩ := set7 (x0 := .int .u32 p.id) (x1 := .int .i64 p.daily) (x2 := .int .i64 p.monthly) (x3 := .int .i64 p.over) (x4 := .int .i64 p.roll) (x5 := .int .i64 p.base) (x6 := .slice ta j tc) HZZ5.out
        generalize (((((((w5.setCell ⟨w.heap.size, 0, none⟩ (.int .u32 p.id)).setCell ⟨w.heap.size, 1, none⟩ (.int .i64 p.daily)).setCell ⟨w.heap.size, 2, none⟩ (.int .i64 p.monthly)).setCell ⟨w.heap.size, 3, none⟩ (.int .i64 p.over)).setCell ⟨w.heap.size, 4, none⟩ (.int .i64 p.roll)).setCell ⟨w.heap.size, 5, none⟩ (.int .i64 p.base)).setCell ⟨w.heap.size, 6, none⟩ (.slice ta j tc)) = W9 at h9 hk9 ⊢
        have hd9 := hk9.blk HDD5.out (fun e => by omega)
        have hkp := keep_row (grownBy_putObj' W9 D (Obj.deferred none))
        have hb9 := hkp.blk h9 (fun e => by injection e with e; omega)
        have x0 : (W9.putObj D (Obj.deferred none)).cell? ⟨w.heap.size, 0, none⟩ = some (.int .u32 p.id) := blk_cell hb9 0
        have x1 : (W9.putObj D (Obj.deferred none)).cell? ⟨w.heap.size, 1, none⟩ = some (.int .i64 p.daily) := blk_cell hb9 1
        have x2 : (W9.putObj D (Obj.deferred none)).cell? ⟨w.heap.size, 2, none⟩ = some (.int .i64 p.monthly) := blk_cell hb9 2
        have x3 : (W9.putObj D (Obj.deferred none)).cell? ⟨w.heap.size, 3, none⟩ = some (.int .i64 p.over) := blk_cell hb9 3
        have x4 : (W9.putObj D (Obj.deferred none)).cell? ⟨w.heap.size, 4, none⟩ = some (.int .i64 p.roll) := blk_cell hb9 4
        have x5 : (W9.putObj D (Obj.deferred none)).cell? ⟨w.heap.size, 5, none⟩ = some (.int .i64 p.base) := blk_cell hb9 5
        have x6 : (W9.putObj D (Obj.deferred none)).cell? ⟨w.heap.size, 6, none⟩ = some (.slice ta j tc) := blk_cell hb9 6
        refine ⟨by simp, .inl ⟨_, _, rfl, run_takeDeferred hd9, ?_⟩⟩
        refine ⟨_, (by simp [results, Tryz.results48, go_sem, x0, x1, x2, x3, x4, x5, x6]; rfl), ?_⟩
        refine ⟨.slice ta j tc, rfl, ((HGR.out.below HB5.out).keep hk9 (fun _ k hk e => by have := (hlow k hk).1; omega)).keep hkp (fun _ k hk e => ?_), fun k hk => by have := (hlow k hk).1; omega, ?_⟩
        · injection e with e
          have := (hlow k hk).1; omega
        · exact ((HB.out.trans (HB5.out.mono hws)).trans (hk9.below (B := w.heap.size) (Nat.le_trans hws HB5.out.size) (fun i hi => by omega))).trans (belowK_b (w := w) (Nat.le_refl _) _ D _ _ (by omega) hd9 rfl rfl)
  case stop =>
    rintro D c pre W _ _ h _
    exact h.elim
end Go.Proofs.YtidppalhjknlfaaGreatDoor
