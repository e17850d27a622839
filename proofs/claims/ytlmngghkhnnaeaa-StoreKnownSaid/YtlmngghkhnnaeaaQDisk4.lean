/- The walk of disk's settle. -/
import Derived.Test.YtlmngghkhnnaeaaQDisk3
import Derived.Test.YtlmngghkhnnaeaaQMReg
import Derived.Deep.DeepCutAuto
namespace Go.Proofs.Ytlmngghkhnnaeaa
open Go.RowKit
open Go.ChangeMaps (setBlock)
set_option maxRecDepth 100000
set_option linter.unusedVariables false
set_option linter.unusedSimpArgs false
theorem IMapAt.clear {w : World} {b : Nat} {l : IM} (h : IMapAt w b l) (ty : TypeId) : ∃ w', (Builtin.clear_ #[51] ty #[.map (some b)]).run Try.prog w = .ok (.tuple #[]) w' ∧ IMapAt w' b [] ∧ Keep (fun i => i = b) w w' := by
  obtain ⟨es, c, h1, h2, h3, h4⟩ := h
  have hu : Try.prog.underlying 51 = some (.map 3 28) := by kernel_rfl
  refine ⟨setBlock w b (.map #[] c), ?_, ⟨#[], c, heap_setBlock_eq w b _ (blk_lt h1), rfl, by simp, by simp⟩, (Keep.refl (fun i => i = b) w).setBlock (.inl rfl) _⟩
  have hg : (getObj b).run Try.prog w = .ok (.map es c) w := by simp [getObj, Sem.run, h1]
  have hs := fun o => setObj_run (P := Try.prog) h1 o
  simp [Builtin.clear_, run_underlying hu, hg, hs, Result.andThen]
theorem im_get : ∀ (vs : IM) (i : Nat) (k : Int) (v : Value), vs[i]? = some (k, v) → (vs.map (·.1)).Nodup → IM.get k vs = some v
  | [], i, k, v, h, _ => by simp at h
  | p :: vs, 0, k, v, h, _ => by
    simp at h; subst h; simp [IM.get]
  | p :: vs, i + 1, k, v, h, hn => by
    simp only [List.getElem?_cons_succ] at h
    simp only [List.map_cons, List.nodup_cons] at hn
    have hne : k ≠ p.1 := fun e => hn.1 (e ▸ List.mem_map.2 ⟨(k, v), List.mem_of_getElem? h, rfl⟩)
    simp only [IM.get, if_neg hne]
    exact im_get vs i k v h hn.2
def bitv (f : Int) (j : Nat) : Bool := bits BinOp.and IntKind.i64 (f / 2 ^ j) 1 == 1
/-- the first j sectors by fate -/
def mix (f : Int) (was now : ByteArray) : Nat → ByteArray
  | 0 => was
  | j + 1 => if bitv f j = true then over (mix f was now j) (512 * j) ((now.extract (512 * j) 4096).extract 0 512) else mix f was now j
theorem mix_yes (f : Int) (was now : ByteArray) (j : Nat) (h : bitv f j = true) : mix f was now (j + 1) = over (mix f was now j) (512 * j) ((now.extract (512 * j) 4096).extract 0 512) := by simp only [mix, h, if_true]
theorem mix_no (f : Int) (was now : ByteArray) (j : Nat) (h : bitv f j = false) : mix f was now (j + 1) = mix f was now j := by simp [mix, h]
theorem mix_size (f : Int) (was now : ByteArray) (h : was.size = 4096) (hn : now.size = 4096) : ∀ j, j ≤ 8 → (mix f was now j).size = 4096
  | 0, _ => h
  | j + 1, hj => by
    have ih := mix_size f was now h hn j (by omega)
    unfold mix
    split
    · rw [over_size _ _ _ (by rw [ByteArray.size_extract, ByteArray.size_extract, ih]; omega), ih]
    · exact ih
/-- what lasts, once the first k of those that wait are settled -/
def setl (f : Nat → Int) (W : Wt) (L : List Pg) : Nat → List Pg
  | 0 => L
  | k + 1 => match W[k]? with
    | none => setl f W L k
    | some q => (setl f W L k).set q.1.toNat (some (mix (f k) (pgOf ((setl f W L k).getD q.1.toNat none)) q.2 8))
theorem setl_length (f : Nat → Int) (W : Wt) (L : List Pg) : ∀ k, (setl f W L k).length = L.length
  | 0 => rfl
  | k + 1 => by
    unfold setl
    split
    · exact setl_length f W L k
    · rw [List.length_set, setl_length f W L k]
theorem setl_step (f : Nat → Int) (W : Wt) (L : List Pg) (k at_ : Nat) (qs : ByteArray) (o : Pg) (hq : W[k]? = some ((at_ : Int), qs)) (ho : (setl f W L k)[at_]? = some o) :
    setl f W L (k + 1) = (setl f W L k).set at_ (some (mix (f k) (pgOf o) qs 8)) := by
  show (match W[k]? with
    | none => setl f W L k
    | some q => (setl f W L k).set q.1.toNat (some (mix (f k) (pgOf ((setl f W L k).getD q.1.toNat none)) q.2 8))) = _
  rw [hq]
  simp only [Int.toNat_natCast, List.getD_eq_getElem?_getD, ho, Option.getD_some]
/-- d.lasts[at] = b -/
theorem DiskIs.last {w : World} {p bl bw : Nat} {ov : Value} {S : DS} (h : DiskIs w p bl bw ov S) (at_ : Nat) (hat : at_ < S.L.length) (v : Value) (s : ByteArray) (hv : Own 5 w S.B v s) (hs : s.size = 4096) :
    DiskIs (w.setCell ⟨bl, at_, none⟩ v) p bl bw ov { S with L := S.L.set at_ (some s) } ∧ Keep (fun i => i = bl) w (w.setCell ⟨bl, at_, none⟩ v) := by
  obtain ⟨a1, a2, a3, a4, a5, a6⟩ := h.apart
  have hk : Keep (fun i => i = bl) w (w.setCell ⟨bl, at_, none⟩ v) := (Keep.refl (fun i => i = bl) w).setCell (p := ⟨bl, at_, none⟩) (.inl rfl) _
  have nb : ∀ i c z, w.heap[i]? = some (.cells c 5 z) → ¬ i = bl := fun i c z hi he => h.not_bytes i c z hi (.inr (.inl he))
  refine ⟨⟨?_, ?_, ?_, ?_, ?_, h.nodup, h.fuse, ?_, Nat.le_trans h.low hk.size⟩, hk⟩
  · simp only [List.length_set]; exact hk.blk h.blk a1
  · obtain ⟨ls, h1, h2, h3⟩ := h.lasts
    refine ⟨ls.setIfInBounds at_ v, blk_setCell h1 at_ v, by simp [h2], fun i o ho => ?_⟩
    simp only [List.getElem?_set] at ho
    by_cases hi : at_ = i
    · subst hi
      rw [if_pos rfl, if_pos hat] at ho
      cases ho
      refine ⟨v, by rw [Array.getElem?_setIfInBounds_self_of_lt (by omega)], PG.keep (o := some s) ⟨hv, hs⟩ hk nb⟩
    · rw [if_neg hi] at ho
      obtain ⟨u, e1, e2⟩ := h3 i o ho
      exact ⟨u, by rw [Array.getElem?_setIfInBounds_ne hi]; exact e1, e2.keep hk nb⟩
  · obtain ⟨vs, h1, h2, h3⟩ := h.waits
    exact ⟨vs, h1.keep hk (fun e => a3 e.symm), h2, fun i o ho => by obtain ⟨u, a, b⟩ := h3 i o ho; exact ⟨u, a, b.keep hk nb⟩⟩
  · refine ⟨h.order.1, ?_⟩
    rcases h.order.2 with hn | ⟨g, cap, cur, he, hb, hg, rest⟩
    · exact .inl hn
    · exact .inr ⟨g, cap, cur, he, hb, hk.blk hg (fun e => a5 (by rw [he, ← e]; rfl)), rest⟩
  · intro q hq; simp only [List.length_set]; exact h.rng q hq
  · simp only [List.length_set]; exact h.len
/-- clear(d.waits); d.order = nil -/
theorem DiskIs.gone {w : World} {p bl bw : Nat} {ov : Value} {S : DS} (h : DiskIs w p bl bw ov S) (w1 : World) (h1 : IMapAt w1 bw []) (hk : Keep (fun i => i = bw) w w1) :
    DiskIs (w1.setCell ⟨p, 2, none⟩ (.slice none 0 0)) p bl bw (.slice none 0 0) { S with W := [] } ∧ Keep (fun i => i = p ∨ i = bw) w (w1.setCell ⟨p, 2, none⟩ (.slice none 0 0)) := by
  obtain ⟨a1, a2, a3, a4, a5, a6⟩ := h.apart
  have hk2 : Keep (fun i => i = p) w1 (w1.setCell ⟨p, 2, none⟩ (.slice none 0 0)) := (Keep.refl (fun i => i = p) w1).setCell (p := ⟨p, 2, none⟩) (.inl rfl) _
  have hk3 : Keep (fun i => i = p ∨ i = bw) w (w1.setCell ⟨p, 2, none⟩ (.slice none 0 0)) := (hk.mono (fun i hi => .inr hi)).trans hk2 (fun i hi => .inl (.inl hi))
  have nb : ∀ i c z, w.heap[i]? = some (.cells c 5 z) → ¬ (i = p ∨ i = bw) := fun i c z hi he => h.not_bytes i c z hi (by rcases he with he | he; exact .inl he; exact .inr (.inr (.inl he)))
  refine ⟨⟨?_, ?_, ⟨[], h1.keep hk2 (fun e => a2 e.symm), rfl, by simp⟩, World.ownsRow_nil _ _ _ _, by simp, by simp, h.fuse, h.len, Nat.le_trans h.low hk3.size⟩, hk3⟩
  · exact blk_setCell (hk.blk h.blk a2) 2 _
  · obtain ⟨ls, h1, h2, h3⟩ := h.lasts
    exact ⟨ls, hk3.blk h1 (by rintro (e | e); exact a1 e.symm; exact a3 e), h2, fun i o ho => by obtain ⟨u, a, b⟩ := h3 i o ho; exact ⟨u, a, b.keep hk3 nb⟩⟩
/-- b[s*512:(s+1)*512], d.waits[at][s*512:] -/
theorem cut_lh (g cap j : Nat) (hj : j < 8) (hc : 4096 ≤ cap) (hm : cap ≤ maxLen) (W : World) : (Instr.slice 28 (.slice (some ⟨g, 0, none⟩) 4096 cap) (some (.int .i64 ((j : Int) * 512))) (some (.int .i64 (((j : Int) + 1) * 512))) none).run Try.prog W = .ok (.slice (some ⟨g, j * 512, none⟩) 512 (cap - j * 512)) W := by
  rw [run_slice_lh (P := Try.prog) W 28 (some ⟨g, 0, none⟩) 4096 cap elemB .i64 .i64 _ _ (by omega) (by omega) (by omega), so1]
  have e1 : ((j : Int) * 512).toNat = j * 512 := by omega
  have e2 : (((j : Int) + 1) * 512).toNat = (j + 1) * 512 := by omega
  simp only [Result.andThen, sliced, e1, e2]
  have e3 : (j + 1) * 512 - j * 512 = 512 := by omega
  rw [if_neg (by omega), Option.map_some, e3, Nat.mul_one, Go.WideShapes.add_plain, Nat.zero_add]
theorem cut_l (a : Option Addr) (c j : Nat) (s : ByteArray) (hs : s.size = 4096) (hj : j < 8) (w : World) (hv : BS w (.slice a s.size c) s) : ∃ a' c', (∀ W, (Instr.slice 28 (.slice a s.size c) (some (.int .i64 ((j : Int) * 512))) none none).run Try.prog W = .ok (.slice a' (s.extract (512 * j) 4096).size c') W) ∧ ∀ W, BS W (.slice a s.size c) s → BS W (.slice a' (s.extract (512 * j) 4096).size c') (s.extract (512 * j) 4096) := by
  obtain ⟨a0, c0, he, h1, h2, h3, _⟩ := hv
  injection he with he1 he2 he3
  subst he1; subst he3
  obtain ⟨a', m, c', hm, hr, hb⟩ := sl_lo a c s (512 * j) .i64 ((j : Int) * 512) (by omega) (by omega) h1 h2 h3
  have hz : (s.extract (512 * j) 4096).size = m := by rw [ByteArray.size_extract]; omega
  rw [hs] at hb
  exact ⟨a', c', by rw [hz]; exact hr, by rw [hz]; intro W hW; rw [hs] at hW; exact hb W hW⟩
theorem settle_all {p bl bw : Nat} {ov : Value} {S : DS} (w : World) (f : Nat → Int) (hD : DiskIs w p bl bw ov S) (hfb : ∀ k, -9223372036854775808 ≤ f k ∧ f k ≤ 9223372036854775807)
    (hF : ∀ (k : Nat) W, k < S.W.length → Keep (fun i => i = bl) w W → Calls Try.prog 79 #[.int .i64 k] W fun e w' => e = .returned (.int .i64 (f k)) ∧ w' = W) :
    Calls Try.prog 78 #[dV p, .func (Fn.func 79) #[] #[]] w fun e w' => e = .returned (.tuple #[]) ∧ DiskIs w' p bl bw (.slice none 0 0) { S with L := setl f S.W S.L S.W.length, W := [] } ∧ Keep (DF p bl bw ov) w w' := by
  obtain ⟨a, cap, rfl, hcel⟩ : ∃ a cap, ov = .slice a S.W.length cap ∧ ∀ (i : Nat) (q : Int × ByteArray), S.W[i]? = some q → ∃ g, a = some ⟨g, 0, none⟩ ∧ g ≠ bl ∧ w.cell? ⟨g, i, none⟩ = some (.int .i64 q.1) := by
    rcases hD.order.2 with ⟨he, h0⟩ | ⟨g, cap, cur, he, hb, hg, hn, hm, hs, ht⟩
    · refine ⟨none, 0, by rw [he, h0], fun i q hq => ?_⟩
      have := (List.getElem?_eq_some_iff.1 hq).1
      omega
    · refine ⟨_, cap, he, fun i q hq => ⟨g, rfl, fun e => hD.apart.2.2.2.2.1 (by rw [he, ← e]; rfl), ?_⟩⟩
      have := hD.order.cells (g := g) (by rw [he]; rfl) i (.int .i64 q.1) (by rw [List.getElem?_map, hq]; rfl)
      rw [Go.WideShapes.add_plain, Nat.zero_add] at this
      exact this
  have hc2 := hD.c2
  have hw := hD.wlen
  have hlen := hD.len
  have HD := Lib.hid hD
  have HF := Lib.hid hF
  have HFB := Lib.hid hfb
  have HC := Lib.hid hcel
  unfold dV
  clear hD hF hfb hcel
  go_enter Try.func78, Try.ntmps78
  go_wp2_with fail
  go_loopw [13] (fun i wr => ∃ k : Nat, k ≤ S.W.length ∧ i = .int .i64 k ∧ Hid (DiskIs wr p bl bw (.slice a S.W.length cap) { S with L := setl f S.W S.L k }) ∧ Hid (Keep (fun i => i = bl) w wr)) (fun i _ => S.W.length - (intOf i).toNat)
  case atStart => exact ⟨0, by omega, rfl, Lib.hid HD.out, Lib.hid (Keep.refl _ _)⟩
  case round =>
    obtain ⟨wo, rfl⟩ : ∃ wo, wo = wr := ⟨_, rfl⟩
    obtain ⟨k, hk, rfl, HDR, HKR⟩ := hrel
    by_cases hlt : k < S.W.length
    · obtain ⟨q, hq⟩ : ∃ q, S.W[k]? = some q := ⟨_, List.getElem?_eq_getElem hlt⟩
      obtain ⟨g, rfl, hg, hcq⟩ := HC.out k q hq
      obtain ⟨qa, qs⟩ := q
      obtain ⟨hq0, hq1⟩ := HD.out.rng (qa, qs) (List.mem_of_getElem? hq)
      simp only at hq0 hq1
      obtain ⟨at_, rfl⟩ : ∃ n : Nat, qa = n := ⟨qa.toNat, by omega⟩
      have hcq' := HKR.out.cell hcq (fun e => hg e)
      have hc0 := HDR.out.c0
      have hc1 := HDR.out.c1
      have hll : (setl f S.W S.L k).length = S.L.length := setl_length _ _ _ _
      simp only [hll] at hc0
      obtain ⟨ls, hl1, hl2, hl3⟩ := HDR.out.lasts
      obtain ⟨o, ho⟩ : ∃ o, (setl f S.W S.L k)[at_]? = some o := ⟨_, List.getElem?_eq_getElem (by omega)⟩
      obtain ⟨v, hv1, hv2⟩ := hl3 at_ o ho
      have hcv : wo.cell? ⟨bl, at_, none⟩ = some v := by rw [blk_cell hl1]; exact hv1
      obtain ⟨vs, hm1, hm2, hm3⟩ := HDR.out.waits
      obtain ⟨u, hu1, hu2⟩ := hm3 k _ hq
      have hnd : (vs.map (·.1)).Nodup := by
        have : vs.map (·.1) = S.W.map (·.1) := by
          refine List.ext_getElem? fun i => ?_
          rw [List.getElem?_map, List.getElem?_map]
          rcases Nat.lt_or_ge i S.W.length with h | h
          · obtain ⟨q', hq'⟩ : ∃ q, S.W[i]? = some q := ⟨_, List.getElem?_eq_getElem h⟩
            obtain ⟨u', e1, _⟩ := hm3 i q' hq'
            rw [e1, hq']; rfl
          · have e1 : vs[i]? = none := List.getElem?_eq_none (by rw [hm2]; exact h)
            have e2 : S.W[i]? = none := List.getElem?_eq_none h
            rw [e1, e2]; rfl
        rw [this]; exact HD.out.nodup
      have hgu := im_get vs k at_ u hu1 hnd
      have hpg := Lib.hid (page_any v o wo hv2)
      have hPS := pgOf_size hv2
      obtain ⟨hu2, hu3⟩ := hu2
      simp only at hu3
      obtain ⟨au, cu, rfl⟩ := hu2.bs.len
      have HU := Lib.hid hu2
      have HM := Lib.hid hm1
      have HGU := Lib.hid hgu
      have HQ := Lib.hid hq
      have HO := Lib.hid ho
      have HL1 := Lib.hid hl1
      have HL2 := Lib.hid hl2
      have HPS := Lib.hid hPS
      have HU3 := Lib.hid hu3
      clear hl1 hl2 hl3 hv1 hv2 hm1 hm2 hm3 hu1 hu2 hnd hgu hq ho hPS hcq hu3
      go_wp2_with fail
      refine hpg.out.mono ?_
      rintro e w1 ⟨bv, rfl, ho1, hb1⟩
      obtain ⟨gb, capb, rfl, hcap1, hcap2, hgb⟩ : ∃ gb capb, bv = .slice (some ⟨gb, 0, none⟩) 4096 capb ∧ 4096 ≤ capb ∧ capb ≤ maxLen ∧ wo.heap.size ≤ gb := by
        rcases ho1.2 with ⟨_, h0⟩ | ⟨g, cap, cur, he, hb, hg, hn, hm, _⟩
        · have := HPS.out; omega
        · rw [HPS.out] at he hn; exact ⟨g, cap, he, hn, hm, hb⟩
      have HO1 := Lib.hid ho1
      have HB1 := Lib.hid hb1
      clear ho1 hb1 hpg
      go_wp2_with fail
      go_loopw [26] (fun i wi => ∃ j : Nat, j ≤ 8 ∧ i = .int .i64 j ∧ Hid (Own 5 wi wo.heap.size (.slice (some ⟨gb, 0, none⟩) 4096 capb) (mix (f k) (pgOf o) qs j)) ∧ Hid (Below wo.heap.size wo wi)) (fun i _ => 8 - (intOf i).toNat)
      case atStart => exact ⟨0, by omega, rfl, HO1, HB1⟩
      case round =>
        obtain ⟨j, hj, rfl, HOJ, HBJ⟩ := hrel
        by_cases hj8 : j < 8
        · have hcall := Lib.hid (HF.out k wr hlt (HKR.out.trans (Keep.ofBelow HBJ.out (fun _ => False)) (fun _ h => h.elim)))
          have HDI := Lib.hid (HDR.out.below HBJ.out)
          have hc1 := HDI.out.c1
          have hlk := ((HM.out.keep (Keep.ofBelow HBJ.out (fun _ => False)) (fun h => h)).lookup (P := Try.prog) (t := 51) (kt := 3) (et := 28) (by kernel_rfl) (by kernel_rfl) (fun w => by kernel_rfl) (at_ : Int))
          rw [HGU.out, Option.getD_some] at hlk
          have hwr1 : IntKind.i64.wrap ((j : Int) * 512) = (j : Int) * 512 := by rw [IntKind.wrap_i64]; omega
          have hwr2 : IntKind.i64.wrap ((j : Int) + 1) = (j : Int) + 1 := by rw [IntKind.wrap_i64]; omega
          have hwr3 : IntKind.i64.wrap (((j : Int) + 1) * 512) = ((j : Int) + 1) * 512 := by rw [IntKind.wrap_i64]; omega
          have hlh := fun W => cut_lh gb capb j hj8 hcap1 hcap2 W
          obtain ⟨a', c', hcl, hcb⟩ := cut_l au cu j qs HU3.out hj8 wr (HU.out.bs.below HBJ.out)
          have hms := mix_size (f k) (pgOf o) qs HPS.out HU3.out j hj
          have hxs : (qs.extract (512 * j) 4096).size = 4096 - 512 * j := by rw [ByteArray.size_extract, HU3.out]; omega
          have HCB := Lib.hid hcb
          have hlkd : (Instr.lookup 51 (.map (some bw)) (.int .i64 at_) false).run Try.prog wr.drew = .ok (.slice au qs.size cu) wr.drew := by
            have := ((HM.out.keep ((Keep.ofBelow HBJ.out (fun _ => False)).drew) (fun h => h)).lookup (P := Try.prog) (t := 51) (kt := 3) (et := 28) (by kernel_rfl) (by kernel_rfl) (fun w => by kernel_rfl) (at_ : Int))
            rw [HGU.out, Option.getD_some] at this
            exact this
          obtain ⟨w4, hcp, ho4, hk4⟩ := copy_own wr.drew wo.heap.size gb capb (j * 512) (capb - j * 512) (mix (f k) (pgOf o) qs j) (qs.extract (512 * j) 4096) a' c' 512 512 (by rw [hxs]; exact (Nat.min_eq_right (by omega)).symm) (by rw [hms]; exact HOJ.out) (hcb wr.drew ((HU.out.bs.below HBJ.out).drew)) (by omega) (by rw [hms]; omega) 3
          have HO4 := Lib.hid ho4
          have HK4 := Lib.hid hk4
          have hfk := HFB.out k
          obtain ⟨m, hm⟩ : ∃ m, m = (qs.extract (512 * j) 4096).size := ⟨_, rfl⟩
          rw [← hm] at hcp
          simp only [← hm] at hcl
          have HMS := Lib.hid hms
          have hne : p ≠ gb := by have := blk_lt HDR.out.blk; omega
          have hneb : bw ≠ gb := by have := HM.out.lt; omega
          have HC14 := Lib.hid (hk4.cell (a := ⟨p, 1, none⟩) (v := .map (some bw)) hc1 hne)
          have HLK4 : Hid ((Instr.lookup 51 (.map (some bw)) (.int .i64 at_) false).run Try.prog w4 = .ok (.slice au qs.size cu) w4) := Lib.hid (by
            have := ((((HM.out.keep ((Keep.ofBelow HBJ.out (fun _ => False)).drew) (fun h => h)).keep hk4 hneb).lookup (P := Try.prog) (t := 51) (kt := 3) (et := 28) (by kernel_rfl) (by kernel_rfl) (fun w => by kernel_rfl) (at_ : Int)))
            rw [HGU.out, Option.getD_some] at this
            exact this)
          clear hcb ho4 hk4 hms hxs hne hneb hm
          go_wp2_with fail
          refine hcall.out.mono ?_
          rintro e w3 ⟨rfl, rfl⟩
          obtain ⟨bt, hbt⟩ : ∃ bt, (bits BinOp.and IntKind.i64 (f k / 2 ^ j) 1 == 1) = bt := ⟨_, rfl⟩
          have HBT := Lib.hid hbt
          cases bt with
          | true =>
            go_wp2_with fail
            refine wp_region_held_drew (S := (fun w' => w'.cell? ⟨p, 1, none⟩ = some (.map (some bw)) ∧ (Instr.lookup 51 (.map (some bw)) (.int .i64 at_) false).run Try.prog w' = .ok (.slice au qs.size cu) w')) (by kernel_rfl) ?_ (fun hHeld0 => ?_)
            · (try dsimp only)
              first | exact ⟨hc1, hlkd⟩ | exact ⟨HC14.out, HLK4.out⟩
            refine takeN (v := ?_) 0 rfl (by kernel_rfl) (by kernel_rfl) (by kernel_rfl) (fun _ _ _ h => h) (by rfl) ?_ hHeld0 ?_
            rotate_left
            · intro w hSw; (try dsimp only at hSw); go_simp; with_reducible rfl
            try simp only [Act.put, List.setIfInBounds_toArray, List.set_cons_zero, List.set_cons_succ]
            refine takeN (v := ?_) 1 rfl (by kernel_rfl) (by kernel_rfl) (by kernel_rfl) (fun _ _ _ h => h) (by rfl) ?_ hHeld0 ?_
            rotate_left
            · intro w hSw; (try dsimp only at hSw); go_simp; with_reducible rfl
            try simp only [Act.put, List.setIfInBounds_toArray, List.set_cons_zero, List.set_cons_succ]
            refine takeN (v := ?_) 2 rfl (by kernel_rfl) (by kernel_rfl) (by kernel_rfl) (fun _ _ _ h => h) (by rfl) ?_ hHeld0 ?_
            rotate_left
            · intro w hSw; (try dsimp only at hSw); go_simp; with_reducible rfl
            try simp only [Act.put, List.setIfInBounds_toArray, List.set_cons_zero, List.set_cons_succ]
            refine takeN (v := ?_) 3 rfl (by kernel_rfl) (by kernel_rfl) (by kernel_rfl) (fun _ _ _ h => h) (by rfl) ?_ hHeld0 ?_
            rotate_left
            · intro w hSw; (try dsimp only at hSw); go_simp; with_reducible rfl
            try simp only [Act.put, List.setIfInBounds_toArray, List.set_cons_zero, List.set_cons_succ]
            refine takeN (v := ?_) 4 rfl (by kernel_rfl) (by kernel_rfl) (by kernel_rfl) (fun _ _ _ h => h) (by rfl) ?_ hHeld0 ?_
            rotate_left
            · intro w hSw; (try dsimp only at hSw); go_simp; with_reducible rfl
            try simp only [Act.put, List.setIfInBounds_toArray, List.set_cons_zero, List.set_cons_succ]
            refine takeN (v := ?_) 5 rfl (by kernel_rfl) (by kernel_rfl) (by kernel_rfl) (fun _ _ _ h => h) (by rfl) ?_ hHeld0 ?_
            rotate_left
            · intro w hSw; (try dsimp only at hSw); go_simp; with_reducible rfl
            try simp only [Act.put, List.setIfInBounds_toArray, List.set_cons_zero, List.set_cons_succ]
            refine takeN (v := ?_) 6 rfl (by kernel_rfl) (by kernel_rfl) (by kernel_rfl) (fun _ _ _ h => h) (by rfl) ?_ hHeld0 ?_
            rotate_left
            · intro w hSw; (try dsimp only at hSw); go_simp; with_reducible rfl
            try simp only [Act.put, List.setIfInBounds_toArray, List.set_cons_zero, List.set_cons_succ]
            refine takeN (v := ?_) 7 rfl (by kernel_rfl) (by kernel_rfl) (by kernel_rfl) (fun _ _ _ h => h) (by rfl) ?_ hHeld0 ?_
            rotate_left
            · intro w hSw; (try dsimp only at hSw); go_simp; with_reducible rfl
            try simp only [Act.put, List.setIfInBounds_toArray, List.set_cons_zero, List.set_cons_succ]
            refine takeN (v := ?_) 8 rfl (by kernel_rfl) (by kernel_rfl) (by kernel_rfl) (fun _ _ _ h => h) (by rfl) ?_ hHeld0 ?_
            rotate_left
            · intro w hSw; (try dsimp only at hSw); go_simp; with_reducible rfl
            try simp only [Act.put, List.setIfInBounds_toArray, List.set_cons_zero, List.set_cons_succ]
            refine takeN (v := ?_) 9 rfl (by kernel_rfl) (by kernel_rfl) (by kernel_rfl) (fun _ _ _ h => h) (by rfl) ?_ hHeld0 ?_
            rotate_left
            · intro w hSw; (try dsimp only at hSw); go_simp; with_reducible rfl
            try simp only [Act.put, List.setIfInBounds_toArray, List.set_cons_zero, List.set_cons_succ]
            refine takeN (v := ?_) 10 rfl (by kernel_rfl) (by kernel_rfl) (by kernel_rfl) (fun _ _ _ h => h) (by rfl) ?_ hHeld0 ?_
            rotate_left
            · intro w hSw; (try dsimp only at hSw); go_simp; with_reducible rfl
            try simp only [Act.put, List.setIfInBounds_toArray, List.set_cons_zero, List.set_cons_succ]
            refine takeN (v := ?_) 11 rfl (by kernel_rfl) (by kernel_rfl) (by kernel_rfl) (fun _ _ _ h => h) (by rfl) ?_ hHeld0 ?_
            rotate_left
            · intro w hSw; (try dsimp only at hSw); go_simp; with_reducible rfl
            try simp only [Act.put, List.setIfInBounds_toArray, List.set_cons_zero, List.set_cons_succ]
            refine takeN (v := ?_) 13 rfl (by kernel_rfl) (by kernel_rfl) (by kernel_rfl) (fun _ _ _ h => h) (by rfl) ?_ hHeld0 ?_
            rotate_left
            · intro w hSw; (try dsimp only at hSw); go_simp; with_reducible rfl
            try simp only [Act.put, List.setIfInBounds_toArray, List.set_cons_zero, List.set_cons_succ]
            refine takeN (v := ?_) 14 rfl (by kernel_rfl) (by kernel_rfl) (by kernel_rfl) (fun _ _ _ h => h) (by rfl) ?_ hHeld0 ?_
            rotate_left
            · intro w hSw; (try dsimp only at hSw); go_simp; with_reducible rfl
            try simp only [Act.put, List.setIfInBounds_toArray, List.set_cons_zero, List.set_cons_succ]
            refine wpAnyH_ready (rs := [12]) (by kernel_rfl) (by simp) ?_
            refine readyN rfl (fun K hK => ?_) ?_
            · -- operation 12
              go_simp
              refine hK.out _ _ ?_ (fun hHeld1 => ?_)
              · (try dsimp only)
                first | exact ⟨hc1, hlkd⟩ | exact ⟨HC14.out, HLK4.out⟩
              clear hK K hHeld0
              try simp only [Act.put, List.setIfInBounds_toArray, List.set_cons_zero, List.set_cons_succ]
              refine takeN (v := ?_) 15 rfl (by kernel_rfl) (by kernel_rfl) (by kernel_rfl) (fun _ _ _ h => h) (by rfl) ?_ hHeld1 ?_
              rotate_left
              · intro w hSw; (try dsimp only at hSw); go_simp; with_reducible rfl
              try simp only [Act.put, List.setIfInBounds_toArray, List.set_cons_zero, List.set_cons_succ]
              refine wpAnyH_ready (rs := [16]) (by kernel_rfl) (by simp) ?_
              refine readyN rfl (fun K hK => ?_) ?_
              · -- operation 16
                go_simp
                refine hK.out _ _ ?_ (fun hHeld2 => ?_)
                · (try dsimp only)
                  first | exact ⟨hc1, hlkd⟩ | exact ⟨HC14.out, HLK4.out⟩
                clear hK K hHeld1
                try simp only [Act.put, List.setIfInBounds_toArray, List.set_cons_zero, List.set_cons_succ]
                refine wpAnyH_done (by kernel_rfl) ?_ _
                go_wp2_with fail
                refine ⟨⟨j + 1, by omega, rfl, ?_, ?_⟩, ?_⟩
                · have := HO4.out
                  rw [HMS.out, Nat.mul_comm j 512] at this
                  refine Lib.hid ?_
                  rw [mix_yes _ _ _ _ (show bitv (f k) j = true from HBT.out)]
                  exact this
                · exact Lib.hid (HBJ.out.trans (((Keep.refl _ _).drew).trans HK4.out (fun i hi => .inl hi) |>.below (B := wo.heap.size) HBJ.out.size (fun i hi => by cases hi; exact hgb)))
                · simp [intOf]; omega
              exact AllReadyH.nil
            exact AllReadyH.nil
          | false =>
            go_wp2_with fail
            refine ⟨⟨j + 1, by omega, rfl, ?_, HBJ⟩, ?_⟩
            · refine Lib.hid ?_
              rw [mix_no _ _ _ _ (show bitv (f k) j = false from HBT.out)]
              exact HOJ.out
            · simp [intOf]
              try omega
        · obtain rfl : j = 8 := by omega
          have HDI := Lib.hid (HDR.out.below HBJ.out)
          have hc0 := HDI.out.c0
          simp only [hll] at hc0
          have hblk := (Keep.ofBelow HBJ.out (fun _ => False)).blk HL1.out (fun h => h)
          have hfz := blk_frozen hblk at_
          have hcz := blk_cell hblk at_
          have hlsz : at_ < ls.size := by rw [HL2.out]; show at_ < (setl f S.W S.L k).length; omega
          rw [Array.getElem?_eq_getElem hlsz] at hcz
          generalize ls[at_] = lv at hcz
          go_wp2_with fail
          have hst := setl_step f S.W S.L k at_ qs o HQ.out HO.out
          obtain ⟨hl1, hl2⟩ := HDI.out.last at_ (by simp only [hll]; omega) (.slice (some ⟨gb, 0, none⟩) 4096 capb) (mix (f k) (pgOf o) qs 8) (HOJ.out.lower HDR.out.low) (mix_size _ _ _ HPS.out HU3.out 8 (Nat.le_refl _))
          refine ⟨⟨k + 1, by omega, rfl, Lib.hid ?_, Lib.hid ?_⟩, ?_⟩
          · rw [hst]; exact hl1
          · exact (HKR.out.trans (Keep.ofBelow HBJ.out (fun _ => False)) (fun _ h => h.elim)).trans hl2 (fun i hi => .inl hi)
          · simp [intOf]
            try omega
    · obtain rfl : k = S.W.length := by omega
      have hc1 := HDR.out.c1
      obtain ⟨vs, hm1, hm2, hm3⟩ := HDR.out.waits
      obtain ⟨w5, hcr, hm5, hk5⟩ := hm1.clear 0
      have hfz := blk_frozen (hk5.blk HDR.out.blk HDR.out.apart.2.1) 2
      have hcz := blk_cell (hk5.blk HDR.out.blk HDR.out.apart.2.1) 2
      simp [dCells] at hcz
      have HM5 := Lib.hid hm5
      have HK5 := Lib.hid hk5
      clear hm1 hm2 hm3 hm5 hk5
      go_wp2_with fail
      go_end0
      obtain ⟨hg1, hg2⟩ := HDR.out.gone w5 HM5.out HK5.out
      refine ⟨rfl, hg1, (HKR.out.mono (fun i hi => .inr (.inl hi))).trans hg2 (fun i hi => .inl ?_)⟩
      rcases hi with hi | hi
      · exact .inl hi
      · exact .inr (.inr (.inl hi))
end Go.Proofs.Ytlmngghkhnnaeaa
