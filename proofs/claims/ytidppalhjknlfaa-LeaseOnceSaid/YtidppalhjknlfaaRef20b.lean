/- The document's leases: the walks of its Add and Drop. -/
import Derived.Test.YtidppalhjknlfaaRef20
namespace Go.Proofs.Ytidppalhjknlfaa
open Go.RowKit
set_option maxRecDepth 100000
set_option maxHeartbeats 2000000
set_option linter.unusedVariables false
set_option linter.unusedSimpArgs false
theorem radd_any (q : Nat) (v : Value) (L : List Ls) (last : Int) (l : Ls) (hlo : l.Ok) (m : Int) (hm0 : -1125899906842624 ≤ m) (hm1 : m ≤ 1125899906842624) (w : World) (hR : RL w q v L last) (hl : L.length ≤ 1000000) (h0 : 0 ≤ last) (hi : last + 1 ≤ 4294967295) :
    Calls Try.prog 10 #[.pointer (some ⟨q, 0, none⟩), l.val, .int .i64 m] w fun e w' => e = .returned (.tuple #[.int .u32 (addI L last l m), .int .i64 (addE L l m)]) ∧ (∃ v', RL w' q v' (addL L last l m) (addN L last l m)) ∧ Keep (fun k => k = q) w w' := by
  obtain ⟨va, vc, rfl, v1, v2, v3⟩ := hR.lr.shape
  obtain ⟨id, un, ex, dy, mo⟩ := l
  have hba : Below w.heap.size w (w.alloc (.cells #[.int .u32 id, .int .i64 un, .int .i64 ex, .int .i64 dy, .int .i64 mo] 31)) := (Below.refl _ _).alloc (Nat.le_refl _) _
  have q1 := blk_new w (.cells #[.int .u32 id, .int .i64 un, .int .i64 ex, .int .i64 dy, .int .i64 mo] 31)
  have HR := Lib.hid (hR.below hba)
  have HB := Lib.hid hba
  have Q1 := Lib.hid q1
  have HLO := Lib.hid hlo
  have hq : q < w.heap.size := blk_lt hR.blk
  have hu := hlo.units
  have hex := hlo.exp
  unfold W64 at hu hex
  dsimp only at hu hex
  obtain ⟨E, hE⟩ : ∃ E, E = addE L ⟨id, un, ex, dy, mo⟩ m := ⟨_, rfl⟩
  obtain ⟨I, hI⟩ : ∃ I, I = addI L last ⟨id, un, ex, dy, mo⟩ m := ⟨_, rfl⟩
  obtain ⟨M, hM⟩ : ∃ M, M = addL L last ⟨id, un, ex, dy, mo⟩ m := ⟨_, rfl⟩
  obtain ⟨N, hN⟩ : ∃ N, N = addN L last ⟨id, un, ex, dy, mo⟩ m := ⟨_, rfl⟩
  rw [← hE, ← hI, ← hM, ← hN]
  have c0 := (blk_cell q1 0)
  have c1 := (blk_cell q1 1)
  have c2 := (blk_cell q1 2)
  have c3 := (blk_cell q1 3)
  have c4 := (blk_cell q1 4)
  have x1 : wrap64 (m + 1) = m + 1 := by unfold wrap64; omega
  have x2 : wrap64 (m + 86400) = m + 86400 := by unfold wrap64; omega
  unfold Ls.val
  by_cases hmay : mayAdd ⟨id, un, ex, dy, mo⟩ m
  · obtain ⟨m1, m2, m3, m4, m5⟩ := hmay
    dsimp only at m1 m2 m3 m4 m5
    have k1 : ¬ un < 1 := by omega
    have k2 : ¬ un > 1099511627776 := by omega
    have k3 : ¬ ex < m + 1 := by omega
    have k4 : ¬ ex > 137438953472 := by omega
    have k5 : ¬ ex > m + 86400 := by
      have : wrap64 (ex - 86400) = ex - 86400 := by unfold wrap64; omega
      omega
    have HV := Lib.hid (rlive_any q _ L last m _ HR.out hl)
    have HMAY := Lib.hid (show mayAdd ⟨id, un, ex, dy, mo⟩ m from ⟨m1, m2, m3, m4, m5⟩)
    have HE := Lib.hid hE
    have HI := Lib.hid hI
    have HM := Lib.hid hM
    have HN := Lib.hid hN
    have HLL := Lib.hid (show (live m L).length ≤ 1000000 from Nat.le_trans (List.length_filter_le _ _) hl)
    clear hE hI hM hN hR hlo hba q1 m1 m2 m3 m4 m5
    go_enter Try.func10, Try.ntmps10
    go_wp2_with fail
    refine HV.out.mono ?_
    rintro e w2 ⟨u, rfl, hr, hb⟩
    have HR2 := Lib.hid (HR.out.below hb)
    have hs2 : w.heap.size + 1 ≤ w2.heap.size := by have := hb.size; simpa using this
    have HK2 := Lib.hid ((Keep.ofBelow HB.out (fun k => k = q)).trans (Keep.ofBelow hb (fun k => k = q)) (fun i hi => .inl hi))
    have Q2 := Lib.hid ((Keep.ofBelow hb (fun _ => False)).blk Q1.out (fun h => h))
    obtain ⟨ua, uc, rfl⟩ : ∃ a c, u = .slice a (live m L).length c := by
      rcases hr.2 with ⟨rfl, h0⟩ | ⟨g, cap, cur, rfl, _⟩
      · exact ⟨none, 0, by rw [h0]⟩
      · exact ⟨_, _, rfl⟩
    have HO2 := Lib.hid (show w2.ownsRow (w.heap.size + 1) 31 5 (.slice ua (live m L).length uc) (live m L).length (cells5 (live m L)) by simpa using hr)
    have HLL := HLL.out
    clear hr hb HV c0 c1 c2 c3 c4 k1 k2 k3 k4 k5 v1 v2 v3 HR HB Q1
    obtain ⟨n, hn⟩ : ∃ n, n = (live m L).length := ⟨_, rfl⟩
    rw [← hn] at HLL HO2 ⊢
    by_cases h8 : 8 ≤ n
    · have hE2 : E = 3 := by rw [HE.out]; unfold addE; rw [if_neg (fun h => h HMAY.out), if_pos (by omega)]
      have hI2 : I = 0 := by rw [HI.out]; unfold addI; rw [← HE.out, hE2]; rfl
      have hM2 : M = L := by rw [HM.out]; unfold addL; rw [← HE.out, hE2]; rfl
      have hN2 : N = last := by rw [HN.out]; unfold addN; rw [← HE.out, hE2]; rfl
      subst hE2
      subst hI2
      subst hM2
      subst hN2
      have i8 : (8 : Int) ≤ (n : Int) := by omega
      clear hn
      go_wp2_with fail
      go_ret2
      exact ⟨rfl, ⟨_, HR2.out⟩, HK2.out⟩
    · have hE2 : E = 0 := by rw [HE.out]; unfold addE; rw [if_neg (fun h => h HMAY.out), if_neg (by omega)]
      have hI2 : I = last + 1 := by rw [HI.out]; unfold addI; rw [← HE.out, hE2]; rfl
      have hM2 : M = live m L ++ [⟨last + 1, un, ex, dy, mo⟩] := by rw [HM.out]; unfold addL; rw [← HE.out, hE2]; rfl
      have hN2 : N = last + 1 := by rw [HN.out]; unfold addN; rw [← HE.out, hE2]; rfl
      subst hE2
      subst hI2
      subst hN2
      have HM2 := Lib.hid hM2
      have HNN := Lib.hid hn
      have i8 : ¬ (8 : Int) ≤ (n : Int) := by omega
      have lw2 : IntKind.u32.wrap (last + 1) = last + 1 := by rw [IntKind.wrap_u32]; omega
      have d1 := blk_cell HR2.out.blk 1
      have g1 := blk_frozen HR2.out.blk 1
      clear hM2 HE HI HM HN hn h8
      go_upto_region 7 with fail
      obtain ⟨W3, hW3⟩ : ∃ W3, W3 = w2.setCell ⟨q, 1, none⟩ (.int .u32 (last + 1)) := ⟨_, rfl⟩
      rw [← hW3]
      have k3 : Keep (fun i => i = q) w2 W3 := by rw [hW3]; exact (Keep.refl (fun i => i = q) w2).setCell (p := ⟨q, 1, none⟩) (.inl rfl) _
      have b3q : W3.heap[q]? = some (.cells #[.slice va L.length vc, .int .u32 (last + 1)] 29 (0, 0)) := by rw [hW3]; exact blk_setCell HR2.out.blk 1 _
      have b3h := k3.blk Q2.out (fun e => by omega)
      have d3 := blk_cell b3q 1
      have e3 := blk_cell b3h 0
      have f3 := blk_frozen b3h 0
      have K3 := Lib.hid k3
      have B3q := Lib.hid b3q
      have B3h := Lib.hid b3h
      clear hW3 k3 b3q b3h d1 g1
      go_upto_region 8 with fail
      obtain ⟨W4, hW4⟩ : ∃ W4, W4 = W3.setCell ⟨w.heap.size, 0, none⟩ (.int .u32 (last + 1)) := ⟨_, rfl⟩
      rw [← hW4]
      have k4 : Keep (fun i => i = w.heap.size) W3 W4 := by rw [hW4]; exact (Keep.refl (fun i => i = w.heap.size) W3).setCell (p := ⟨w.heap.size, 0, none⟩) (.inl rfl) _
      have b4h : W4.heap[w.heap.size]? = some (.cells #[.int .u32 (last + 1), .int .i64 un, .int .i64 ex, .int .i64 dy, .int .i64 mo] 31 (0, 0)) := by rw [hW4]; exact blk_setCell B3h.out 0 _
      have b4q := k4.blk B3q.out (fun e => by omega)
      have hlow : ∀ k, (Value.slice ua n uc).ownBlock = some k → w.heap.size + 1 ≤ k := fun k hk => by
        rcases HO2.out.2 with ⟨he, _⟩ | ⟨g', c', cu, he, hb', _⟩
        · rw [he] at hk; cases hk
        · rw [he] at hk; cases hk; exact hb'
      have o4 := row_keepL k4 (row_keepL K3.out HO2.out (fun k hk e => by have := hlow k hk; omega)) (fun k hk e => by have := hlow k hk; omega)
      have hs4 : w2.heap.size ≤ W4.heap.size := Nat.le_trans K3.out.size k4.size
      have y0 := blk_cell b4h 0
      have y1 := blk_cell b4h 1
      have y2 := blk_cell b4h 2
      have y3 := blk_cell b4h 3
      have y4 := blk_cell b4h 4
      have K4 := Lib.hid k4
      have B4q := Lib.hid b4q
      have B4h := Lib.hid b4h
      have O4 := Lib.hid (row_below o4 ((Below.refl W4.heap.size W4).alloc (Nat.le_refl _) (.cells #[.int .u32 (last + 1), .int .i64 un, .int .i64 ex, .int .i64 dy, .int .i64 mo] 31)))
      rw [HNN.out] at O4
      have HLOW := Lib.hid hlow
      have hn2 : (live m L).length ≤ 1000000 := by rw [← HNN.out]; exact HLL
      have hk45 : Keep (fun _ => False) W4 (W4.alloc (.cells #[.int .u32 (last + 1), .int .i64 un, .int .i64 ex, .int .i64 dy, .int .i64 mo] 31)) := (Keep.refl _ _).alloc _
      have HK45 := Lib.hid hk45
      rw [HNN.out]
      rw [HNN.out] at HLOW
      clear hW4 k4 b4q b4h o4 hlow d3 e3 f3 hk45
      go_upto_region 9 with (at_builtin; go_must (
        refine wp_app_l (w.heap.size + 1) rfl _ _ rfl _ _ (live m L) [⟨last + 1, un, ex, dy, mo⟩] rfl rfl O4.out (LR.one W4 ⟨last + 1, un, ex, dy, mo⟩) (by simp; omega) hn2 (by simp) ?_
        rw [List.length_append, List.length_singleton]
        intro v5 w5 ho hk hat
        obtain ⟨a5, c5', rfl⟩ : ∃ a c, v5 = .slice a ((live m L).length + 1) c := by
          rcases ho.2 with ⟨_, h0⟩ | ⟨g, cap, cur, rfl, _⟩
          · omega
          · exact ⟨_, _, rfl⟩
        have b5q := hk.blk (HK45.out.blk B4q.out (fun h => h)) (fun e => by have := HLOW.out _ e; omega)
        have b5h := hk.blk (HK45.out.blk B4h.out (fun h => h)) (fun e => by have := HLOW.out _ e; omega)
        have z5 := blk_cell b5q 0
        have f5 := blk_frozen b5q 0
        have HO5 := Lib.hid ho
        have HK5 := Lib.hid hk
        have HAT5 := Lib.hid hat
        have B5q := Lib.hid b5q
        have B5h := Lib.hid b5h
        clear ho hk hat b5q b5h))
      have B6h := blk_cell ((Keep.setCell (F := fun i => i = q) (Keep.refl _ w5) (p := ⟨q, 0, none⟩) (.inl rfl) (.slice a5 ((live m L).length + 1) c5')).blk B5h.out (fun e => by omega)) 0
      go_wp2_with fail
      go_ret2
      have h5 : ∀ k, (Value.slice a5 ((live m L).length + 1) c5').ownBlock = some k → k ≠ q := fun k hk e => by
        have := hs2; have := hs4
        rcases HAT5.out k hk with h | h
        · have := HLOW.out _ h; omega
        · simp at h; omega
      have k6 : Keep (fun i => i = q) w5 (w5.setCell ⟨q, 0, none⟩ (.slice a5 ((live m L).length + 1) c5')) := Keep.setCell (F := fun i => i = q) (Keep.refl _ w5) (p := ⟨q, 0, none⟩) (.inl rfl) _
      refine ⟨rfl, ⟨.slice a5 ((live m L).length + 1) c5', blk_setCell B5q.out 0 _, ?_⟩, ?_⟩
      · rw [HM2.out]
        refine LR.of_row (base := w.heap.size + 1) ?_
        rw [List.length_append, List.length_singleton]
        exact row_keepL k6 HO5.out (fun k hk e => h5 k hk e)
      · have t1 := HK2.out.trans K3.out (fun i hi => .inl hi)
        have t2 := t1.trans K4.out (fun i hi => .inr (by omega))
        have t3 := t2.trans HK45.out (fun i hi => hi.elim)
        have t4 := t3.trans HK5.out (fun i hi => .inr (by have := HLOW.out _ hi; omega))
        exact t4.trans k6 (fun i hi => .inl hi)
  · have e1 : E = 1 := by rw [hE]; unfold addE; rw [if_pos hmay]
    have e2 : I = 0 := by rw [hI]; unfold addI; rw [← hE, e1]; rfl
    have e3 : M = L := by rw [hM]; unfold addL; rw [← hE, e1]; rfl
    have e4 : N = last := by rw [hN]; unfold addN; rw [← hE, e1]; rfl
    have hmm : un < 1 ∨ (¬ un < 1 ∧ un > 1099511627776) ∨ (¬ un < 1 ∧ ¬ un > 1099511627776 ∧ ex < m + 1) ∨ (¬ un < 1 ∧ ¬ un > 1099511627776 ∧ ¬ ex < m + 1 ∧ ex > m + 86400) ∨ (¬ un < 1 ∧ ¬ un > 1099511627776 ∧ ¬ ex < m + 1 ∧ ¬ ex > m + 86400 ∧ ex > 137438953472) := by
      by_cases k1 : un < 1
      · exact .inl k1
      · by_cases k2 : un > 1099511627776
        · exact .inr (.inl ⟨k1, k2⟩)
        · by_cases k3 : ex < m + 1
          · exact .inr (.inr (.inl ⟨k1, k2, k3⟩))
          · by_cases k4 : ex > m + 86400
            · exact .inr (.inr (.inr (.inl ⟨k1, k2, k3, k4⟩)))
            · refine .inr (.inr (.inr (.inr ⟨k1, k2, k3, k4, ?_⟩)))
              by_cases k5 : ex > 137438953472
              · exact k5
              · exact absurd ⟨by show 1 ≤ un; omega, by show un ≤ _; omega, by show m < ex; omega, by show ex ≤ _; omega, by show wrap64 (ex - 86400) ≤ m; unfold wrap64; omega⟩ hmay
    subst e1
    subst e2
    subst e3
    subst e4
    clear hmay hE hI hM hN hR hlo hba q1
    rcases hmm with k1 | ⟨k1, k2⟩ | ⟨k1, k2, k3⟩ | ⟨k1, k2, k3, k4⟩ | ⟨k1, k2, k3, k4, k5⟩
    all_goals
      go_enter Try.func10, Try.ntmps10
      go_wp2_with fail
      go_ret2
      exact ⟨rfl, ⟨_, HR.out⟩, Keep.ofBelow HB.out _⟩
theorem drop_at {L : List Ls} (hu : L.Pairwise fun a b => a.id < b.id) {j : Nat} {x : Ls} (hx : L[j]? = some x) : dropL L x.id = L.take j ++ L.drop (j + 1) ∧ dropE L x.id = 0 := by
  have hj := (List.getElem?_eq_some_iff.1 hx).1
  have hxe : L[j] = x := (List.getElem?_eq_some_iff.1 hx).2
  have hd : L = L.take j ++ x :: L.drop (j + 1) := by
    have := (List.take_append_drop j L).symm
    rw [List.drop_eq_getElem_cons hj, hxe] at this
    exact this
  refine ⟨?_, ?_⟩
  · unfold dropL
    rw [List.pairwise_iff_getElem] at hu
    conv => lhs; rw [hd]
    rw [List.filter_append, List.filter_cons]
    simp only [ne_eq, not_true_eq_false, decide_false, Bool.false_eq_true, if_false]
    congr 1
    · refine List.filter_eq_self.2 fun y hy => ?_
      obtain ⟨i, hi, he⟩ := List.mem_iff_getElem.1 hy
      rw [List.length_take] at hi
      rw [List.getElem_take] at he
      have := hu i j (by omega) hj (by omega)
      rw [hxe, he] at this
      exact decide_eq_true (by omega)
    · refine List.filter_eq_self.2 fun y hy => ?_
      obtain ⟨i, hi, he⟩ := List.mem_iff_getElem.1 hy
      rw [List.length_drop] at hi
      rw [List.getElem_drop] at he
      have := hu j (j + 1 + i) hj (by omega) (by omega)
      rw [hxe, he] at this
      exact decide_eq_true (by omega)
  · unfold dropE
    rw [if_pos (List.any_eq_true.2 ⟨x, List.mem_of_getElem? hx, decide_eq_true rfl⟩)]
theorem drop_none {L : List Ls} {i : Int} (h : ∀ (j : Nat) y, L[j]? = some y → ¬ y.id = i) : dropL L i = L ∧ dropE L i = 44 := by
  refine ⟨List.filter_eq_self.2 fun y hy => ?_, ?_⟩
  · obtain ⟨j, hj, he⟩ := List.mem_iff_getElem.1 hy
    exact decide_eq_true (h j y (by rw [List.getElem?_eq_getElem hj, he]))
  · unfold dropE
    rw [if_neg]
    intro ha
    obtain ⟨y, hy, he⟩ := List.any_eq_true.1 ha
    obtain ⟨j, hj, he'⟩ := List.mem_iff_getElem.1 hy
    exact h j y (by rw [List.getElem?_eq_getElem hj, he']) (of_decide_eq_true he)
theorem rdrop_any (q : Nat) (v : Value) (L : List Ls) (last i : Int) (hu : L.Pairwise fun a b => a.id < b.id) (w : World) (hR : RL w q v L last) (hl : L.length ≤ 1000000) :
    Calls Try.prog 14 #[.pointer (some ⟨q, 0, none⟩), .int .u32 i] w fun e w' => e = .returned (.int .i64 (dropE L i)) ∧ (∃ v', RL w' q v' (dropL L i) last) ∧ Keep (fun k => k = q) w w' := by
  obtain ⟨va, vc, rfl, v1, v2, v3⟩ := hR.lr.shape
  have HRR := Lib.hid hR
  have HU := Lib.hid hu
  obtain ⟨E, hE⟩ : ∃ E, E = dropE L i := ⟨_, rfl⟩
  obtain ⟨M, hM⟩ : ∃ M, M = dropL L i := ⟨_, rfl⟩
  rw [← hE, ← hM]
  have HE := Lib.hid hE
  have HM := Lib.hid hM
  have hc0 := blk_cell hR.blk 0
  have hf0 := blk_frozen hR.blk 0
  clear hR v3 hE hM
  go_enter Try.func14, Try.ntmps14
  go_wp2_with fail
  go_loopw [5] (fun s wr => ∃ j : Nat, j ≤ L.length ∧ s = .int .i64 j ∧ Hid (∀ (i' : Nat) y, i' < j → L[i']? = some y → ¬ y.id = i) ∧ Hid (wr = w)) (fun s _ => L.length - (intOf s).toNat)
  case atStart => exact ⟨0, by omega, rfl, Lib.hid (by simp), Lib.hid rfl⟩
  case round =>
    obtain ⟨j, hj, rfl, HN, HW⟩ := hrel
    obtain rfl := HW.out.symm
    by_cases hlt : j < L.length
    · obtain ⟨x, hx⟩ : ∃ x, L[j]? = some x := ⟨_, List.getElem?_eq_getElem hlt⟩
      obtain ⟨g, off, cap', he, c0, c1, c2, c3, c4⟩ := HRR.out.lr.at_ hx
      injection he with he _ hcap
      subst he; subst hcap
      have HX := Lib.hid hx
      clear hx
      by_cases hi : x.id = i
      · subst hi
        obtain ⟨dl, de⟩ := drop_at HU.out HX.out
        have hE2 := HE.out
        rw [de] at hE2
        subst hE2
        have hM2 := HM.out
        rw [dl] at hM2
        have HM2 := Lib.hid hM2
        have L1 := Lib.hid (HRR.out.lr.take j (by omega))
        have L2 := Lib.hid (show LR w (.slice (if vc = j + 1 then some ⟨g, off, none⟩ else some ⟨g, off + (j + 1) * 5, none⟩) (L.length - (j + 1)) (vc - (j + 1))) (L.drop (j + 1)) by
          by_cases hv : vc = j + 1
          · rw [if_pos hv]
            exact ⟨_, _, by rw [List.length_drop], by rw [List.length_drop]; omega, by omega, (fun e => by cases e), .inl (List.drop_eq_nil_of_le (by omega))⟩
          · rw [if_neg hv]; exact HRR.out.lr.drop (j + 1) (by omega))
        have i3 : wrap64 ((j : Int) + 1) = ((j + 1 : Nat) : Int) := by unfold wrap64; omega
        clear HE HM HX HN HW dl de hM2
        have hlt2 : (L.take j).length = j := by rw [List.length_take]; omega
        go_upto_region 7 with (at_builtin; go_must (
          refine wp_app_l w.heap.size rfl _ _ rfl _ _ [] (L.take j) rfl rfl (World.ownsRow_nil _ _ _ _) L1.out (Nat.le_refl _) (by simp) (by rw [List.length_take]; omega) ?_
          rw [List.nil_append, hlt2]
          intro v5 w5 ho hk hat
          obtain ⟨a5, c5', rfl⟩ : ∃ a c, v5 = .slice a j c := by
            rcases ho.2 with ⟨he, h0⟩ | ⟨g, cap, cur, he, _⟩
            · exact ⟨none, 0, by rw [he, h0]⟩
            · exact ⟨_, _, he⟩
          have hb5 := hk.below (B := w.heap.size) (Nat.le_refl _) (fun k hk => by cases hk)
          have HO5 := Lib.hid ho
          have HB5 := Lib.hid hb5
          have R5 := Lib.hid (HRR.out.below hb5)
          have L5 := Lib.hid (L2.out.below hb5)
          have hq5 := blk_cell R5.out.blk 0
          have fq5 := blk_frozen R5.out.blk 0
          clear ho hk hat hb5))
        go_upto_region 8 with (at_builtin; go_must (
          refine wp_app_l w.heap.size rfl _ _ rfl _ _ (L.take j) (L.drop (j + 1)) rfl rfl (by rw [hlt2]; exact HO5.out) L5.out HB5.out.size (by omega) (by rw [List.length_drop]; omega) ?_
          have hll : (L.take j ++ L.drop (j + 1)).length = L.length - 1 := by rw [List.length_append, List.length_take, List.length_drop]; omega
          rw [hll]
          intro v6 w6 ho hk hat
          obtain ⟨a6, c6', rfl⟩ : ∃ a c, v6 = .slice a (L.length - 1) c := by
            rcases ho.2 with ⟨he, h0⟩ | ⟨g, cap, cur, he, _⟩
            · exact ⟨none, 0, by rw [he, h0]⟩
            · exact ⟨_, _, he⟩
          have hlow : ∀ k, (Value.slice a5 j c5').ownBlock = some k → w.heap.size ≤ k := fun k hk => by
            rcases HO5.out.2 with ⟨he, _⟩ | ⟨g', c', cu, he, hb', _⟩
            · rw [he] at hk; cases hk
            · rw [he] at hk; cases hk; exact hb'
          have hb6 := HB5.out.trans (hk.below (B := w.heap.size) HB5.out.size (fun k hk => hlow k hk))
          have hlo6 : ∀ k, (Value.slice a6 (L.length - 1) c6').ownBlock = some k → w.heap.size ≤ k := fun k hk => by
            rcases hat k hk with h | h
            · exact hlow k h
            · have := HB5.out.size; omega
          have HO6 := Lib.hid ho
          have HB6 := Lib.hid hb6
          have HLO6 := Lib.hid hlo6
          have R6 := Lib.hid (HRR.out.below hb6)
          have hq6 := blk_cell R6.out.blk 0
          have fq6 := blk_frozen R6.out.blk 0
          clear ho hk hat hb6 hlow hlo6 hq5 fq5))
        go_wp2_with fail
        all_goals
          go_ret
          have hqs := blk_lt HRR.out.blk
          have k6 : Keep (fun i => i = q) w6 (w6.setCell ⟨q, 0, none⟩ (.slice a6 (L.length - 1) c6')) := Keep.setCell (F := fun i => i = q) (Keep.refl _ w6) (p := ⟨q, 0, none⟩) (.inl rfl) _
          refine ⟨rfl, ⟨_, blk_setCell R6.out.blk 0 _, ?_⟩, (Keep.ofBelow HB6.out (fun k => k = q)).trans k6 (fun i hi => .inl hi)⟩
          rw [HM2.out]
          refine LR.of_row (base := w.heap.size) ?_
          rw [List.length_append, List.length_take, List.length_drop, show min j L.length + (L.length - (j + 1)) = L.length - 1 by omega]
          exact row_keepL k6 HO6.out (fun k hk e => by have := HLO6.out k hk; omega)
      · have HF := Lib.hid hi
        have i1 : (x.id == i) = false := beq_eq_false_iff_ne.2 hi
        clear hi HW
        go_wp2_with fail
        refine ⟨⟨j + 1, by omega, by go_num, Lib.hid (fun j' y a b => ?_), Lib.hid (by trivial)⟩, by simp [intOf]; omega⟩
        by_cases hji : j' = j
        · subst hji; rw [HX.out] at b; cases b; exact HF.out
        · exact HN.out j' y (by omega) b
    · obtain rfl : j = L.length := by omega
      obtain ⟨dl, de⟩ := drop_none (fun j' y hy => HN.out j' y (List.getElem?_eq_some_iff.1 hy).1 hy)
      have hE2 := HE.out
      rw [de] at hE2
      subst hE2
      have hM2 := HM.out
      rw [dl] at hM2
      subst hM2
      clear HE HM HN HW dl de
      go_wp2_with fail
      go_ret
      exact ⟨rfl, ⟨_, HRR.out⟩, Keep.refl _ _⟩
end Go.Proofs.Ytidppalhjknlfaa
