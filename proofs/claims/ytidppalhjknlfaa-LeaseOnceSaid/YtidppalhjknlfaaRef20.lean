/- The document's leases (chapter 20): the walks of its Live, Get, Held. -/
import Derived.Test.YtidppalhjknlfaaLes2
import Derived.Maps.AppendAt
namespace Go.Proofs.Ytidppalhjknlfaa
open Go.RowKit
set_option maxRecDepth 100000
set_option maxHeartbeats 2000000
set_option linter.unusedVariables false
set_option linter.unusedSimpArgs false
theorem row_keepL {w w' : World} {F : Nat → Prop} {B : Nat} {e : TypeId} {n k : Nat} {v : Value} {xs : List Value} (hk : Keep F w w') (h : w.ownsRow B e n v k xs) (hA : ∀ k, v.ownBlock = some k → ¬ F k) : w'.ownsRow B e n v k xs := by
  refine ⟨h.1, ?_⟩
  rcases h.2 with hn | ⟨g, cap, cur, he, hb, hg, rest⟩
  · exact .inl hn
  · exact .inr ⟨g, cap, cur, he, hb, hk.blk hg (hA g (by rw [he]; rfl)), rest⟩
theorem LR.keep2 {F : Nat → Prop} {w w' : World} {v : Value} {L : List Ls} (h : LR w v L) (hk : Keep F w w') (hF : ∀ b o x y, w.cell? ⟨b, o, none⟩ = some (.int .u32 x) → w.cell? ⟨b, o + 1, none⟩ = some (.int .i64 y) → ¬ F b) : LR w' v L := by
  obtain ⟨a, cap, rfl, h1, h2, h3, h4⟩ := h
  refine ⟨a, cap, rfl, h1, h2, h3, ?_⟩
  rcases h4 with h4 | ⟨g, off, rfl, h4⟩
  · exact .inl h4
  · exact .inr ⟨g, off, rfl, fun i l hl k x hx => hk.cell (h4 i l hl k x hx) (hF g (off + (i * 5 + 0)) l.id l.units (h4 i l hl 0 _ rfl) (h4 i l hl 1 _ rfl))⟩
theorem LR.one (W : World) (l : Ls) : LR (W.alloc (.cells #[.int .u32 l.id, .int .i64 l.units, .int .i64 l.exp, .int .i64 l.day, .int .i64 l.month] 31)) (.slice (some ⟨W.heap.size, 0, none⟩) 1 1) [l] := by
  refine ⟨_, 1, rfl, Nat.le_refl _, by decide, (fun e => by cases e), .inr ⟨_, 0, rfl, fun i x hi k u hu => ?_⟩⟩
  match i, hi with
  | 0, hi =>
    simp at hi; subst hi
    rw [blk_cell (blk_new W _)]
    have hk : k < 5 := by
      have := (List.getElem?_eq_some_iff.1 hu).1
      rwa [c5_len] at this
    rw [← hu]
    match k, hk with
    | 0, _ => rfl
    | 1, _ => rfl
    | 2, _ => rfl
    | 3, _ => rfl
    | 4, _ => rfl
  | i + 1, hi => simp at hi
theorem LR.take {w : World} {g off cap : Nat} {L : List Ls} (h : LR w (.slice (some ⟨g, off, none⟩) L.length cap) L) (i : Nat) (hi : i ≤ L.length) : LR w (.slice (some ⟨g, off, none⟩) i cap) (L.take i) := by
  obtain ⟨a, c, he, h1, h2, h3, h4⟩ := h
  injection he with he _ hc
  subst he; subst hc
  have hl : (L.take i).length = i := by rw [List.length_take]; omega
  refine ⟨_, cap, by rw [hl], by omega, h2, (fun e => by cases e), ?_⟩
  rcases h4 with h4 | ⟨g', off', he, h4⟩
  · subst h4; exact .inl (by simp)
  · cases he
    refine .inr ⟨g, off, rfl, fun j l hj k x hx => h4 j l ?_ k x hx⟩
    rw [List.getElem?_take] at hj
    split at hj
    · exact hj
    · cases hj
theorem LR.drop {w : World} {g off cap : Nat} {L : List Ls} (h : LR w (.slice (some ⟨g, off, none⟩) L.length cap) L) (i : Nat) (hi : i ≤ L.length) : LR w (.slice (some ⟨g, off + i * 5, none⟩) (L.length - i) (cap - i)) (L.drop i) := by
  obtain ⟨a, c, he, h1, h2, h3, h4⟩ := h
  injection he with he _ hc
  subst he; subst hc
  refine ⟨_, cap - i, by rw [List.length_drop], by rw [List.length_drop]; omega, by omega, (fun e => by cases e), ?_⟩
  rcases h4 with h4 | ⟨g', off', he, h4⟩
  · subst h4; exact .inl (by simp)
  · cases he
    refine .inr ⟨g, _, rfl, fun j l hj k x hx => ?_⟩
    rw [List.getElem?_drop] at hj
    have := h4 (i + j) l hj k x hx
    rw [← this]; congr 2
    rw [Nat.add_mul]; omega
theorem c5_one (L : List Ls) : ∀ u ∈ cells5 L, u.oneCell' = true := by
  intro u hu
  unfold cells5 at hu
  obtain ⟨l, _, h⟩ := List.mem_flatMap.1 hu
  simp only [c5, List.mem_cons, List.not_mem_nil, or_false] at h
  rcases h with rfl | rfl | rfl | rfl | rfl <;> rfl
theorem uLs : Try.prog.underlying 27 = some (.slice 31) := by kernel_rfl
theorem iLs : (Try.prog.info? 31).map (fun i => (i.zero, i.size, i.bytes)) = some (some (.agg #[.int .u32 0, .int .i64 0, .int .i64 0, .int .i64 0, .int .i64 0]), 5, 40) := by kernel_rfl
section
variable {ops : Array Oper} {rest : List Oper} {o : Oper} {a : Act} {Q : Exit → Act → World → Prop}
/-- l = append(l, m...) -/
theorem wp_app_l {W : World} (base : Nat) (hgd : o.guard = none) (sl x : Operand) (ho : o.op = .call { callee := .builtin .append, args := #[sl, x], argTypes := #[27, 27] })
    (v y : Value) (l m : List Ls) (hs : a.eval sl = v) (hx : a.eval x = y) (HO : W.ownsRow base 31 5 v l.length (cells5 l)) (HY : LR W y m) (hbase : base ≤ W.heap.size)
    (hl : l.length ≤ 1000000) (hm : m.length ≤ 1000000)
    (h : ∀ v' w', w'.ownsRow base 31 5 v' (l ++ m).length (cells5 (l ++ m)) → Keep (fun k => v.ownBlock = some k) W w' → (∀ k, v'.ownBlock = some k → v.ownBlock = some k ∨ W.heap.size ≤ k) → wpList Try.prog ops Q rest (a.put o.dst v') w') :
    wpList Try.prog ops Q (o :: rest) a W := by
  obtain ⟨i0, hi, hzz⟩ := Option.map_eq_some_iff.1 iLs
  simp only [Prod.mk.injEq] at hzz
  obtain ⟨hz0, hz1, hz2⟩ := hzz
  obtain ⟨ad, cap, rfl, hlc, hcm, hnn, hcase⟩ := HY
  cases ad with
  | none =>
    obtain rfl : cap = 0 := hnn rfl
    have hm0 : m = [] := List.eq_nil_of_length_eq_zero (by omega)
    subst hm0
    refine wpList_append_own_none hgd sl x 27 ho base 31 i0 5 uLs hi v l.length (cells5 l) hs HO hx ?_
    exact h v W (by rw [List.append_nil]; exact HO) (Keep.refl _ _) (fun k hk => .inl hk)
  | some ad =>
    have hcells : ∀ j u, (cells5 m)[j]? = some u → W.cell? (ad.add j) = some u := fun j u hu => by
      rcases hcase with rfl | ⟨b, off, he, hc⟩
      · simp [cells5] at hu
      · injection he with he
        subst he
        rw [Go.WideShapes.add_plain]
        have hj : j < m.length * 5 := by
          have := (List.getElem?_eq_some_iff.1 hu).1
          rwa [cells5_len] at this
        have hq : j / 5 < m.length := by omega
        have h5 := cells5_get m (j / 5) _ (j % 5) (List.getElem?_eq_getElem hq) (Nat.mod_lt _ (by decide))
        have e5 : j / 5 * 5 + j % 5 = j := by omega
        rw [e5, hu] at h5
        have := hc (j / 5) _ (List.getElem?_eq_getElem hq) (j % 5) u h5.symm
        rwa [e5] at this
    refine wpList_append_own_at W hgd sl x 27 ho base 31 i0 _ 5 40 uLs hi hz0 hz1 hz2 rfl (by omega) v l.length (cells5 l) hs HO ad m.length cap (cells5 m) hx (cells5_len m) hcells (c5_one m) (by simp only [maxLen]; omega) (by omega) hbase ?_
    intro v1 w1 hown hg _ hat
    refine h v1 w1 ?_ (keep_grown hg) (fun k hk => ?_)
    · rw [cells5, List.flatMap_append, List.length_append]; exact hown
    · rcases hat with hat | hat
      · exact .inl (hat ▸ hk)
      · rw [hat] at hk; cases hk; exact .inr (Nat.le_refl _)
end
/-- the document's leases -/
structure RL (w : World) (q : Nat) (v : Value) (L : List Ls) (last : Int) : Prop where
  blk : w.heap[q]? = some (.cells #[v, .int .u32 last] 29 (0, 0))
  lr : LR w v L
theorem RL.below {w w' : World} {q : Nat} {v : Value} {L : List Ls} {last : Int} (h : RL w q v L last) (hb : Below w.heap.size w w') : RL w' q v L last := ⟨(Keep.ofBelow hb (fun _ => False)).blk h.blk (fun h => h), h.lr.below hb⟩
theorem rlive_any (q : Nat) (v : Value) (L : List Ls) (last m : Int) (w : World) (hR : RL w q v L last) (hl : L.length ≤ 1000000) :
    Calls Try.prog 16 #[.pointer (some ⟨q, 0, none⟩), .int .i64 m] w fun e w' => ∃ v', e = .returned v' ∧ w'.ownsRow w.heap.size 31 5 v' (live m L).length (cells5 (live m L)) ∧ Below w.heap.size w w' := by
  obtain ⟨va, vc, rfl, v1, v2, v3⟩ := hR.lr.shape
  have HR := Lib.hid hR
  clear hR v3
  go_enter Try.func16, Try.ntmps16
  go_wp2_with fail
  go_loopw [5, 6] (fun v s wr => ∃ j : Nat, j ≤ L.length ∧ s = .int .i64 j ∧ Hid (wr.ownsRow w.heap.size 31 5 v (live m (L.take j)).length (cells5 (live m (L.take j)))) ∧ Hid (Below w.heap.size w wr)) (fun _ s _ => L.length - (intOf s).toNat)
  case atStart => exact ⟨0, by omega, rfl, Lib.hid (World.ownsRow_nil _ _ _ _), Lib.hid (Below.refl _ _)⟩
  case round =>
    obtain ⟨j, hj, rfl, HO, HB⟩ := hrel
    have hRr := HR.out.below HB.out
    have hc0 : wr.cell? ⟨q, 0, none⟩ = some (.slice va L.length vc) := by rw [blk_cell hRr.blk]; rfl
    have HRr := Lib.hid hRr
    clear hRr
    by_cases hlt : j < L.length
    · obtain ⟨x, hx⟩ : ∃ x, L[j]? = some x := ⟨_, List.getElem?_eq_getElem hlt⟩
      obtain ⟨g, off, cap', he, c0, c1, c2, c3, c4⟩ := HRr.out.lr.at_ hx
      injection he with he _ hcap
      subst he; subst hcap
      have htk : L.take (j + 1) = L.take j ++ [x] := by rw [List.take_add_one, hx]; rfl
      have EL := live_snoc m (L.take j) x
      rw [← htk] at EL
      have hll : (live m (L.take j)).length ≤ 1000000 := Nat.le_trans (List.length_filter_le _ _) (by rw [List.length_take]; omega)
      have hbs := HB.out.size
      clear hx htk
      by_cases hm : m < x.exp
      · rw [if_pos hm] at EL
        have EL := Lib.hid EL
        have OO := Lib.hid (row_below HO.out ((Below.refl wr.heap.size wr).alloc (Nat.le_refl _) (.cells #[.int .u32 x.id, .int .i64 x.units, .int .i64 x.exp, .int .i64 x.day, .int .i64 x.month] 31)))
        go_wp2_with (at_builtin; go_must (refine wp_app_l w.heap.size rfl _ _ rfl _ _ (live m (L.take j)) [x] rfl rfl OO.out (LR.one wr x) (by simp; omega) hll (by simp) ?_; intro v2 w2 ho hk hat))
        have hba : Below w.heap.size w (wr.alloc (.cells #[.int .u32 x.id, .int .i64 x.units, .int .i64 x.exp, .int .i64 x.day, .int .i64 x.month] 31)) := HB.out.alloc hbs _
        refine ⟨⟨j + 1, by omega, by go_num, by rw [EL.out]; exact Lib.hid ho, Lib.hid (hba.trans (hk.below (B := w.heap.size) hba.size (fun k hk' => ?_)))⟩, by simp [intOf]; omega⟩
        rcases HO.out.2 with ⟨he, _⟩ | ⟨g', c', cu, he, hb', _⟩
        · rw [he] at hk'; cases hk'
        · rw [he] at hk'; cases hk'; exact hb'
      · rw [if_neg hm, List.append_nil] at EL
        have EL := Lib.hid EL
        go_wp2_with fail
        refine ⟨⟨j + 1, by omega, by go_num, by rw [EL.out]; exact HO, HB⟩, by simp [intOf]; omega⟩
    · obtain rfl : j = L.length := by omega
      rw [List.take_length] at HO
      go_wp2_with fail
      go_ret
      exact ⟨_, rfl, HO.out, HB.out⟩
theorem find_live (L : List Ls) (i m : Int) : L.find? (fun l => decide (l.id = i) && decide (m < l.exp)) = getR L i m := by
  unfold getR live
  rw [List.find?_filter]
  congr 1; funext l
  by_cases a : l.id = i <;> by_cases b : m < l.exp <;> simp [a, b]
theorem rget_any (q : Nat) (v : Value) (L : List Ls) (last i m : Int) (w : World) (hR : RL w q v L last) (hl : L.length ≤ 1000000) :
    Calls Try.prog 12 #[.pointer (some ⟨q, 0, none⟩), .int .u32 i, .int .i64 m] w fun e w' => e = .returned (.tuple #[(getV (getR L i m)).val, .int .i64 (getE (getR L i m))]) ∧ Below w.heap.size w w' := by
  obtain ⟨va, vc, rfl, v1, v2, v3⟩ := hR.lr.shape
  have HR := Lib.hid hR
  have HG := Lib.hid (show getR L i m = (ixP (fun l : Ls => decide (l.id = i) && decide (m < l.exp)) L).bind (fun j => L[j]?) by rw [← find_live]; exact ixP_find _ _)
  obtain ⟨A, hA⟩ : ∃ A, A = (getV (getR L i m)).val := ⟨_, rfl⟩
  obtain ⟨E, hE⟩ : ∃ E, E = getE (getR L i m) := ⟨_, rfl⟩
  rw [← hA, ← hE]
  have HA := Lib.hid hA
  have HE := Lib.hid hE
  have hz := blk_new w (.cells #[.int .u32 0, .int .i64 0, .int .i64 0, .int .i64 0, .int .i64 0] 31)
  have HW0 := Lib.hid (show Keep (fun k => k = w.heap.size) w (w.alloc (.cells #[.int .u32 0, .int .i64 0, .int .i64 0, .int .i64 0, .int .i64 0] 31)) from (Keep.refl _ _).alloc _)
  have HR1 := hR.below ((Below.refl w.heap.size w).alloc (Nat.le_refl _) (.cells #[.int .u32 0, .int .i64 0, .int .i64 0, .int .i64 0, .int .i64 0] 31))
  have HB1 := Lib.hid ((Below.refl w.heap.size w).alloc (Nat.le_refl _) (.cells #[.int .u32 0, .int .i64 0, .int .i64 0, .int .i64 0, .int .i64 0] 31))
  have hc0 : (w.alloc (.cells #[.int .u32 0, .int .i64 0, .int .i64 0, .int .i64 0, .int .i64 0] 31)).cell? ⟨q, 0, none⟩ = some (.slice va L.length vc) := by rw [blk_cell HR1.blk]; rfl
  have HRR := Lib.hid HR1
  have HZ := Lib.hid hz
  clear hR v3 hA hE hz HR1 HR
  go_enter Try.func12, Try.ntmps12
  go_wp2_with fail
  obtain ⟨W, hW⟩ : ∃ W, W = w.alloc (.cells #[.int .u32 0, .int .i64 0, .int .i64 0, .int .i64 0, .int .i64 0] 31) := ⟨_, rfl⟩
  rw [← hW] at HRR HZ HW0 hc0 HB1 ⊢
  have z0 : W.cell? ⟨w.heap.size, 0, none⟩ = some (.int .u32 0) := by rw [blk_cell HZ.out]; rfl
  have z1 : W.cell? ⟨w.heap.size, 1, none⟩ = some (.int .i64 0) := by rw [blk_cell HZ.out]; rfl
  have z2 : W.cell? ⟨w.heap.size, 2, none⟩ = some (.int .i64 0) := by rw [blk_cell HZ.out]; rfl
  have z3 : W.cell? ⟨w.heap.size, 3, none⟩ = some (.int .i64 0) := by rw [blk_cell HZ.out]; rfl
  have z4 : W.cell? ⟨w.heap.size, 4, none⟩ = some (.int .i64 0) := by rw [blk_cell HZ.out]; rfl
  have f0 := blk_frozen HZ.out 0
  have f1 := blk_frozen HZ.out 1
  have f2 := blk_frozen HZ.out 2
  have f3 := blk_frozen HZ.out 3
  have f4 := blk_frozen HZ.out 4
  have HST := Lib.hid fun (a b c d e : Value) => ((((((Keep.refl (fun k => k = w.heap.size) W).setCell (p := ⟨w.heap.size, 0, none⟩) (.inl rfl) a).setCell (p := ⟨w.heap.size, 1, none⟩) (.inl rfl) b).setCell (p := ⟨w.heap.size, 2, none⟩) (.inl rfl) c).setCell (p := ⟨w.heap.size, 3, none⟩) (.inl rfl) d).setCell (p := ⟨w.heap.size, 4, none⟩) (.inl rfl) e)
  have HCE := Lib.hid fun (a b c d e : Value) => (blk_setCell (blk_setCell (blk_setCell (blk_setCell (blk_setCell HZ.out 0 a) 1 b) 2 c) 3 d) 4 e)
  clear hW
  go_loopw [8] (fun s wr => ∃ j : Nat, j ≤ L.length ∧ s = .int .i64 j ∧ Hid (∀ (i' : Nat) y, i' < j → L[i']? = some y → (decide (y.id = i) && decide (m < y.exp)) = false) ∧ Hid (wr = W)) (fun s _ => L.length - (intOf s).toNat)
  case atStart => exact ⟨0, by omega, rfl, Lib.hid (by simp), Lib.hid rfl⟩
  case round =>
    obtain ⟨j, hj, rfl, HN, HW⟩ := hrel
    obtain rfl := HW.out.symm
    by_cases hlt : j < L.length
    · obtain ⟨x, hx⟩ : ∃ x, L[j]? = some x := ⟨_, List.getElem?_eq_getElem hlt⟩
      obtain ⟨g, off, cap', he, c0, c1, c2, c3, c4⟩ := HRR.out.lr.at_ hx
      injection he with he _ hcap
      subst he; subst hcap
      have HX := Lib.hid hx
      clear hx
      by_cases hi : x.id = i
      · by_cases hm : m < x.exp
        · have hG : getR L i m = some x := by rw [HG.out, ixP_some _ L j x (fun j' y a b => HN.out j' y a b) HX.out (by rw [decide_eq_true hi, decide_eq_true hm]; rfl)]; exact HX.out
          have hA2 := HA.out
          rw [hG] at hA2
          have hE2 := HE.out
          rw [hG] at hE2
          subst hA2
          subst hE2
          have i1 : (x.id == i) = true := beq_iff_eq.2 hi
          have i2 : x.exp > m := hm
          have HI := Lib.hid hi
          clear hG HA HE HG HX HN hm hi HW
          go_wp2_with fail
          have hc := HCE.out (.int .u32 x.id) (.int .i64 x.units) (.int .i64 x.exp) (.int .i64 x.day) (.int .i64 x.month)
          have hk := HST.out (.int .u32 x.id) (.int .i64 x.units) (.int .i64 x.exp) (.int .i64 x.day) (.int .i64 x.month)
          have x0 := blk_cell hc 0
          have x1 := blk_cell hc 1
          have x2 := blk_cell hc 2
          have x3 := blk_cell hc 3
          have x4 := blk_cell hc 4
          have hb9 := HB1.out.trans (hk.below (B := w.heap.size) HB1.out.size (fun i hi => by omega))
          clear hc hk HCE HST
          refine bodyPost_ret (by simp [results, Try.results12, go_sem, x0, x1, x2, x3, x4]; rfl) rfl ?_
          exact ⟨rfl, hb9⟩
        · have HF := Lib.hid (show (decide (x.id = i) && decide (m < x.exp)) = false by rw [decide_eq_false hm, Bool.and_false])
          have i1 : (x.id == i) = true := beq_iff_eq.2 hi
          have i2 : ¬ x.exp > m := hm
          clear hm hi HW
          go_wp2_with fail
          refine ⟨⟨j + 1, by omega, by go_num, Lib.hid (fun j' y a b => ?_), Lib.hid (by trivial)⟩, by simp [intOf]; omega⟩
          by_cases hji : j' = j
          · subst hji; rw [HX.out] at b; cases b; exact HF.out
          · exact HN.out j' y (by omega) b
      · have HF := Lib.hid (show (decide (x.id = i) && decide (m < x.exp)) = false by rw [decide_eq_false hi, Bool.false_and])
        have i1 : (x.id == i) = false := beq_eq_false_iff_ne.2 hi
        clear hi HW
        go_wp2_with fail
        refine ⟨⟨j + 1, by omega, by go_num, Lib.hid (fun j' y a b => ?_), Lib.hid (by trivial)⟩, by simp [intOf]; omega⟩
        by_cases hji : j' = j
        · subst hji; rw [HX.out] at b; cases b; exact HF.out
        · exact HN.out j' y (by omega) b
    · obtain rfl : j = L.length := by omega
      have hG : getR L i m = none := by
        rw [HG.out, ixP_none _ L (fun j' y hy => HN.out j' y (List.getElem?_eq_some_iff.1 hy).1 hy)]; rfl
      have hA2 := HA.out
      rw [hG] at hA2
      have hE2 := HE.out
      rw [hG] at hE2
      subst hA2
      subst hE2
      clear hG HA HE HG HN HW
      go_wp2_with fail
      have hc := HCE.out (.int .u32 0) (.int .i64 0) (.int .i64 0) (.int .i64 0) (.int .i64 0)
      have hk := HST.out (.int .u32 0) (.int .i64 0) (.int .i64 0) (.int .i64 0) (.int .i64 0)
      have x0 := blk_cell hc 0
      have x1 := blk_cell hc 1
      have x2 := blk_cell hc 2
      have x3 := blk_cell hc 3
      have x4 := blk_cell hc 4
      have hb9 := HB1.out.trans (hk.below (B := w.heap.size) HB1.out.size (fun i hi => by omega))
      clear hc hk HCE HST
      refine bodyPost_ret (by simp [results, Try.results12, go_sem, x0, x1, x2, x3, x4]; rfl) rfl ?_
      exact ⟨rfl, hb9⟩
theorem rheld_any (v : Value) (L : List Ls) (d m : Int) (w : World) (hv : LR w v L) (hl : L.length ≤ 1000000) :
    Calls Try.prog 18 #[v, .int .i64 d, .int .i64 m] w fun e w' => e = .returned (.tuple #[.int .i64 (heldD L d), .int .i64 (heldM L m)]) ∧ w' = w := by
  obtain ⟨a, cap, rfl, h1, h2, h3⟩ := hv.shape
  have HV := Lib.hid hv
  obtain ⟨D, hD⟩ : ∃ D, D = heldD L d := ⟨_, rfl⟩
  obtain ⟨M, hM⟩ : ∃ M, M = heldM L m := ⟨_, rfl⟩
  rw [← hD, ← hM]
  have HD := Lib.hid hD
  have HM := Lib.hid hM
  clear hv h3 hD hM
  go_enter Try.func18, Try.ntmps18
  go_wp2_with fail
  go_loopw [8, 9, 10] (fun x y s wr => ∃ j : Nat, j ≤ L.length ∧ s = .int .i64 j ∧ x = .int .i64 (heldD (L.take j) d) ∧ y = .int .i64 (heldM (L.take j) m) ∧ Hid (wr = w)) (fun _ _ s _ => L.length - (intOf s).toNat)
  case atStart => exact ⟨0, by omega, rfl, rfl, rfl, Lib.hid rfl⟩
  case round =>
    obtain ⟨j, hj, rfl, rfl, rfl, HW⟩ := hrel
    obtain rfl := HW.out.symm
    by_cases hlt : j < L.length
    · obtain ⟨x, hx⟩ : ∃ x, L[j]? = some x := ⟨_, List.getElem?_eq_getElem hlt⟩
      obtain ⟨g, off, cap', he, c0, c1, c2, c3, c4⟩ := HV.out.at_ hx
      injection he with he _ hcap
      subst he; subst hcap
      have htk : L.take (j + 1) = L.take j ++ [x] := by rw [List.take_add_one, hx]; rfl
      have ED := heldD_snoc (L.take j) x d
      have EM := heldM_snoc (L.take j) x m
      rw [← htk] at ED EM
      have ED := Lib.hid ED
      have EM := Lib.hid EM
      clear hx htk
      obtain ⟨X, hX⟩ : ∃ X, X = heldD (L.take j) d := ⟨_, rfl⟩
      obtain ⟨Y, hY⟩ : ∃ Y, Y = heldM (L.take j) m := ⟨_, rfl⟩
      rw [← hX] at ED ⊢
      rw [← hY] at EM ⊢
      clear hX hY HW
      by_cases i1 : x.day = d <;> by_cases i2 : x.month = m
      all_goals
        go_wp2_with fail
        refine ⟨⟨j + 1, by omega, by go_num, ?_, ?_, Lib.hid (by trivial)⟩, by simp [intOf]; omega⟩
        · rw [ED.out]; first | rw [if_pos i1] | rw [if_neg i1]
        · rw [EM.out]; first | rw [if_pos i2] | rw [if_neg i2]
    · obtain rfl : j = L.length := by omega
      rw [List.take_length]
      rw [← HD.out, ← HM.out]
      go_wp2
      go_ret2
      exact ⟨rfl, rfl⟩
end Go.Proofs.Ytidppalhjknlfaa
