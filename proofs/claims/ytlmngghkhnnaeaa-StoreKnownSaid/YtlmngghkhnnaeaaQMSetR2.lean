/- The walk of a store's SetRoot. Laws for a store's states where they lie: load, store, append; what a call leaves of a store. -/
import Derived.Test.YtlmngghkhnnaeaaQMGive2
import Derived.Laws.IdiomCopy
import Derived.Laws.OwnMore
namespace Go.Proofs.Ytlmngghkhnnaeaa
open Go.RowKit Go.Shelf
set_option maxRecDepth 100000
set_option linter.unusedVariables false
set_option linter.unusedSimpArgs false
def setrF (S : SS) (x : Int) : Int × SS := if S.dd = true then (9, S) else setrS S x
theorem setr_nil (x : Int) (w : World) : Calls Try.prog 14 #[.pointer none, .int .i64 x] w fun e w' => e = .returned (.int .i64 8) ∧ Below w.heap.size w w' := by
  have k3 : Below w.heap.size w ((w.alloc (.cells #[.pointer none] 24)).alloc (.cells #[.int .i64 x] 3)) := ((Below.refl _ w).alloc (Nat.le_refl _) _).alloc (by simp) _
  have K3 := Lib.hid k3
  clear k3
  go_enter Try.func14, Try.ntmps14
  go_wp2_with (go_at_call 29; refine (alive_nil _ _).mono ?_; rintro e w1 ⟨rfl, rfl⟩)
  go_ret
  exact ⟨rfl, K3.out⟩
theorem setr_any {V : Nat → Prop} {M : SM} {S : SS} (x : Int) (w : World) (h : SIs w V M S) :
    Calls Try.prog 14 #[pS M.p, .int .i64 x] w fun e w' => e = .returned (.int .i64 (setrF S x).1) ∧ SIs w' V M (setrF S x).2 ∧ Keep (fun i => i = M.p ∨ M.now.blk i) w w' := by
  have k3 : Below w.heap.size w ((w.alloc (.cells #[pS M.p] 24)).alloc (.cells #[.int .i64 x] 3)) := ((Below.refl _ w).alloc (Nat.le_refl _) _).alloc (by simp) _
  have b1 : Boxed ((w.alloc (.cells #[pS M.p] 24)).alloc (.cells #[.int .i64 x] 3)) w.heap.size 24 (pS M.p) := (Boxed.new w _ _).alloc _
  have b2 : Boxed ((w.alloc (.cells #[pS M.p] 24)).alloc (.cells #[.int .i64 x] 3)) (w.heap.size + 1) 3 (.int .i64 x) := by
    have := Boxed.new (w.alloc (.cells #[pS M.p] 24)) 3 (.int .i64 x)
    simpa using this
  have HAL : Hid (∀ w3, Below w.heap.size w w3 → Boxed w3 w.heap.size 24 (pS M.p) → Boxed w3 (w.heap.size + 1) 3 (.int .i64 x) →
      Calls Try.prog 29 #[pS M.p, .func (Fn.func 47) #[] #[.pointer (some ⟨w.heap.size + 1, 0, none⟩), .pointer (some ⟨w.heap.size, 0, none⟩)]] w3 fun e w' => e = .returned (.int .i64 (setrF S x).1) ∧
        SIs w' V M (setrF S x).2 ∧ Keep (fun i => i = M.p ∨ M.now.blk i) w w') := by
    refine Lib.hid fun w3 hb h1 h2 => ?_
    have h3S := h.below hb
    have hkb : Keep (fun i => i = M.p ∨ M.now.blk i) w w3 := Keep.ofBelow hb _
    by_cases hd : S.dd = true
    · refine (alive_no _ _ h3S hd).mono ?_
      rintro e w' ⟨rfl, rfl⟩
      unfold setrF
      rw [if_pos hd]
      exact ⟨rfl, h3S, hkb⟩
    · have ht := setrC (w.heap.size + 1) w.heap.size x w3 h3S h1 h2
      refine (alive_yes _ _ (enters_of Try.func47 (by kernel_rfl) rfl) (fun y w' => y = (setrS S x).1 ∧ SIs w' V M (setrS S x).2 ∧ Keep (fun i => i = M.p ∨ M.now.blk i) w w') w3 h3S (by simpa using hd) (ht.mono ?_)).mono ?_
      · rintro e w' ⟨rfl, g1, g3⟩
        exact ⟨_, rfl, rfl, g1, hkb.trans g3 (fun i hi => .inl hi)⟩
      · rintro e w' ⟨y, rfl, rfl, g1, g3⟩
        unfold setrF
        rw [if_neg hd]
        exact ⟨rfl, g1, g3⟩
  have HA := Lib.hid (HAL.out _ k3 b1 b2)
  unfold pS at HA ⊢
  clear k3 b1 b2 HAL h
  go_enter Try.func14, Try.ntmps14
  go_wp2_with (first
    | (go_at_call 29; refine HA.out.mono ?_; rintro e w4 ⟨rfl, g1, g3⟩
       have G1 := Lib.hid g1
       have G3 := Lib.hid g3
       clear g1 g3))
  go_ret
  exact ⟨rfl, G1.out, G3.out⟩
end Go.Proofs.Ytlmngghkhnnaeaa
namespace Go.Proofs.Ytlmngghkhnnaeaa
open Go.RowKit
set_option maxRecDepth 100000
set_option linter.unusedVariables false
set_option linter.unusedSimpArgs false
theorem aggSt : ∃ f, Try.prog.underlying 59 = some (.struct f) := by
  have h : (match Try.prog.underlying 59 with | some (.struct _) => true | _ => false) = true := by kernel_rfl
  cases hu : Try.prog.underlying 59 with
  | none => rw [hu] at h; cases h
  | some d => rw [hu] at h; cases d <;> first | exact ⟨_, rfl⟩ | cases h
theorem run_load5 (w : World) (g o : Nat) (c : List Value) (hc : c.length = 5) (h : ∀ j v, c[j]? = some v → w.cell? ⟨g, o + j, none⟩ = some v) :
    (loadVar 59 ⟨g, o, none⟩).run Try.prog w = .ok (.agg c.toArray) w := by
  have hl : (loadCells ⟨g, o, none⟩ c.length).run Try.prog w = .ok c.toArray w := run_loadCells_list (P := Try.prog) w ⟨g, o, none⟩ c (fun j v hv => by
    have hadd : (⟨g, o, none⟩ : Addr).add j = ⟨g, o + j, none⟩ := by unfold Addr.add; split <;> simp_all
    rw [hadd]; exact h j v hv)
  obtain ⟨f, hu⟩ := aggSt
  have hi : (Try.prog.info? 59).map (·.size) = some 5 := by kernel_rfl
  cases hq : Try.prog.info? 59 with
  | none => simp [hq] at hi
  | some i =>
    have hs : i.size = 5 := by simpa [hq] using hi
    have hagg : (isAgg 59).run Try.prog w = .ok true w := by
      unfold isAgg
      rw [Sem.run_bind, run_underlying hu w]
      simp
    rw [hc] at hl
    simp [loadVar, Sem.run_bind, hagg, sizeOf, typeInfo, hq, hs, hl]
theorem wp_load5 {o : Oper} {a : Act} {w : World} {K : Act → World → Prop} {Q : Exit → Act → World → Prop} (x : Operand) (ho : o.op = .load 59 x) (g off : Nat) (hx : a.eval x = .pointer (some ⟨g, off, none⟩))
    (c : List Value) (hc : c.length = 5) (h : ∀ j v, c[j]? = some v → w.cell? ⟨g, off + j, none⟩ = some v) (hK : K (a.put o.dst (.agg c.toArray)) w) : o.wp Try.prog a w K Q := by
  unfold Oper.wp execOp
  simp only [ho, hx, Instr.loadAt, Instr.sureAddr, Sem.run_bind, Sem.run_pure, Result.andThen_ok, run_load5 w g off c hc h]
  exact hK
theorem run_store5 (w : World) (g o : Nat) (c : List Value) (hc : c.length = 5) (T : TypeId) (A : Array Value) (hg : w.heap[g]? = some (.cells A T (0, 0))) (ho : o + 5 ≤ A.size) (h1 : ∀ v ∈ c, v.oneCell' = true) :
    (storeVar 59 ⟨g, o, none⟩ (.agg c.toArray)).run Try.prog w = .ok () (w.setCells g o c) := by
  have := run_storeCells_cells (P := Try.prog) g o c 0 w (fun j hj => by rw [blk_cell hg]; simp only [Nat.add_zero]; rw [Array.getElem?_eq_getElem (by omega)]; rfl) (fun j hj => blk_frozen hg _) h1
  have hi : (Try.prog.info? 59).map (·.size) = some 5 := by kernel_rfl
  cases hq : Try.prog.info? 59 with
  | none => simp [hq] at hi
  | some i =>
    have hs : i.size = 5 := by simpa [hq] using hi
    simp only [Nat.add_zero] at this
    simp [storeVar, sizeOf, typeInfo, hq, Value.cells, hs, hc, this]
theorem wp_store5 {o : Oper} {a : Act} {w : World} {K : Act → World → Prop} {Q : Exit → Act → World → Prop} (x y : Operand) (ho : o.op = .store 59 x y) (g off : Nat) (hx : a.eval x = .pointer (some ⟨g, off, none⟩))
    (c : List Value) (hy : a.eval y = .agg c.toArray) (hc : c.length = 5) (T : TypeId) (A : Array Value) (hg : w.heap[g]? = some (.cells A T (0, 0))) (hA : off + 5 ≤ A.size) (h1 : ∀ v ∈ c, v.oneCell' = true)
    (hK : K (a.put o.dst undef) (w.setCells g off c)) : o.wp Try.prog a w K Q := by
  unfold Oper.wp execOp
  simp only [ho, hx, hy, Instr.storeAt, Instr.sureAddr, Sem.run_bind, Sem.run_pure, Result.andThen_ok, run_store5 w g off c hc T A hg hA h1]
  exact hK
theorem Keep.setCells {b : Nat} {a : World} : ∀ (l : List Value) (o : Nat) (w : World), Keep (fun i => i = b) a w → Keep (fun i => i = b) a (w.setCells b o l)
  | [], _, _, h => h
  | v :: l, o, w, h => Keep.setCells l (o + 1) _ (h.setEq o v)
def setL (A : Array Value) : Nat → List Value → Array Value
  | _, [] => A
  | o, v :: l => setL (A.setIfInBounds o v) (o + 1) l
theorem blk_setCells {b : Nat} {T : TypeId} {z : Nat × Nat} : ∀ (l : List Value) (o : Nat) (w : World) (A : Array Value), w.heap[b]? = some (.cells A T z) → (w.setCells b o l).heap[b]? = some (.cells (setL A o l) T z)
  | [], _, _, _, h => h
  | v :: l, o, w, A, h => blk_setCells l (o + 1) _ _ (blk_setCell h o v)
theorem stCells_len (m : StM) (s : St) : (stCells m s).length = 5 := rfl
theorem stCells_one (m : StM) (s : St) : ∀ v ∈ stCells m s, v.oneCell' = true := by
  intro v hv
  simp only [stCells, List.mem_cons, List.not_mem_nil, or_false] at hv
  rcases hv with rfl | rfl | rfl | rfl | rfl <;> rfl
theorem sArr_now (M : SM) (S : SS) (m : StM) (s : St) : setL (sArr M S) 0 (stCells m s) = sArr { M with now := m } { S with st := s } := by
  simp [setL, stCells, sArr]
theorem sArr_was (M : SM) (S : SS) (m : StM) (s : St) : setL (sArr M S) 6 (stCells m s) = sArr { M with wasM := m } { S with was := s } := by
  simp [setL, stCells, sArr]
theorem sArr_nowC {w : World} {M : SM} {S : SS} {z : Nat × Nat} (h : w.heap[M.p]? = some (.cells (sArr M S) 62 z)) : ∀ j v, (stCells M.now S.st)[j]? = some v → w.cell? ⟨M.p, 0 + j, none⟩ = some v := by
  intro j v hj
  rw [blk_cell h, Nat.zero_add]
  have : j < 5 := (List.getElem?_eq_some_iff.1 hj).1
  match j, this with
  | 0, _ => exact hj
  | 1, _ => exact hj
  | 2, _ => exact hj
  | 3, _ => exact hj
  | 4, _ => exact hj
theorem sArr_wasC {w : World} {M : SM} {S : SS} {z : Nat × Nat} (h : w.heap[M.p]? = some (.cells (sArr M S) 62 z)) : ∀ j v, (stCells M.wasM S.was)[j]? = some v → w.cell? ⟨M.p, 6 + j, none⟩ = some v := by
  intro j v hj
  rw [blk_cell h]
  have : j < 5 := (List.getElem?_eq_some_iff.1 hj).1
  match j, this with
  | 0, _ => exact hj
  | 1, _ => exact hj
  | 2, _ => exact hj
  | 3, _ => exact hj
  | 4, _ => exact hj
theorem mkCells_cons (m : StM) (mm : List StM) (s : St) (l : List St) : mkCells (m :: mm) (s :: l) = stCells m s ++ mkCells mm l := by simp [mkCells]
theorem mkCells_len : ∀ (mm : List StM) (l : List St), mm.length = l.length → (mkCells mm l).length = l.length * 5
  | [], [], _ => rfl
  | [], _ :: _, h => by simp at h
  | _ :: _, [], h => by simp at h
  | m :: mm, s :: l, h => by rw [mkCells_cons, List.length_append, mkCells_len mm l (by simpa using h), stCells_len, List.length_cons]; omega
theorem mkCells_snoc (m : StM) (s : St) : ∀ (mm : List StM) (l : List St), mm.length = l.length → mkCells (mm ++ [m]) (l ++ [s]) = mkCells mm l ++ stCells m s
  | [], [], _ => by simp [mkCells]
  | [], _ :: _, h => by simp at h
  | _ :: _, [], h => by simp at h
  | m' :: mm, s' :: l, h => by rw [List.cons_append, List.cons_append, mkCells_cons, mkCells_snoc m s mm l (by simpa using h), mkCells_cons, List.append_assoc]
theorem mkCells_take (k : Nat) : ∀ (mm : List StM) (l : List St), mm.length = l.length → mkCells (mm.take k) (l.take k) = (mkCells mm l).take (k * 5) := by
  induction k with
  | zero => intro mm l _; simp [mkCells]
  | succ k ih =>
    intro mm l h
    match mm, l, h with
    | [], [], _ => simp [mkCells]
    | m :: mm, s :: l, h =>
      rw [List.take_succ_cons, List.take_succ_cons, mkCells_cons, mkCells_cons, ih mm l (by simpa using h), List.take_append, stCells_len, List.take_of_length_le (l := stCells m s) (by rw [stCells_len]; omega), show (k + 1) * 5 - 5 = k * 5 by omega]
theorem mkCells_get : ∀ (mm : List StM) (l : List St) (i : Nat) (m : StM) (s : St), mm[i]? = some m → l[i]? = some s → ∀ j v, (stCells m s)[j]? = some v → (mkCells mm l)[i * 5 + j]? = some v
  | m0 :: mm, s0 :: l, 0, m, s, h1, h2, j, v, hv => by
    simp only [List.getElem?_cons_zero, Option.some.injEq] at h1 h2
    subst h1; subst h2
    have := (List.getElem?_eq_some_iff.1 hv).1
    rw [mkCells_cons, List.getElem?_append_left (by omega), show 0 * 5 + j = j by omega]; exact hv
  | m0 :: mm, s0 :: l, i + 1, m, s, h1, h2, j, v, hv => by
    rw [mkCells_cons, List.getElem?_append_right (by rw [stCells_len]; omega), stCells_len, show (i + 1) * 5 + j - 5 = i * 5 + j by omega]
    exact mkCells_get mm l i m s h1 h2 j v hv
  | [], _, i, m, s, h1, _, _, _, _ => by simp at h1
  | _ :: _, [], i, m, s, _, h2, _, _, _ => by simp at h2
theorem uStates : Try.prog.underlying 60 = some (.slice 59) := by kernel_rfl
theorem iState : (Try.prog.info? 59).map (fun i => (i.zero, i.size, i.bytes)) = some (some (.agg #[.int .i64 0, .slice none 0 0, .slice none 0 0, .map none, .bool false]), 5, 72) := by kernel_rfl
/-- a state is laid behind a row of these -/
theorem app_st_ex (W : World) (B : Nat) (v : Value) (mm : List StM) (l : List St) (hl : mm.length = l.length) (h : W.ownsRow B 59 5 v l.length (mkCells mm l)) (m : StM) (s : St) (g : Nat) (hg : W.heap[g]? = some (.cells (stCells m s).toArray 59 (0, 0))) (hB : B ≤ W.heap.size) (hm : l.length ≤ 1000000) (ty : TypeId) :
    ∃ v' w', (Builtin.append_ #[60, 60] ty #[v, .slice (some ⟨g, 0, none⟩) 1 1]).run Try.prog W = .ok v' w' ∧ w'.ownsRow B 59 5 v' (l.length + 1) (mkCells (mm ++ [m]) (l ++ [s])) ∧ Keep (fun i => v.ownBlock = some i) W w' ∧ ∀ i, v'.ownBlock = some i → v.ownBlock = some i ∨ W.heap.size ≤ i := by
  obtain ⟨i0, hi, hzz⟩ := Option.map_eq_some_iff.1 iState
  simp only [Prod.mk.injEq] at hzz
  obtain ⟨hz0, hz1, hz2⟩ := hzz
  obtain ⟨v', w', hr, ho, hgr, _, hat⟩ := run_append_own_at (P := Try.prog) W B 60 ty 59 i0 _ 5 72 uStates hi hz0 hz1 hz2 (by rfl) (by decide) v l.length (mkCells mm l) h ⟨g, 0, none⟩ 1 1 (stCells m s) rfl
    (World.news_of_block (cs := (stCells m s).toArray) (t := 59) (fr := (0, 0)) hg) (stCells_one m s) (by unfold maxLen; omega) (by omega) hB
  refine ⟨v', w', hr, by rw [mkCells_snoc m s mm l hl]; exact ho, keep_grown hgr, fun i hi => ?_⟩
  rcases hat with e | e
  · exact .inl (e ▸ hi)
  · rw [e] at hi; cases hi; exact .inr (Nat.le_refl _)
/-- what a call leaves of a store -/
structure SNext (w w' : World) (V V' : Nat → Prop) (M M' : SM) (S' : SS) : Prop where
  is : SIs w' V' M' S'
  p : M'.p = M.p
  pd : M'.pd = M.pd
  keep : Keep M.foot w w'
  foot : ∀ i, M'.foot i → M.foot i ∨ w.heap.size ≤ i
  bytes : ∀ i, V' i → V i ∨ w.heap.size ≤ i
theorem SNext.refl {w w' : World} {V : Nat → Prop} {M : SM} {S : SS} (h : SIs w V M S) (hb : Below w.heap.size w w') : SNext w w' V V M M S :=
  ⟨h.below hb, rfl, rfl, Keep.ofBelow hb _, fun i hi => .inl hi, fun i hi => .inl hi⟩
theorem SNext.ofUpd {w w' : World} {V V' : Nat → Prop} {M : SM} {S' : SS} (h : SIs w' V' M S') (hk : Keep (fun i => i = M.p ∨ M.now.blk i) w w') (hV : ∀ i, V' i → V i ∨ w.heap.size ≤ i) : SNext w w' V V' M M S' :=
  ⟨h, rfl, rfl, hk.mono (fun i hi => by rcases hi with hi | hi; exact .inl hi; exact .inr (.inl hi)), fun i hi => .inl hi, hV⟩
theorem SNext.trans {a b c : World} {V V' V'' : Nat → Prop} {M M' M'' : SM} {S' S'' : SS} (h : SNext a b V V' M M' S') (k : SNext b c V' V'' M' M'' S'') : SNext a c V V'' M M'' S'' :=
  ⟨k.is, k.p.trans h.p, k.pd.trans h.pd, h.keep.trans k.keep (fun i hi => by rcases h.foot i hi with hi | hi; exact .inl hi; exact .inr hi),
    fun i hi => by
      rcases k.foot i hi with hi | hi
      · exact h.foot i hi
      · exact .inr (Nat.le_trans h.keep.size hi),
    fun i hi => by
      rcases k.bytes i hi with hi | hi
      · exact h.bytes i hi
      · exact .inr (Nat.le_trans h.keep.size hi)⟩
end Go.Proofs.Ytlmngghkhnnaeaa
