/- m[k] = v in two steps (an entry, then its value), on a map from ints. No program in sight. What a store's change may write, and that the rest stays. No program in sight. -/
import Derived.Test.YtlmngghkhnnaeaaQMMem
import Derived.Test.YtlmngghkhnnaeaaQSto
namespace Go.Proofs.Ytlmngghkhnnaeaa
open Go.RowKit
open Go.ChangeMaps (setBlock)
set_option linter.unusedVariables false
set_option linter.unusedSimpArgs false
theorem keepB (w : World) (b : Nat) (o : Obj) : Keep (fun i => i = b) w (setBlock w b o) := (Keep.refl (fun i => i = b) w).setBlock (.inl rfl) o
theorem find_born : ∀ (l : List MapEntry) (j : Nat) (e : MapEntry), (l.map (·.born)).Pairwise (· < ·) → l[j]? = some e → l.findIdx? (fun x => (x.born : Int) == (e.born : Int)) = some j
  | [], j, e, _, h => by simp at h
  | x :: l, 0, e, hp, h => by
    simp only [List.getElem?_cons_zero, Option.some.injEq] at h
    subst h
    simp [List.findIdx?_cons]
  | x :: l, j + 1, e, hp, h => by
    simp only [List.getElem?_cons_succ] at h
    simp only [List.map_cons, List.pairwise_cons] at hp
    have hlt : x.born < e.born := hp.1 _ (List.mem_map.2 ⟨e, List.mem_of_getElem? h, rfl⟩)
    have ih := find_born l j e hp.2 h
    rw [List.findIdx?_cons, ih, if_neg (by simp; omega)]
    rfl
theorem put_pos (k : Int) (v : Value) : ∀ (l : IM) (j : Nat), IM.pos k l = some j → IM.put k v l = l.set j (k, v)
  | [], j, h => by simp [IM.pos] at h
  | p :: l, j, h => by
    by_cases hk : k = p.1
    · simp only [IM.pos, if_pos hk, Option.some.injEq] at h
      subst h
      simp only [IM.put, if_pos hk, List.set_cons_zero]
    · simp only [IM.pos, if_neg hk, Option.map_eq_some_iff] at h
      obtain ⟨j', hj', rfl⟩ := h
      simp only [IM.put, if_neg hk, List.set_cons_succ, put_pos k v l j' hj']
theorem pos_lt (k : Int) : ∀ (l : IM) (j : Nat), IM.pos k l = some j → ∃ v, l[j]? = some (k, v)
  | [], j, h => by simp [IM.pos] at h
  | p :: l, j, h => by
    by_cases hk : k = p.1
    · simp only [IM.pos, if_pos hk, Option.some.injEq] at h
      subst h
      exact ⟨p.2, by simp [hk]⟩
    · simp only [IM.pos, if_neg hk, Option.map_eq_some_iff] at h
      obtain ⟨j', hj', rfl⟩ := h
      obtain ⟨v, hv⟩ := pos_lt k l j' hj'
      exact ⟨v, by simpa using hv⟩
section
variable {P : Program} {w : World} {b : Nat} {l : IM} {t kt et : TypeId}
theorem entry_store {W : World} {es : Array MapEntry} {c : Nat} {j : Nat} {e : MapEntry} (hb : W.heap[b]? = some (.map es c)) (hp : (es.toList.map (·.born)).Pairwise (· < ·)) (hj : es[j]? = some e) (v : Value) :
    (Instr.entryStore t (.map (some b)) (.int .i64 (e.born : Nat)) v).run P W = .ok () (setBlock W b (.map (es.modify j fun e => { e with val := v }) c)) := by
  have hg : (getObj b).run P W = .ok (.map es c) W := by simp [getObj, Sem.run, hb]
  have hf : es.findIdx? (fun x => (x.born : Int) == (e.born : Int)) = some j := by
    have := find_born es.toList j e hp (by rw [Array.getElem?_toList]; exact hj)
    rwa [← List.findIdx?_toArray, Array.toArray_toList] at this
  simp [Instr.entryStore, asInt, asIntOf, Result.andThen, hg, hf, setObj_run hb]
theorem IMapAt.entry (h : IMapAt w b l) (ht : P.underlying t = some (.map kt et)) (hk : P.underlying kt = some (.int .i64)) (z : Value) (hz : ∀ w, (zeroValue et).run P w = .ok z w) (k : Int) :
    ∃ (v0 : Value) (born : Nat) (w1 : World), (Instr.mapEntry t (.map (some b)) (.int .i64 k)).run P w = .ok (.tuple #[v0, .int .i64 born]) w1 ∧ Keep (fun i => i = b) w w1 ∧
      ∀ (W : World) (v : Value), W.heap[b]? = w1.heap[b]? → ∃ w2, (Instr.entryStore t (.map (some b)) (.int .i64 born) v).run P W = .ok () w2 ∧ IMapAt w2 b (IM.put k v l) ∧ Keep (fun i => i = b) W w2 := by
  obtain ⟨es, c, h1, h2, h3, h4⟩ := h
  have hg : (getObj b).run P w = .ok (.map es c) w := by simp [getObj, Sem.run, h1]
  have hf := findKey_int (P := P) (kt := kt) hk k es.toList w h2
  have hblt := blk_lt h1
  cases hpos : IM.pos k l with
  | none =>
    rw [hpos] at hf
    have hp3 : ((es.push { key := .int .i64 k, val := z, born := c }).toList.map (·.born)).Pairwise (· < ·) := by
      simp only [Array.toList_push, List.map_append, List.map_cons, List.map_nil]
      refine List.pairwise_append.2 ⟨h3, by simp, ?_⟩
      intro x hx y hy
      simp only [List.mem_singleton] at hy
      subst hy
      obtain ⟨e, he, rfl⟩ := List.mem_map.1 hx
      exact h4 e he
    have hn : (es.push { key := .int .i64 k, val := z, born := c })[es.size]? = some { key := .int .i64 k, val := z, born := c } := by simp
    refine ⟨z, c, setBlock w b (.map (es.push { key := .int .i64 k, val := z, born := c }) (c + 1)), ?_, keepB _ _ _, fun W v hW => ?_⟩
    · simp [Instr.mapEntry, run_underlying ht, Result.andThen, hg, checkKey_int hk, hf, hz, setObj_run h1, goInt]
    · rw [heap_setBlock_eq _ _ _ hblt] at hW
      refine ⟨_, entry_store (e := { key := .int .i64 k, val := z, born := c }) hW hp3 hn v, ?_, keepB _ _ _⟩
      refine IMapAt.set hW ?_ ?_ ?_
      · have : ((es.push { key := .int .i64 k, val := z, born := c }).modify es.size fun e => { e with val := v }).toList = es.toList ++ [{ key := .int .i64 k, val := v, born := c }] := by
          apply List.ext_getElem?
          intro i
          rw [Array.getElem?_toList, Array.getElem?_modify, Array.getElem?_push, List.getElem?_append]
          by_cases hi : es.size = i
          · subst hi; simp
          · rw [if_neg hi, if_neg (fun e => hi e.symm)]
            by_cases hlt : i < es.size
            · rw [if_pos (by simpa using hlt)]; simp
            · rw [if_neg (by simpa using hlt)]
              rw [Array.getElem?_eq_none (by omega), List.getElem?_eq_none (by simp; omega)]
        rw [this]
        exact iput_new_kvs k v c es.toList l h2 hpos
      · rw [Array.toList_modify, modify_born (fun e => { e with val := v }) (fun _ => rfl)]; exact hp3
      · intro e he
        rw [Array.toList_modify] at he
        have : e.born ∈ ((es.push { key := .int .i64 k, val := z, born := c }).toList.map (·.born)) := by
          rw [← modify_born (fun e => { e with val := v }) (fun _ => rfl) _ es.size]
          exact List.mem_map.2 ⟨e, he, rfl⟩
        obtain ⟨e', he', hb'⟩ := List.mem_map.1 this
        simp only [Array.toList_push, List.mem_append, List.mem_singleton] at he'
        rcases he' with he' | rfl
        · have := h4 e' he'; omega
        · simp only at hb'; omega
  | some j =>
    rw [hpos] at hf
    obtain ⟨v1, hv1⟩ := pos_lt k l j hpos
    have hkv : ∃ e, es[j]? = some e ∧ e.key = .int .i64 k := by
      have := congrArg (fun x => x[j]?) h2
      simp only [List.getElem?_map, hv1, Option.map_some] at this
      obtain ⟨e, he, hee⟩ := Option.map_eq_some_iff.1 this
      simp only [Prod.mk.injEq] at hee
      exact ⟨e, by rw [← Array.getElem?_toList]; exact he, hee.1⟩
    obtain ⟨e, he, hek⟩ := hkv
    have hst : (Instr.keyThatStays (.int .i64 k) (.int .i64 k)).run P w = .ok (.int .i64 k) w := by
      have : Instr.sameBits 10000 (.int .i64 k) (.int .i64 k) = true := by
        show (k == k) = true
        exact beq_iff_eq.2 rfl
      simp [Instr.keyThatStays, this]
    have hst2 : (Instr.keyThatStays (((es[j]?).map (·.key)).getD (.int .i64 k)) (.int .i64 k)).run P w = .ok (.int .i64 k) w := by
      rw [he]; simp only [Option.map_some, Option.getD_some, hek]; exact hst
    have hbe : ((es[j]?).map (·.born)).getD 0 = e.born := by rw [he]; rfl
    have hp3 : ((es.modify j fun e => { e with key := Value.int .i64 k }).toList.map (·.born)).Pairwise (· < ·) := by
      rw [Array.toList_modify, modify_born (fun e => { e with key := Value.int .i64 k }) (fun _ => rfl)]; exact h3
    have hn : (es.modify j fun e => { e with key := Value.int .i64 k })[j]? = some { e with key := Value.int .i64 k } := by
      rw [Array.getElem?_modify, if_pos rfl, he]; rfl
    refine ⟨(IM.get k l).getD (.slice none 0 0), e.born, setBlock w b (.map (es.modify j fun e => { e with key := Value.int .i64 k }) c), ?_, keepB _ _ _, fun W v hW => ?_⟩
    rotate_left
    · rw [heap_setBlock_eq _ _ _ hblt] at hW
      refine ⟨_, entry_store (e := { e with key := Value.int .i64 k }) hW hp3 hn v, ?_, keepB _ _ _⟩
      refine IMapAt.set hW ?_ ?_ ?_
      · have : ((es.modify j fun e => { e with key := Value.int .i64 k }).modify j fun e => { e with val := v }).toList = (es.toList.modify j fun e => { e with key := Value.int .i64 k, val := v }) := by
          rw [Array.toList_modify, Array.toList_modify]
          apply List.ext_getElem?
          intro i
          simp only [List.getElem?_modify]
          by_cases hi : j = i
          · subst hi; simp only [if_true]; cases es.toList[j]? <;> rfl
          · simp only [if_neg hi]; cases es.toList[i]? <;> rfl
        rw [this]
        exact iput_kvs k v es.toList l j h2 hpos
      · rw [Array.toList_modify, modify_born (fun e => { e with val := v }) (fun _ => rfl)]; exact hp3
      · intro x hx
        rw [Array.toList_modify] at hx
        have : x.born ∈ (es.toList.map (·.born)) := by
          rw [← modify_born (fun e => { e with key := Value.int .i64 k }) (fun _ => rfl) es.toList j, ← Array.toList_modify, ← modify_born (fun e => { e with val := v }) (fun _ => rfl) _ j]
          exact List.mem_map.2 ⟨x, hx, rfl⟩
        obtain ⟨e', he', hb'⟩ := List.mem_map.1 this
        have := h4 e' he'
        omega
    · simp only [Instr.mapEntry, Sem.run_bind, run_underlying ht, Result.andThen, hg, checkKey_int hk, hf]
      simp only [he, Option.map_some, Option.getD_some, hek, hst, setObj_run h1, Sem.run_bind, Result.andThen, Sem.run_pure, goInt]
theorem idel_none (k : Int) : ∀ l : IM, IM.pos k l = none → IM.del k l = l
  | [], _ => rfl
  | p :: l, h => by
    by_cases hk : k = p.1
    · simp [IM.pos, hk] at h
    · simp only [IM.pos, if_neg hk, Option.map_eq_none_iff] at h
      simp [IM.del, hk, idel_none k l h]
theorem idel_kvs (k : Int) : ∀ (es : List MapEntry) (l : IM) (j : Nat), IKVs es l → IM.pos k l = some j → IKVs (es.eraseIdx j) (IM.del k l)
  | [], l, j, h, hj => by
    have : l = [] := by unfold IKVs at h; simpa using h.symm
    subst this; simp [IM.pos] at hj
  | e :: es, l, j, h, hj => by
    obtain ⟨p, r, rfl, h1, h2, h3⟩ := h.cons
    by_cases hk : k = p.1
    · simp only [IM.pos, if_pos hk, Option.some.injEq] at hj
      subst hj
      simp only [IM.del, if_pos hk]
      exact h3
    · simp only [IM.pos, if_neg hk, Option.map_eq_some_iff] at hj
      obtain ⟨j', hj', rfl⟩ := hj
      simp only [IM.del, if_neg hk, List.eraseIdx_cons_succ]
      exact IKVs.mk h1 h2 (idel_kvs k es r j' h3 hj')
theorem IMapAt.delete {ty : TypeId} (h : IMapAt w b l) (ht : P.underlying t = some (.map kt et)) (hk : P.underlying kt = some (.int .i64)) (k : Int) :
    ∃ w', (Builtin.delete_ #[t, kt] ty #[.map (some b), .int .i64 k]).run P w = .ok (.tuple #[]) w' ∧ IMapAt w' b (IM.del k l) ∧ ∀ a, Keep (fun i => i = b) a w → Keep (fun i => i = b) a w' := by
  obtain ⟨es, c, h1, h2, h3, h4⟩ := h
  have hg : (getObj b).run P w = .ok (.map es c) w := by simp [getObj, Sem.run, h1]
  have hf := findKey_int (P := P) (kt := kt) hk k es.toList w h2
  cases hpos : IM.pos k l with
  | none =>
    rw [hpos] at hf
    refine ⟨setBlock w b (.map es c), ?_, ?_, fun a ha => ha.setBlock (.inl rfl) _⟩
    · simp [Builtin.delete_, run_underlying ht, Result.andThen, hg, checkKey_int hk, hf, setObj_run h1]
    · rw [idel_none k l hpos]
      exact IMapAt.set h1 h2 h3 h4
  | some j =>
    rw [hpos] at hf
    refine ⟨setBlock w b (.map (es.eraseIdxIfInBounds j) c), ?_, ?_, fun a ha => ha.setBlock (.inl rfl) _⟩
    · simp [Builtin.delete_, run_underlying ht, Result.andThen, hg, checkKey_int hk, hf, setObj_run h1]
    · have e1 : (es.eraseIdxIfInBounds j).toList = es.toList.eraseIdx j := by simp
      refine IMapAt.set h1 ?_ ?_ ?_
      · rw [e1]; exact idel_kvs k es.toList l j h2 hpos
      · rw [e1, ChangeMaps.map_eraseIdx]
        exact h3.sublist (List.eraseIdx_sublist _ _)
      · intro e he
        rw [e1] at he
        exact h4 e (List.mem_of_mem_eraseIdx he)
end
end Go.Proofs.Ytlmngghkhnnaeaa
namespace Go.Proofs.Ytlmngghkhnnaeaa
open Go.RowKit
set_option maxRecDepth 100000
set_option linter.unusedVariables false
set_option linter.unusedSimpArgs false
theorem put_relR (R : Value → ByteArray → Prop) (k : Int) (u : ByteArray) (v : Value) (hv : R v u) : ∀ (W : Wt) (vs : IM), vs.length = W.length → (∀ (i : Nat) (q : Int × ByteArray), W[i]? = some q → ∃ v, vs[i]? = some (q.1, v) ∧ R v q.2) →
    (IM.put k v vs).length = (wput k u W).length ∧ ∀ (i : Nat) (q : Int × ByteArray), (wput k u W)[i]? = some q → ∃ v', (IM.put k v vs)[i]? = some (q.1, v') ∧ R v' q.2
  | [], [], _, _ => by
    refine ⟨rfl, fun i q hq => ?_⟩
    cases i with
    | zero => simp [wput] at hq; subst hq; exact ⟨v, rfl, hv⟩
    | succ i => simp [wput] at hq
  | [], _ :: _, h, _ => by simp at h
  | _ :: _, [], h, _ => by simp at h
  | q :: W, x :: vs, h, hx => by
    obtain ⟨v0, h1, h2⟩ := hx 0 q rfl
    simp only [List.getElem?_cons_zero, Option.some.injEq] at h1
    subst h1
    by_cases hk : k = q.1
    · simp only [IM.put, wput, if_pos hk]
      refine ⟨by simpa using h, fun i q' hq' => ?_⟩
      cases i with
      | zero => simp at hq'; subst hq'; exact ⟨v, rfl, hv⟩
      | succ i => exact hx (i + 1) q' hq'
    · obtain ⟨g1, g2⟩ := put_relR R k u v hv W vs (by simpa using h) (fun i q' hq' => hx (i + 1) q' hq')
      simp only [IM.put, wput, if_neg hk]
      refine ⟨by simpa using g1, fun i q' hq' => ?_⟩
      cases i with
      | zero => simp at hq'; subst hq'; exact ⟨v0, rfl, h2⟩
      | succ i => exact g2 i q' hq'
def wdel (k : Int) : Wt → Wt
  | [] => []
  | q :: l => if k = q.1 then l else q :: wdel k l
theorem del_relR (R : Value → ByteArray → Prop) (k : Int) : ∀ (W : Wt) (vs : IM), vs.length = W.length → (∀ (i : Nat) (q : Int × ByteArray), W[i]? = some q → ∃ v, vs[i]? = some (q.1, v) ∧ R v q.2) →
    (IM.del k vs).length = (wdel k W).length ∧ ∀ (i : Nat) (q : Int × ByteArray), (wdel k W)[i]? = some q → ∃ v', (IM.del k vs)[i]? = some (q.1, v') ∧ R v' q.2
  | [], [], _, _ => ⟨rfl, fun i q hq => by simp [wdel] at hq⟩
  | [], _ :: _, h, _ => by simp at h
  | _ :: _, [], h, _ => by simp at h
  | q :: W, x :: vs, h, hx => by
    obtain ⟨v0, h1, h2⟩ := hx 0 q rfl
    simp only [List.getElem?_cons_zero, Option.some.injEq] at h1
    subst h1
    by_cases hk : k = q.1
    · simp only [IM.del, wdel, if_pos hk]
      exact ⟨by simpa using h, fun i q' hq' => hx (i + 1) q' hq'⟩
    · obtain ⟨g1, g2⟩ := del_relR R k W vs (by simpa using h) (fun i q' hq' => hx (i + 1) q' hq')
      simp only [IM.del, wdel, if_neg hk]
      refine ⟨by simpa using g1, fun i q' hq' => ?_⟩
      cases i with
      | zero => simp at hq'; subst hq'; exact ⟨v0, rfl, h2⟩
      | succ i => exact g2 i q' hq'
theorem wdel_sub (k : Int) : ∀ l : Wt, (wdel k l).Sublist l
  | [] => List.Sublist.refl _
  | q :: l => by
    by_cases hk : k = q.1
    · simp only [wdel, if_pos hk]; exact List.sublist_cons_self _ _
    · simp only [wdel, if_neg hk]; exact (wdel_sub k l).cons_cons _
/-- the blocks that a change writes are no others of the store -/
theorem SIs.apart {V : Nat → Prop} {w : World} {M : SM} {S : SS} (h : SIs w V M S) : ∀ i, (i = M.p ∨ M.now.blk i) → ¬ M.wasM.blk i ∧ (∀ m ∈ M.mm, ¬ m.blk i) ∧ M.mV.ownBlock ≠ some i ∧ ¬ DF M.pd M.bl M.bw M.ov i := by
  have hno : ∀ (m : StM) (s : St), StIs w V m s → ¬ m.blk M.p := fun m s hs hb => absurd (hs.kind _ hb _ _ _ h.blk) (by decide)
  have hcells : ∀ i, (i = M.p ∨ M.now.blk i) → ∀ c e z, w.heap[i]? = some (.cells c e z) → e = 62 ∨ e = 4 := by
    rintro i (rfl | hi) c e z hc
    · rw [h.blk] at hc; simp only [Option.some.injEq, Obj.cells.injEq] at hc; exact .inl hc.2.1.symm
    · exact .inr (h.now.kind i hi c e z hc)
  intro i hi
  refine ⟨?_, ?_, ?_, ?_⟩
  · rcases hi with rfl | hi
    · exact hno _ _ h.was
    · exact (h.sep i hi).1
  · rcases hi with rfl | hi
    · intro m hm
      obtain ⟨k, s, h1, h2⟩ := zip_get h.mlen hm
      exact hno _ _ (h.mks k m s h1 h2).1
    · exact (h.sep i hi).2.1
  · intro hb
    obtain ⟨c, z, h'⟩ := row_blk h.mrow i hb
    rcases hcells i hi _ _ _ h' with e | e <;> exact absurd e (by decide)
  · rintro (rfl | rfl | rfl | hb)
    · rcases hcells _ hi _ _ _ h.disk.blk with e | e <;> exact absurd e (by decide)
    · obtain ⟨ls, h1, _⟩ := h.disk.lasts
      rcases hcells _ hi _ _ _ h1 with e | e <;> exact absurd e (by decide)
    · rcases hi with e | hi
      · obtain ⟨vs, ⟨es, c', h1, _⟩, _⟩ := h.disk.waits
        rw [e, h.blk] at h1; cases h1
      · exact (h.sep _ hi).2.2 rfl
    · obtain ⟨c', h1⟩ := h.disk.order_blk hb
      rcases hcells _ hi _ _ _ h1 with e | e <;> exact absurd e (by decide)
/-- a change that is another; all else as it was -/
theorem SIs.upd {V V' : Nat → Prop} {w w5 : World} {M : SM} {S : SS} (h : SIs w V M S) (hk : Keep (fun i => i = M.p ∨ M.now.blk i) w w5) (hV : ∀ i, V i → V' i) (m' : StM) (hm : ∀ i, m'.blk i → M.now.blk i ∨ w.heap.size ≤ i) (s : St) (hlen : s.taken.length = S.st.taken.length)
    (hblk : w5.heap[M.p]? = some (.cells (sArr { M with now := m' } { S with st := s }) 62 (0, 0))) (hnow : StIs w5 V' m' s) : SIs w5 V' { M with now := m' } { S with st := s } := by
  have hB : ∀ i c z, w.heap[i]? = some (.cells c 5 z) → ¬ (i = M.p ∨ M.now.blk i) := fun i c z hc hi => h.nbytes i c z hc (by rcases hi with hi | hi; exact .inl hi; exact .inr (.inl hi))
  have hmk : ∀ m ∈ M.mm, ∀ i, m.blk i → i < w.heap.size := by
    intro m hm i hi
    obtain ⟨k, s, h1, h2⟩ := zip_get h.mlen hm
    exact (h.mks k m s h1 h2).1.lt i hi
  exact {
    blk := hblk
    now := hnow
    was := (h.was.keepB hk (fun i hi hf => (h.apart i hf).1 hi) hB).mono hV
    mrow := row_kept h.mrow hk (fun i hi hf => (h.apart i hf).2.2.1 hi)
    mlen := h.mlen
    mks := fun i m s' h1 h2 => ⟨((h.mks i m s' h1 h2).1.keepB hk (fun j hj hf => (h.apart j hf).2.1 m (List.mem_of_getElem? h1) hj) hB).mono hV, (h.mks i m s' h1 h2).2.trans hlen.symm⟩
    disk := h.disk.keep hk (fun i hi hf => (h.apart i hf).2.2.2 hi) hB
    nwas := h.nwas.trans hlen.symm
    ndisk := h.ndisk.trans hlen.symm
    sep := by
      intro i hi
      rcases hm i hi with hi | hi
      · exact h.sep i hi
      · refine ⟨fun hb => by have := h.was.lt i hb; omega, fun m hmm hb => by have := hmk m hmm i hb; omega, fun (e : i = M.bw) => ?_⟩
        have := h.lt M.bw (.inr (.inr (.inr (.inr (.inr (.inr (.inr (.inl rfl))))))))
        omega
    sepw := h.sepw
    stamp := h.stamp
    head := h.head }
end Go.Proofs.Ytlmngghkhnnaeaa
