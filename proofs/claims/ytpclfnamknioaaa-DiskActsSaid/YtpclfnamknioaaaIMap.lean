/- A map from ints to values, in the order in which the entries lie. No program in sight. -/
import Derived.Test.YtpclfnamknioaaaMem
namespace Go.Proofs.Ytpclfnamknioaaa
open Go.RowKit
open Go.ChangeMaps (setBlock)
set_option linter.unusedVariables false
set_option linter.unusedSimpArgs false
/-! ### pairs in the order in which they lie -/
abbrev IM := List (Int × Value)
def IM.pos (k : Int) : IM → Option Nat
  | [] => none
  | p :: l => if k = p.1 then some 0 else (IM.pos k l).map (· + 1)
def IM.get (k : Int) : IM → Option Value
  | [] => none
  | p :: l => if k = p.1 then some p.2 else IM.get k l
def IM.put (k : Int) (v : Value) : IM → IM
  | [] => [(k, v)]
  | p :: l => if k = p.1 then (k, v) :: l else p :: IM.put k v l
def IM.del (k : Int) : IM → IM
  | [] => []
  | p :: l => if k = p.1 then l else p :: IM.del k l
def IKVs (es : List MapEntry) (l : IM) : Prop := es.map (fun e => (e.key, e.val)) = l.map (fun p => (Value.int .i64 p.1, p.2))
theorem IKVs.nil : IKVs [] [] := rfl
theorem IKVs.cons {e : MapEntry} {es : List MapEntry} {l : IM} (h : IKVs (e :: es) l) : ∃ p r, l = p :: r ∧ e.key = .int .i64 p.1 ∧ e.val = p.2 ∧ IKVs es r := by
  unfold IKVs at h
  cases l with
  | nil => simp at h
  | cons p r =>
    simp only [List.map_cons, List.cons.injEq, Prod.mk.injEq] at h
    exact ⟨p, r, rfl, h.1.1, h.1.2, h.2⟩
theorem IKVs.mk {e : MapEntry} {es : List MapEntry} {l : IM} {p : Int × Value} (h1 : e.key = .int .i64 p.1) (h2 : e.val = p.2) (h : IKVs es l) : IKVs (e :: es) (p :: l) := by
  unfold IKVs at *
  simp [h1, h2, h]
theorem ifind_run (k : Int) : ∀ (es : List MapEntry) (l : IM) (i : Nat), IKVs es l →
    Instr.findNow (.int .i64) (.int .i64 k) es i = some (match IM.pos k l with | none => none | some j => some (i + j, ((IM.get k l).getD (.slice none 0 0))))
  | [], l, i, h => by
    have : l = [] := by unfold IKVs at h; simpa using h.symm
    subst this; rfl
  | e :: es, l, i, h => by
    obtain ⟨p, r, rfl, h1, h2, h3⟩ := h.cons
    have ih := ifind_run k es r (i + 1) h3
    by_cases hk : k = p.1
    · have hb : (k == p.1) = true := beq_iff_eq.2 hk
      simp only [Instr.findNow, h1, Instr.sameNow, hb, IM.pos, IM.get, if_pos hk, h2, Option.getD_some, Nat.add_zero]
      simp
    · have hb : (k == p.1) = false := beq_eq_false_iff_ne.2 hk
      simp only [Instr.findNow, h1, Instr.sameNow, hb, IM.pos, IM.get, if_neg hk, ih]
      simp only [if_true]
      cases IM.pos k r with
      | none => rfl
      | some j => simp; omega
theorem ipos_get (k : Int) : ∀ l : IM, (IM.pos k l).isSome = (IM.get k l).isSome
  | [] => rfl
  | p :: l => by
    by_cases h : k = p.1
    · simp [IM.pos, IM.get, h]
    · simp [IM.pos, IM.get, h, ipos_get k l]
theorem iput_kvs (k : Int) (v : Value) : ∀ (es : List MapEntry) (l : IM) (j : Nat), IKVs es l → IM.pos k l = some j →
    IKVs (es.modify j fun e => { e with key := .int .i64 k, val := v }) (IM.put k v l)
  | [], l, j, h, hj => by
    have : l = [] := by unfold IKVs at h; simpa using h.symm
    subst this; simp [IM.pos] at hj
  | e :: es, l, j, h, hj => by
    obtain ⟨p, r, rfl, h1, h2, h3⟩ := h.cons
    by_cases hk : k = p.1
    · simp only [IM.pos, if_pos hk, Option.some.injEq] at hj
      subst hj
      simp only [IM.put, if_pos hk]
      exact IKVs.mk rfl rfl h3
    · simp only [IM.pos, if_neg hk, Option.map_eq_some_iff] at hj
      obtain ⟨j', hj', rfl⟩ := hj
      simp only [IM.put, if_neg hk, List.modify_succ_cons]
      exact IKVs.mk h1 h2 (iput_kvs k v es r j' h3 hj')
theorem iput_new_kvs (k : Int) (v : Value) (c : Nat) : ∀ (es : List MapEntry) (l : IM), IKVs es l → IM.pos k l = none →
    IKVs (es ++ [{ key := .int .i64 k, val := v, born := c }]) (IM.put k v l)
  | [], l, h, _ => by
    have : l = [] := by unfold IKVs at h; simpa using h.symm
    subst this; rfl
  | e :: es, l, h, hj => by
    obtain ⟨p, r, rfl, h1, h2, h3⟩ := h.cons
    by_cases hk : k = p.1
    · simp [IM.pos, hk] at hj
    · simp only [IM.pos, if_neg hk, Option.map_eq_none_iff] at hj
      simp only [IM.put, if_neg hk, List.cons_append]
      exact IKVs.mk h1 h2 (iput_new_kvs k v c es r h3 hj)
/-! ### a map of strings -/
/-- block b is a map whose pairs are l, in the order in which they lie -/
def IMapAt (w : World) (b : Nat) (l : IM) : Prop :=
  ∃ es clock, w.heap[b]? = some (.map es clock) ∧ IKVs es.toList l ∧ (es.toList.map (·.born)).Pairwise (· < ·) ∧ ∀ e ∈ es.toList, e.born < clock
theorem IMapAt.keep {F : Nat → Prop} {w w' : World} {b : Nat} {l : IM} (h : IMapAt w b l) (hk : Keep F w w') (hF : ¬ F b) : IMapAt w' b l := by
  obtain ⟨es, c, h1, h2⟩ := h
  exact ⟨es, c, hk.blk h1 hF, h2⟩
theorem IMapAt.lt {w : World} {b : Nat} {l : IM} (h : IMapAt w b l) : b < w.heap.size := by
  obtain ⟨es, c, h1, _⟩ := h; exact blk_lt h1
theorem IMapAt.nocell {w : World} {b : Nat} {l : IM} (h : IMapAt w b l) (o : Nat) : w.cell? ⟨b, o, none⟩ = none := by
  obtain ⟨es, c, h1, _⟩ := h; simp [World.cell?, h1]
theorem IMapAt.alloc {w : World} {b : Nat} {l : IM} (h : IMapAt w b l) (o : Obj) : IMapAt (w.alloc o) b l := h.keep (Keep.ofBelow ((Below.refl _ _).alloc (Nat.le_refl _) o) (fun _ => False)) (fun h => h)
theorem IMapAt.madeAt {w : World} {k : Nat} (h : w.heap.size = k) : IMapAt (w.alloc (.map #[] 0)) k [] := by subst h; exact ⟨#[], 0, blk_new w _, rfl, by simp, by simp⟩
theorem IMapAt.made (w : World) : IMapAt (w.alloc (.map #[] 0)) w.heap.size [] := ⟨#[], 0, blk_new w _, rfl, by simp, by simp⟩
def imapGetV (l : IM) (k : Int) : Value := .tuple #[((IM.get k l).getD (.slice none 0 0)), .bool (IM.get k l).isSome]
section
variable {P : Program} {w : World} {b : Nat} {l : IM} {t kt et : TypeId}
theorem checkKey_int (hk : P.underlying kt = some (.int .i64)) (em : Bool) (k : Int) (w : World) : (Instr.checkKey em 10000 kt (.int .i64 k)).run P w = .ok () w := by
  show (Instr.checkKey em (9999 + 1) kt (.int .i64 k)).run P w = .ok () w
  generalize 9999 = n
  simp [Instr.checkKey, run_underlying hk, Result.andThen]
theorem findKey_int (hk : P.underlying kt = some (.int .i64)) (k : Int) (es : List MapEntry) (w : World) (h : IKVs es l) :
    (Instr.findKey kt (.int .i64 k) es).run P w = .ok (match IM.pos k l with | none => none | some j => some (j, ((IM.get k l).getD (.slice none 0 0)))) w := by
  have := ifind_run k es l 0 h
  simp [Instr.findKey, run_underlying hk, Result.andThen, this]
theorem IMapAt.lookup_ok (h : IMapAt w b l) (ht : P.underlying t = some (.map kt et)) (hk : P.underlying kt = some (.int .i64)) (hz : ∀ w, (zeroValue et).run P w = .ok (.slice none 0 0) w) (k : Int) :
    (Instr.lookup t (.map (some b)) (.int .i64 k) true).run P w = .ok (imapGetV l k) w := by
  obtain ⟨es, c, h1, h2, h3, h4⟩ := h
  have hg : (getObj b).run P w = .ok (.map es c) w := by simp [getObj, Sem.run, h1]
  have hf := findKey_int (P := P) (kt := kt) hk k es.toList w h2
  have hp := ipos_get k l
  simp only [Instr.lookup, Sem.run_bind, run_underlying ht, Result.andThen, hg, checkKey_int hk, Sem.run_pure]
  rw [hf]
  cases hpos : IM.pos k l with
  | none =>
    rw [hpos] at hp
    have hn : IM.get k l = none := by cases hx : IM.get k l with
      | none => rfl
      | some x => rw [hx] at hp; simp at hp
    simp [hz, Result.andThen, imapGetV, hn]
  | some j =>
    rw [hpos] at hp
    obtain ⟨v, hv⟩ : ∃ v, IM.get k l = some v := by cases hx : IM.get k l with
      | none => rw [hx] at hp; simp at hp
      | some x => exact ⟨x, rfl⟩
    simp [Result.andThen, imapGetV, hv]
theorem IMapAt.lookup (h : IMapAt w b l) (ht : P.underlying t = some (.map kt et)) (hk : P.underlying kt = some (.int .i64)) (hz : ∀ w, (zeroValue et).run P w = .ok (.slice none 0 0) w) (k : Int) :
    (Instr.lookup t (.map (some b)) (.int .i64 k) false).run P w = .ok (((IM.get k l).getD (.slice none 0 0))) w := by
  obtain ⟨es, c, h1, h2, h3, h4⟩ := h
  have hg : (getObj b).run P w = .ok (.map es c) w := by simp [getObj, Sem.run, h1]
  have hf := findKey_int (P := P) (kt := kt) hk k es.toList w h2
  have hp := ipos_get k l
  simp only [Instr.lookup, Sem.run_bind, run_underlying ht, Result.andThen, hg, checkKey_int hk, Sem.run_pure]
  rw [hf]
  cases hpos : IM.pos k l with
  | none =>
    rw [hpos] at hp
    have hn : IM.get k l = none := by cases hx : IM.get k l with
      | none => rfl
      | some x => rw [hx] at hp; simp at hp
    simp [hz, Result.andThen, hn]
  | some j =>
    rw [hpos] at hp
    obtain ⟨v, hv⟩ : ∃ v, IM.get k l = some v := by cases hx : IM.get k l with
      | none => rw [hx] at hp; simp at hp
      | some x => exact ⟨x, rfl⟩
    simp [Result.andThen, hv]
theorem IMapAt.set {o : Obj} (hb : w.heap[b]? = some o) {es : Array MapEntry} {c : Nat} {l : IM} (h2 : IKVs es.toList l) (h3 : (es.toList.map (·.born)).Pairwise (· < ·)) (h4 : ∀ e ∈ es.toList, e.born < c) : IMapAt (setBlock w b (.map es c)) b l :=
  ⟨es, c, heap_setBlock_eq _ _ _ (blk_lt hb), h2, h3, h4⟩
theorem IMapAt.update (h : IMapAt w b l) (ht : P.underlying t = some (.map kt et)) (hk : P.underlying kt = some (.int .i64)) (k : Int) (v : Value) :
    ∃ w', (Instr.mapUpdate t (.map (some b)) (.int .i64 k) v).run P w = .ok () w' ∧ IMapAt w' b (IM.put k v l) ∧ ∀ a, Keep (fun i => i = b) a w → Keep (fun i => i = b) a w' := by
  obtain ⟨es, c, h1, h2, h3, h4⟩ := h
  have hg : (getObj b).run P w = .ok (.map es c) w := by simp [getObj, Sem.run, h1]
  have hf := findKey_int (P := P) (kt := kt) hk k es.toList w h2
  simp only [Instr.mapUpdate, Sem.run_bind, run_underlying ht, Result.andThen, hg, checkKey_int hk, hf]
  cases hpos : IM.pos k l with
  | none =>
    refine ⟨_, setObj_run h1 _, IMapAt.set h1 ?_ ?_ ?_, fun a ha => ha.setBlock (.inl rfl) _⟩
    · simpa using iput_new_kvs k v c es.toList l h2 hpos
    · simp only [Array.toList_push, List.map_append, List.map_cons, List.map_nil]
      refine List.pairwise_append.2 ⟨h3, by simp, ?_⟩
      intro x hx y hy
      simp only [List.mem_singleton] at hy
      subst hy
      obtain ⟨e, he, rfl⟩ := List.mem_map.1 hx
      exact h4 e he
    · intro e he
      simp only [Array.toList_push, List.mem_append, List.mem_singleton] at he
      rcases he with he | rfl
      · have := h4 e he; omega
      · show c < c + 1; omega
  | some j =>
    have hst : ∀ old : Value, old = .int .i64 k → (Instr.keyThatStays old (.int .i64 k)).run P w = .ok (.int .i64 k) w := by
      intro old ho; subst ho
      have : Instr.sameBits 10000 (.int .i64 k) (.int .i64 k) = true := by
        show (k == k) = true
        exact beq_iff_eq.2 rfl
      simp [Instr.keyThatStays, this]
    have hold : (((es[j]?).map (·.key)).getD (.int .i64 k)) = .int .i64 k := by
      have aux : ∀ (es : List MapEntry) (l : IM) (j : Nat), IKVs es l → IM.pos k l = some j → (((es[j]?).map (·.key)).getD (.int .i64 k)) = .int .i64 k := by
        intro es
        induction es with
        | nil => intro l j _ _; rfl
        | cons e es ih =>
          intro l j h hj
          obtain ⟨p, r, rfl, g1, g2, g3⟩ := h.cons
          by_cases hkp : k = p.1
          · simp only [IM.pos, if_pos hkp, Option.some.injEq] at hj
            subst hj
            simp [g1, hkp]
          · simp only [IM.pos, if_neg hkp, Option.map_eq_some_iff] at hj
            obtain ⟨j', hj', rfl⟩ := hj
            simpa using ih r j' g3 hj'
      simpa using aux es.toList l j h2 hpos
    simp only [Sem.run_bind, hold, hst _ rfl, Result.andThen]
    refine ⟨_, setObj_run h1 _, IMapAt.set h1 ?_ ?_ ?_, fun a ha => ha.setBlock (.inl rfl) _⟩
    · simpa using iput_kvs k v es.toList l j h2 hpos
    · simp only [Array.toList_modify]
      rw [modify_born (fun e => { e with key := Value.int .i64 k, val := v }) (fun _ => rfl)]; exact h3
    · intro e he
      simp only [Array.toList_modify] at he
      have : e.born ∈ (es.toList.map (·.born)) := by
        rw [← modify_born (fun e => { e with key := Value.int .i64 k, val := v }) (fun _ => rfl) es.toList j]
        exact List.mem_map.2 ⟨e, he, rfl⟩
      obtain ⟨e', he', hb'⟩ := List.mem_map.1 this
      have := h4 e' he'
      omega
theorem IMapAt.len (h : IMapAt w b l) (ht : P.underlying t = some (.map kt et)) (ty : TypeId) : (Builtin.len_ #[t] ty #[.map (some b)]).run P w = .ok (.int .i64 l.length) w := by
  obtain ⟨es, c, h1, h2, h3, h4⟩ := h
  have hg : (getObj b).run P w = .ok (.map es c) w := by simp [getObj, Sem.run, h1]
  have : es.size = l.length := by
    have := congrArg List.length h2
    simpa using this
  simp [Builtin.len_, run_underlying ht, Result.andThen, hg, this, goInt]

end
end Go.Proofs.Ytpclfnamknioaaa
