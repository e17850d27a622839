/- A map from uint32 to int64, in the order in which the entries lie. No program in sight. -/
import Derived.Test.YtidppalhjknlfaaMem
namespace Go.Proofs.Ytidppalhjknlfaa
open Go.RowKit
open Go.ChangeMaps (setBlock)
set_option linter.unusedVariables false
set_option linter.unusedSimpArgs false
/-! ### pairs in the order in which they lie -/
abbrev UM := List (Int × Int)
def UM.pos (k : Int) : UM → Option Nat
  | [] => none
  | p :: l => if k = p.1 then some 0 else (UM.pos k l).map (· + 1)
def UM.get (k : Int) : UM → Option Int
  | [] => none
  | p :: l => if k = p.1 then some p.2 else UM.get k l
def UM.put (k : Int) (v : Int) : UM → UM
  | [] => [(k, v)]
  | p :: l => if k = p.1 then (k, v) :: l else p :: UM.put k v l
def UM.del (k : Int) : UM → UM
  | [] => []
  | p :: l => if k = p.1 then l else p :: UM.del k l
def UKVs (es : List MapEntry) (l : UM) : Prop := es.map (fun e => (e.key, e.val)) = l.map (fun p => (Value.int .u32 p.1, Value.int .i64 p.2))
theorem UKVs.nil : UKVs [] [] := rfl
theorem UKVs.cons {e : MapEntry} {es : List MapEntry} {l : UM} (h : UKVs (e :: es) l) : ∃ p r, l = p :: r ∧ e.key = .int .u32 p.1 ∧ e.val = .int .i64 p.2 ∧ UKVs es r := by
  unfold UKVs at h
  cases l with
  | nil => simp at h
  | cons p r =>
    simp only [List.map_cons, List.cons.injEq, Prod.mk.injEq] at h
    exact ⟨p, r, rfl, h.1.1, h.1.2, h.2⟩
theorem UKVs.mk {e : MapEntry} {es : List MapEntry} {l : UM} {p : Int × Int} (h1 : e.key = .int .u32 p.1) (h2 : e.val = .int .i64 p.2) (h : UKVs es l) : UKVs (e :: es) (p :: l) := by
  unfold UKVs at *
  simp [h1, h2, h]
theorem ufind_run (k : Int) : ∀ (es : List MapEntry) (l : UM) (i : Nat), UKVs es l →
    Instr.findNow (.int .u32) (.int .u32 k) es i = some (match UM.pos k l with | none => none | some j => some (i + j, (Value.int .i64 ((UM.get k l).getD 0))))
  | [], l, i, h => by
    have : l = [] := by unfold UKVs at h; simpa using h.symm
    subst this; rfl
  | e :: es, l, i, h => by
    obtain ⟨p, r, rfl, h1, h2, h3⟩ := h.cons
    have ih := ufind_run k es r (i + 1) h3
    by_cases hk : k = p.1
    · have hb : (k == p.1) = true := beq_iff_eq.2 hk
      simp only [Instr.findNow, h1, Instr.sameNow, hb, UM.pos, UM.get, if_pos hk, h2, Option.getD_some, Nat.add_zero]
      simp
    · have hb : (k == p.1) = false := beq_eq_false_iff_ne.2 hk
      simp only [Instr.findNow, h1, Instr.sameNow, hb, UM.pos, UM.get, if_neg hk, ih]
      simp only [if_true]
      cases UM.pos k r with
      | none => rfl
      | some j => simp; omega
theorem upos_get (k : Int) : ∀ l : UM, (UM.pos k l).isSome = (UM.get k l).isSome
  | [] => rfl
  | p :: l => by
    by_cases h : k = p.1
    · simp [UM.pos, UM.get, h]
    · simp [UM.pos, UM.get, h, upos_get k l]
theorem uput_kvs (k : Int) (v : Int) : ∀ (es : List MapEntry) (l : UM) (j : Nat), UKVs es l → UM.pos k l = some j →
    UKVs (es.modify j fun e => { e with key := .int .u32 k, val := .int .i64 v }) (UM.put k v l)
  | [], l, j, h, hj => by
    have : l = [] := by unfold UKVs at h; simpa using h.symm
    subst this; simp [UM.pos] at hj
  | e :: es, l, j, h, hj => by
    obtain ⟨p, r, rfl, h1, h2, h3⟩ := h.cons
    by_cases hk : k = p.1
    · simp only [UM.pos, if_pos hk, Option.some.injEq] at hj
      subst hj
      simp only [UM.put, if_pos hk]
      exact UKVs.mk rfl rfl h3
    · simp only [UM.pos, if_neg hk, Option.map_eq_some_iff] at hj
      obtain ⟨j', hj', rfl⟩ := hj
      simp only [UM.put, if_neg hk, List.modify_succ_cons]
      exact UKVs.mk h1 h2 (uput_kvs k v es r j' h3 hj')
theorem uput_new_kvs (k : Int) (v : Int) (c : Nat) : ∀ (es : List MapEntry) (l : UM), UKVs es l → UM.pos k l = none →
    UKVs (es ++ [{ key := .int .u32 k, val := .int .i64 v, born := c }]) (UM.put k v l)
  | [], l, h, _ => by
    have : l = [] := by unfold UKVs at h; simpa using h.symm
    subst this; rfl
  | e :: es, l, h, hj => by
    obtain ⟨p, r, rfl, h1, h2, h3⟩ := h.cons
    by_cases hk : k = p.1
    · simp [UM.pos, hk] at hj
    · simp only [UM.pos, if_neg hk, Option.map_eq_none_iff] at hj
      simp only [UM.put, if_neg hk, List.cons_append]
      exact UKVs.mk h1 h2 (uput_new_kvs k v c es r h3 hj)
/-! ### a map of strings -/
/-- block b is a map whose pairs are l, in the order in which they lie -/
def UMapAt (w : World) (b : Nat) (l : UM) : Prop :=
  ∃ es clock, w.heap[b]? = some (.map es clock) ∧ UKVs es.toList l ∧ (es.toList.map (·.born)).Pairwise (· < ·) ∧ ∀ e ∈ es.toList, e.born < clock
theorem UMapAt.keep {F : Nat → Prop} {w w' : World} {b : Nat} {l : UM} (h : UMapAt w b l) (hk : Keep F w w') (hF : ¬ F b) : UMapAt w' b l := by
  obtain ⟨es, c, h1, h2⟩ := h
  exact ⟨es, c, hk.blk h1 hF, h2⟩
theorem UMapAt.lt {w : World} {b : Nat} {l : UM} (h : UMapAt w b l) : b < w.heap.size := by
  obtain ⟨es, c, h1, _⟩ := h; exact blk_lt h1
theorem UMapAt.nocell {w : World} {b : Nat} {l : UM} (h : UMapAt w b l) (o : Nat) : w.cell? ⟨b, o, none⟩ = none := by
  obtain ⟨es, c, h1, _⟩ := h; simp [World.cell?, h1]
theorem UMapAt.alloc {w : World} {b : Nat} {l : UM} (h : UMapAt w b l) (o : Obj) : UMapAt (w.alloc o) b l := h.keep (Keep.ofBelow ((Below.refl _ _).alloc (Nat.le_refl _) o) (fun _ => False)) (fun h => h)
theorem UMapAt.madeAt {w : World} {k : Nat} (h : w.heap.size = k) : UMapAt (w.alloc (.map #[] 0)) k [] := by subst h; exact ⟨#[], 0, blk_new w _, rfl, by simp, by simp⟩
theorem UMapAt.made (w : World) : UMapAt (w.alloc (.map #[] 0)) w.heap.size [] := ⟨#[], 0, blk_new w _, rfl, by simp, by simp⟩
def umapGetV (l : UM) (k : Int) : Value := .tuple #[(Value.int .i64 ((UM.get k l).getD 0)), .bool (UM.get k l).isSome]
section
variable {P : Program} {w : World} {b : Nat} {l : UM} {t kt et : TypeId}
theorem checkKey_u32 (hk : P.underlying kt = some (.int .u32)) (em : Bool) (k : Int) (w : World) : (Instr.checkKey em 10000 kt (.int .u32 k)).run P w = .ok () w := by
  show (Instr.checkKey em (9999 + 1) kt (.int .u32 k)).run P w = .ok () w
  generalize 9999 = n
  simp [Instr.checkKey, run_underlying hk, Result.andThen]
theorem findKey_u32 (hk : P.underlying kt = some (.int .u32)) (k : Int) (es : List MapEntry) (w : World) (h : UKVs es l) :
    (Instr.findKey kt (.int .u32 k) es).run P w = .ok (match UM.pos k l with | none => none | some j => some (j, (Value.int .i64 ((UM.get k l).getD 0)))) w := by
  have := ufind_run k es l 0 h
  simp [Instr.findKey, run_underlying hk, Result.andThen, this]
theorem UMapAt.lookup_ok (h : UMapAt w b l) (ht : P.underlying t = some (.map kt et)) (hk : P.underlying kt = some (.int .u32)) (hz : ∀ w, (zeroValue et).run P w = .ok (.int .i64 0) w) (k : Int) :
    (Instr.lookup t (.map (some b)) (.int .u32 k) true).run P w = .ok (umapGetV l k) w := by
  obtain ⟨es, c, h1, h2, h3, h4⟩ := h
  have hg : (getObj b).run P w = .ok (.map es c) w := by simp [getObj, Sem.run, h1]
  have hf := findKey_u32 (P := P) (kt := kt) hk k es.toList w h2
  have hp := upos_get k l
  simp only [Instr.lookup, Sem.run_bind, run_underlying ht, Result.andThen, hg, checkKey_u32 hk, Sem.run_pure]
  rw [hf]
  cases hpos : UM.pos k l with
  | none =>
    rw [hpos] at hp
    have hn : UM.get k l = none := by cases hx : UM.get k l with
      | none => rfl
      | some x => rw [hx] at hp; simp at hp
    simp [hz, Result.andThen, umapGetV, hn]
  | some j =>
    rw [hpos] at hp
    obtain ⟨v, hv⟩ : ∃ v, UM.get k l = some v := by cases hx : UM.get k l with
      | none => rw [hx] at hp; simp at hp
      | some x => exact ⟨x, rfl⟩
    simp [Result.andThen, umapGetV, hv]
theorem UMapAt.lookup (h : UMapAt w b l) (ht : P.underlying t = some (.map kt et)) (hk : P.underlying kt = some (.int .u32)) (hz : ∀ w, (zeroValue et).run P w = .ok (.int .i64 0) w) (k : Int) :
    (Instr.lookup t (.map (some b)) (.int .u32 k) false).run P w = .ok ((Value.int .i64 ((UM.get k l).getD 0))) w := by
  obtain ⟨es, c, h1, h2, h3, h4⟩ := h
  have hg : (getObj b).run P w = .ok (.map es c) w := by simp [getObj, Sem.run, h1]
  have hf := findKey_u32 (P := P) (kt := kt) hk k es.toList w h2
  have hp := upos_get k l
  simp only [Instr.lookup, Sem.run_bind, run_underlying ht, Result.andThen, hg, checkKey_u32 hk, Sem.run_pure]
  rw [hf]
  cases hpos : UM.pos k l with
  | none =>
    rw [hpos] at hp
    have hn : UM.get k l = none := by cases hx : UM.get k l with
      | none => rfl
      | some x => rw [hx] at hp; simp at hp
    simp [hz, Result.andThen, hn]
  | some j =>
    rw [hpos] at hp
    obtain ⟨v, hv⟩ : ∃ v, UM.get k l = some v := by cases hx : UM.get k l with
      | none => rw [hx] at hp; simp at hp
      | some x => exact ⟨x, rfl⟩
    simp [Result.andThen, hv]
theorem UMapAt.set {o : Obj} (hb : w.heap[b]? = some o) {es : Array MapEntry} {c : Nat} {l : UM} (h2 : UKVs es.toList l) (h3 : (es.toList.map (·.born)).Pairwise (· < ·)) (h4 : ∀ e ∈ es.toList, e.born < c) : UMapAt (setBlock w b (.map es c)) b l :=
  ⟨es, c, heap_setBlock_eq _ _ _ (blk_lt hb), h2, h3, h4⟩
theorem UMapAt.update (h : UMapAt w b l) (ht : P.underlying t = some (.map kt et)) (hk : P.underlying kt = some (.int .u32)) (k : Int) (v : Int) :
    ∃ w', (Instr.mapUpdate t (.map (some b)) (.int .u32 k) (.int .i64 v)).run P w = .ok () w' ∧ UMapAt w' b (UM.put k v l) ∧ ∀ a, Keep (fun i => i = b) a w → Keep (fun i => i = b) a w' := by
  obtain ⟨es, c, h1, h2, h3, h4⟩ := h
  have hg : (getObj b).run P w = .ok (.map es c) w := by simp [getObj, Sem.run, h1]
  have hf := findKey_u32 (P := P) (kt := kt) hk k es.toList w h2
  simp only [Instr.mapUpdate, Sem.run_bind, run_underlying ht, Result.andThen, hg, checkKey_u32 hk, hf]
  cases hpos : UM.pos k l with
  | none =>
    refine ⟨_, setObj_run h1 _, UMapAt.set h1 ?_ ?_ ?_, fun a ha => ha.setBlock (.inl rfl) _⟩
    · simpa using uput_new_kvs k v c es.toList l h2 hpos
    · simp only [Array.toList_push, List.map_append, List.map_cons, List.map_nil]
      refine List.pairwise_append.2 ⟨h3, by simp, ?_⟩
      intro x hx y hy
      simp only [List.mem_singleton] at hy
      subst hy
      obtain ⟨e, he, rfl⟩ := List.mem_map.1 hx
      exact h4 e he
    · intro e he
      simp only [Array.toList_push, List.mem_append, List.mem_singleton] at he
      rcases he with he | rfl
      · have := h4 e he; omega
      · show c < c + 1; omega
  | some j =>
    have hst : ∀ old : Value, old = .int .u32 k → (Instr.keyThatStays old (.int .u32 k)).run P w = .ok (.int .u32 k) w := by
      intro old ho; subst ho
      have : Instr.sameBits 10000 (.int .u32 k) (.int .u32 k) = true := by
        show (k == k) = true
        exact beq_iff_eq.2 rfl
      simp [Instr.keyThatStays, this]
    have hold : (((es[j]?).map (·.key)).getD (.int .u32 k)) = .int .u32 k := by
      have aux : ∀ (es : List MapEntry) (l : UM) (j : Nat), UKVs es l → UM.pos k l = some j → (((es[j]?).map (·.key)).getD (.int .u32 k)) = .int .u32 k := by
        intro es
        induction es with
        | nil => intro l j _ _; rfl
        | cons e es ih =>
          intro l j h hj
          obtain ⟨p, r, rfl, g1, g2, g3⟩ := h.cons
          by_cases hkp : k = p.1
          · simp only [UM.pos, if_pos hkp, Option.some.injEq] at hj
            subst hj
            simp [g1, hkp]
          · simp only [UM.pos, if_neg hkp, Option.map_eq_some_iff] at hj
            obtain ⟨j', hj', rfl⟩ := hj
            simpa using ih r j' g3 hj'
      simpa using aux es.toList l j h2 hpos
    simp only [Sem.run_bind, hold, hst _ rfl, Result.andThen]
    refine ⟨_, setObj_run h1 _, UMapAt.set h1 ?_ ?_ ?_, fun a ha => ha.setBlock (.inl rfl) _⟩
    · simpa using uput_kvs k v es.toList l j h2 hpos
    · simp only [Array.toList_modify]
      rw [modify_born (fun e => { e with key := Value.int .u32 k, val := .int .i64 v }) (fun _ => rfl)]; exact h3
    · intro e he
      simp only [Array.toList_modify] at he
      have : e.born ∈ (es.toList.map (·.born)) := by
        rw [← modify_born (fun e => { e with key := Value.int .u32 k, val := .int .i64 v }) (fun _ => rfl) es.toList j]
        exact List.mem_map.2 ⟨e, he, rfl⟩
      obtain ⟨e', he', hb'⟩ := List.mem_map.1 this
      have := h4 e' he'
      omega
theorem UMapAt.len (h : UMapAt w b l) (ht : P.underlying t = some (.map kt et)) (ty : TypeId) : (Builtin.len_ #[t] ty #[.map (some b)]).run P w = .ok (.int .i64 l.length) w := by
  obtain ⟨es, c, h1, h2, h3, h4⟩ := h
  have hg : (getObj b).run P w = .ok (.map es c) w := by simp [getObj, Sem.run, h1]
  have : es.size = l.length := by
    have := congrArg List.length h2
    simpa using this
  simp [Builtin.len_, run_underlying ht, Result.andThen, hg, this, goInt]
theorem udel_none (k : Int) : ∀ l : UM, UM.pos k l = none → UM.del k l = l
  | [], _ => rfl
  | p :: l, h => by
    by_cases hk : k = p.1
    · simp [UM.pos, hk] at h
    · simp only [UM.pos, if_neg hk, Option.map_eq_none_iff] at h
      simp [UM.del, hk, udel_none k l h]
theorem udel_kvs (k : Int) : ∀ (es : List MapEntry) (l : UM) (j : Nat), UKVs es l → UM.pos k l = some j → UKVs (es.eraseIdx j) (UM.del k l)
  | [], l, j, h, hj => by
    have : l = [] := by unfold UKVs at h; simpa using h.symm
    subst this; simp [UM.pos] at hj
  | e :: es, l, j, h, hj => by
    obtain ⟨p, r, rfl, h1, h2, h3⟩ := h.cons
    by_cases hk : k = p.1
    · simp only [UM.pos, if_pos hk, Option.some.injEq] at hj
      subst hj
      simp only [UM.del, if_pos hk]
      exact h3
    · simp only [UM.pos, if_neg hk, Option.map_eq_some_iff] at hj
      obtain ⟨j', hj', rfl⟩ := hj
      simp only [UM.del, if_neg hk, List.eraseIdx_cons_succ]
      exact UKVs.mk h1 h2 (udel_kvs k es r j' h3 hj')
theorem UMapAt.delete {ty : TypeId} (h : UMapAt w b l) (ht : P.underlying t = some (.map kt et)) (hk : P.underlying kt = some (.int .u32)) (k : Int) :
    ∃ w', (Builtin.delete_ #[t, kt] ty #[.map (some b), .int .u32 k]).run P w = .ok (.tuple #[]) w' ∧ UMapAt w' b (UM.del k l) ∧ ∀ a, Keep (fun i => i = b) a w → Keep (fun i => i = b) a w' := by
  obtain ⟨es, c, h1, h2, h3, h4⟩ := h
  have hg : (getObj b).run P w = .ok (.map es c) w := by simp [getObj, Sem.run, h1]
  have hf := findKey_u32 (P := P) (kt := kt) hk k es.toList w h2
  cases hpos : UM.pos k l with
  | none =>
    rw [hpos] at hf
    refine ⟨setBlock w b (.map es c), ?_, ?_, fun a ha => ha.setBlock (.inl rfl) _⟩
    · simp [Builtin.delete_, run_underlying ht, Result.andThen, hg, checkKey_u32 hk, hf, setObj_run h1]
    · rw [udel_none k l hpos]
      exact UMapAt.set h1 h2 h3 h4
  | some j =>
    rw [hpos] at hf
    refine ⟨setBlock w b (.map (es.eraseIdxIfInBounds j) c), ?_, ?_, fun a ha => ha.setBlock (.inl rfl) _⟩
    · simp [Builtin.delete_, run_underlying ht, Result.andThen, hg, checkKey_u32 hk, hf, setObj_run h1]
    · have e1 : (es.eraseIdxIfInBounds j).toList = es.toList.eraseIdx j := by simp
      refine UMapAt.set h1 ?_ ?_ ?_
      · rw [e1]; exact udel_kvs k es.toList l j h2 hpos
      · rw [e1, ChangeMaps.map_eraseIdx]
        exact h3.sublist (List.eraseIdx_sublist _ _)
      · intro e he
        rw [e1] at he
        exact h4 e (List.mem_of_mem_eraseIdx he)
end
/-! ### what the pairs are -/
def UM.ND (l : UM) : Prop := (l.map (·.1)).Nodup
theorem UM.get_mem {k v : Int} : ∀ {l : UM}, UM.ND l → (UM.get k l = some v ↔ (k, v) ∈ l)
  | [], _ => by simp [UM.get]
  | p :: l, hn => by
    obtain ⟨hp, hl⟩ := List.nodup_cons.1 (show (p.1 :: l.map (·.1)).Nodup from hn)
    have ih := UM.get_mem (k := k) (v := v) (l := l) hl
    by_cases hk : k = p.1
    · simp only [UM.get, if_pos hk, Option.some.injEq, List.mem_cons]
      constructor
      · intro h; left; rw [hk, ← h]
      · rintro (h | h)
        · rw [← h]
        · exact absurd (List.mem_map.2 ⟨(k, v), h, hk⟩) hp
    · simp only [UM.get, if_neg hk, List.mem_cons, ih]
      constructor
      · exact fun h => .inr h
      · rintro (h | h)
        · exact absurd (by rw [← h]) hk
        · exact h
theorem UM.put_keys {k v x : Int} : ∀ {l : UM}, x ∈ (UM.put k v l).map (·.1) ↔ x = k ∨ x ∈ l.map (·.1)
  | [] => by simp [UM.put]
  | p :: l => by
    have ih := UM.put_keys (k := k) (v := v) (x := x) (l := l)
    by_cases hk : k = p.1
    · simp only [UM.put, if_pos hk, List.map_cons, List.mem_cons]
      rw [← hk]
      constructor
      · intro h
        rcases h with h | h
        · exact .inl h
        · exact .inr (.inr h)
      · intro h
        rcases h with h | h | h
        · exact .inl h
        · exact .inl h
        · exact .inr h
    · simp only [UM.put, if_neg hk, List.map_cons, List.mem_cons, ih]
      constructor
      · intro h
        rcases h with h | h | h
        · exact .inr (.inl h)
        · exact .inl h
        · exact .inr (.inr h)
      · intro h
        rcases h with h | h | h
        · exact .inr (.inl h)
        · exact .inl h
        · exact .inr (.inr h)
theorem UM.put_nd {k v : Int} : ∀ {l : UM}, UM.ND l → UM.ND (UM.put k v l)
  | [], _ => by simp [UM.put, UM.ND]
  | p :: l, hn => by
    obtain ⟨hp, hl⟩ := List.nodup_cons.1 (show (p.1 :: l.map (·.1)).Nodup from hn)
    by_cases hk : k = p.1
    · simp only [UM.put, if_pos hk]
      exact List.nodup_cons.2 ⟨by rw [hk]; exact hp, hl⟩
    · simp only [UM.put, if_neg hk]
      refine List.nodup_cons.2 ⟨fun h => ?_, UM.put_nd hl⟩
      rcases UM.put_keys.1 h with h | h
      · exact hk h.symm
      · exact hp h
theorem UM.del_sub {k : Int} : ∀ (l : UM), (UM.del k l).Sublist l
  | [] => List.Sublist.refl _
  | p :: l => by
    by_cases hk : k = p.1
    · simp only [UM.del, if_pos hk]; exact List.sublist_cons_self _ _
    · simp only [UM.del, if_neg hk]; exact (UM.del_sub l).cons_cons _
theorem UM.del_nd {k : Int} {l : UM} (h : UM.ND l) : UM.ND (UM.del k l) := h.sublist ((UM.del_sub l).map _)
theorem UM.get_put {k k' v : Int} : ∀ {l : UM}, UM.get k (UM.put k' v l) = if k = k' then some v else UM.get k l
  | [] => by simp [UM.put, UM.get]
  | p :: l => by
    have ih := UM.get_put (k := k) (k' := k') (v := v) (l := l)
    by_cases hk : k' = p.1
    · simp only [UM.put, if_pos hk, UM.get]
      by_cases h : k = k'
      · simp [h]
      · rw [if_neg h, if_neg h, if_neg (by rw [← hk]; exact h)]
    · simp only [UM.put, if_neg hk, UM.get, ih]
      by_cases h : k = p.1
      · rw [if_pos h, if_neg (by rw [h]; exact fun e => hk e.symm), if_pos h]
      · rw [if_neg h, if_neg h]
theorem UM.get_del {k k' : Int} : ∀ {l : UM}, UM.ND l → UM.get k (UM.del k' l) = if k = k' then none else UM.get k l
  | [], _ => by simp [UM.del, UM.get]
  | p :: l, hn => by
    obtain ⟨hp, hl⟩ := List.nodup_cons.1 (show (p.1 :: l.map (·.1)).Nodup from hn)
    have ih := UM.get_del (k := k) (k' := k') (l := l) hl
    by_cases hk : k' = p.1
    · simp only [UM.del, if_pos hk, UM.get]
      by_cases h : k = k'
      · rw [if_pos h]
        cases hx : UM.get k l with
        | none => rfl
        | some v => exact absurd (List.mem_map.2 ⟨(k, v), (UM.get_mem hl).1 hx, by rw [h, hk]⟩) hp
      · rw [if_neg h, if_neg (by rw [← hk]; exact h)]
    · simp only [UM.del, if_neg hk, UM.get, ih]
      by_cases h : k = p.1
      · rw [if_pos h, if_neg (by rw [h]; exact fun e => hk e.symm), if_pos h]
      · rw [if_neg h, if_neg h]
end Go.Proofs.Ytidppalhjknlfaa
