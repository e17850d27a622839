/- Rows of strings, rows of pairs of byte slices, the library's sort of strings. -/
import Derived.Test.YtidppalhjknlfaaDoorQKv2
import Derived.Test.YtidppalhjknlfaaDoorQBuf
import Derived.Test.YtidppalhjknlfaaDoorQAL
import Derived.Test.YtidppalhjknlfaaDoorQShelf
import Derived.Lib.OwnBridge
import Derived.Lib.SortBridgeS
namespace Go.Proofs.YtidppalhjknlfaaDoor
open Go.RowKit
set_option maxRecDepth 100000
set_option linter.unusedVariables false
set_option linter.unusedSimpArgs false

/-! ### a byte slice at the head of a block of bytes -/
def BL (e : TypeId) (w : World) (v : Value) (s : ByteArray) : Prop :=
  ∃ b c cs z, v = .slice (some ⟨b, 0, none⟩) s.size c ∧ s.size ≤ c ∧ c ≤ maxLen ∧ w.heap[b]? = some (.cells cs e z) ∧ ∀ i, i < s.size → cs[i]? = some (.int .u8 (s.data.toList.getD i 0).toNat)
theorem BL.bs {e : TypeId} {w : World} {v : Value} {s : ByteArray} (h : BL e w v s) : BS w v s := by
  obtain ⟨b, c, cs, z, rfl, h1, h2, h3, h4⟩ := h
  exact ⟨_, _, rfl, h1, h2, (fun h => by cases h), .inr ⟨b, 0, rfl, fun i hi => by rw [Nat.zero_add, blk_cell h3]; exact h4 i hi⟩⟩
theorem BL.keep {e : TypeId} {w w' : World} {v : Value} {s : ByteArray} {F : Nat → Prop} (h : BL e w v s) (hk : Keep F w w') (hF : ∀ b cs z, w.heap[b]? = some (.cells cs e z) → ¬ F b) : BL e w' v s := by
  obtain ⟨b, c, cs, z, rfl, h1, h2, h3, h4⟩ := h
  exact ⟨b, c, cs, z, rfl, h1, h2, hk.blk h3 (hF b cs z h3), h4⟩
theorem BL.below {e : TypeId} {w w' : World} {v : Value} {s : ByteArray} (h : BL e w v s) (hb : Below w.heap.size w w') : BL e w' v s := h.keep (Keep.ofBelow hb (fun _ => False)) (fun _ _ _ _ h => h)
theorem bl_bytes (w : World) (e : TypeId) (s : ByteArray) (hs : s.size ≤ 9223372036854775807) : BL e (Lib.bytesWorld w e s) (.slice (some ⟨w.heap.size, 0, none⟩) s.size (grownCap w s.size 0 e)) s := by
  have hm : s.size ≤ maxLen := by unfold maxLen; exact hs
  refine ⟨_, _, _, _, rfl, grownCap_ge _ _ _ _, grownCap_le_maxLen _ _ _ _ hm, Lib.bytesWorld_at_new w e s, fun i hi => ?_⟩
  have := Lib.bytesWorld_cell w e s i hi
  rwa [blk_cell (Lib.bytesWorld_at_new w e s)] at this

/-! ### append of one element -/
theorem wp_app_el {P : Program} {ops : Array Oper} {rest : List Oper} {o : Oper} {a : Act} {Q : Exit → Act → World → Prop} {W : World} (base : Nat) (hgd : o.guard = none) (sl x : Operand) (t e : TypeId)
    (ho : o.op = .call { callee := .builtin .append, args := #[sl, x], argTypes := #[t, t] })
    (ht : P.underlying t = some (.slice e)) (z : Value) (size bytes : Nat) (hinfo : (P.info? e).map (fun i => (i.zero, i.size, i.bytes)) = some (some z, size, bytes)) (hz : z.cells.size = size) (hsz : 0 < size) (hby : 0 < bytes)
    (v : Value) (n : Nat) (xs news : List Value) (hn : news.length = size) (hs : a.eval sl = v) (hx : a.eval x = .slice (some ⟨W.heap.size, 0, none⟩) 1 1) (HO : W.ownsRow base e size v n xs) (hbase : base ≤ W.heap.size)
    (hl : (n + 1) * bytes ≤ 140737488355328) (h1 : ∀ u ∈ news, u.oneCell' = true)
    (h : ∀ v' w', w'.ownsRow base e size v' (n + 1) (xs ++ news) → Grows W w' v v' → wpList P ops Q rest (a.put o.dst v') w') :
    wpList P ops Q (o :: rest) a (W.alloc (.cells news.toArray e)) := by
  obtain ⟨i0, hi, hzz⟩ := Option.map_eq_some_iff.1 hinfo
  simp only [Prod.mk.injEq] at hzz
  obtain ⟨hz0, hz1, hz2⟩ := hzz
  have hlen : n + 1 ≤ 140737488355328 := Nat.le_trans (Nat.le_mul_of_pos_right _ hby) hl
  refine wpList_append_own_at (W.alloc (.cells news.toArray e)) hgd sl x t ho base e i0 z size bytes ht hi hz0 hz1 hz2 hz hsz v n xs hs (HO.alloc _) ⟨W.heap.size, 0, none⟩ 1 1 news hx (by rw [hn, Nat.one_mul])
    (World.news_of_block (cs := news.toArray) (t := e) (fr := (0, 0)) (heap_alloc_new W _)) h1 (by simp only [maxLen]; omega) hl (by simp; omega) ?_
  intro v1 w1 hown hg _ hat
  refine h v1 w1 hown ⟨?_, ?_⟩
  · exact ((Keep.refl _ W).alloc _).trans (keep_grown hg) (fun i hi => .inl hi)
  · rcases hat with hat | hat
    · exact .inl hat
    · exact .inr ⟨_, hat, by simp⟩

/-! ### a row of strings -/
theorem iStr : (Tryd.prog.info? 9).map (fun i => (i.zero, i.size, i.bytes)) = some (some (.string ByteArray.empty), 1, 16) := by kernel_rfl
theorem uStrs : Tryd.prog.underlying 150 = some (.slice 9) := by kernel_rfl
def SR (w : World) (base : Nat) (v : Value) (ks : List ByteArray) : Prop := w.ownsRow base 9 1 v ks.length (ks.map Value.string)
theorem SR.keep {w w' : World} {base : Nat} {v : Value} {ks : List ByteArray} {F : Nat → Prop} (h : SR w base v ks) (hk : Keep F w w') (hF : ∀ k, v.ownBlock = some k → ¬ F k) : SR w' base v ks := by
  refine ⟨h.1, ?_⟩
  rcases h.2 with hn | ⟨g, cap, cur, rfl, hb, hg, rest⟩
  · exact .inl hn
  · exact .inr ⟨g, cap, cur, rfl, hb, hk.blk hg (hF g rfl), rest⟩
theorem SR.blk {w : World} {base : Nat} {v : Value} {ks : List ByteArray} (h : SR w base v ks) : ∀ k, v.ownBlock = some k → base ≤ k ∧ k < w.heap.size ∧ ∃ cur z, w.heap[k]? = some (.cells cur 9 z) := by
  intro k hk
  have h1 := World.ownsRow.lt h k hk
  refine ⟨h1.1, h1.2, ?_⟩
  rcases h.2 with ⟨rfl, _⟩ | ⟨g, cap, cur, rfl, hb, hg, rest⟩
  · simp [Value.ownBlock] at hk
  · simp [Value.ownBlock] at hk
    subst hk
    exact ⟨_, _, hg⟩
def sortS (ks : List ByteArray) : List ByteArray := ((ks.map (·.data.toList)).mergeSort fun x y => decide (x ≤ y)).map fun l => ⟨l.toArray⟩
theorem sortS_length (ks : List ByteArray) : (sortS ks).length = ks.length := by simp [sortS]
theorem sort_any (v : Value) (ks : List ByteArray) (base : Nat) (w : World) (h : SR w base v ks) (hl : ks.length < 4611686018427387904) :
    Calls Tryd.prog 98 #[v] w fun e w' => e = .returned (.tuple #[]) ∧ SR w' base v (sortS ks) ∧ Keep (fun i => v.ownBlock = some i) w w' := by
  by_cases hv : v = .slice none 0 0
  · subst hv
    have hk : ks = [] := by
      rcases h.2 with ⟨_, h0⟩ | ⟨g, cap, cur, he, _⟩
      · exact List.eq_nil_of_length_eq_zero h0
      · cases he
    subst hk
    refine (Tryd.slices_Sort_string_none none 0 w).mono ?_
    rintro e w' ⟨rfl, rfl⟩
    exact ⟨rfl, by rw [show sortS [] = [] by simp [sortS]]; exact h, Keep.refl _ _⟩
  · have h' : w.ownsRow base 9 1 v ks.length ((ks.map (·.data.toList)).map Proofs.encStr) := by rw [Lib.map_encStr]; exact h
    obtain ⟨g, cap, rfl, hb, hg, hn, hm, hzl, hH⟩ := Lib.holds_of_ownsRow h' hv
    have hc := Tryd.slices_Sort_string g 0 cap (ks.map (·.data.toList)) w hH hg (by simpa using hl)
    rw [List.length_map] at hc
    refine hc.mono ?_
    rintro e w' ⟨rfl, q, os, rfl⟩
    have ho := Lib.ownsRow_putRow (q := q) (k := ks.length) (ys := (ks.map (·.data.toList)).mergeSort fun x y => decide (x ≤ y)) h' (by simp) (Nat.le_refl _)
    have hsz : g < (Sort.putRow Proofs.encStr (Sort.ahead w q) g 0 ((ks.map (·.data.toList)).mergeSort fun x y => decide (x ≤ y)).toArray).heap.size := by simp [Sort.ahead]; exact hg
    refine ⟨rfl, ?_, ?_⟩
    · have ho2 : (Sort.putRow Proofs.encStr (Sort.ahead w q) g 0 ((ks.map (·.data.toList)).mergeSort fun x y => decide (x ≤ y)).toArray).ownsRow base 9 1 (.slice (some ⟨g, 0, none⟩) ks.length cap) (sortS ks).length ((sortS ks).map Value.string) := by
        rw [sortS_length]
        have e : ((((ks.map (·.data.toList)).mergeSort fun x y => decide (x ≤ y)).take ks.length).map Proofs.encStr) = (sortS ks).map Value.string := by
          rw [List.take_of_length_le (by simp), sortS, List.map_map]
          rfl
        rw [← e]
        exact ho
      refine ⟨ho2.1, ?_⟩
      rcases ho2.2 with ⟨e, _⟩ | ⟨g', cap', cur, e, hb', hg', rest⟩
      · cases e
      · injection e with e1 _ e3
        injection e1 with e1
        injection e1 with e1
        subst e1; subst e3
        exact .inr ⟨g, cap, cur, by rw [sortS_length], hb', by rw [Sort.heap_grow_old _ _ hsz]; exact hg', rest⟩
    · refine ⟨rfl, rfl, rfl, by simp [Sort.ahead], fun k hk hne => ?_⟩
      have hk' : k < (Sort.putRow Proofs.encStr (Sort.ahead w q) g 0 ((ks.map (·.data.toList)).mergeSort fun x y => decide (x ≤ y)).toArray).heap.size := by simp [Sort.ahead]; exact hk
      have hne' : g ≠ k := fun e => hne (by rw [← e]; rfl)
      rw [Sort.heap_grow_old _ _ hk']
      simp [Sort.putRow, Sort.mapBlock, Sort.ahead, Array.getElem?_modify, hne']

/-! ### a row of pairs -/
theorem uPairs : Tryd.prog.underlying 92 = some (.slice 96) := by kernel_rfl
theorem iPair : (Tryd.prog.info? 96).map (fun i => (i.zero, i.size, i.bytes)) = some (some (.agg #[.slice none 0 0, .slice none 0 0]), 2, 48) := by kernel_rfl
/-- v is a row of the call's own that reads as the pairs l -/
def PS (w : World) (base : Nat) (v : Value) (l : AL) : Prop :=
  ∃ xs, w.ownsRow base 96 2 v l.length xs ∧ ∀ i p, l[i]? = some p → ∃ kv vv, xs[2 * i]? = some kv ∧ xs[2 * i + 1]? = some vv ∧ BL 5 w kv p.1 ∧ BL 5 w vv p.2
theorem PS.nil (w : World) (base : Nat) : PS w base (.slice none 0 0) [] := ⟨[], World.ownsRow_nil w base _ 2, fun i p h => by simp at h⟩
theorem PS.keep {w w' : World} {base : Nat} {v : Value} {l : AL} {F : Nat → Prop} (h : PS w base v l) (hk : Keep F w w') (hF : ∀ b cs e z, w.heap[b]? = some (.cells cs e z) → e = 96 ∨ e = 5 → ¬ F b) : PS w' base v l := by
  obtain ⟨xs, h1, h2⟩ := h
  refine ⟨xs, ⟨h1.1, ?_⟩, fun i p hp => ?_⟩
  · rcases h1.2 with hn | ⟨g, cap, cur, rfl, hb, hg, rest⟩
    · exact .inl hn
    · exact .inr ⟨g, cap, cur, rfl, hb, hk.blk hg (hF g _ _ _ hg (.inl rfl)), rest⟩
  · obtain ⟨kv, vv, a, b, c, d⟩ := h2 i p hp
    exact ⟨kv, vv, a, b, c.keep hk (fun b cs z hb => hF b cs _ z hb (.inr rfl)), d.keep hk (fun b cs z hb => hF b cs _ z hb (.inr rfl))⟩
theorem PS.below {w w' : World} {base : Nat} {v : Value} {l : AL} (h : PS w base v l) (hb : Below w.heap.size w w') : PS w' base v l := h.keep (Keep.ofBelow hb (fun _ => False)) (fun _ _ _ _ _ _ h => h)
theorem PS.blk {w : World} {base : Nat} {v : Value} {l : AL} (h : PS w base v l) : ∀ k, v.ownBlock = some k → base ≤ k ∧ k < w.heap.size ∧ ∃ cur z, w.heap[k]? = some (.cells cur 96 z) := by
  obtain ⟨xs, h, _⟩ := h
  intro k hk
  have h1 := World.ownsRow.lt h k hk
  refine ⟨h1.1, h1.2, ?_⟩
  rcases h.2 with ⟨rfl, _⟩ | ⟨g, cap, cur, rfl, hb, hg, rest⟩
  · simp [Value.ownBlock] at hk
  · simp [Value.ownBlock] at hk
    subst hk
    exact ⟨_, _, hg⟩
/-- what the append of a pair leaves -/
theorem PS.snoc {w w' : World} {base : Nat} {v v' kv vv : Value} {l : AL} {k u : ByteArray} {xs : List Value} (h1 : ∀ i p, l[i]? = some p → ∃ kv vv, xs[2 * i]? = some kv ∧ xs[2 * i + 1]? = some vv ∧ BL 5 w kv p.1 ∧ BL 5 w vv p.2)
    (ho : w'.ownsRow base 96 2 v' (l.length + 1) (xs ++ [kv, vv])) (hx : xs.length = l.length * 2) (hg : Grows w w' v v') (hv : ∀ k, v.ownBlock = some k → ∃ cur z, w.heap[k]? = some (.cells cur 96 z))
    (hk : BL 5 w kv k) (hu : BL 5 w vv u) : PS w' base v' (l ++ [(k, u)]) := by
  have hF : ∀ b cs z, w.heap[b]? = some (.cells cs 5 z) → ¬ (v.ownBlock = some b) := by
    intro b cs z hb hv'
    obtain ⟨cur, z', hb'⟩ := hv b hv'
    rw [hb] at hb'
    cases hb'
  refine ⟨xs ++ [kv, vv], by rw [List.length_append]; exact ho, fun i p hp => ?_⟩
  by_cases hi : i < l.length
  · rw [List.getElem?_append_left hi] at hp
    obtain ⟨kv', vv', a, b, c, d⟩ := h1 i p hp
    refine ⟨kv', vv', ?_, ?_, c.keep hg.keep hF, d.keep hg.keep hF⟩
    · rw [List.getElem?_append_left (by omega)]; exact a
    · rw [List.getElem?_append_left (by omega)]; exact b
  · have hil : i = l.length := by
      rcases Nat.lt_or_ge i (l ++ [(k, u)]).length with h | h
      · simp at h; omega
      · rw [List.getElem?_eq_none h] at hp; cases hp
    subst hil
    simp at hp
    subst hp
    refine ⟨kv, vv, ?_, ?_, hk.keep hg.keep hF, hu.keep hg.keep hF⟩
    · rw [List.getElem?_append_right (by omega), show 2 * l.length - xs.length = 0 by omega]; rfl
    · rw [List.getElem?_append_right (by omega), show 2 * l.length + 1 - xs.length = 1 by omega]; rfl
end Go.Proofs.YtidppalhjknlfaaDoor
