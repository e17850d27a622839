/- Slices of bytes that the call owns: append. No program in sight. -/
import Derived.Test.YtidppalhjknlfaaDoorQMem
import Derived.Lib.AppendStr
import Derived.Laws.AppendOwnNone
import Derived.Maps.AppendAt
import Derived.Deep.AppendLies
import Derived.OwnWalk
namespace Go.Proofs.YtidppalhjknlfaaDoor
set_option linter.unusedVariables false
set_option linter.unusedSimpArgs false
open Go.RowKit
theorem data_append_getD (s u : ByteArray) (i : Nat) (h : i < s.size) : (s ++ u).data.toList.getD i 0 = s.data.toList.getD i 0 := by
  have h' : i < s.data.toList.length := by rw [data_len]; exact h
  have e : (s ++ u).data.toList = s.data.toList ++ u.data.toList := by simp [ByteArray.data_append]
  rw [e, List.getD_eq_getElem?_getD, List.getD_eq_getElem?_getD, List.getElem?_append_left h']
theorem BS.front {w : World} {a : Option Addr} {n c : Nat} {s u : ByteArray} (h : BS w (.slice a n c) (s ++ u)) : BS w (.slice a s.size c) s := by
  obtain ⟨a', c', he, h1, h2, hn, h3⟩ := h
  simp only [Value.slice.injEq] at he
  obtain ⟨rfl, rfl, rfl⟩ := he
  have hsz : (s ++ u).size = s.size + u.size := ByteArray.size_append
  refine ⟨a, c, rfl, by omega, h2, hn, ?_⟩
  rcases h3 with h4 | ⟨b, off, rfl, hc⟩
  · refine .inl (size0 ?_)
    rw [h4] at hsz
    have : ByteArray.empty.size = 0 := rfl
    omega
  · exact .inr ⟨b, off, rfl, fun i hi => by rw [hc i (by omega), data_append_getD s u i hi]⟩
theorem BS.at_ {w : World} {a : Option Addr} {n c : Nat} {s : ByteArray} (h : BS w (.slice a n c) s) {i : Nat} (hi : i < s.size) : ∃ b off, a = some ⟨b, off, none⟩ ∧ ∀ j, j < s.size → w.cell? ⟨b, off + j, none⟩ = some (.int .u8 (s.data.toList.getD j 0).toNat) := by
  obtain ⟨a', c', he, h1, h2, _, h3⟩ := h
  simp only [Value.slice.injEq] at he
  obtain ⟨rfl, rfl, rfl⟩ := he
  rcases h3 with rfl | h3
  · exact absurd hi (by simp)
  · exact h3
/-- v is a slice of bytes in a row of the call's own (from block base on), that reads as s -/
def Own (e : TypeId) (w : World) (base : Nat) (v : Value) (s : ByteArray) : Prop := w.ownsRow base e 1 v s.size (Lib.strCells s)
def bOne (n : Int) : ByteArray := ⟨#[UInt8.ofNat n.toNat]⟩
theorem size_append (s t : ByteArray) : (s ++ t).size = s.size + t.size := ByteArray.size_append
theorem strCells_append (s t : ByteArray) : Lib.strCells (s ++ t) = Lib.strCells s ++ Lib.strCells t := by
  simp [Lib.strCells, ByteArray.data_append]
theorem strCells_one (n : Int) (h0 : 0 ≤ n) (h1 : n < 256) : Lib.strCells (bOne n) = [.int .u8 n] := by
  simp [Lib.strCells, bOne]
  omega
theorem size_one (n : Int) : (bOne n).size = 1 := rfl
theorem append_empty (s : ByteArray) : s ++ ByteArray.empty = s := by simp
theorem Own.nil (e : TypeId) (w : World) (base : Nat) : Own e w base (.slice none 0 0) ByteArray.empty := World.ownsRow_nil w base e 1
theorem strCells_get (s : ByteArray) (i : Nat) (h : i < s.size) : (Lib.strCells s)[i]? = some (.int .u8 (s.data.toList.getD i 0).toNat) := by
  have h' : i < s.data.toList.length := by rw [data_len]; exact h
  simp only [Lib.strCells, List.getElem?_map, List.getElem?_eq_getElem h', Option.map_some, List.getD_eq_getElem?_getD, Option.getD_some]
theorem Own.bs {e : TypeId} {w : World} {base : Nat} {v : Value} {s : ByteArray} (h : Own e w base v s) : BS w v s := by
  obtain ⟨h1, h2⟩ := h
  rcases h2 with ⟨rfl, h0⟩ | ⟨g, cap, cur, rfl, hb, hg, hn, hm, hs, ht⟩
  · rw [size0 h0]; exact BS.nil w
  · refine ⟨_, _, rfl, hn, hm, (fun h => by cases h), .inr ⟨g, 0, rfl, fun i hi => ?_⟩⟩
    rw [Nat.zero_add, blk_cell hg]
    have := strCells_get s i hi
    rw [← ht, List.getElem?_take] at this
    simpa [hi] using this
theorem Own.mine {e : TypeId} {w : World} {base : Nat} {v : Value} {s : ByteArray} (h : Own e w base v s) : Mine0 w base v s := by
  have hb := h.bs
  obtain ⟨h1, h2⟩ := h
  rcases h2 with ⟨rfl, h0⟩ | ⟨g, cap, cur, rfl, hbb, hg, hn, hm, hs, ht⟩
  · exact ⟨hb, .inl rfl⟩
  · exact ⟨hb, .inr ⟨g, cap, rfl, hbb, fun i hi => blk_frozen hg i⟩⟩
theorem Own.keep {e : TypeId} {w w' : World} {base : Nat} {v : Value} {s : ByteArray} {F : Nat → Prop} (h : Own e w base v s) (hk : Keep F w w') (hF : ∀ k, v.ownBlock = some k → ¬ F k) : Own e w' base v s := by
  refine ⟨h.1, ?_⟩
  rcases h.2 with hn | ⟨g, cap, cur, rfl, hb, hg, rest⟩
  · exact .inl hn
  · exact .inr ⟨g, cap, cur, rfl, hb, hk.blk hg (hF g rfl), rest⟩
theorem Own.below {e : TypeId} {w w' : World} {base : Nat} {v : Value} {s : ByteArray} (h : Own e w base v s) (hb : Below w.heap.size w w') : Own e w' base v s := h.keep (Keep.ofBelow hb (fun _ => False)) (fun _ _ hf => hf)
theorem Own.alloc {e : TypeId} {w : World} {base : Nat} {v : Value} {s : ByteArray} (h : Own e w base v s) (o : Obj) : Own e (w.alloc o) base v s := h.below ((Below.refl _ _).alloc (Nat.le_refl _) o)
theorem Own.size {e : TypeId} {w : World} {base : Nat} {v : Value} {s : ByteArray} (h : Own e w base v s) : ∃ a cap, v = .slice a s.size cap := h.bs.len
theorem keep_grown {w w' : World} {v : Value} (h : w.grownBy w' v.ownBlock) : Keep (fun i => v.ownBlock = some i) w w' :=
  ⟨h.os, h.tape, h.output, h.size, fun k hk hF => h.block k hk (fun e => hF e.symm)⟩
theorem Own.base_le {e : TypeId} {w : World} {base : Nat} {v : Value} {s : ByteArray} (h : Own e w base v s) : ∀ k, v.ownBlock = some k → base ≤ k ∧ k < w.heap.size := World.ownsRow.lt h
theorem Own.lower {e : TypeId} {w : World} {base base' : Nat} {v : Value} {s : ByteArray} (h : Own e w base v s) (hb : base' ≤ base) : Own e w base' v s := by
  refine ⟨h.1, ?_⟩
  rcases h.2 with hn | ⟨g, cap, cur, rfl, hbb, rest⟩
  · exact .inl hn
  · exact .inr ⟨g, cap, cur, rfl, Nat.le_trans hb hbb, rest⟩
/-- a literal of one byte -/
theorem Own.lit (e : TypeId) (w : World) (n : Int) (h0 : 0 ≤ n) (h1 : n < 256) : Own e (w.alloc (.cells #[.int .u8 n] e)) w.heap.size (.slice (some ⟨w.heap.size, 0, none⟩) 1 1) (bOne n) := by
  refine ⟨by rw [strCells_one n h0 h1]; rfl, .inr ⟨_, 1, #[.int .u8 n], rfl, Nat.le_refl _, blk_new _ _, Nat.le_refl _, by decide, rfl, ?_⟩⟩
  rw [strCells_one n h0 h1]
  rfl
/-- from v to v': what lay before stands, but for v's own row -/
structure Grows (w w' : World) (v v' : Value) : Prop where
  keep : Keep (fun i => v.ownBlock = some i) w w'
  at_ : v'.ownBlock = v.ownBlock ∨ ∃ b, v'.ownBlock = some b ∧ w.heap.size ≤ b
theorem Grows.refl (w : World) (v : Value) : Grows w w v v := ⟨Keep.refl _ _, .inl rfl⟩
theorem Grows.trans {a b c : World} {u v x : Value} (h : Grows a b u v) (k : Grows b c v x) : Grows a c u x := by
  refine ⟨h.keep.trans k.keep (fun i hi => ?_), ?_⟩
  · rcases h.at_ with h1 | ⟨g, h1, h2⟩
    · exact .inl (h1 ▸ hi)
    · rw [h1] at hi; cases hi; exact .inr h2
  · rcases k.at_ with h1 | ⟨g, h1, h2⟩
    · rw [h1]; exact h.at_
    · exact .inr ⟨g, h1, Nat.le_trans h.keep.size h2⟩
theorem Grows.below {w w' : World} {v v' : Value} (h : Grows w w' v v') {B : Nat} (hB : B ≤ w.heap.size) (hv : ∀ k, v.ownBlock = some k → B ≤ k) : Below B w w' := h.keep.below hB hv
theorem Grows.first {a b c : World} {v x : Value} (h : Keep (fun i => v.ownBlock = some i) a b) (k : Grows b c v x) : Grows a c v x :=
  Grows.trans ⟨h, .inl rfl⟩ k
theorem Grows.nil {w w' : World} {v' : Value} (h : Grows w w' (.slice none 0 0) v') : Below w.heap.size w w' := h.below (Nat.le_refl _) (fun k hk => by simp [Value.ownBlock] at hk)
theorem Own.litNone (e : TypeId) (w : World) : Own e (w.alloc (.cells #[] e)) w.heap.size (.slice (some ⟨w.heap.size, 0, none⟩) 0 0) ByteArray.empty :=
  ⟨rfl, .inr ⟨_, 0, #[], rfl, Nat.le_refl _, blk_new _ _, Nat.le_refl _, by decide, rfl, rfl⟩⟩
theorem BS.lit {w : World} {k : Nat} (h : w.heap.size = k) (e : TypeId) (s : ByteArray) (z : Nat × Nat) {c : Array Value} (hc : c = (Lib.strCells s).toArray) {n : Nat} (hn : n = s.size) (hm : s.size ≤ maxLen) :
    BS (w.alloc (.cells c e z)) (.slice (some ⟨k, 0, none⟩) n n) s := by
  subst hc; subst hn; subst h
  refine ⟨_, _, rfl, Nat.le_refl _, hm, (fun h => by cases h), .inr ⟨_, 0, rfl, fun i hi => ?_⟩⟩
  rw [Nat.zero_add, blk_cell (blk_new w _)]
  simpa using strCells_get s i hi
section
variable {P : Program} {ops : Array Oper} {rest : List Oper} {o : Oper} {a : Act} {Q : Exit → Act → World → Prop}
/-- b = append(b, x), x one byte -/
theorem wp_app_byte {W : World} (base : Nat) (hgd : o.guard = none) (sl x : Operand) (t e : TypeId) (ho : o.op = .call { callee := .builtin .append, args := #[sl, x], argTypes := #[t, t] })
    (ht : P.underlying t = some (.slice e)) (hinfo : (P.info? e).map (fun i => (i.zero, i.size, i.bytes)) = some (some (.int .u8 0), 1, 1))
    (v : Value) (s : ByteArray) (n : Int) (hs : a.eval sl = v) (hx : a.eval x = .slice (some ⟨W.heap.size, 0, none⟩) 1 1) (HO : Own e W base v s) (hbase : base ≤ W.heap.size)
    (hl : s.size + 1 ≤ 140737488355328) (h0 : 0 ≤ n) (h1 : n < 256)
    (h : ∀ v' w', Own e w' base v' (s ++ bOne n) → Grows W w' v v' → wpList P ops Q rest (a.put o.dst v') w') :
    wpList P ops Q (o :: rest) a (W.alloc (.cells #[.int .u8 n] e)) := by
  obtain ⟨i0, hi, hzz⟩ := Option.map_eq_some_iff.1 hinfo
  simp only [Prod.mk.injEq] at hzz
  obtain ⟨hz0, hz1, hz2⟩ := hzz
  refine wpList_append_own_at (W.alloc (.cells #[.int .u8 n] e)) hgd sl x t ho base e i0 (.int .u8 0) 1 1 ht hi hz0 hz1 hz2 rfl (by omega) v s.size (Lib.strCells s) hs (World.ownsRow.alloc HO _) ⟨W.heap.size, 0, none⟩ 1 1 [.int .u8 n] hx rfl
    (World.news_of_block (cs := #[.int .u8 n]) (t := e) (fr := (0, 0)) (heap_alloc_new W _)) (by simp [Value.oneCell']) (by simp only [maxLen]; omega) (by omega) (by simp; omega) ?_
  intro v1 w1 hown hg _ hat
  refine h v1 w1 ?_ ⟨?_, ?_⟩
  · show w1.ownsRow base e 1 v1 (s ++ bOne n).size (Lib.strCells (s ++ bOne n))
    rw [size_append, size_one, strCells_append, strCells_one n h0 h1]
    exact hown
  · exact ((Keep.refl _ W).alloc _).trans (keep_grown hg) (fun i hi => .inl hi)
  · rcases hat with hat | hat
    · exact .inl hat
    · exact .inr ⟨_, hat, by simp⟩
/-- b = append(b, x...), x a slice of bytes -/
theorem wp_app_bs {W : World} (base : Nat) (hgd : o.guard = none) (sl x : Operand) (t e : TypeId) (ho : o.op = .call { callee := .builtin .append, args := #[sl, x], argTypes := #[t, t] })
    (ht : P.underlying t = some (.slice e)) (hinfo : (P.info? e).map (fun i => (i.zero, i.size, i.bytes)) = some (some (.int .u8 0), 1, 1))
    (v y : Value) (s u : ByteArray) (hs : a.eval sl = v) (hx : a.eval x = y) (HO : Own e W base v s) (HY : BS W y u) (hbase : base ≤ W.heap.size)
    (hl : s.size + u.size ≤ 140737488355328)
    (h : ∀ v' w', Own e w' base v' (s ++ u) → Grows W w' v v' → wpList P ops Q rest (a.put o.dst v') w') :
    wpList P ops Q (o :: rest) a W := by
  obtain ⟨i0, hi, hzz⟩ := Option.map_eq_some_iff.1 hinfo
  simp only [Prod.mk.injEq] at hzz
  obtain ⟨hz0, hz1, hz2⟩ := hzz
  obtain ⟨ad, cap, rfl, hc, hm, hnn, hcase⟩ := HY
  rcases hcase with rfl | ⟨b, off, rfl, hcell⟩
  · cases ad with
    | none =>
      rw [hnn rfl] at hx
      refine wpList_append_own_none hgd sl x t ho base e i0 1 ht hi v s.size (Lib.strCells s) hs HO hx ?_
      exact h v W (by rw [append_empty]; exact HO) (Grows.refl _ _)
    | some ad =>
      refine wpList_append_own_at W hgd sl x t ho base e i0 (.int .u8 0) 1 1 ht hi hz0 hz1 hz2 rfl (by omega) v s.size (Lib.strCells s) hs HO ad 0 cap [] hx rfl (fun j x hj => by simp at hj) (fun u hu => by simp at hu) (by simp only [maxLen]; omega) (by omega) hbase ?_
      intro v1 w1 hown hg _ hat
      refine h v1 w1 (by rw [append_empty]; simpa [Own] using hown) ⟨keep_grown hg, ?_⟩
      rcases hat with hat | hat
      · exact .inl hat
      · exact .inr ⟨_, hat, Nat.le_refl _⟩
  · refine wpList_append_own_at W hgd sl x t ho base e i0 (.int .u8 0) 1 1 ht hi hz0 hz1 hz2 rfl (by omega) v s.size (Lib.strCells s) hs HO ⟨b, off, none⟩ u.size cap (Lib.strCells u) hx (by rw [Lib.strCells_length]; omega)
      (fun j x hj => ?_) (Lib.strCells_oneCell u) (by simp only [maxLen]; omega) (by omega) hbase ?_
    · have hju : j < u.size := by
        rw [← Lib.strCells_length u]
        rcases Nat.lt_or_ge j (Lib.strCells u).length with h' | h'
        · exact h'
        · rw [List.getElem?_eq_none h'] at hj; cases hj
      have hadd : (⟨b, off, none⟩ : Addr).add j = ⟨b, off + j, none⟩ := by unfold Addr.add; split <;> simp_all
      rw [hadd, hcell j hju]
      rw [strCells_get u j hju] at hj
      exact hj
    · intro v1 w1 hown hg _ hat
      refine h v1 w1 ?_ ⟨keep_grown hg, ?_⟩
      · show w1.ownsRow base e 1 v1 (s ++ u).size (Lib.strCells (s ++ u))
        rw [size_append, strCells_append]
        exact hown
      · rcases hat with hat | hat
        · exact .inl hat
        · exact .inr ⟨_, hat, Nat.le_refl _⟩
/-- b = append(b, s...), s a string -/
theorem wp_app_str {W : World} (base : Nat) (hgd : o.guard = none) (sl x : Operand) (t ty e : TypeId) (ho : o.op = .call { callee := .builtin .append, args := #[sl, x], argTypes := #[t, ty] })
    (ht : P.underlying t = some (.slice e)) (hu : P.underlying ty = some .string) (hinfo : (P.info? e).map (fun i => (i.zero, i.size, i.bytes)) = some (some (.int .u8 0), 1, 1))
    (v : Value) (s u : ByteArray) (hs : a.eval sl = v) (hx : a.eval x = .string u) (HO : Own e W base v s) (hbase : base ≤ W.heap.size)
    (hl : s.size + u.size ≤ 140737488355328)
    (h : ∀ v' w', Own e w' base v' (s ++ u) → Keep (fun i => v.ownBlock = some i) W w' → wpList P ops Q rest (a.put o.dst v') w') :
    wpList P ops Q (o :: rest) a W := by
  obtain ⟨i0, hi, hzz⟩ := Option.map_eq_some_iff.1 hinfo
  simp only [Prod.mk.injEq] at hzz
  obtain ⟨hz0, hz1, hz2⟩ := hzz
  refine Lib.wpList_append_own_string W hgd sl x t ty ho base e i0 ht hu hi hz0 hz1 hz2 v s.size (Lib.strCells s) hs HO u hx (by simp only [maxLen]; omega) hl hbase ?_
  intro v1 w1 hown hg _
  refine h v1 w1 ?_ (keep_grown hg)
  show w1.ownsRow base e 1 v1 (s ++ u).size (Lib.strCells (s ++ u))
  rw [size_append, strCells_append]
  exact hown
end
end Go.Proofs.YtidppalhjknlfaaDoor
