/- Memory words: what a call may change, byte slices that read as strings, maps of strings. No program in sight. Slices of bytes that the call owns: append. No program in sight. A map from ints to values, in the order in which the entries lie. No program in sight. -/
import Derived.WalkKit
import Derived.ProofKit
import Derived.Lib.Hide
import Derived.Lib.ConvBytes
import Derived.Laws.BytesArg
import Derived.Maps.RangeRun
import Derived.WalkSmall
import Derived.StillTailTactics
import Derived.Lib.AppendStr
import Derived.Laws.AppendOwnNone
import Derived.Maps.AppendAt
import Derived.Deep.AppendLies
import Derived.OwnWalk
namespace Go.Proofs.Ytlmngghkhnnaeaa
set_option linter.unusedVariables false
set_option linter.unusedSimpArgs false
open Go.RowKit
open Go.ChangeMaps (setBlock)

/-! ### what a call may change -/
/-- changed in blocks of F at most; new blocks may be there -/
structure Keep (F : Nat → Prop) (w w' : World) : Prop where
  os : w'.os = w.os
  tape : w'.tape = w.tape
  output : w'.output = w.output
  size : w.heap.size ≤ w'.heap.size
  block : ∀ k, k < w.heap.size → ¬ F k → w'.heap[k]? = w.heap[k]?
theorem Keep.refl (F : Nat → Prop) (w : World) : Keep F w w := ⟨rfl, rfl, rfl, Nat.le_refl _, fun _ _ _ => rfl⟩
theorem Keep.trans {F G : Nat → Prop} {a b c : World} (h : Keep F a b) (k : Keep G b c) (hG : ∀ i, G i → F i ∨ a.heap.size ≤ i) : Keep F a c :=
  ⟨k.os.trans h.os, k.tape.trans h.tape, k.output.trans h.output, Nat.le_trans h.size k.size, fun i hi hF =>
    (k.block i (Nat.lt_of_lt_of_le hi h.size) (fun hg => (hG i hg).elim hF (fun h' => by omega))).trans (h.block i hi hF)⟩
theorem Keep.mono {F G : Nat → Prop} {a b : World} (h : Keep F a b) (hG : ∀ i, F i → G i) : Keep G a b :=
  ⟨h.os, h.tape, h.output, h.size, fun i hi hF => h.block i hi (fun hf => hF (hG i hf))⟩
theorem Keep.ofBelow {w w' : World} (h : Below w.heap.size w w') (F : Nat → Prop) : Keep F w w' := ⟨h.os, h.tape, h.output, h.size, fun i hi _ => h.block i hi⟩
theorem Keep.below {F : Nat → Prop} {w w' : World} (h : Keep F w w') {B : Nat} (hB : B ≤ w.heap.size) (hF : ∀ i, F i → B ≤ i) : Below B w w' :=
  ⟨h.os, h.tape, h.output, h.size, fun i hi => h.block i (by omega) (fun hf => by have := hF i hf; omega)⟩
theorem Keep.alloc {F : Nat → Prop} {a w : World} (h : Keep F a w) (o : Obj) : Keep F a (w.alloc o) :=
  h.trans (Keep.ofBelow ((Below.refl _ _).alloc (Nat.le_refl _) o) F) (fun _ h => .inl h)
theorem Keep.drewN {F : Nat → Prop} {a w : World} (h : Keep F a w) (n : Nat) : Keep F a (w.drewN n) := ⟨h.os, h.tape, h.output, h.size, h.block⟩
theorem Keep.drew {F : Nat → Prop} {a w : World} (h : Keep F a w) : Keep F a w.drew := ⟨h.os, h.tape, h.output, h.size, h.block⟩
theorem Keep.setCell {F : Nat → Prop} {a w : World} (h : Keep F a w) {p : Addr} (hp : F p.block ∨ a.heap.size ≤ p.block) (u : Value) : Keep F a (w.setCell p u) :=
  h.trans (G := fun i => i = p.block) ⟨rfl, rfl, rfl, by simp [World.setCell], fun i _ hi => Below.heap_setCell _ _ _ _ hi⟩ (fun i hi => by subst hi; exact hp)
theorem keep_drewN (F : Nat → Prop) (w : World) (n : Nat) : Keep F w (w.drewN n) := (Keep.refl F w).drewN n
theorem heap_setBlock_ne (w : World) (b : Nat) (o : Obj) (k : Nat) (h : k ≠ b) : (setBlock w b o).heap[k]? = w.heap[k]? := by
  simp only [setBlock]
  rw [Array.getElem?_setIfInBounds_ne (by omega)]
theorem heap_setBlock_eq (w : World) (b : Nat) (o : Obj) (h : b < w.heap.size) : (setBlock w b o).heap[b]? = some o := by
  simp only [setBlock]
  rw [Array.getElem?_setIfInBounds_self_of_lt h]
theorem size_setBlock (w : World) (b : Nat) (o : Obj) : (setBlock w b o).heap.size = w.heap.size := by simp [setBlock]
theorem Keep.setBlock {F : Nat → Prop} {a w : World} (h : Keep F a w) {b : Nat} (hb : F b ∨ a.heap.size ≤ b) (o : Obj) : Keep F a (ChangeMaps.setBlock w b o) :=
  h.trans (G := fun i => i = b) ⟨rfl, rfl, rfl, by simp [ChangeMaps.setBlock], fun i _ hi => heap_setBlock_ne _ _ _ _ hi⟩ (fun i hi => by subst hi; exact hb)
theorem Keep.blk {F : Nat → Prop} {w w' : World} (h : Keep F w w') {b : Nat} {o : Obj} (hb : w.heap[b]? = some o) (hF : ¬ F b) : w'.heap[b]? = some o :=
  (h.block b (Array.getElem?_eq_some_iff.1 hb).1 hF).trans hb
theorem Keep.cell {F : Nat → Prop} {w w' : World} (h : Keep F w w') {a : Addr} {v : Value} (hc : w.cell? a = some v) (hF : ¬ F a.block) : w'.cell? a = some v :=
  (World.cell?_of_block (h.block a.block (World.block_lt_of_cell? w a hc) hF)).trans hc
theorem blk_lt {w : World} {b : Nat} {o : Obj} (h : w.heap[b]? = some o) : b < w.heap.size := (Array.getElem?_eq_some_iff.1 h).1
theorem blk_alloc {w : World} {b : Nat} {o : Obj} (h : w.heap[b]? = some o) (x : Obj) : (w.alloc x).heap[b]? = some o := (Below.heap_alloc w x b (blk_lt h)).trans h
theorem blk_new (w : World) (o : Obj) : (w.alloc o).heap[w.heap.size]? = some o := heap_alloc_new w o
theorem blk_newAt {w : World} {k : Nat} (h : w.heap.size = k) (o : Obj) : (w.alloc o).heap[k]? = some o := by subst h; exact blk_new w o
theorem blk_cell {w : World} {b : Nat} {c : Array Value} {e : TypeId} {z : Nat × Nat} (h : w.heap[b]? = some (.cells c e z)) (i : Nat) : w.cell? ⟨b, i, none⟩ = c[i]? := by simp [World.cell?, h]
theorem blk_setCell {w : World} {b : Nat} {c : Array Value} {e : TypeId} {z : Nat × Nat} (h : w.heap[b]? = some (.cells c e z)) (i : Nat) (u : Value) : (w.setCell ⟨b, i, none⟩ u).heap[b]? = some (.cells (c.setIfInBounds i u) e z) := by
  simp [World.setCell, Array.getElem?_modify, h]
theorem blk_frozen {w : World} {b : Nat} {c : Array Value} {e : TypeId} (h : w.heap[b]? = some (.cells c e (0, 0))) (i : Nat) : w.frozen? ⟨b, i, none⟩ = false := by simp [World.frozen?, h]

theorem below_then {B : Nat} {a b c : World} (h : Below B a b) (hB : B ≤ a.heap.size) (k : Below b.heap.size b c) : Below B a c := h.trans (k.mono (Nat.le_trans hB h.size))
theorem below_and {a b c : World} (h : Below a.heap.size a b) (k : Below b.heap.size b c) : Below a.heap.size a c := below_then h (Nat.le_refl _) k
theorem below_drewN_of (w : World) (n : Nat) : Below w.heap.size w (w.drewN n) := below_drewN (Below.refl _ _) n

/-- reads and quiet calls in whatever order, then the region's tail, in a world with one draw more -/
theorem still_tail {P : Program} {id : Nat} {Q : Exit → Act → World → Prop} {a : Act} {w : World} {l : List Oper} (n : Nat) (hm : P.follows .mixedOrders = true) (hB : Region.lexTailB .any l.toArray n = true)
    (h : wpStill P l.toArray (w.drewN 1) (fun a' => wpList P l.toArray Q (l.drop n) a' (w.drewN 1)) (l.take n) a) : (Code.region id l.toArray true).wp P Q a w :=
  wp_region_still_tail n hm hB h

/-! ### byte slices -/
/-- v is a slice of bytes that reads as s -/
def BS (w : World) (v : Value) (s : ByteArray) : Prop :=
  ∃ a cap, v = .slice a s.size cap ∧ s.size ≤ cap ∧ cap ≤ maxLen ∧ (a = none → cap = 0) ∧
    (s = ByteArray.empty ∨ ∃ b off, a = some ⟨b, off, none⟩ ∧ ∀ i, i < s.size → w.cell? ⟨b, off + i, none⟩ = some (.int .u8 (s.data.toList.getD i 0).toNat))
theorem BS.nil (w : World) : BS w (.slice none 0 0) ByteArray.empty := ⟨none, 0, rfl, Nat.zero_le _, by decide, fun _ => rfl, .inl rfl⟩
theorem size0 {s : ByteArray} (h : s.size = 0) : s = ByteArray.empty := by
  cases s with
  | mk d => simp [ByteArray.size] at h; subst h; rfl
theorem BS.keep {F : Nat → Prop} {w w' : World} {v : Value} {s : ByteArray} (h : BS w v s) (hk : Keep F w w') (hF : ∀ b o x, w.cell? ⟨b, o, none⟩ = some (.int .u8 x) → ¬ F b) : BS w' v s := by
  obtain ⟨a, cap, rfl, hc, hm, hn, hx⟩ := h
  refine ⟨a, cap, rfl, hc, hm, hn, ?_⟩
  rcases hx with h0 | ⟨b, off, rfl, hcell⟩
  · exact .inl h0
  · exact .inr ⟨b, off, rfl, fun i hi => hk.cell (hcell i hi) (hF b _ _ (hcell i hi))⟩
theorem BS.below {w w' : World} {v : Value} {s : ByteArray} (h : BS w v s) (hb : Below w.heap.size w w') : BS w' v s :=
  h.keep (Keep.ofBelow hb (fun _ => False)) (fun _ _ _ _ hf => hf)
theorem BS.alloc {w : World} {v : Value} {s : ByteArray} (h : BS w v s) (o : Obj) : BS (w.alloc o) v s := h.below ((Below.refl _ _).alloc (Nat.le_refl _) o)
theorem BS.drewN {w : World} {v : Value} {s : ByteArray} (h : BS w v s) (n : Nat) : BS (w.drewN n) v s := h
theorem BS.drew {w : World} {v : Value} {s : ByteArray} (h : BS w v s) : BS w.drew v s := h
theorem strOfNums_getD (s : ByteArray) : strOfNums (s.data.toList.map fun b => (b.toNat : Int)) = s := by
  unfold strOfNums
  have e : (List.map (fun n : Int => UInt8.ofNat n.toNat) (s.data.toList.map fun b => (b.toNat : Int))) = s.data.toList := by
    rw [List.map_map]
    conv => rhs; rw [← List.map_id s.data.toList]
    apply List.map_congr_left
    intro b _
    simp
  rw [e]
theorem data_len (s : ByteArray) : s.data.toList.length = s.size := by rw [Array.length_toList]; rfl
/-- string(b) -/
theorem BS.string {P : Program} {w : World} {v : Value} {s : ByteArray} (h : BS w v s) (src e dst : TypeId) (hs : P.underlying src = some (.slice e)) (he : P.underlying e = some (.int .u8)) (hd : P.underlying dst = some .string) :
    (convert src dst v).run P w = .ok (.string s) w := by
  obtain ⟨a, cap, rfl, hc, hm, hn, hx⟩ := h
  rcases hx with rfl | ⟨b, off, rfl, hcell⟩
  · cases a with
    | none => exact run_convert_bytes_nil w src e hs he _ _ dst hd
    | some x =>
      rw [show ByteArray.empty.size = 0 from rfl, run_convert_bytes_string w src dst e _ _ _ hs he hd]
      have := run_bytesToString (P := P) w x 0 cap [] rfl
      exact this
  · have := run_convert_bytes_arg w src e hs he b off s.size cap (s.data.toList.map fun b => (b.toNat : Int)) (by rw [List.length_map, data_len]) (fun i hi => by
      rw [hcell i hi]
      have hi' : i < s.data.toList.length := by rw [data_len]; exact hi
      simp only [List.getD_eq_getElem?_getD, List.getElem?_map, List.getElem?_eq_getElem hi', Option.map_some, Option.getD_some]) dst hd
    rw [strOfNums_getD] at this
    exact this
/-- []byte(s) -/
theorem BS.bytes (w : World) (e : TypeId) (s : ByteArray) (hs : s.size ≤ 9223372036854775807) : BS (Lib.bytesWorld w e s) (.slice (some ⟨w.heap.size, 0, none⟩) s.size (grownCap w s.size 0 e)) s := by
  have hm : s.size ≤ maxLen := by unfold maxLen; exact hs
  exact ⟨_, _, rfl, grownCap_ge _ _ _ _, grownCap_le_maxLen _ _ _ _ hm, (fun h => by cases h), .inr ⟨_, 0, rfl, fun i hi => by rw [Nat.zero_add]; exact Lib.bytesWorld_cell w e s i hi⟩⟩
theorem bytes_below (w : World) (e : TypeId) (s : ByteArray) : Below w.heap.size w (Lib.bytesWorld w e s) :=
  ⟨rfl, rfl, rfl, by rw [Lib.bytesWorld_size]; omega, fun k hk => Lib.bytesWorld_at_old w e s k hk⟩
theorem BS.len {w : World} {v : Value} {s : ByteArray} (h : BS w v s) : ∃ a cap, v = .slice a s.size cap := by
  obtain ⟨a, cap, rfl, _⟩ := h; exact ⟨a, cap, rfl⟩

theorem BS.len2 {w : World} {v : Value} {s : ByteArray} (h : BS w v s) {n : Nat} (hn : s.size = n) : ∃ a cap, v = .slice a n cap ∧ n ≤ cap ∧ cap ≤ 9223372036854775807 := by
  obtain ⟨a, cap, rfl, h1, h2, _⟩ := h
  subst hn
  exact ⟨a, cap, rfl, h1, by unfold maxLen at h2; omega⟩
theorem BS.lenRun {P : Program} {w : World} {v : Value} {s : ByteArray} (h : BS w v s) {t e : TypeId} (ht : P.underlying t = some (.slice e)) (ty : TypeId) (w' : World) : (Builtin.len_ #[t] ty #[v]).run P w' = .ok (.int .i64 s.size) w' := by
  obtain ⟨a, cap, rfl, _⟩ := h
  simp [Builtin.len_, run_underlying ht, Result.andThen, goInt]
/-- a slice in memory that the call made -/
def Mine0 (w : World) (base : Nat) (v : Value) (s : ByteArray) : Prop :=
  BS w v s ∧ (v = .slice none 0 0 ∨ ∃ b c, v = .slice (some ⟨b, 0, none⟩) s.size c ∧ base ≤ b ∧ ∀ i, i < s.size → w.frozen? ⟨b, i, none⟩ = false)

/-! ### pairs in the order in which they lie -/
abbrev AL := List (ByteArray × ByteArray)
def AL.pos (k : ByteArray) : AL → Option Nat
  | [] => none
  | p :: l => if k = p.1 then some 0 else (AL.pos k l).map (· + 1)
def AL.get (k : ByteArray) : AL → Option ByteArray
  | [] => none
  | p :: l => if k = p.1 then some p.2 else AL.get k l
def AL.put (k v : ByteArray) : AL → AL
  | [] => [(k, v)]
  | p :: l => if k = p.1 then (k, v) :: l else p :: AL.put k v l
def AL.del (k : ByteArray) : AL → AL
  | [] => []
  | p :: l => if k = p.1 then l else p :: AL.del k l
def KVs (es : List MapEntry) (l : AL) : Prop := es.map (fun e => (e.key, e.val)) = l.map (fun p => (Value.string p.1, Value.string p.2))
theorem KVs.nil : KVs [] [] := rfl
theorem KVs.cons {e : MapEntry} {es : List MapEntry} {l : AL} (h : KVs (e :: es) l) : ∃ p r, l = p :: r ∧ e.key = .string p.1 ∧ e.val = .string p.2 ∧ KVs es r := by
  unfold KVs at h
  cases l with
  | nil => simp at h
  | cons p r =>
    simp only [List.map_cons, List.cons.injEq, Prod.mk.injEq] at h
    exact ⟨p, r, rfl, h.1.1, h.1.2, h.2⟩
theorem KVs.mk {e : MapEntry} {es : List MapEntry} {l : AL} {p : ByteArray × ByteArray} (h1 : e.key = .string p.1) (h2 : e.val = .string p.2) (h : KVs es l) : KVs (e :: es) (p :: l) := by
  unfold KVs at *
  simp [h1, h2, h]
theorem find_run (k : ByteArray) : ∀ (es : List MapEntry) (l : AL) (i : Nat), KVs es l →
    Instr.findNow .string (.string k) es i = some (match AL.pos k l with | none => none | some j => some (i + j, .string ((AL.get k l).getD ByteArray.empty)))
  | [], l, i, h => by
    have : l = [] := by unfold KVs at h; simpa using h.symm
    subst this; rfl
  | e :: es, l, i, h => by
    obtain ⟨p, r, rfl, h1, h2, h3⟩ := h.cons
    have ih := find_run k es r (i + 1) h3
    by_cases hk : k = p.1
    · have hb : (k == p.1) = true := (MapKept.bytes_beq _ _).2 hk
      simp only [Instr.findNow, h1, Instr.sameNow, hb, AL.pos, AL.get, if_pos hk, h2, Option.getD_some, Nat.add_zero]
    · have hb : (k == p.1) = false := by cases hx : k == p.1 with
        | false => rfl
        | true => exact absurd ((MapKept.bytes_beq _ _).1 hx) hk
      simp only [Instr.findNow, h1, Instr.sameNow, hb, AL.pos, AL.get, if_neg hk, ih]
      cases AL.pos k r with
      | none => rfl
      | some j => simp; omega
theorem pos_get (k : ByteArray) : ∀ l : AL, (AL.pos k l).isSome = (AL.get k l).isSome
  | [] => rfl
  | p :: l => by
    by_cases h : k = p.1
    · simp [AL.pos, AL.get, h]
    · simp [AL.pos, AL.get, h, pos_get k l]
theorem put_kvs (k v : ByteArray) : ∀ (es : List MapEntry) (l : AL) (j : Nat), KVs es l → AL.pos k l = some j →
    KVs (es.modify j fun e => { e with key := .string k, val := .string v }) (AL.put k v l)
  | [], l, j, h, hj => by
    have : l = [] := by unfold KVs at h; simpa using h.symm
    subst this; simp [AL.pos] at hj
  | e :: es, l, j, h, hj => by
    obtain ⟨p, r, rfl, h1, h2, h3⟩ := h.cons
    by_cases hk : k = p.1
    · simp only [AL.pos, if_pos hk, Option.some.injEq] at hj
      subst hj
      simp only [AL.put, if_pos hk]
      exact KVs.mk rfl rfl h3
    · simp only [AL.pos, if_neg hk, Option.map_eq_some_iff] at hj
      obtain ⟨j', hj', rfl⟩ := hj
      simp only [AL.put, if_neg hk, List.modify_succ_cons]
      exact KVs.mk h1 h2 (put_kvs k v es r j' h3 hj')
theorem put_new_kvs (k v : ByteArray) (c : Nat) : ∀ (es : List MapEntry) (l : AL), KVs es l → AL.pos k l = none →
    KVs (es ++ [{ key := .string k, val := .string v, born := c }]) (AL.put k v l)
  | [], l, h, _ => by
    have : l = [] := by unfold KVs at h; simpa using h.symm
    subst this; rfl
  | e :: es, l, h, hj => by
    obtain ⟨p, r, rfl, h1, h2, h3⟩ := h.cons
    by_cases hk : k = p.1
    · simp [AL.pos, hk] at hj
    · simp only [AL.pos, if_neg hk, Option.map_eq_none_iff] at hj
      simp only [AL.put, if_neg hk, List.cons_append]
      exact KVs.mk h1 h2 (put_new_kvs k v c es r h3 hj)
theorem del_kvs (k : ByteArray) : ∀ (es : List MapEntry) (l : AL) (j : Nat), KVs es l → AL.pos k l = some j → KVs (es.eraseIdx j) (AL.del k l)
  | [], l, j, h, hj => by
    have : l = [] := by unfold KVs at h; simpa using h.symm
    subst this; simp [AL.pos] at hj
  | e :: es, l, j, h, hj => by
    obtain ⟨p, r, rfl, h1, h2, h3⟩ := h.cons
    by_cases hk : k = p.1
    · simp only [AL.pos, if_pos hk, Option.some.injEq] at hj
      subst hj
      simpa [AL.del, hk] using h3
    · simp only [AL.pos, if_neg hk, Option.map_eq_some_iff] at hj
      obtain ⟨j', hj', rfl⟩ := hj
      simp only [AL.del, if_neg hk, List.eraseIdx_cons_succ]
      exact KVs.mk h1 h2 (del_kvs k es r j' h3 hj')
theorem del_none (k : ByteArray) : ∀ (l : AL), AL.pos k l = none → AL.del k l = l
  | [], _ => rfl
  | p :: l, h => by
    by_cases hk : k = p.1
    · simp [AL.pos, hk] at h
    · simp only [AL.pos, if_neg hk, Option.map_eq_none_iff] at h
      simp [AL.del, hk, del_none k l h]

/-! ### a map of strings -/
/-- block b is a map whose pairs are l, in the order in which they lie -/
def MapAt (w : World) (b : Nat) (l : AL) : Prop :=
  ∃ es clock, w.heap[b]? = some (.map es clock) ∧ KVs es.toList l ∧ (es.toList.map (·.born)).Pairwise (· < ·) ∧ ∀ e ∈ es.toList, e.born < clock
theorem MapAt.keep {F : Nat → Prop} {w w' : World} {b : Nat} {l : AL} (h : MapAt w b l) (hk : Keep F w w') (hF : ¬ F b) : MapAt w' b l := by
  obtain ⟨es, c, h1, h2⟩ := h
  exact ⟨es, c, hk.blk h1 hF, h2⟩
theorem MapAt.lt {w : World} {b : Nat} {l : AL} (h : MapAt w b l) : b < w.heap.size := by
  obtain ⟨es, c, h1, _⟩ := h; exact blk_lt h1
theorem MapAt.nocell {w : World} {b : Nat} {l : AL} (h : MapAt w b l) (o : Nat) : w.cell? ⟨b, o, none⟩ = none := by
  obtain ⟨es, c, h1, _⟩ := h; simp [World.cell?, h1]
theorem MapAt.alloc {w : World} {b : Nat} {l : AL} (h : MapAt w b l) (o : Obj) : MapAt (w.alloc o) b l := h.keep (Keep.ofBelow ((Below.refl _ _).alloc (Nat.le_refl _) o) (fun _ => False)) (fun h => h)
theorem MapAt.madeAt {w : World} {k : Nat} (h : w.heap.size = k) : MapAt (w.alloc (.map #[] 0)) k [] := by subst h; exact ⟨#[], 0, blk_new w _, rfl, by simp, by simp⟩
theorem MapAt.made (w : World) : MapAt (w.alloc (.map #[] 0)) w.heap.size [] := ⟨#[], 0, blk_new w _, rfl, by simp, by simp⟩
def mapGetV (l : AL) (k : ByteArray) : Value := .tuple #[.string ((AL.get k l).getD ByteArray.empty), .bool (AL.get k l).isSome]
section
variable {P : Program} {w : World} {b : Nat} {l : AL} {t kt et : TypeId}
theorem checkKey_str (hk : P.underlying kt = some .string) (em : Bool) (k : ByteArray) (w : World) : (Instr.checkKey em 10000 kt (.string k)).run P w = .ok () w := by
  show (Instr.checkKey em (9999 + 1) kt (.string k)).run P w = .ok () w
  generalize 9999 = n
  simp [Instr.checkKey, run_underlying hk, Result.andThen]
theorem findKey_str (hk : P.underlying kt = some .string) (k : ByteArray) (es : List MapEntry) (w : World) (h : KVs es l) :
    (Instr.findKey kt (.string k) es).run P w = .ok (match AL.pos k l with | none => none | some j => some (j, .string ((AL.get k l).getD ByteArray.empty))) w := by
  have := find_run k es l 0 h
  simp [Instr.findKey, run_underlying hk, Result.andThen, this]
theorem MapAt.lookup_ok (h : MapAt w b l) (ht : P.underlying t = some (.map kt et)) (hk : P.underlying kt = some .string) (hz : ∀ w, (zeroValue et).run P w = .ok (.string ByteArray.empty) w) (k : ByteArray) :
    (Instr.lookup t (.map (some b)) (.string k) true).run P w = .ok (mapGetV l k) w := by
  obtain ⟨es, c, h1, h2, h3, h4⟩ := h
  have hg : (getObj b).run P w = .ok (.map es c) w := by simp [getObj, Sem.run, h1]
  have hf := findKey_str (P := P) (kt := kt) hk k es.toList w h2
  have hp := pos_get k l
  simp only [Instr.lookup, Sem.run_bind, run_underlying ht, Result.andThen, hg, checkKey_str hk, Sem.run_pure]
  rw [hf]
  cases hpos : AL.pos k l with
  | none =>
    rw [hpos] at hp
    have hn : AL.get k l = none := by cases hx : AL.get k l with
      | none => rfl
      | some x => rw [hx] at hp; simp at hp
    simp [hz, Result.andThen, mapGetV, hn]
  | some j =>
    rw [hpos] at hp
    obtain ⟨v, hv⟩ : ∃ v, AL.get k l = some v := by cases hx : AL.get k l with
      | none => rw [hx] at hp; simp at hp
      | some x => exact ⟨x, rfl⟩
    simp [Result.andThen, mapGetV, hv]
theorem MapAt.lookup (h : MapAt w b l) (ht : P.underlying t = some (.map kt et)) (hk : P.underlying kt = some .string) (hz : ∀ w, (zeroValue et).run P w = .ok (.string ByteArray.empty) w) (k : ByteArray) :
    (Instr.lookup t (.map (some b)) (.string k) false).run P w = .ok (.string ((AL.get k l).getD ByteArray.empty)) w := by
  obtain ⟨es, c, h1, h2, h3, h4⟩ := h
  have hg : (getObj b).run P w = .ok (.map es c) w := by simp [getObj, Sem.run, h1]
  have hf := findKey_str (P := P) (kt := kt) hk k es.toList w h2
  have hp := pos_get k l
  simp only [Instr.lookup, Sem.run_bind, run_underlying ht, Result.andThen, hg, checkKey_str hk, Sem.run_pure]
  rw [hf]
  cases hpos : AL.pos k l with
  | none =>
    rw [hpos] at hp
    have hn : AL.get k l = none := by cases hx : AL.get k l with
      | none => rfl
      | some x => rw [hx] at hp; simp at hp
    simp [hz, Result.andThen, hn]
  | some j =>
    rw [hpos] at hp
    obtain ⟨v, hv⟩ : ∃ v, AL.get k l = some v := by cases hx : AL.get k l with
      | none => rw [hx] at hp; simp at hp
      | some x => exact ⟨x, rfl⟩
    simp [Result.andThen, hv]
theorem setObj_run {es : Array MapEntry} {c : Nat} (hb : w.heap[b]? = some (.map es c)) (x : Obj) : (setObj b x).run P w = .ok () (setBlock w b x) := by
  simp [setObj, Sem.run, setBlock, hb]
theorem MapAt.set {o : Obj} (hb : w.heap[b]? = some o) {es : Array MapEntry} {c : Nat} {l : AL} (h2 : KVs es.toList l) (h3 : (es.toList.map (·.born)).Pairwise (· < ·)) (h4 : ∀ e ∈ es.toList, e.born < c) : MapAt (setBlock w b (.map es c)) b l :=
  ⟨es, c, heap_setBlock_eq _ _ _ (blk_lt hb), h2, h3, h4⟩
theorem modify_born (f : MapEntry → MapEntry) (hf : ∀ e, (f e).born = e.born) : ∀ (es : List MapEntry) (j : Nat), (es.modify j f).map (·.born) = es.map (·.born)
  | [], j => by simp
  | e :: es, 0 => by simp [hf]
  | e :: es, j + 1 => by simp [modify_born f hf es j]
theorem MapAt.update (h : MapAt w b l) (ht : P.underlying t = some (.map kt et)) (hk : P.underlying kt = some .string) (k v : ByteArray) :
    ∃ w', (Instr.mapUpdate t (.map (some b)) (.string k) (.string v)).run P w = .ok () w' ∧ MapAt w' b (AL.put k v l) ∧ ∀ a, Keep (fun i => i = b) a w → Keep (fun i => i = b) a w' := by
  obtain ⟨es, c, h1, h2, h3, h4⟩ := h
  have hg : (getObj b).run P w = .ok (.map es c) w := by simp [getObj, Sem.run, h1]
  have hf := findKey_str (P := P) (kt := kt) hk k es.toList w h2
  simp only [Instr.mapUpdate, Sem.run_bind, run_underlying ht, Result.andThen, hg, checkKey_str hk, hf]
  cases hpos : AL.pos k l with
  | none =>
    refine ⟨_, setObj_run h1 _, MapAt.set h1 ?_ ?_ ?_, fun a ha => ha.setBlock (.inl rfl) _⟩
    · simpa using put_new_kvs k v c es.toList l h2 hpos
    · simp only [Array.toList_push, List.map_append, List.map_cons, List.map_nil]
      refine List.pairwise_append.2 ⟨h3, by simp, ?_⟩
      intro x hx y hy
      simp only [List.mem_singleton] at hy
      subst hy
      obtain ⟨e, he, rfl⟩ := List.mem_map.1 hx
      exact h4 e he
    · intro e he
      simp only [Array.toList_push, List.mem_append, List.mem_singleton] at he
      rcases he with he | rfl
      · have := h4 e he; omega
      · show c < c + 1; omega
  | some j =>
    have hst : ∀ old : Value, old = .string k → (Instr.keyThatStays old (.string k)).run P w = .ok (.string k) w := by
      intro old ho; subst ho
      have : Instr.sameBits 10000 (.string k) (.string k) = true := by
        show (k == k) = true
        exact (MapKept.bytes_beq _ _).2 rfl
      simp [Instr.keyThatStays, this]
    have hold : (((es[j]?).map (·.key)).getD (.string k)) = .string k := by
      have aux : ∀ (es : List MapEntry) (l : AL) (j : Nat), KVs es l → AL.pos k l = some j → (((es[j]?).map (·.key)).getD (.string k)) = .string k := by
        intro es
        induction es with
        | nil => intro l j _ _; rfl
        | cons e es ih =>
          intro l j h hj
          obtain ⟨p, r, rfl, g1, g2, g3⟩ := h.cons
          by_cases hkp : k = p.1
          · simp only [AL.pos, if_pos hkp, Option.some.injEq] at hj
            subst hj
            simp [g1, hkp]
          · simp only [AL.pos, if_neg hkp, Option.map_eq_some_iff] at hj
            obtain ⟨j', hj', rfl⟩ := hj
            simpa using ih r j' g3 hj'
      simpa using aux es.toList l j h2 hpos
    simp only [Sem.run_bind, hold, hst _ rfl, Result.andThen]
    refine ⟨_, setObj_run h1 _, MapAt.set h1 ?_ ?_ ?_, fun a ha => ha.setBlock (.inl rfl) _⟩
    · simpa using put_kvs k v es.toList l j h2 hpos
    · simp only [Array.toList_modify]
      rw [modify_born (fun e => { e with key := Value.string k, val := Value.string v }) (fun _ => rfl)]; exact h3
    · intro e he
      simp only [Array.toList_modify] at he
      have : e.born ∈ (es.toList.map (·.born)) := by
        rw [← modify_born (fun e => { e with key := Value.string k, val := Value.string v }) (fun _ => rfl) es.toList j]
        exact List.mem_map.2 ⟨e, he, rfl⟩
      obtain ⟨e', he', hb'⟩ := List.mem_map.1 this
      have := h4 e' he'
      omega
theorem MapAt.delete {ty : TypeId} (h : MapAt w b l) (ht : P.underlying t = some (.map kt et)) (hk : P.underlying kt = some .string) (k : ByteArray) :
    ∃ w', (Builtin.delete_ #[t, kt] ty #[.map (some b), .string k]).run P w = .ok (.tuple #[]) w' ∧ MapAt w' b (AL.del k l) ∧ ∀ a, Keep (fun i => i = b) a w → Keep (fun i => i = b) a w' := by
  obtain ⟨es, c, h1, h2, h3, h4⟩ := h
  have hg : (getObj b).run P w = .ok (.map es c) w := by simp [getObj, Sem.run, h1]
  have hf := findKey_str (P := P) (kt := kt) hk k es.toList w h2
  cases hpos : AL.pos k l with
  | none =>
    rw [hpos] at hf
    refine ⟨setBlock w b (.map es c), ?_, ?_, fun a ha => ha.setBlock (.inl rfl) _⟩
    · simp [Builtin.delete_, run_underlying ht, Result.andThen, hg, checkKey_str hk, hf, setObj_run h1]
    · rw [del_none k l hpos]
      exact MapAt.set h1 h2 h3 h4
  | some j =>
    rw [hpos] at hf
    refine ⟨setBlock w b (.map (es.eraseIdxIfInBounds j) c), ?_, ?_, fun a ha => ha.setBlock (.inl rfl) _⟩
    · simp [Builtin.delete_, run_underlying ht, Result.andThen, hg, checkKey_str hk, hf, setObj_run h1]
    · have e1 : (es.eraseIdxIfInBounds j).toList = es.toList.eraseIdx j := by simp
      refine MapAt.set h1 ?_ ?_ ?_
      · rw [e1]; exact del_kvs k es.toList l j h2 hpos
      · rw [e1, ChangeMaps.map_eraseIdx]
        exact h3.sublist (List.eraseIdx_sublist _ _)
      · intro e he
        rw [e1] at he
        exact h4 e (List.mem_of_mem_eraseIdx he)
theorem MapAt.clone (h : MapAt w b l) (u : TypeId) : ∃ o, (Extern.MapsClone.clone #[.iface u (.map (some b))]).run P w = .ok (.iface u (.map (some w.heap.size))) (w.alloc o) ∧ MapAt (w.alloc o) w.heap.size l := by
  obtain ⟨es, c, h1, h2, h3, h4⟩ := h
  have hg : (getObj b).run P w = .ok (.map es c) w := by simp [getObj, Sem.run, h1]
  refine ⟨.map es c, ?_, ⟨es, c, blk_new w _, h2, h3, h4⟩⟩
  have e : Extern.MapsClone.clone #[.iface u (.map (some b))] = (do
    let .map entries clock ← getObj b | stuck "maps.clone: a map expected"
    pure (.iface u (.map (some (← newObj (.map entries clock)))))) := rfl
  rw [e]
  simp [Result.andThen, hg, newObj, -World.alloc_eq]
  simp [Sem.run, World.alloc, -World.alloc_eq]
theorem MapAt.len (h : MapAt w b l) (ht : P.underlying t = some (.map kt et)) (ty : TypeId) : (Builtin.len_ #[t] ty #[.map (some b)]).run P w = .ok (.int .i64 l.length) w := by
  obtain ⟨es, c, h1, h2, h3, h4⟩ := h
  have hg : (getObj b).run P w = .ok (.map es c) w := by simp [getObj, Sem.run, h1]
  have : es.size = l.length := by
    have := congrArg List.length h2
    simpa using this
  simp [Builtin.len_, run_underlying ht, Result.andThen, hg, this, goInt]
end
end Go.Proofs.Ytlmngghkhnnaeaa
namespace Go.Proofs.Ytlmngghkhnnaeaa
set_option linter.unusedVariables false
set_option linter.unusedSimpArgs false
open Go.RowKit
theorem data_append_getD (s u : ByteArray) (i : Nat) (h : i < s.size) : (s ++ u).data.toList.getD i 0 = s.data.toList.getD i 0 := by
  have h' : i < s.data.toList.length := by rw [data_len]; exact h
  have e : (s ++ u).data.toList = s.data.toList ++ u.data.toList := by simp [ByteArray.data_append]
  rw [e, List.getD_eq_getElem?_getD, List.getD_eq_getElem?_getD, List.getElem?_append_left h']
theorem BS.front {w : World} {a : Option Addr} {n c : Nat} {s u : ByteArray} (h : BS w (.slice a n c) (s ++ u)) : BS w (.slice a s.size c) s := by
  obtain ⟨a', c', he, h1, h2, hn, h3⟩ := h
  simp only [Value.slice.injEq] at he
  obtain ⟨rfl, rfl, rfl⟩ := he
  have hsz : (s ++ u).size = s.size + u.size := ByteArray.size_append
  refine ⟨a, c, rfl, by omega, h2, hn, ?_⟩
  rcases h3 with h4 | ⟨b, off, rfl, hc⟩
  · refine .inl (size0 ?_)
    rw [h4] at hsz
    have : ByteArray.empty.size = 0 := rfl
    omega
  · exact .inr ⟨b, off, rfl, fun i hi => by rw [hc i (by omega), data_append_getD s u i hi]⟩
theorem BS.at_ {w : World} {a : Option Addr} {n c : Nat} {s : ByteArray} (h : BS w (.slice a n c) s) {i : Nat} (hi : i < s.size) : ∃ b off, a = some ⟨b, off, none⟩ ∧ ∀ j, j < s.size → w.cell? ⟨b, off + j, none⟩ = some (.int .u8 (s.data.toList.getD j 0).toNat) := by
  obtain ⟨a', c', he, h1, h2, _, h3⟩ := h
  simp only [Value.slice.injEq] at he
  obtain ⟨rfl, rfl, rfl⟩ := he
  rcases h3 with rfl | h3
  · exact absurd hi (by simp)
  · exact h3
/-- v is a slice of bytes in a row of the call's own (from block base on), that reads as s -/
def Own (e : TypeId) (w : World) (base : Nat) (v : Value) (s : ByteArray) : Prop := w.ownsRow base e 1 v s.size (Lib.strCells s)
def bOne (n : Int) : ByteArray := ⟨#[UInt8.ofNat n.toNat]⟩
theorem size_append (s t : ByteArray) : (s ++ t).size = s.size + t.size := ByteArray.size_append
theorem strCells_append (s t : ByteArray) : Lib.strCells (s ++ t) = Lib.strCells s ++ Lib.strCells t := by
  simp [Lib.strCells, ByteArray.data_append]
theorem strCells_one (n : Int) (h0 : 0 ≤ n) (h1 : n < 256) : Lib.strCells (bOne n) = [.int .u8 n] := by
  simp [Lib.strCells, bOne]
  omega
theorem size_one (n : Int) : (bOne n).size = 1 := rfl
theorem append_empty (s : ByteArray) : s ++ ByteArray.empty = s := by simp
theorem Own.nil (e : TypeId) (w : World) (base : Nat) : Own e w base (.slice none 0 0) ByteArray.empty := World.ownsRow_nil w base e 1
theorem strCells_get (s : ByteArray) (i : Nat) (h : i < s.size) : (Lib.strCells s)[i]? = some (.int .u8 (s.data.toList.getD i 0).toNat) := by
  have h' : i < s.data.toList.length := by rw [data_len]; exact h
  simp only [Lib.strCells, List.getElem?_map, List.getElem?_eq_getElem h', Option.map_some, List.getD_eq_getElem?_getD, Option.getD_some]
theorem Own.bs {e : TypeId} {w : World} {base : Nat} {v : Value} {s : ByteArray} (h : Own e w base v s) : BS w v s := by
  obtain ⟨h1, h2⟩ := h
  rcases h2 with ⟨rfl, h0⟩ | ⟨g, cap, cur, rfl, hb, hg, hn, hm, hs, ht⟩
  · rw [size0 h0]; exact BS.nil w
  · refine ⟨_, _, rfl, hn, hm, (fun h => by cases h), .inr ⟨g, 0, rfl, fun i hi => ?_⟩⟩
    rw [Nat.zero_add, blk_cell hg]
    have := strCells_get s i hi
    rw [← ht, List.getElem?_take] at this
    simpa [hi] using this
theorem Own.mine {e : TypeId} {w : World} {base : Nat} {v : Value} {s : ByteArray} (h : Own e w base v s) : Mine0 w base v s := by
  have hb := h.bs
  obtain ⟨h1, h2⟩ := h
  rcases h2 with ⟨rfl, h0⟩ | ⟨g, cap, cur, rfl, hbb, hg, hn, hm, hs, ht⟩
  · exact ⟨hb, .inl rfl⟩
  · exact ⟨hb, .inr ⟨g, cap, rfl, hbb, fun i hi => blk_frozen hg i⟩⟩
theorem Own.keep {e : TypeId} {w w' : World} {base : Nat} {v : Value} {s : ByteArray} {F : Nat → Prop} (h : Own e w base v s) (hk : Keep F w w') (hF : ∀ k, v.ownBlock = some k → ¬ F k) : Own e w' base v s := by
  refine ⟨h.1, ?_⟩
  rcases h.2 with hn | ⟨g, cap, cur, rfl, hb, hg, rest⟩
  · exact .inl hn
  · exact .inr ⟨g, cap, cur, rfl, hb, hk.blk hg (hF g rfl), rest⟩
theorem Own.below {e : TypeId} {w w' : World} {base : Nat} {v : Value} {s : ByteArray} (h : Own e w base v s) (hb : Below w.heap.size w w') : Own e w' base v s := h.keep (Keep.ofBelow hb (fun _ => False)) (fun _ _ hf => hf)
theorem Own.alloc {e : TypeId} {w : World} {base : Nat} {v : Value} {s : ByteArray} (h : Own e w base v s) (o : Obj) : Own e (w.alloc o) base v s := h.below ((Below.refl _ _).alloc (Nat.le_refl _) o)
theorem Own.size {e : TypeId} {w : World} {base : Nat} {v : Value} {s : ByteArray} (h : Own e w base v s) : ∃ a cap, v = .slice a s.size cap := h.bs.len
theorem keep_grown {w w' : World} {v : Value} (h : w.grownBy w' v.ownBlock) : Keep (fun i => v.ownBlock = some i) w w' :=
  ⟨h.os, h.tape, h.output, h.size, fun k hk hF => h.block k hk (fun e => hF e.symm)⟩
theorem Own.base_le {e : TypeId} {w : World} {base : Nat} {v : Value} {s : ByteArray} (h : Own e w base v s) : ∀ k, v.ownBlock = some k → base ≤ k ∧ k < w.heap.size := World.ownsRow.lt h
theorem Own.lower {e : TypeId} {w : World} {base base' : Nat} {v : Value} {s : ByteArray} (h : Own e w base v s) (hb : base' ≤ base) : Own e w base' v s := by
  refine ⟨h.1, ?_⟩
  rcases h.2 with hn | ⟨g, cap, cur, rfl, hbb, rest⟩
  · exact .inl hn
  · exact .inr ⟨g, cap, cur, rfl, Nat.le_trans hb hbb, rest⟩
/-- a literal of one byte -/
theorem Own.lit (e : TypeId) (w : World) (n : Int) (h0 : 0 ≤ n) (h1 : n < 256) : Own e (w.alloc (.cells #[.int .u8 n] e)) w.heap.size (.slice (some ⟨w.heap.size, 0, none⟩) 1 1) (bOne n) := by
  refine ⟨by rw [strCells_one n h0 h1]; rfl, .inr ⟨_, 1, #[.int .u8 n], rfl, Nat.le_refl _, blk_new _ _, Nat.le_refl _, by decide, rfl, ?_⟩⟩
  rw [strCells_one n h0 h1]
  rfl
/-- from v to v': what lay before stands, but for v's own row -/
structure Grows (w w' : World) (v v' : Value) : Prop where
  keep : Keep (fun i => v.ownBlock = some i) w w'
  at_ : v'.ownBlock = v.ownBlock ∨ ∃ b, v'.ownBlock = some b ∧ w.heap.size ≤ b
theorem Grows.refl (w : World) (v : Value) : Grows w w v v := ⟨Keep.refl _ _, .inl rfl⟩
theorem Grows.trans {a b c : World} {u v x : Value} (h : Grows a b u v) (k : Grows b c v x) : Grows a c u x := by
  refine ⟨h.keep.trans k.keep (fun i hi => ?_), ?_⟩
  · rcases h.at_ with h1 | ⟨g, h1, h2⟩
    · exact .inl (h1 ▸ hi)
    · rw [h1] at hi; cases hi; exact .inr h2
  · rcases k.at_ with h1 | ⟨g, h1, h2⟩
    · rw [h1]; exact h.at_
    · exact .inr ⟨g, h1, Nat.le_trans h.keep.size h2⟩
theorem Grows.below {w w' : World} {v v' : Value} (h : Grows w w' v v') {B : Nat} (hB : B ≤ w.heap.size) (hv : ∀ k, v.ownBlock = some k → B ≤ k) : Below B w w' := h.keep.below hB hv
theorem Grows.first {a b c : World} {v x : Value} (h : Keep (fun i => v.ownBlock = some i) a b) (k : Grows b c v x) : Grows a c v x :=
  Grows.trans ⟨h, .inl rfl⟩ k
theorem Grows.nil {w w' : World} {v' : Value} (h : Grows w w' (.slice none 0 0) v') : Below w.heap.size w w' := h.below (Nat.le_refl _) (fun k hk => by simp [Value.ownBlock] at hk)
theorem Own.litNone (e : TypeId) (w : World) : Own e (w.alloc (.cells #[] e)) w.heap.size (.slice (some ⟨w.heap.size, 0, none⟩) 0 0) ByteArray.empty :=
  ⟨rfl, .inr ⟨_, 0, #[], rfl, Nat.le_refl _, blk_new _ _, Nat.le_refl _, by decide, rfl, rfl⟩⟩
theorem BS.lit {w : World} {k : Nat} (h : w.heap.size = k) (e : TypeId) (s : ByteArray) (z : Nat × Nat) {c : Array Value} (hc : c = (Lib.strCells s).toArray) {n : Nat} (hn : n = s.size) (hm : s.size ≤ maxLen) :
    BS (w.alloc (.cells c e z)) (.slice (some ⟨k, 0, none⟩) n n) s := by
  subst hc; subst hn; subst h
  refine ⟨_, _, rfl, Nat.le_refl _, hm, (fun h => by cases h), .inr ⟨_, 0, rfl, fun i hi => ?_⟩⟩
  rw [Nat.zero_add, blk_cell (blk_new w _)]
  simpa using strCells_get s i hi
section
variable {P : Program} {ops : Array Oper} {rest : List Oper} {o : Oper} {a : Act} {Q : Exit → Act → World → Prop}
/-- b = append(b, x), x one byte -/
theorem wp_app_byte {W : World} (base : Nat) (hgd : o.guard = none) (sl x : Operand) (t e : TypeId) (ho : o.op = .call { callee := .builtin .append, args := #[sl, x], argTypes := #[t, t] })
    (ht : P.underlying t = some (.slice e)) (hinfo : (P.info? e).map (fun i => (i.zero, i.size, i.bytes)) = some (some (.int .u8 0), 1, 1))
    (v : Value) (s : ByteArray) (n : Int) (hs : a.eval sl = v) (hx : a.eval x = .slice (some ⟨W.heap.size, 0, none⟩) 1 1) (HO : Own e W base v s) (hbase : base ≤ W.heap.size)
    (hl : s.size + 1 ≤ 140737488355328) (h0 : 0 ≤ n) (h1 : n < 256)
    (h : ∀ v' w', Own e w' base v' (s ++ bOne n) → Grows W w' v v' → wpList P ops Q rest (a.put o.dst v') w') :
    wpList P ops Q (o :: rest) a (W.alloc (.cells #[.int .u8 n] e)) := by
  obtain ⟨i0, hi, hzz⟩ := Option.map_eq_some_iff.1 hinfo
  simp only [Prod.mk.injEq] at hzz
  obtain ⟨hz0, hz1, hz2⟩ := hzz
  refine wpList_append_own_at (W.alloc (.cells #[.int .u8 n] e)) hgd sl x t ho base e i0 (.int .u8 0) 1 1 ht hi hz0 hz1 hz2 rfl (by omega) v s.size (Lib.strCells s) hs (World.ownsRow.alloc HO _) ⟨W.heap.size, 0, none⟩ 1 1 [.int .u8 n] hx rfl
    (World.news_of_block (cs := #[.int .u8 n]) (t := e) (fr := (0, 0)) (heap_alloc_new W _)) (by simp [Value.oneCell']) (by simp only [maxLen]; omega) (by omega) (by simp; omega) ?_
  intro v1 w1 hown hg _ hat
  refine h v1 w1 ?_ ⟨?_, ?_⟩
  · show w1.ownsRow base e 1 v1 (s ++ bOne n).size (Lib.strCells (s ++ bOne n))
    rw [size_append, size_one, strCells_append, strCells_one n h0 h1]
    exact hown
  · exact ((Keep.refl _ W).alloc _).trans (keep_grown hg) (fun i hi => .inl hi)
  · rcases hat with hat | hat
    · exact .inl hat
    · exact .inr ⟨_, hat, by simp⟩
/-- b = append(b, x...), x a slice of bytes -/
theorem wp_app_bs {W : World} (base : Nat) (hgd : o.guard = none) (sl x : Operand) (t e : TypeId) (ho : o.op = .call { callee := .builtin .append, args := #[sl, x], argTypes := #[t, t] })
    (ht : P.underlying t = some (.slice e)) (hinfo : (P.info? e).map (fun i => (i.zero, i.size, i.bytes)) = some (some (.int .u8 0), 1, 1))
    (v y : Value) (s u : ByteArray) (hs : a.eval sl = v) (hx : a.eval x = y) (HO : Own e W base v s) (HY : BS W y u) (hbase : base ≤ W.heap.size)
    (hl : s.size + u.size ≤ 140737488355328)
    (h : ∀ v' w', Own e w' base v' (s ++ u) → Grows W w' v v' → wpList P ops Q rest (a.put o.dst v') w') :
    wpList P ops Q (o :: rest) a W := by
  obtain ⟨i0, hi, hzz⟩ := Option.map_eq_some_iff.1 hinfo
  simp only [Prod.mk.injEq] at hzz
  obtain ⟨hz0, hz1, hz2⟩ := hzz
  obtain ⟨ad, cap, rfl, hc, hm, hnn, hcase⟩ := HY
  rcases hcase with rfl | ⟨b, off, rfl, hcell⟩
  · cases ad with
    | none =>
      rw [hnn rfl] at hx
      refine wpList_append_own_none hgd sl x t ho base e i0 1 ht hi v s.size (Lib.strCells s) hs HO hx ?_
      exact h v W (by rw [append_empty]; exact HO) (Grows.refl _ _)
    | some ad =>
      refine wpList_append_own_at W hgd sl x t ho base e i0 (.int .u8 0) 1 1 ht hi hz0 hz1 hz2 rfl (by omega) v s.size (Lib.strCells s) hs HO ad 0 cap [] hx rfl (fun j x hj => by simp at hj) (fun u hu => by simp at hu) (by simp only [maxLen]; omega) (by omega) hbase ?_
      intro v1 w1 hown hg _ hat
      refine h v1 w1 (by rw [append_empty]; simpa [Own] using hown) ⟨keep_grown hg, ?_⟩
      rcases hat with hat | hat
      · exact .inl hat
      · exact .inr ⟨_, hat, Nat.le_refl _⟩
  · refine wpList_append_own_at W hgd sl x t ho base e i0 (.int .u8 0) 1 1 ht hi hz0 hz1 hz2 rfl (by omega) v s.size (Lib.strCells s) hs HO ⟨b, off, none⟩ u.size cap (Lib.strCells u) hx (by rw [Lib.strCells_length]; omega)
      (fun j x hj => ?_) (Lib.strCells_oneCell u) (by simp only [maxLen]; omega) (by omega) hbase ?_
    · have hju : j < u.size := by
        rw [← Lib.strCells_length u]
        rcases Nat.lt_or_ge j (Lib.strCells u).length with h' | h'
        · exact h'
        · rw [List.getElem?_eq_none h'] at hj; cases hj
      have hadd : (⟨b, off, none⟩ : Addr).add j = ⟨b, off + j, none⟩ := by unfold Addr.add; split <;> simp_all
      rw [hadd, hcell j hju]
      rw [strCells_get u j hju] at hj
      exact hj
    · intro v1 w1 hown hg _ hat
      refine h v1 w1 ?_ ⟨keep_grown hg, ?_⟩
      · show w1.ownsRow base e 1 v1 (s ++ u).size (Lib.strCells (s ++ u))
        rw [size_append, strCells_append]
        exact hown
      · rcases hat with hat | hat
        · exact .inl hat
        · exact .inr ⟨_, hat, Nat.le_refl _⟩
/-- b = append(b, s...), s a string -/
theorem wp_app_str {W : World} (base : Nat) (hgd : o.guard = none) (sl x : Operand) (t ty e : TypeId) (ho : o.op = .call { callee := .builtin .append, args := #[sl, x], argTypes := #[t, ty] })
    (ht : P.underlying t = some (.slice e)) (hu : P.underlying ty = some .string) (hinfo : (P.info? e).map (fun i => (i.zero, i.size, i.bytes)) = some (some (.int .u8 0), 1, 1))
    (v : Value) (s u : ByteArray) (hs : a.eval sl = v) (hx : a.eval x = .string u) (HO : Own e W base v s) (hbase : base ≤ W.heap.size)
    (hl : s.size + u.size ≤ 140737488355328)
    (h : ∀ v' w', Own e w' base v' (s ++ u) → Keep (fun i => v.ownBlock = some i) W w' → wpList P ops Q rest (a.put o.dst v') w') :
    wpList P ops Q (o :: rest) a W := by
  obtain ⟨i0, hi, hzz⟩ := Option.map_eq_some_iff.1 hinfo
  simp only [Prod.mk.injEq] at hzz
  obtain ⟨hz0, hz1, hz2⟩ := hzz
  refine Lib.wpList_append_own_string W hgd sl x t ty ho base e i0 ht hu hi hz0 hz1 hz2 v s.size (Lib.strCells s) hs HO u hx (by simp only [maxLen]; omega) hl hbase ?_
  intro v1 w1 hown hg _
  refine h v1 w1 ?_ (keep_grown hg)
  show w1.ownsRow base e 1 v1 (s ++ u).size (Lib.strCells (s ++ u))
  rw [size_append, strCells_append]
  exact hown
end
end Go.Proofs.Ytlmngghkhnnaeaa
namespace Go.Proofs.Ytlmngghkhnnaeaa
open Go.RowKit
open Go.ChangeMaps (setBlock)
set_option linter.unusedVariables false
set_option linter.unusedSimpArgs false
/-! ### pairs in the order in which they lie -/
abbrev IM := List (Int × Value)
def IM.pos (k : Int) : IM → Option Nat
  | [] => none
  | p :: l => if k = p.1 then some 0 else (IM.pos k l).map (· + 1)
def IM.get (k : Int) : IM → Option Value
  | [] => none
  | p :: l => if k = p.1 then some p.2 else IM.get k l
def IM.put (k : Int) (v : Value) : IM → IM
  | [] => [(k, v)]
  | p :: l => if k = p.1 then (k, v) :: l else p :: IM.put k v l
def IM.del (k : Int) : IM → IM
  | [] => []
  | p :: l => if k = p.1 then l else p :: IM.del k l
def IKVs (es : List MapEntry) (l : IM) : Prop := es.map (fun e => (e.key, e.val)) = l.map (fun p => (Value.int .i64 p.1, p.2))
theorem IKVs.nil : IKVs [] [] := rfl
theorem IKVs.cons {e : MapEntry} {es : List MapEntry} {l : IM} (h : IKVs (e :: es) l) : ∃ p r, l = p :: r ∧ e.key = .int .i64 p.1 ∧ e.val = p.2 ∧ IKVs es r := by
  unfold IKVs at h
  cases l with
  | nil => simp at h
  | cons p r =>
    simp only [List.map_cons, List.cons.injEq, Prod.mk.injEq] at h
    exact ⟨p, r, rfl, h.1.1, h.1.2, h.2⟩
theorem IKVs.mk {e : MapEntry} {es : List MapEntry} {l : IM} {p : Int × Value} (h1 : e.key = .int .i64 p.1) (h2 : e.val = p.2) (h : IKVs es l) : IKVs (e :: es) (p :: l) := by
  unfold IKVs at *
  simp [h1, h2, h]
theorem ifind_run (k : Int) : ∀ (es : List MapEntry) (l : IM) (i : Nat), IKVs es l →
    Instr.findNow (.int .i64) (.int .i64 k) es i = some (match IM.pos k l with | none => none | some j => some (i + j, ((IM.get k l).getD (.slice none 0 0))))
  | [], l, i, h => by
    have : l = [] := by unfold IKVs at h; simpa using h.symm
    subst this; rfl
  | e :: es, l, i, h => by
    obtain ⟨p, r, rfl, h1, h2, h3⟩ := h.cons
    have ih := ifind_run k es r (i + 1) h3
    by_cases hk : k = p.1
    · have hb : (k == p.1) = true := beq_iff_eq.2 hk
      simp only [Instr.findNow, h1, Instr.sameNow, hb, IM.pos, IM.get, if_pos hk, h2, Option.getD_some, Nat.add_zero]
      simp
    · have hb : (k == p.1) = false := beq_eq_false_iff_ne.2 hk
      simp only [Instr.findNow, h1, Instr.sameNow, hb, IM.pos, IM.get, if_neg hk, ih]
      simp only [if_true]
      cases IM.pos k r with
      | none => rfl
      | some j => simp; omega
theorem ipos_get (k : Int) : ∀ l : IM, (IM.pos k l).isSome = (IM.get k l).isSome
  | [] => rfl
  | p :: l => by
    by_cases h : k = p.1
    · simp [IM.pos, IM.get, h]
    · simp [IM.pos, IM.get, h, ipos_get k l]
theorem iput_kvs (k : Int) (v : Value) : ∀ (es : List MapEntry) (l : IM) (j : Nat), IKVs es l → IM.pos k l = some j →
    IKVs (es.modify j fun e => { e with key := .int .i64 k, val := v }) (IM.put k v l)
  | [], l, j, h, hj => by
    have : l = [] := by unfold IKVs at h; simpa using h.symm
    subst this; simp [IM.pos] at hj
  | e :: es, l, j, h, hj => by
    obtain ⟨p, r, rfl, h1, h2, h3⟩ := h.cons
    by_cases hk : k = p.1
    · simp only [IM.pos, if_pos hk, Option.some.injEq] at hj
      subst hj
      simp only [IM.put, if_pos hk]
      exact IKVs.mk rfl rfl h3
    · simp only [IM.pos, if_neg hk, Option.map_eq_some_iff] at hj
      obtain ⟨j', hj', rfl⟩ := hj
      simp only [IM.put, if_neg hk, List.modify_succ_cons]
      exact IKVs.mk h1 h2 (iput_kvs k v es r j' h3 hj')
theorem iput_new_kvs (k : Int) (v : Value) (c : Nat) : ∀ (es : List MapEntry) (l : IM), IKVs es l → IM.pos k l = none →
    IKVs (es ++ [{ key := .int .i64 k, val := v, born := c }]) (IM.put k v l)
  | [], l, h, _ => by
    have : l = [] := by unfold IKVs at h; simpa using h.symm
    subst this; rfl
  | e :: es, l, h, hj => by
    obtain ⟨p, r, rfl, h1, h2, h3⟩ := h.cons
    by_cases hk : k = p.1
    · simp [IM.pos, hk] at hj
    · simp only [IM.pos, if_neg hk, Option.map_eq_none_iff] at hj
      simp only [IM.put, if_neg hk, List.cons_append]
      exact IKVs.mk h1 h2 (iput_new_kvs k v c es r h3 hj)
/-! ### a map of strings -/
/-- block b is a map whose pairs are l, in the order in which they lie -/
def IMapAt (w : World) (b : Nat) (l : IM) : Prop :=
  ∃ es clock, w.heap[b]? = some (.map es clock) ∧ IKVs es.toList l ∧ (es.toList.map (·.born)).Pairwise (· < ·) ∧ ∀ e ∈ es.toList, e.born < clock
theorem IMapAt.keep {F : Nat → Prop} {w w' : World} {b : Nat} {l : IM} (h : IMapAt w b l) (hk : Keep F w w') (hF : ¬ F b) : IMapAt w' b l := by
  obtain ⟨es, c, h1, h2⟩ := h
  exact ⟨es, c, hk.blk h1 hF, h2⟩
theorem IMapAt.lt {w : World} {b : Nat} {l : IM} (h : IMapAt w b l) : b < w.heap.size := by
  obtain ⟨es, c, h1, _⟩ := h; exact blk_lt h1
theorem IMapAt.nocell {w : World} {b : Nat} {l : IM} (h : IMapAt w b l) (o : Nat) : w.cell? ⟨b, o, none⟩ = none := by
  obtain ⟨es, c, h1, _⟩ := h; simp [World.cell?, h1]
theorem IMapAt.alloc {w : World} {b : Nat} {l : IM} (h : IMapAt w b l) (o : Obj) : IMapAt (w.alloc o) b l := h.keep (Keep.ofBelow ((Below.refl _ _).alloc (Nat.le_refl _) o) (fun _ => False)) (fun h => h)
theorem IMapAt.madeAt {w : World} {k : Nat} (h : w.heap.size = k) : IMapAt (w.alloc (.map #[] 0)) k [] := by subst h; exact ⟨#[], 0, blk_new w _, rfl, by simp, by simp⟩
theorem IMapAt.made (w : World) : IMapAt (w.alloc (.map #[] 0)) w.heap.size [] := ⟨#[], 0, blk_new w _, rfl, by simp, by simp⟩
def imapGetV (l : IM) (k : Int) : Value := .tuple #[((IM.get k l).getD (.slice none 0 0)), .bool (IM.get k l).isSome]
section
variable {P : Program} {w : World} {b : Nat} {l : IM} {t kt et : TypeId}
theorem checkKey_int (hk : P.underlying kt = some (.int .i64)) (em : Bool) (k : Int) (w : World) : (Instr.checkKey em 10000 kt (.int .i64 k)).run P w = .ok () w := by
  show (Instr.checkKey em (9999 + 1) kt (.int .i64 k)).run P w = .ok () w
  generalize 9999 = n
  simp [Instr.checkKey, run_underlying hk, Result.andThen]
theorem findKey_int (hk : P.underlying kt = some (.int .i64)) (k : Int) (es : List MapEntry) (w : World) (h : IKVs es l) :
    (Instr.findKey kt (.int .i64 k) es).run P w = .ok (match IM.pos k l with | none => none | some j => some (j, ((IM.get k l).getD (.slice none 0 0)))) w := by
  have := ifind_run k es l 0 h
  simp [Instr.findKey, run_underlying hk, Result.andThen, this]
theorem IMapAt.lookup_ok (h : IMapAt w b l) (ht : P.underlying t = some (.map kt et)) (hk : P.underlying kt = some (.int .i64)) (hz : ∀ w, (zeroValue et).run P w = .ok (.slice none 0 0) w) (k : Int) :
    (Instr.lookup t (.map (some b)) (.int .i64 k) true).run P w = .ok (imapGetV l k) w := by
  obtain ⟨es, c, h1, h2, h3, h4⟩ := h
  have hg : (getObj b).run P w = .ok (.map es c) w := by simp [getObj, Sem.run, h1]
  have hf := findKey_int (P := P) (kt := kt) hk k es.toList w h2
  have hp := ipos_get k l
  simp only [Instr.lookup, Sem.run_bind, run_underlying ht, Result.andThen, hg, checkKey_int hk, Sem.run_pure]
  rw [hf]
  cases hpos : IM.pos k l with
  | none =>
    rw [hpos] at hp
    have hn : IM.get k l = none := by cases hx : IM.get k l with
      | none => rfl
      | some x => rw [hx] at hp; simp at hp
    simp [hz, Result.andThen, imapGetV, hn]
  | some j =>
    rw [hpos] at hp
    obtain ⟨v, hv⟩ : ∃ v, IM.get k l = some v := by cases hx : IM.get k l with
      | none => rw [hx] at hp; simp at hp
      | some x => exact ⟨x, rfl⟩
    simp [Result.andThen, imapGetV, hv]
theorem IMapAt.lookup (h : IMapAt w b l) (ht : P.underlying t = some (.map kt et)) (hk : P.underlying kt = some (.int .i64)) (hz : ∀ w, (zeroValue et).run P w = .ok (.slice none 0 0) w) (k : Int) :
    (Instr.lookup t (.map (some b)) (.int .i64 k) false).run P w = .ok (((IM.get k l).getD (.slice none 0 0))) w := by
  obtain ⟨es, c, h1, h2, h3, h4⟩ := h
  have hg : (getObj b).run P w = .ok (.map es c) w := by simp [getObj, Sem.run, h1]
  have hf := findKey_int (P := P) (kt := kt) hk k es.toList w h2
  have hp := ipos_get k l
  simp only [Instr.lookup, Sem.run_bind, run_underlying ht, Result.andThen, hg, checkKey_int hk, Sem.run_pure]
  rw [hf]
  cases hpos : IM.pos k l with
  | none =>
    rw [hpos] at hp
    have hn : IM.get k l = none := by cases hx : IM.get k l with
      | none => rfl
      | some x => rw [hx] at hp; simp at hp
    simp [hz, Result.andThen, hn]
  | some j =>
    rw [hpos] at hp
    obtain ⟨v, hv⟩ : ∃ v, IM.get k l = some v := by cases hx : IM.get k l with
      | none => rw [hx] at hp; simp at hp
      | some x => exact ⟨x, rfl⟩
    simp [Result.andThen, hv]
theorem IMapAt.set {o : Obj} (hb : w.heap[b]? = some o) {es : Array MapEntry} {c : Nat} {l : IM} (h2 : IKVs es.toList l) (h3 : (es.toList.map (·.born)).Pairwise (· < ·)) (h4 : ∀ e ∈ es.toList, e.born < c) : IMapAt (setBlock w b (.map es c)) b l :=
  ⟨es, c, heap_setBlock_eq _ _ _ (blk_lt hb), h2, h3, h4⟩
theorem IMapAt.update (h : IMapAt w b l) (ht : P.underlying t = some (.map kt et)) (hk : P.underlying kt = some (.int .i64)) (k : Int) (v : Value) :
    ∃ w', (Instr.mapUpdate t (.map (some b)) (.int .i64 k) v).run P w = .ok () w' ∧ IMapAt w' b (IM.put k v l) ∧ ∀ a, Keep (fun i => i = b) a w → Keep (fun i => i = b) a w' := by
  obtain ⟨es, c, h1, h2, h3, h4⟩ := h
  have hg : (getObj b).run P w = .ok (.map es c) w := by simp [getObj, Sem.run, h1]
  have hf := findKey_int (P := P) (kt := kt) hk k es.toList w h2
  simp only [Instr.mapUpdate, Sem.run_bind, run_underlying ht, Result.andThen, hg, checkKey_int hk, hf]
  cases hpos : IM.pos k l with
  | none =>
    refine ⟨_, setObj_run h1 _, IMapAt.set h1 ?_ ?_ ?_, fun a ha => ha.setBlock (.inl rfl) _⟩
    · simpa using iput_new_kvs k v c es.toList l h2 hpos
    · simp only [Array.toList_push, List.map_append, List.map_cons, List.map_nil]
      refine List.pairwise_append.2 ⟨h3, by simp, ?_⟩
      intro x hx y hy
      simp only [List.mem_singleton] at hy
      subst hy
      obtain ⟨e, he, rfl⟩ := List.mem_map.1 hx
      exact h4 e he
    · intro e he
      simp only [Array.toList_push, List.mem_append, List.mem_singleton] at he
      rcases he with he | rfl
      · have := h4 e he; omega
      · show c < c + 1; omega
  | some j =>
    have hst : ∀ old : Value, old = .int .i64 k → (Instr.keyThatStays old (.int .i64 k)).run P w = .ok (.int .i64 k) w := by
      intro old ho; subst ho
      have : Instr.sameBits 10000 (.int .i64 k) (.int .i64 k) = true := by
        show (k == k) = true
        exact beq_iff_eq.2 rfl
      simp [Instr.keyThatStays, this]
    have hold : (((es[j]?).map (·.key)).getD (.int .i64 k)) = .int .i64 k := by
      have aux : ∀ (es : List MapEntry) (l : IM) (j : Nat), IKVs es l → IM.pos k l = some j → (((es[j]?).map (·.key)).getD (.int .i64 k)) = .int .i64 k := by
        intro es
        induction es with
        | nil => intro l j _ _; rfl
        | cons e es ih =>
          intro l j h hj
          obtain ⟨p, r, rfl, g1, g2, g3⟩ := h.cons
          by_cases hkp : k = p.1
          · simp only [IM.pos, if_pos hkp, Option.some.injEq] at hj
            subst hj
            simp [g1, hkp]
          · simp only [IM.pos, if_neg hkp, Option.map_eq_some_iff] at hj
            obtain ⟨j', hj', rfl⟩ := hj
            simpa using ih r j' g3 hj'
      simpa using aux es.toList l j h2 hpos
    simp only [Sem.run_bind, hold, hst _ rfl, Result.andThen]
    refine ⟨_, setObj_run h1 _, IMapAt.set h1 ?_ ?_ ?_, fun a ha => ha.setBlock (.inl rfl) _⟩
    · simpa using iput_kvs k v es.toList l j h2 hpos
    · simp only [Array.toList_modify]
      rw [modify_born (fun e => { e with key := Value.int .i64 k, val := v }) (fun _ => rfl)]; exact h3
    · intro e he
      simp only [Array.toList_modify] at he
      have : e.born ∈ (es.toList.map (·.born)) := by
        rw [← modify_born (fun e => { e with key := Value.int .i64 k, val := v }) (fun _ => rfl) es.toList j]
        exact List.mem_map.2 ⟨e, he, rfl⟩
      obtain ⟨e', he', hb'⟩ := List.mem_map.1 this
      have := h4 e' he'
      omega
theorem IMapAt.len (h : IMapAt w b l) (ht : P.underlying t = some (.map kt et)) (ty : TypeId) : (Builtin.len_ #[t] ty #[.map (some b)]).run P w = .ok (.int .i64 l.length) w := by
  obtain ⟨es, c, h1, h2, h3, h4⟩ := h
  have hg : (getObj b).run P w = .ok (.map es c) w := by simp [getObj, Sem.run, h1]
  have : es.size = l.length := by
    have := congrArg List.length h2
    simpa using this
  simp [Builtin.len_, run_underlying ht, Result.andThen, hg, this, goInt]

end
end Go.Proofs.Ytlmngghkhnnaeaa
