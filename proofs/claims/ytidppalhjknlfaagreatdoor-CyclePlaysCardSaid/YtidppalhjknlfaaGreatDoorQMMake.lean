/- Made and literal bytes, as functions of the world that no walk looks into. quitrentref16.Value; keys in order are numbers in order. What KvOrder's store holds. No program in sight. A slice of structs that came in, read field by field. No program in sight but the field's types. What an act of quitrentlaw16 does to a store's pairs, and those of the last Commit. No program in sight. The moves of a walk through a region that draws its order, by the operation's number. No program in sight. append by a run equation, at the operation. No program in sight. Append of a list of structs, at the operation (for drawn regions). -/
import Derived.Test.YtidppalhjknlfaaGreatDoorQKey
import Derived.Deep.OwnRows
import Derived.Lib.SlBytesConst
import Derived.Test.YtidppalhjknlfaaGreatDoorQScan2
import Derived.Test.YtidppalhjknlfaaGreatDoorProg
import Derived.Deep.Slices
import Derived.Deep.Fields
import Derived.ChangeSame
import Derived.Deep.RegionHeld3
import Derived.Laws.AppendOwn
import Derived.Test.YtidppalhjknlfaaGreatDoorQMScan
namespace Go.Proofs.YtidppalhjknlfaaGreatDoor
open Go.RowKit
set_option linter.unusedVariables false
set_option linter.unusedSimpArgs false
/-- n bytes 0 -/
def zp (n : Nat) : ByteArray := ⟨Array.replicate n 0⟩
theorem zp_size (n : Nat) : (zp n).size = n := by unfold zp; show (Array.replicate n (0 : UInt8)).size = n; simp
theorem made_cells (n : Nat) : (madeCells #[Value.int .u8 0] n).toList = Lib.strCells (zp n) := by
  refine List.ext_getElem? fun i => ?_
  rcases Nat.lt_or_ge i n with h | h
  · rw [strCells_get _ _ (by rw [zp_size]; exact h)]
    have e1 : (zp n).data.toList.getD i 0 = 0 := by
      rw [List.getD_eq_getElem?_getD]; unfold zp; simp [h]
    rw [e1, Array.getElem?_toList]
    unfold madeCells
    simp [h, Nat.mod_one]
  · rw [List.getElem?_eq_none (by simp [size_madeCells]; exact h), List.getElem?_eq_none (by rw [Lib.strCells, List.length_map, data_len, zp_size]; exact h)]
theorem Own.zeros (e : TypeId) (w : World) (n : Nat) (hn : n ≤ maxLen) : Own e (w.alloc (.cells (madeCells #[.int .u8 0] n) e)) w.heap.size (.slice (some ⟨w.heap.size, 0, none⟩) n n) (zp n) := by
  have hs := made_cells n
  have hl : (Lib.strCells (zp n)).length = n := by rw [Lib.strCells, List.length_map, data_len, zp_size]
  refine ⟨by rw [hl, zp_size, Nat.mul_one], .inr ⟨_, n, _, by rw [zp_size], Nat.le_refl _, blk_new _ _, by rw [zp_size]; exact Nat.le_refl _, hn, by rw [size_madeCells, Nat.mul_one], ?_⟩⟩
  rw [hs, zp_size, Nat.mul_one, List.take_of_length_le (by omega)]

/-- make([]byte, n) -/
theorem made_ex (n : Nat) (z : Int) (hz : z = n) (hn : n ≤ 281474976710656) : ∃ (f : World → Value) (g : World → World),
    (∀ W, (Instr.makeSlice 76 (.int .i64 z) (.int .i64 z)).run Tryz.prog W = .ok (f W) (g W)) ∧ (∀ W, Own 5 (g W) W.heap.size (f W) (zp n)) ∧ ∀ W, Below W.heap.size W (g W) := by
  subst hz
  exact ⟨_, _, fun W => run_make_row' (P := Tryz.prog) 76 5 (.int .u8 0) 1 uBytes iByte rfl .i64 .i64 n (by omega) (by omega) W, fun W => Own.zeros 5 W n (by unfold maxLen; omega), fun W => (Below.refl W.heap.size W).alloc (Nat.le_refl _) _⟩
/-- a literal's bytes, marked, wherever they lie -/
theorem const_ex (W : World) (k n c : Nat) (C : Array Value) (hb : W.heap[k]? = some (.cells C 5 (0, 0))) : ∃ W',
    (convert 76 76 (.slice (some ⟨k, 0, none⟩) n c)).run Tryz.prog W = .ok (.slice (some ⟨k, 0, none⟩) n c) W' ∧ Keep (fun i => i = k) W W' ∧ W'.heap[k]? = some (.cells C 5 (C.size, C.size + 1)) := by
  have hsh : W.shape? k = some (5, C.size) := by unfold World.shape?; rw [hb]
  refine ⟨W.freeze ⟨k, C.size, none⟩ 1, by simp [convert, run_underlying uBytes, run_underlying uByte, markStringish, hsh], ?_, ?_⟩
  · unfold World.freeze
    rw [if_neg (by decide)]
    refine ⟨rfl, rfl, rfl, by simp, fun i hi hne => ?_⟩
    show (W.heap.modify k _)[i]? = W.heap[i]?
    rw [Array.getElem?_modify, if_neg (fun h => hne h.symm)]
  · unfold World.freeze
    rw [if_neg (by decide)]
    show (W.heap.modify k _)[k]? = _
    rw [Array.getElem?_modify, if_pos rfl, hb]
    rfl
end Go.Proofs.YtidppalhjknlfaaGreatDoor
namespace Go.Proofs.YtidppalhjknlfaaGreatDoor
open Go.RowKit
set_option maxRecDepth 100000
set_option linter.unusedVariables false
set_option linter.unusedSimpArgs false
/-! ### keys in order -/
theorem bl_append : ∀ (x y x' y' : List UInt8), x.length = y.length → Op.bytesLess (x ++ x') (y ++ y') = (Op.bytesLess x y || (x == y && Op.bytesLess x' y'))
  | [], [], x', y', _ => by simp [Op.bytesLess]
  | a :: x, b :: y, x', y', h => by
    have ih := bl_append x y x' y' (by simpa using h)
    simp only [List.cons_append, Op.bytesLess, ih]
    cases h1 : decide (a < b) <;> cases h2 : (a == b) <;> cases h3 : Op.bytesLess x y <;> cases h4 : (x == y) <;> simp_all
theorem bl_val : ∀ (x y : List UInt8), x.length = y.length → Op.bytesLess x y = decide (valN x < valN y) := by
  have aux : ∀ (n : Nat) (x y : List UInt8), x.length = n → y.length = n → Op.bytesLess x y = decide (valN x < valN y) := by
    intro n
    induction n with
    | zero =>
      intro x y hx hy
      rw [List.eq_nil_of_length_eq_zero hx, List.eq_nil_of_length_eq_zero hy]
      rfl
    | succ n ih =>
      intro x y hx hy
      obtain ⟨x0, a, rfl⟩ : ∃ x0 a, x = x0 ++ [a] := ⟨x.dropLast, x.getLast (by intro h; simp [h] at hx), (List.dropLast_concat_getLast _).symm⟩
      obtain ⟨y0, b, rfl⟩ : ∃ y0 b, y = y0 ++ [b] := ⟨y.dropLast, y.getLast (by intro h; simp [h] at hy), (List.dropLast_concat_getLast _).symm⟩
      simp at hx hy
      rw [bl_append _ _ _ _ (by omega), ih x0 y0 hx hy, valN_snoc, valN_snoc]
      have ha := a.toNat_lt
      have hb := b.toNat_lt
      have hab : Op.bytesLess [a] [b] = decide (a.toNat < b.toNat) := by
        simp only [Op.bytesLess, Bool.and_false, Bool.or_false]
        rfl
      rw [hab]
      by_cases he : x0 = y0
      · subst he
        simp
      · have hne : (x0 == y0) = false := beq_eq_false_iff_ne.2 he
        have hvv : valN x0 ≠ valN y0 := by
          intro hv
          refine he ?_
          have h1 := ih x0 y0 hx hy
          have h2 := ih y0 x0 hy hx
          rw [hv, decide_eq_false (Nat.lt_irrefl _)] at h1
          rw [hv, decide_eq_false (Nat.lt_irrefl _)] at h2
          exact bl_total _ _ h1 h2
        rw [hne]
        simp only [Bool.false_and, Bool.or_false]
        rw [decide_eq_decide]
        omega
  intro x y h
  exact aux _ x y rfl h.symm
end Go.Proofs.YtidppalhjknlfaaGreatDoor
namespace Go.Proofs.YtidppalhjknlfaaGreatDoor
open Go.RowKit
set_option linter.unusedVariables false
set_option linter.unusedSimpArgs false
/-- the key of two numbers -/
def kk (l m : List Int) (i : Nat) : ByteArray := keyS 5 [l.getD i 0, m.getD i 0]
/-- what is in the store behind the first n puts -/
def nowN (l m : List Int) : Nat → AL
  | 0 => []
  | n + 1 => AL.put (kk l m n) ByteArray.empty (nowN l m n)
theorem nowN_nd (l m : List Int) : ∀ n, AL.ND (nowN l m n)
  | 0 => by unfold AL.ND AL.keys nowN; simp
  | n + 1 => nd_put (nowN_nd l m n)
theorem put_length (k v : ByteArray) : ∀ l : AL, (AL.put k v l).length ≤ l.length + 1
  | [] => by simp [AL.put]
  | p :: l => by
    unfold AL.put
    split
    · simp
    · simp; exact put_length k v l
theorem nowN_len (l m : List Int) : ∀ n, (nowN l m n).length ≤ n
  | 0 => Nat.le_refl _
  | n + 1 => Nat.le_trans (put_length _ _ _) (by have := nowN_len l m n; omega)
theorem nowN_mem (l m : List Int) : ∀ n q, q ∈ nowN l m n ↔ ∃ i, i < n ∧ q = (kk l m i, ByteArray.empty)
  | 0, q => by simp [nowN]
  | n + 1, q => by
    rw [nowN, mem_put (nowN_nd l m n), nowN_mem l m n q]
    constructor
    · rintro (h | ⟨⟨i, hi, h⟩, _⟩)
      · exact ⟨n, by omega, h⟩
      · exact ⟨i, by omega, h⟩
    · rintro ⟨i, hi, h⟩
      by_cases he : q.1 = kk l m n
      · left
        rw [h] at he ⊢
        exact Prod.ext he rfl
      · right
        refine ⟨⟨i, ?_, h⟩, he⟩
        rcases Nat.lt_or_ge i n with h' | h'
        · exact h'
        · have : i = n := by omega
          subst this
          rw [h] at he
          exact absurd rfl he
theorem kk_size (l m : List Int) (i : Nat) : (kk l m i).size = 17 := by unfold kk; rw [keyS_size]; rfl
theorem nowN_small (l m : List Int) (n : Nat) (hn : n ≤ 1000000) : Small (nowN l m n) := by
  refine ⟨Nat.le_trans (nowN_len l m n) hn, fun p hp => ?_⟩
  obtain ⟨i, _, rfl⟩ := (nowN_mem l m n p).1 hp
  exact ⟨by rw [kk_size]; omega, show ByteArray.empty.size ≤ 1024 by decide⟩
theorem putE_kk (l m : List Int) (i : Nat) (now : AL) : putE (-1) now (kk l m i) ByteArray.empty = 0 := by
  have h := kk_size l m i
  have he : ByteArray.empty.size = 0 := rfl
  unfold putE
  rw [if_neg (by omega), if_neg (by omega), if_neg (by omega)]
theorem putA_kk (l m : List Int) (i : Nat) : putA (-1) (nowN l m i) (kk l m i) ByteArray.empty = nowN l m (i + 1) := by
  unfold putA; rw [if_pos (putE_kk l m i _)]; rfl
/-! ### numbers and their bytes -/
theorem valN_be (n : Int) (h0 : 0 ≤ n) (h1 : n ≤ 18446744073709551615) : ∀ j, j ≤ 8 → (valN (be n j).data.toList : Int) = n / 2 ^ (64 - 8 * j)
  | 0, _ => by
    show (valN [] : Int) = _
    rw [show valN [] = 0 from rfl]
    symm
    exact Int.ediv_eq_zero_of_lt h0 (by omega)
  | j + 1, hj => by
    have ih := valN_be n h0 h1 j (by omega)
    have e : (be n (j + 1)).data.toList = (be n j).data.toList ++ [UInt8.ofNat (n / 2 ^ (56 - 8 * j) % 256).toNat] := by
      show (be n j ++ bOne _).data.toList = _
      simp [ByteArray.data_append, bOne]
    rw [e, valN_snoc]
    have hr0 : 0 ≤ n / 2 ^ (56 - 8 * j) % 256 := Int.emod_nonneg _ (by decide)
    have hr1 : n / 2 ^ (56 - 8 * j) % 256 < 256 := Int.emod_lt_of_pos _ (by decide)
    have hu : ((UInt8.ofNat (n / 2 ^ (56 - 8 * j) % 256).toNat).toNat : Int) = n / 2 ^ (56 - 8 * j) % 256 := by
      rw [UInt8.toNat_ofNat_of_lt' (by show (n / 2 ^ (56 - 8 * j) % 256).toNat < 256; omega)]; omega
    have hp : (2 : Int) ^ (64 - 8 * j) = 2 ^ (56 - 8 * j) * 256 := by
      rw [show 64 - 8 * j = (56 - 8 * j) + 8 by omega, Int.pow_add]; rfl
    have hk : n / 2 ^ (64 - 8 * j) = n / 2 ^ (56 - 8 * j) / 256 := by
      rw [hp, Int.ediv_ediv_of_nonneg (Int.pow_nonneg (by decide))]
    rw [Int.natCast_add, Int.natCast_mul, hu, ih, hk, show 64 - 8 * (j + 1) = 56 - 8 * j by omega]
    omega
theorem valN_be8 (n : Int) (h0 : 0 ≤ n) (h1 : n ≤ 18446744073709551615) : (valN (be8 n).data.toList : Int) = n := by
  have := valN_be n h0 h1 8 (by omega)
  unfold be8
  simpa using this
theorem pre_append (s u : ByteArray) : pre s (s ++ u) = true := by
  unfold pre
  rw [show (s ++ u).data.toList = s.data.toList ++ u.data.toList by simp [ByteArray.data_append], List.isPrefixOf_iff_prefix]
  exact List.prefix_append _ _
theorem pre_key (x y : Int) : pre (keyS 5 [x]) (keyS 5 [x, y]) = true := by
  rw [show keyS 5 [x, y] = keyS 5 [x] ++ be8 y from keyS_snoc 5 [x] y]
  exact pre_append _ _
theorem any_snoc {α : Type} (f : α → Bool) (l : List α) (t : Nat) (q : α) (h : l[t]? = some q) : (l.take (t + 1)).any f = ((l.take t).any f || f q) := by
  rw [List.take_add_one, h]; simp
theorem scan_len (s : ByteArray) (l : AL) : (AL.scan s l).length ≤ l.length := by
  unfold AL.scan
  refine Nat.le_trans (List.length_filter_le _ _) ?_
  rw [(srt_perm l).length_eq]; exact Nat.le_refl _
end Go.Proofs.YtidppalhjknlfaaGreatDoor
namespace Go.Proofs.YtidppalhjknlfaaGreatDoor
set_option linter.unusedSimpArgs false
open Go.ChangeShapes Go.WideShapes Go.Deep
set_option linter.unusedVariables false
section
variable {H : Type} {enc : TypeId × Value → H} {P : Program} {w : World} {base : Nat} {spare : Nat → Bool} {held : Bool}
/-- each field of each element: its cell, and what the cell reads as -/
theorem struct_rows {t e : TypeId} {fs : Array Field} {fuel : Nat} {cs : List Value} {x : DataW H × List MemPlace} (ht : P.underlying t = some (.slice e)) (he : P.underlying e = some (.struct fs))
    (hone : oneCellFields P fs = true) (hC : P.cellsOf e = fs.size) (h : DataW.trod enc P w base spare held fuel t cs = some x) :
    cs = [.slice none 0 0] ∨ ∃ (a : Addr) (len cap : Nat), cs = [.slice (some a) len cap] ∧ len ≤ cap ∧ cap ≤ maxLen ∧
      ∀ i, i < len → ∀ (j : Nat) (f : Field), fs[j]? = some f → ∃ (v : Value) (n : Nat) (y : DataW H × List MemPlace), w.cell? (a.add (i * fs.size + j)) = some v ∧ DataW.trod enc P w base spare held n f.type [v] = some y := by
  rcases open_slice ht h with ⟨h0, _⟩ | ⟨a, len, cap, m, n, D, Pl, hcs, _, hl, hm, hmm, _, hi⟩
  · exact .inl h0
  · refine .inr ⟨a, len, cap, hcs, hl, hm, fun i him j f hj => ?_⟩
    have him' : i < m := by rw [hmm]; split <;> omega
    obtain ⟨cs', hc, ht'⟩ := hi i him'
    obtain ⟨_, hcl, hat⟩ := World.cells?_some hc
    obtain ⟨ys, n', _, _, _, hyl, hf⟩ := DataW.trod_struct he ht'
    obtain ⟨ho, hk⟩ := hone_of hone j f hj
    have hjl : j < fs.size := (Array.getElem?_eq_some_iff.1 hj).1
    have hjc : j < cs'.length := by rw [hcl, hC]; exact hjl
    have h1 := hf j f hj
    rw [ho, hk, List.drop_eq_getElem_cons hjc, List.take_succ_cons, List.take_zero] at h1
    have h2 := hat j (by rw [hC]; exact hjl)
    rw [List.getElem?_eq_getElem hjc, Go.Deep.add_add, hC] at h2
    exact ⟨cs'[j], n', ys[j]'(by omega), h2, h1.trans (List.getElem?_eq_getElem (by omega))⟩
end
/-- a list out of what is known of each place -/
theorem list_of {α : Type} (R : Nat → α → Prop) : ∀ n, (∀ i, i < n → ∃ x, R i x) → ∃ l : List α, l.length = n ∧ ∀ i x, l[i]? = some x → R i x
  | 0, _ => ⟨[], rfl, fun i x h => by simp at h⟩
  | n + 1, h => by
    obtain ⟨l, hl, hr⟩ := list_of R n (fun i hi => h i (by omega))
    obtain ⟨x, hx⟩ := h n (by omega)
    refine ⟨l ++ [x], by simp [hl], fun i y hy => ?_⟩
    by_cases hi : i < l.length
    · rw [List.getElem?_append_left hi] at hy; exact hr i y hy
    · rw [List.getElem?_append_right (by omega)] at hy
      have : i - l.length = 0 := by
        rcases Nat.eq_zero_or_pos (i - l.length) with h | h
        · exact h
        · rw [List.getElem?_eq_none (by simp; omega)] at hy; cases hy
      rw [this] at hy
      simp at hy
      subst hy
      have : i = n := by omega
      rw [this]; exact hx
end Go.Proofs.YtidppalhjknlfaaGreatDoor
namespace Go.Proofs.YtidppalhjknlfaaGreatDoor
open Go.RowKit
set_option linter.unusedVariables false
set_option linter.unusedSimpArgs false
/-- an act: what is done, key, value, number -/
structure A16 where
  doo : Int
  key : ByteArray
  val : ByteArray
  n : Int
structure A16.Ok (a : A16) : Prop where
  d : 0 ≤ a.doo ∧ a.doo ≤ 255
  k : a.key.size ≤ maxLen
  v : a.val.size ≤ maxLen
  n : 0 ≤ a.n ∧ a.n ≤ 18446744073709551615
/-- a store's pairs: in order of no one, each key once, small, at most m of them -/
structure St (m : Nat) (l : AL) : Prop where
  nd : AL.ND l
  len : l.length ≤ m
  small : ∀ p ∈ l, p.1.size ≤ 256 ∧ p.2.size ≤ 1024
theorem St.nil : St 0 [] := ⟨by unfold AL.ND AL.keys; simp, Nat.le_refl _, fun p h => by simp at h⟩
theorem St.mono {m m' : Nat} {l : AL} (h : St m l) (hm : m ≤ m') : St m' l := ⟨h.nd, Nat.le_trans h.len hm, h.small⟩
theorem St.putA {m : Nat} {l : AL} (h : St m l) (room : Int) (k v : ByteArray) : St (m + 1) (putA room l k v) := by
  unfold Go.Proofs.YtidppalhjknlfaaGreatDoor.putA
  by_cases he : putE room l k v = 0
  · rw [if_pos he]
    have hs : k.size ≤ 256 ∧ v.size ≤ 1024 := by
      unfold putE at he
      by_cases h0 : k.size = 0
      · rw [if_pos h0] at he; cases he
      · rw [if_neg h0] at he
        by_cases h1 : 256 < k.size ∨ 1024 < v.size
        · rw [if_pos h1] at he; cases he
        · omega
    refine ⟨nd_put h.nd, Nat.le_trans (put_length _ _ _) (by have := h.len; omega), fun p hp => ?_⟩
    rcases (mem_put h.nd).1 hp with rfl | ⟨hp, _⟩
    · exact hs
    · exact h.small p hp
  · rw [if_neg he]; exact h.mono (by omega)
theorem St.del {m : Nat} {l : AL} (h : St m l) (k : ByteArray) : St m (AL.del k l) :=
  ⟨nd_del h.nd, Nat.le_trans (del_sublist k l).length_le h.len, fun p hp => h.small p ((del_sublist k l).subset hp)⟩
theorem St.setA {m : Nat} {l : AL} (h : St m l) (room : Int) (k : ByteArray) (n : Int) : St (m + 1) (setA room l k n) := by
  unfold Go.Proofs.YtidppalhjknlfaaGreatDoor.setA
  split
  · exact (h.del k).mono (by omega)
  · exact h.putA _ _ _
theorem St.get {m : Nat} {l : AL} (h : St m l) {k v : ByteArray} (hg : AL.get k l = some v) : v.size ≤ 1024 := (h.small _ ((get_some h.nd).1 hg)).2
theorem St.sml {m : Nat} {l : AL} (h : St m l) (hm : m ≤ 1000000) : Small l := ⟨Nat.le_trans h.len hm, h.small⟩
end Go.Proofs.YtidppalhjknlfaaGreatDoor
namespace Go.Proofs.YtidppalhjknlfaaGreatDoor
set_option linter.unusedVariables false
set_option linter.unusedSimpArgs false
section
variable {P : Program} {l r : List Oper} {Q : Exit → Act → World → Prop} {md : Region.Mode} {S : World → Prop} {oi : Oper} {v : Value} {fuel : Nat} {listed : Array Bool} {a : Act} {w : World}
theorem at_drop {i : Nat} (hi : l.drop i = oi :: r) : l.toArray[i]? = some oi := by
  have : (l.drop i)[0]? = some oi := by rw [hi]; rfl
  rw [List.getElem?_drop] at this
  simpa using this
/-- number i is taken first: it yields v in every world that meets S -/
theorem takeN (i : Nat) (hi : l.drop i = oi :: r) (hs : Region.noSelect l.toArray = true) (hf : Region.free md l.toArray listed i = true) (hr : (Region.ready md l.toArray listed).contains i = true)
    (hQ : ∀ c a w, Q (.panic c) (a.put oi.dst v) w → Q (.panic c) a w) (hw : Region.wanted oi (yielded l.toArray a.tmps) = true) (hy : ∀ w, S w → (execOp a.eval oi).run P w = .ok (.value v) w) (hS : S w)
    (h : wpAnyH P md l.toArray Q S fuel (listed.setIfInBounds i true) (a.put oi.dst v) w) : wpAnyH P md l.toArray Q S (fuel + 1) listed a w :=
  wpAnyH_take (at_drop hi) hs hf hr hQ (.inl ⟨hw, hy⟩) hS h
/-- number i is taken first: its guard says no -/
theorem skipN (i : Nat) (hi : l.drop i = oi :: r) (hs : Region.noSelect l.toArray = true) (hf : Region.free md l.toArray listed i = true) (hr : (Region.ready md l.toArray listed).contains i = true)
    (hQ : ∀ c a w, Q (.panic c) (a.put oi.dst undef) w → Q (.panic c) a w) (hw : Region.wanted oi (yielded l.toArray a.tmps) = false) (hS : S w)
    (h : wpAnyH P md l.toArray Q S fuel (listed.setIfInBounds i true) (a.put oi.dst undef) w) : wpAnyH P md l.toArray Q S (fuel + 1) listed a w :=
  wpAnyH_take (at_drop hi) hs hf hr hQ (.inr ⟨hw, rfl⟩) hS h
/-- number i comes up next -/
theorem readyN {i : Nat} {rs : List Nat} (hi : l.drop i = oi :: r)
    (h : ∀ K' : Act → World → Prop, Shut (∀ a w, S w → (S w → wpAnyH P md l.toArray Q S fuel (listed.setIfInBounds i true) a w) → K' a w) → if Region.wanted oi (yielded l.toArray a.tmps) = true then Oper.wp P oi a w K' Q else K' (a.put oi.dst undef) w)
    (hs : AllReadyH P md l.toArray Q S fuel listed a w rs) : AllReadyH P md l.toArray Q S fuel listed a w (i :: rs) :=
  AllReadyH.cons (at_drop hi) h hs
end
end Go.Proofs.YtidppalhjknlfaaGreatDoor
namespace Go.Proofs.YtidppalhjknlfaaGreatDoor
open Go
section
variable {P : Program}
theorem wp_append_run {o : Oper} {a : Act} {w w' : World} {K : Act → World → Prop} {Q : Exit → Act → World → Prop} (s x : Operand) (t : TypeId) {v y v' : Value}
    (ho : o.op = .call { callee := .builtin .append, args := #[s, x], argTypes := #[t, t] }) (hs : a.eval s = v) (hx : a.eval x = y)
    (hr : (Builtin.append_ #[t, t] o.type #[v, y]).run P w = .ok v' w') (h : K (a.put o.dst v') w') : o.wp P a w K Q := by
  unfold Oper.wp execOp
  simp only [ho, resolve, invoke, builtin, Sem.run_bind, Sem.run_pure, Result.andThen_ok, List.map_toArray, List.map_cons, List.map_nil, hs, hx, hr]
  exact h
end
end Go.Proofs.YtidppalhjknlfaaGreatDoor
namespace Go.Proofs.YtidppalhjknlfaaGreatDoor
open Go.RowKit
set_option linter.unusedVariables false
section
variable {P : Program} {o : Oper} {a : Act} {K : Act → World → Prop} {Q : Exit → Act → World → Prop} {α : Type} {S : Sh α}
theorem wp_app_go {W : World} (t e : TypeId) (bytes : Nat) (zv : Value) (ht : P.underlying t = some (.slice e)) (hinf : (P.info? e).map (fun i => (i.zero, i.size, i.bytes)) = some (some zv, S.sz, bytes)) (hzc : zv.cells.size = S.sz) (hby : bytes ≤ 100000)
    (base : Nat) (sl x : Operand) (ho : o.op = .call { callee := .builtin .append, args := #[sl, x], argTypes := #[t, t] })
    (v y : Value) (l m : List α) (hs : a.eval sl = v) (hx : a.eval x = y) (HO : W.ownsRow base e S.sz v l.length (S.cells l)) (HY : GR S W y m) (hm0 : m ≠ []) (hbase : base ≤ W.heap.size)
    (hl : l.length ≤ 1000000) (hm : m.length ≤ 1000000)
    (h : ∀ v' w', w'.ownsRow base e S.sz v' (l.length + m.length) (S.cells (l ++ m)) → Keep (fun k => v.ownBlock = some k) W w' → (∀ k, v'.ownBlock = some k → v.ownBlock = some k ∨ W.heap.size ≤ k) → K (a.put o.dst v') w') :
    o.wp P a W K Q := by
  obtain ⟨i0, hi, hzz⟩ := Option.map_eq_some_iff.1 hinf
  simp only [Prod.mk.injEq] at hzz
  obtain ⟨hz0, hz1, hz2⟩ := hzz
  obtain ⟨ad, cap, rfl, hlc, hcm, hnn, hcase⟩ := HY
  rcases hcase with h0 | ⟨b, off, rfl, hc⟩
  · exact absurd h0 hm0
  · have hcells : ∀ j u, (S.cells m)[j]? = some u → W.cell? ((⟨b, off, none⟩ : Addr).add j) = some u := fun j u hu => by
      rw [Go.WideShapes.add_plain]
      have hj : j < m.length * S.sz := by
        have := (List.getElem?_eq_some_iff.1 hu).1
        rwa [Sh.cells_len] at this
      have hp := S.pos
      have hq : j / S.sz < m.length := Nat.div_lt_of_lt_mul (by rw [Nat.mul_comm]; exact hj)
      have h5 := Sh.cells_get (S := S) m (j / S.sz) _ (j % S.sz) (List.getElem?_eq_getElem hq) (Nat.mod_lt _ hp)
      have e5 : j / S.sz * S.sz + j % S.sz = j := by rw [Nat.mul_comm]; exact Nat.div_add_mod j S.sz
      rw [e5, hu] at h5
      have := hc (j / S.sz) _ (List.getElem?_eq_getElem hq) (j % S.sz) u h5.symm
      rwa [e5] at this
    have hbb : (l.length + m.length) * bytes ≤ 140737488355328 := by
      have : (l.length + m.length) * bytes ≤ 2000000 * 100000 := Nat.mul_le_mul (by omega) hby
      omega
    obtain ⟨v1, w1, hrun, hown, hg, _, hat⟩ := run_append_own_at (P := P) W base t o.type e i0 zv S.sz bytes ht hi hz0 hz1 hz2 hzc S.pos v l.length (S.cells l) HO ⟨b, off, none⟩ m.length cap (S.cells m) (Sh.cells_len m) hcells (Sh.cells_one m) (by simp only [maxLen]; omega) hbb hbase
    refine wp_append_run sl x t ho hs hx hrun (h v1 w1 ?_ (keep_grown hg) (fun k hk => ?_))
    · rw [Sh.cells_append]; exact hown
    · rcases hat with hat | hat
      · exact .inl (hat ▸ hk)
      · rw [hat] at hk; cases hk; exact .inr (Nat.le_refl _)
end
end Go.Proofs.YtidppalhjknlfaaGreatDoor
