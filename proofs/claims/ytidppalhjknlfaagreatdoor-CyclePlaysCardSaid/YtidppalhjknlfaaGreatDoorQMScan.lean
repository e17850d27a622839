/- The walks of bytes.HasPrefix (by the library's contract), slices.IndexFunc with kv's closure, kv.Scan. Lists of structs in memory, of any shape: what is read (GR), what is owned; append. -/
import Derived.Test.YtidppalhjknlfaaGreatDoorQNum
import Derived.Test.YtidppalhjknlfaaGreatDoorQMMem
import Derived.Maps.AppendAt
import Derived.Handy
namespace Go.Proofs.YtidppalhjknlfaaGreatDoor
open Go.RowKit
set_option maxRecDepth 100000
set_option linter.unusedVariables false
set_option linter.unusedSimpArgs false
/-! ### the pairs whose keys begin so -/
def pre (s k : ByteArray) : Bool := s.data.toList.isPrefixOf k.data.toList
def AL.scan (s : ByteArray) (l : AL) : AL := (AL.srt l).filter fun p => pre s p.1
theorem pre_ge : ∀ s k : List UInt8, s.isPrefixOf k = true → Op.bytesLess k s = false
  | [], k, _ => by cases k <;> simp [Op.bytesLess]
  | a :: s, [], h => by simp at h
  | a :: s, b :: k, h => by
    rw [List.isPrefixOf_cons_cons, Bool.and_eq_true, beq_iff_eq] at h
    obtain ⟨rfl, h⟩ := h
    have h1 : decide (a < a) = false := by simp
    simp [Op.bytesLess, h1, pre_ge s k h]
theorem pre_mid : ∀ s p q : List UInt8, Op.bytesLess p s = false → Op.bytesLess p q = true → s.isPrefixOf q = true → s.isPrefixOf p = true
  | [], p, q, _, _, _ => by simp
  | a :: s, p, [], _, _, h => by simp at h
  | a :: s, [], b :: q, h, _, _ => by simp [Op.bytesLess] at h
  | a :: s, c :: p, b :: q, h, k, j => by
    rw [List.isPrefixOf_cons_cons, Bool.and_eq_true, beq_iff_eq] at j ⊢
    obtain ⟨rfl, j⟩ := j
    simp only [Op.bytesLess, Bool.or_eq_false_iff, decide_eq_false_iff_not, Bool.and_eq_false_iff, beq_eq_false_iff_ne, Bool.or_eq_true, decide_eq_true_eq, Bool.and_eq_true, beq_iff_eq] at h k
    have e : a = c := by
      rcases k with k | ⟨k, _⟩
      · exact absurd k h.1
      · exact k.symm
    subst e
    refine ⟨rfl, ?_⟩
    rcases h.2 with h2 | h2
    · exact absurd rfl h2
    · rcases k with k | ⟨_, k⟩
      · exact absurd k (UInt8.lt_irrefl _)
      · exact pre_mid s p q h2 k j
theorem pre_midB {s p q : ByteArray} (h : slt p s = false) (k : slt p q = true) (j : pre s q = true) : pre s p = true := by
  unfold slt at h k
  rw [toList_data, toList_data] at h k
  exact pre_mid _ _ _ h k j
theorem takeWhile_filter {α : Type} (f : α → Bool) : ∀ l : List α, l.Pairwise (fun a b => f b = true → f a = true) → l.takeWhile f = l.filter f
  | [], _ => rfl
  | a :: l, h => by
    obtain ⟨h1, h2⟩ := List.pairwise_cons.1 h
    cases hf : f a
    · rw [List.takeWhile_cons_of_neg (by rw [hf]; decide), List.filter_cons_of_neg (by rw [hf]; decide)]
      symm
      rw [List.filter_eq_nil_iff]
      intro b hb hfb
      rw [h1 b hb hfb] at hf; cases hf
    · rw [List.takeWhile_cons_of_pos hf, List.filter_cons_of_pos hf, takeWhile_filter f l h2]
theorem scan_eq {l : AL} (h : AL.ND l) (s : ByteArray) : (AL.range s ByteArray.empty l).takeWhile (fun p => pre s p.1) = AL.scan s l := by
  have hsel : ∀ k, selB s ByteArray.empty k = !slt k s := by intro k; simp [selB]
  have e : AL.range s ByteArray.empty l = (AL.srt l).filter fun p => !slt p.1 s := by
    unfold AL.range; exact List.filter_congr (fun p _ => hsel p.1)
  rw [takeWhile_filter, e, List.filter_filter]
  · unfold AL.scan
    refine List.filter_congr fun p _ => ?_
    cases hp : pre s p.1
    · rfl
    · have : slt p.1 s = false := by
        unfold slt; rw [toList_data, toList_data]; exact pre_ge _ _ hp
      rw [this]; rfl
  · rw [e]
    have hs := (srt_strict h).sublist (List.filter_sublist (p := fun p => !slt p.1 s))
    rw [List.pairwise_iff_getElem] at hs ⊢
    intro i j hi hj hij hb
    have hlt := hs i j hi hj hij
    have hm := (List.mem_filter.1 (List.getElem_mem hi)).2
    exact pre_midB (by simpa using hm) hlt hb
/-! ### pairs that can be read -/
def PR (w : World) (v : Value) (l : AL) : Prop :=
  ∃ a cap, v = .slice a l.length cap ∧ l.length ≤ cap ∧ cap ≤ maxLen ∧ (l = [] ∨ ∃ g, a = some ⟨g, 0, none⟩ ∧ ∀ i p, l[i]? = some p → ∃ kv vv, w.cell? ⟨g, 2 * i, none⟩ = some kv ∧ w.cell? ⟨g, 2 * i + 1, none⟩ = some vv ∧ BS w kv p.1 ∧ BS w vv p.2)
theorem PR.below {w w' : World} {v : Value} {l : AL} (h : PR w v l) (hb : Below w.heap.size w w') : PR w' v l := by
  obtain ⟨a, cap, rfl, h1, h2, h3⟩ := h
  refine ⟨a, cap, rfl, h1, h2, ?_⟩
  rcases h3 with h3 | ⟨g, rfl, h3⟩
  · exact .inl h3
  · refine .inr ⟨g, rfl, fun i p hp => ?_⟩
    obtain ⟨kv, vv, c1, c2, b1, b2⟩ := h3 i p hp
    exact ⟨kv, vv, (Keep.ofBelow hb (fun _ => False)).cell c1 (fun h => h), (Keep.ofBelow hb (fun _ => False)).cell c2 (fun h => h), b1.below hb, b2.below hb⟩
theorem PS.pr {w : World} {base : Nat} {v : Value} {l : AL} (h : PS w base v l) : PR w v l := by
  obtain ⟨xs, h1, h2⟩ := h
  rcases h1.2 with ⟨rfl, h0⟩ | ⟨g, cap, cur, rfl, hb, hg, hn, hm, hr⟩
  · refine ⟨none, 0, by rw [h0], by omega, by decide, .inl (List.eq_nil_of_length_eq_zero h0)⟩
  · refine ⟨_, cap, rfl, hn, hm, .inr ⟨g, rfl, fun i p hp => ?_⟩⟩
    have h1' : w.ownsRow base 117 2 (.slice (some ⟨g, 0, none⟩) l.length cap) l.length xs := h1
    obtain ⟨kv, vv, a, b, c, d⟩ := h2 i p hp
    have hz : ∀ j, (⟨g, 0, none⟩ : Addr).add j = ⟨g, j, none⟩ := fun j => by by_cases h : j = 0 <;> simp [Addr.add, h]
    have e1 := h1'.cells rfl _ _ a
    have e2 := h1'.cells rfl _ _ b
    rw [hz] at e1 e2
    exact ⟨kv, vv, e1, e2, c.bs, d.bs⟩
theorem BS.bytesIn {w : World} {a : Option Addr} {n c : Nat} {s : ByteArray} (h : BS w (.slice a n c) s) : n = s.size ∧ s.size ≤ c ∧ Lib.BytesIn w a s.size (s.data.toList.map fun b => (b.toNat : Int)) := by
  obtain ⟨a', c', he, h1, h2, _, h3⟩ := h
  simp only [Value.slice.injEq] at he
  obtain ⟨rfl, rfl, rfl⟩ := he
  refine ⟨rfl, h1, fun hn => ?_⟩
  rcases h3 with h3 | ⟨b, o, rfl, hc⟩
  · subst h3; simp at hn
  · refine ⟨b, o, rfl, fun i hi => ?_⟩
    rw [hc i hi]
    have h' : i < s.data.toList.length := by rw [data_len]; exact hi
    simp [List.getD_eq_getElem?_getD, List.getElem?_eq_getElem h']
theorem bytesOf_data (s : ByteArray) : Lib.bytesOf (s.data.toList.map fun b => (b.toNat : Int)) = s.data.toList := by
  unfold Lib.bytesOf
  rw [List.map_map]
  conv => rhs; rw [← List.map_id s.data.toList]
  refine List.map_congr_left fun b _ => ?_
  simp
theorem hasPrefix_any (kv sv : Value) (k s : ByteArray) (w : World) (hK : BS w kv k) (hS : BS w sv s) :
    Calls Tryz.prog 78 #[kv, sv] w fun e w' => e = .returned (.bool (pre s k)) ∧ w' = w := by
  obtain ⟨a, c, rfl⟩ := hK.len
  obtain ⟨a', c', rfl⟩ := hS.len
  obtain ⟨_, h1, h2⟩ := hK.bytesIn
  obtain ⟨_, h3, h4⟩ := hS.bytesIn
  have := Tryz.bytes_HasPrefix_all a a' k.size c s.size c' _ _ w (by simp [data_len]) (by simp [data_len]) h1 h2 h4
  rw [bytesOf_data, bytesOf_data] at this
  exact this
end Go.Proofs.YtidppalhjknlfaaGreatDoor
namespace Go.Proofs.YtidppalhjknlfaaGreatDoor
open Go.RowKit
set_option linter.unusedVariables false
set_option linter.unusedSimpArgs false
/-- how a struct lies: so many cells -/
structure Sh (α : Type) where
  sz : Nat
  cf : α → List Value
  len : ∀ x, (cf x).length = sz
  pos : 0 < sz
  one : ∀ x, ∀ u ∈ cf x, u.oneCell' = true
def Sh.cells {α : Type} (S : Sh α) (L : List α) : List Value := L.flatMap S.cf
section
variable {α : Type} {S : Sh α}
theorem Sh.cells_append (L M : List α) : S.cells (L ++ M) = S.cells L ++ S.cells M := by simp [Sh.cells]
theorem Sh.cells_len : ∀ (L : List α), (S.cells L).length = L.length * S.sz
  | [] => by simp [Sh.cells]
  | x :: L => by
    show (S.cf x ++ S.cells L).length = _
    rw [List.length_append, Sh.cells_len L, S.len, List.length_cons, Nat.add_mul]; omega
theorem Sh.cells_get : ∀ (L : List α) (i : Nat) (l : α) (k : Nat), L[i]? = some l → k < S.sz → (S.cells L)[i * S.sz + k]? = (S.cf l)[k]?
  | [], i, l, k, h, _ => by simp at h
  | x :: L, 0, l, k, h, hk => by
    simp at h; subst h
    show (S.cf x ++ S.cells L)[0 * S.sz + k]? = _
    rw [List.getElem?_append_left (by rw [S.len]; omega)]; congr 1; omega
  | x :: L, i + 1, l, k, h, hk => by
    have ih := Sh.cells_get L i l k (by simpa using h) hk
    show (S.cf x ++ S.cells L)[(i + 1) * S.sz + k]? = _
    rw [List.getElem?_append_right (by rw [S.len, Nat.add_mul]; omega), S.len, ← ih]; congr 1
    rw [Nat.add_mul]; omega
theorem Sh.cells_one (L : List α) : ∀ u ∈ S.cells L, u.oneCell' = true := by
  intro u hu
  obtain ⟨l, _, h⟩ := List.mem_flatMap.1 hu
  exact S.one l u h
/-- v is a list that reads as L -/
def GR (S : Sh α) (w : World) (v : Value) (L : List α) : Prop :=
  ∃ a cap, v = .slice a L.length cap ∧ L.length ≤ cap ∧ cap ≤ maxLen ∧ (a = none → cap = 0) ∧ (L = [] ∨ ∃ g off, a = some ⟨g, off, none⟩ ∧ ∀ i l, L[i]? = some l → ∀ (k : Nat) x, (S.cf l)[k]? = some x → w.cell? ⟨g, off + (i * S.sz + k), none⟩ = some x)
theorem GR.shape {w : World} {v : Value} {L : List α} (h : GR S w v L) : ∃ a cap, v = .slice a L.length cap ∧ L.length ≤ cap ∧ cap ≤ maxLen ∧ (a = none → cap = 0) := by
  obtain ⟨a, cap, rfl, h1, h2, h3, _⟩ := h
  exact ⟨a, cap, rfl, h1, h2, h3⟩
theorem GR.keep {F : Nat → Prop} {w w' : World} {v : Value} {L : List α} (h : GR S w v L) (hk : Keep F w w') (hF : L ≠ [] → ∀ k, v.ownBlock = some k → ¬ F k) : GR S w' v L := by
  obtain ⟨a, cap, rfl, h1, h2, h3, h4⟩ := h
  refine ⟨a, cap, rfl, h1, h2, h3, ?_⟩
  rcases h4 with h4 | ⟨g, off, rfl, h4⟩
  · exact .inl h4
  · by_cases hL : L = []
    · exact .inl hL
    · exact .inr ⟨g, off, rfl, fun i l hl k x hx => hk.cell (h4 i l hl k x hx) (hF hL g rfl)⟩
theorem GR.below {w w' : World} {v : Value} {L : List α} (h : GR S w v L) (hb : Below w.heap.size w w') : GR S w' v L := h.keep (Keep.ofBelow hb (fun _ => False)) (fun _ _ _ h => h)
theorem GR.alloc {w : World} {v : Value} {L : List α} (h : GR S w v L) (o : Obj) : GR S (w.alloc o) v L := h.below ((Below.refl _ _).alloc (Nat.le_refl _) o)
theorem GR.nil (w : World) : GR S w (.slice none 0 0) [] := ⟨none, 0, rfl, Nat.le_refl _, by decide, fun _ => rfl, .inl rfl⟩
theorem GR.blk {w : World} {v : Value} {L : List α} (h : GR S w v L) (hL : L ≠ []) : ∃ g off cap, v = .slice (some ⟨g, off, none⟩) L.length cap ∧ g < w.heap.size ∧ ∃ o x, w.cell? ⟨g, o, none⟩ = some x := by
  obtain ⟨a, cap, rfl, h1, h2, h3, h4⟩ := h
  rcases h4 with h4 | ⟨g, off, rfl, h4⟩
  · exact absurd h4 hL
  · obtain ⟨l, hl⟩ : ∃ l, L[0]? = some l := ⟨_, List.getElem?_eq_getElem (List.length_pos_iff.2 hL)⟩
    obtain ⟨x, hx⟩ : ∃ x, (S.cf l)[0]? = some x := ⟨_, List.getElem?_eq_getElem (by rw [S.len]; exact S.pos)⟩
    have hc := h4 0 l hl 0 x hx
    refine ⟨g, off, cap, rfl, ?_, _, _, hc⟩
    rcases Nat.lt_or_ge g w.heap.size with hg | hg
    · exact hg
    · simp [World.cell?, Array.getElem?_eq_none hg] at hc
theorem GR.mem {w w' : World} {b : Nat} {al : AL} {v : Value} {L : List α} (h : GR S w v L) (hm : MapAt w b al) (hk : Keep (fun i => i = b) w w') : GR S w' v L :=
  h.keep hk (fun hL k hv e => by
    obtain ⟨g, off, cap, rfl, _, o, x, hc⟩ := h.blk hL
    subst e
    cases hv
    obtain ⟨es, c, h1, _⟩ := hm
    simp [World.cell?, h1] at hc)
/-- where an element lies -/
theorem GR.at_ {w : World} {v : Value} {L : List α} (h : GR S w v L) {i : Nat} {l : α} (hl : L[i]? = some l) : ∃ g off cap, v = .slice (some ⟨g, off, none⟩) L.length cap ∧ ∀ (k : Nat) x, (S.cf l)[k]? = some x → w.cell? ⟨g, off + i * S.sz + k, none⟩ = some x := by
  obtain ⟨a, cap, rfl, h1, h2, h3, h4⟩ := h
  rcases h4 with h4 | ⟨g, off, rfl, h4⟩
  · rw [h4] at hl; simp at hl
  · exact ⟨g, off, cap, rfl, fun k x hx => by rw [Nat.add_assoc]; exact h4 i l hl k x hx⟩
theorem GR.of_row {w : World} {base : Nat} {T : TypeId} {v : Value} {L : List α} (h : w.ownsRow base T S.sz v L.length (S.cells L)) : GR S w v L := by
  have h' := h
  rcases h.2 with ⟨rfl, h0⟩ | ⟨g, cap, cur, rfl, hb, hg, hn, hm, hr⟩
  · obtain rfl := List.eq_nil_of_length_eq_zero h0
    exact GR.nil w
  · refine ⟨_, cap, rfl, hn, hm, (fun e => by cases e), .inr ⟨g, 0, rfl, fun i l hl k x hx => ?_⟩⟩
    have hk : k < S.sz := by
      have := (List.getElem?_eq_some_iff.1 hx).1
      rwa [S.len] at this
    have e1 := h'.cells rfl _ _ ((Sh.cells_get L i l k hl hk).trans hx)
    rw [Go.WideShapes.add_plain] at e1
    exact e1
/-- a literal -/
theorem GR.lit (W : World) (T : TypeId) (L : List α) (hl : L.length ≤ 1000000) : GR S (W.alloc (.cells (S.cells L).toArray T)) (.slice (some ⟨W.heap.size, 0, none⟩) L.length L.length) L := by
  refine ⟨_, L.length, rfl, Nat.le_refl _, by unfold maxLen; omega, (fun e => by cases e), .inr ⟨_, 0, rfl, fun i x hi k u hu => ?_⟩⟩
  rw [blk_cell (blk_new W _)]
  have hk : k < S.sz := by
    have := (List.getElem?_eq_some_iff.1 hu).1
    rwa [S.len] at this
  rw [Nat.zero_add, List.getElem?_toArray, Sh.cells_get L i x k hi hk]
  exact hu
theorem GR.take {w : World} {g off cap : Nat} {L : List α} (h : GR S w (.slice (some ⟨g, off, none⟩) L.length cap) L) (i : Nat) (hi : i ≤ L.length) : GR S w (.slice (some ⟨g, off, none⟩) i cap) (L.take i) := by
  obtain ⟨a, c, he, h1, h2, h3, h4⟩ := h
  injection he with he _ hc
  subst he; subst hc
  have hl : (L.take i).length = i := by rw [List.length_take]; omega
  refine ⟨_, cap, by rw [hl], by omega, h2, (fun e => by cases e), ?_⟩
  rcases h4 with h4 | ⟨g', off', he, h4⟩
  · subst h4; exact .inl (by simp)
  · cases he
    refine .inr ⟨g, off, rfl, fun j l hj k x hx => h4 j l ?_ k x hx⟩
    rw [List.getElem?_take] at hj
    split at hj
    · exact hj
    · cases hj
theorem GR.drop {w : World} {g off cap : Nat} {L : List α} (h : GR S w (.slice (some ⟨g, off, none⟩) L.length cap) L) (i : Nat) (hi : i ≤ L.length) : GR S w (.slice (some ⟨g, off + i * S.sz, none⟩) (L.length - i) (cap - i)) (L.drop i) := by
  obtain ⟨a, c, he, h1, h2, h3, h4⟩ := h
  injection he with he _ hc
  subst he; subst hc
  refine ⟨_, cap - i, by rw [List.length_drop], by rw [List.length_drop]; omega, by omega, (fun e => by cases e), ?_⟩
  rcases h4 with h4 | ⟨g', off', he, h4⟩
  · subst h4; exact .inl (by simp)
  · cases he
    refine .inr ⟨g, _, rfl, fun j l hj k x hx => ?_⟩
    rw [List.getElem?_drop] at hj
    have := h4 (i + j) l hj k x hx
    rw [← this]; congr 2
    rw [Nat.add_mul]; omega
/-- what is from an index on, as the program's slicing lays it -/
theorem GR.from_ {w : World} {g off cap : Nat} {L : List α} (h : GR S w (.slice (some ⟨g, off, none⟩) L.length cap) L) (i : Nat) (hi : i ≤ L.length) : GR S w (.slice (if cap = i then some ⟨g, off, none⟩ else some ⟨g, off + i * S.sz, none⟩) (L.length - i) (cap - i)) (L.drop i) := by
  by_cases hv : cap = i
  · rw [if_pos hv]
    obtain ⟨a, c, he, h1, h2, h3, h4⟩ := h
    injection he with he _ hc
    subst he; subst hc
    exact ⟨_, _, by rw [List.length_drop], by rw [List.length_drop]; omega, by omega, (fun e => by cases e), .inl (List.drop_eq_nil_of_le (by omega))⟩
  · rw [if_neg hv]; exact h.drop i hi
theorem rowS_keep {w w' : World} {F : Nat → Prop} {B : Nat} {e : TypeId} {n k : Nat} {v : Value} {xs : List Value} (hk : Keep F w w') (h : w.ownsRow B e n v k xs) (hA : ∀ k, v.ownBlock = some k → ¬ F k) : w'.ownsRow B e n v k xs := by
  refine ⟨h.1, ?_⟩
  rcases h.2 with hn | ⟨g, cap, cur, he, hb, hg, rest⟩
  · exact .inl hn
  · exact .inr ⟨g, cap, cur, he, hb, hk.blk hg (hA g (by rw [he]; rfl)), rest⟩
theorem rowS_below {w w' : World} {B : Nat} {e : TypeId} {n k : Nat} {v : Value} {xs : List Value} (h : w.ownsRow B e n v k xs) (hb : Below w.heap.size w w') : w'.ownsRow B e n v k xs := rowS_keep (Keep.ofBelow hb (fun _ => False)) h (fun _ _ h => h)
theorem rowS_low {w : World} {B : Nat} {e : TypeId} {n k : Nat} {v : Value} {xs : List Value} (h : w.ownsRow B e n v k xs) : ∀ g, v.ownBlock = some g → B ≤ g ∧ g < w.heap.size := fun g hg => by
  rcases h.2 with ⟨he, _⟩ | ⟨g', c', cu, he, hb', hg', _⟩
  · rw [he] at hg; cases hg
  · rw [he] at hg; cases hg; exact ⟨hb', blk_lt hg'⟩
theorem rowS_shape {w : World} {B : Nat} {e : TypeId} {n k : Nat} {v : Value} {xs : List Value} (h : w.ownsRow B e n v k xs) : ∃ a c, v = .slice a k c := by
  rcases h.2 with ⟨rfl, h0⟩ | ⟨g, cap, cur, rfl, _⟩
  · exact ⟨none, 0, by rw [h0]⟩
  · exact ⟨_, _, rfl⟩
theorem rowS_set {w : World} {B g cap n size : Nat} {e : TypeId} {xs : List Value} (h : w.ownsRow B e size (.slice (some ⟨g, 0, none⟩) n cap) n xs) (i : Nat) (hi : i < xs.length) (u : Value) : (w.setCell ⟨g, i, none⟩ u).ownsRow B e size (.slice (some ⟨g, 0, none⟩) n cap) n (xs.set i u) := by
  refine ⟨by rw [List.length_set]; exact h.1, ?_⟩
  rcases h.2 with ⟨he, _⟩ | ⟨g', cap', cur, he, hb, hg, hn, hm, hs, ht⟩
  · cases he
  · injection he with e1 _ e3
    injection e1 with e1
    injection e1 with e1
    subst e1; subst e3
    refine .inr ⟨_, _, cur.setIfInBounds i u, rfl, hb, blk_setCell hg i u, hn, hm, by rw [Array.size_setIfInBounds]; exact hs, ?_⟩
    rw [Array.toList_setIfInBounds, List.take_set, ht]
theorem Sh.cells_set (X : List α) (j : Nat) (x x' : α) (k : Nat) (u : Value) (hx : X[j]? = some x) (hk : k < S.sz) (hc : S.cf x' = (S.cf x).set k u) : (S.cells X).set (j * S.sz + k) u = S.cells (X.set j x') := by
  induction X generalizing j with
  | nil => simp at hx
  | cons y X ih =>
    cases j with
    | zero =>
      simp at hx; subst hx
      show (S.cf y ++ S.cells X).set (0 * S.sz + k) u = S.cf x' ++ S.cells X
      rw [List.set_append_left _ _ (by rw [S.len]; omega), hc]; congr 2; omega
    | succ j =>
      show (S.cf y ++ S.cells X).set ((j + 1) * S.sz + k) u = S.cf y ++ S.cells (X.set j x')
      rw [List.set_append_right _ _ (by rw [S.len, Nat.add_mul]; omega), S.len, ← ih j (by simpa using hx)]
      congr 2; rw [Nat.add_mul]; omega
end
section
variable {P : Program} {ops : Array Oper} {rest : List Oper} {o : Oper} {a : Act} {Q : Exit → Act → World → Prop} {α : Type} {S : Sh α}
/-- l = append(l, m...) -/
theorem wp_app_g {W : World} (t e : TypeId) (bytes : Nat) (zv : Value) (ht : P.underlying t = some (.slice e)) (hinf : (P.info? e).map (fun i => (i.zero, i.size, i.bytes)) = some (some zv, S.sz, bytes)) (hzc : zv.cells.size = S.sz) (hby : bytes ≤ 100000)
    (base : Nat) (hgd : o.guard = none) (sl x : Operand) (ho : o.op = .call { callee := .builtin .append, args := #[sl, x], argTypes := #[t, t] })
    (v y : Value) (l m : List α) (hs : a.eval sl = v) (hx : a.eval x = y) (HO : W.ownsRow base e S.sz v l.length (S.cells l)) (HY : GR S W y m) (hbase : base ≤ W.heap.size)
    (hl : l.length ≤ 1000000) (hm : m.length ≤ 1000000)
    (h : ∀ v' w', w'.ownsRow base e S.sz v' (l ++ m).length (S.cells (l ++ m)) → Keep (fun k => v.ownBlock = some k) W w' → (∀ k, v'.ownBlock = some k → v.ownBlock = some k ∨ W.heap.size ≤ k) → wpList P ops Q rest (a.put o.dst v') w') :
    wpList P ops Q (o :: rest) a W := by
  obtain ⟨i0, hi, hzz⟩ := Option.map_eq_some_iff.1 hinf
  simp only [Prod.mk.injEq] at hzz
  obtain ⟨hz0, hz1, hz2⟩ := hzz
  obtain ⟨ad, cap, rfl, hlc, hcm, hnn, hcase⟩ := HY
  cases ad with
  | none =>
    obtain rfl : cap = 0 := hnn rfl
    have hm0 : m = [] := List.eq_nil_of_length_eq_zero (by omega)
    subst hm0
    refine wpList_append_own_none hgd sl x t ho base e i0 S.sz ht hi v l.length (S.cells l) hs HO hx ?_
    exact h v W (by rw [List.append_nil]; exact HO) (Keep.refl _ _) (fun k hk => .inl hk)
  | some ad =>
    have hcells : ∀ j u, (S.cells m)[j]? = some u → W.cell? (ad.add j) = some u := fun j u hu => by
      rcases hcase with rfl | ⟨b, off, he, hc⟩
      · simp [Sh.cells] at hu
      · injection he with he
        subst he
        rw [Go.WideShapes.add_plain]
        have hj : j < m.length * S.sz := by
          have := (List.getElem?_eq_some_iff.1 hu).1
          rwa [Sh.cells_len] at this
        have hp := S.pos
        have hq : j / S.sz < m.length := Nat.div_lt_of_lt_mul (by rw [Nat.mul_comm]; exact hj)
        have h5 := Sh.cells_get (S := S) m (j / S.sz) _ (j % S.sz) (List.getElem?_eq_getElem hq) (Nat.mod_lt _ hp)
        have e5 : j / S.sz * S.sz + j % S.sz = j := by rw [Nat.mul_comm]; exact Nat.div_add_mod j S.sz
        rw [e5, hu] at h5
        have := hc (j / S.sz) _ (List.getElem?_eq_getElem hq) (j % S.sz) u h5.symm
        rwa [e5] at this
    have hbb : (l.length + m.length) * bytes ≤ 140737488355328 := by
      have : (l.length + m.length) * bytes ≤ 2000000 * 100000 := Nat.mul_le_mul (by omega) hby
      omega
    refine wpList_append_own_at W hgd sl x t ho base e i0 zv S.sz bytes ht hi hz0 hz1 hz2 hzc S.pos v l.length (S.cells l) hs HO ad m.length cap (S.cells m) hx (Sh.cells_len m) hcells (Sh.cells_one m) (by simp only [maxLen]; omega) hbb hbase ?_
    intro v1 w1 hown hg _ hat
    refine h v1 w1 ?_ (keep_grown hg) (fun k hk => ?_)
    · rw [Sh.cells_append, List.length_append]; exact hown
    · rcases hat with hat | hat
      · exact .inl (hat ▸ hk)
      · rw [hat] at hk; cases hk; exact .inr (Nat.le_refl _)
end
end Go.Proofs.YtidppalhjknlfaaGreatDoor
