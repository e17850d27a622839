/- The walks of bytes.HasPrefix (by the library's contract), slices.IndexFunc with kv's closure, kv.Scan. -/
import Derived.Test.YtidppalhjknlfaaDoorQNum
namespace Go.Proofs.YtidppalhjknlfaaDoor
open Go.RowKit
set_option maxRecDepth 100000
set_option linter.unusedVariables false
set_option linter.unusedSimpArgs false
/-! ### the pairs whose keys begin so -/
def pre (s k : ByteArray) : Bool := s.data.toList.isPrefixOf k.data.toList
def AL.scan (s : ByteArray) (l : AL) : AL := (AL.srt l).filter fun p => pre s p.1
theorem pre_ge : ∀ s k : List UInt8, s.isPrefixOf k = true → Op.bytesLess k s = false
  | [], k, _ => by cases k <;> simp [Op.bytesLess]
  | a :: s, [], h => by simp at h
  | a :: s, b :: k, h => by
    rw [List.isPrefixOf_cons_cons, Bool.and_eq_true, beq_iff_eq] at h
    obtain ⟨rfl, h⟩ := h
    have h1 : decide (a < a) = false := by simp
    simp [Op.bytesLess, h1, pre_ge s k h]
theorem pre_mid : ∀ s p q : List UInt8, Op.bytesLess p s = false → Op.bytesLess p q = true → s.isPrefixOf q = true → s.isPrefixOf p = true
  | [], p, q, _, _, _ => by simp
  | a :: s, p, [], _, _, h => by simp at h
  | a :: s, [], b :: q, h, _, _ => by simp [Op.bytesLess] at h
  | a :: s, c :: p, b :: q, h, k, j => by
    rw [List.isPrefixOf_cons_cons, Bool.and_eq_true, beq_iff_eq] at j ⊢
    obtain ⟨rfl, j⟩ := j
    simp only [Op.bytesLess, Bool.or_eq_false_iff, decide_eq_false_iff_not, Bool.and_eq_false_iff, beq_eq_false_iff_ne, Bool.or_eq_true, decide_eq_true_eq, Bool.and_eq_true, beq_iff_eq] at h k
    have e : a = c := by
      rcases k with k | ⟨k, _⟩
      · exact absurd k h.1
      · exact k.symm
    subst e
    refine ⟨rfl, ?_⟩
    rcases h.2 with h2 | h2
    · exact absurd rfl h2
    · rcases k with k | ⟨_, k⟩
      · exact absurd k (UInt8.lt_irrefl _)
      · exact pre_mid s p q h2 k j
theorem pre_midB {s p q : ByteArray} (h : slt p s = false) (k : slt p q = true) (j : pre s q = true) : pre s p = true := by
  unfold slt at h k
  rw [toList_data, toList_data] at h k
  exact pre_mid _ _ _ h k j
theorem takeWhile_filter {α : Type} (f : α → Bool) : ∀ l : List α, l.Pairwise (fun a b => f b = true → f a = true) → l.takeWhile f = l.filter f
  | [], _ => rfl
  | a :: l, h => by
    obtain ⟨h1, h2⟩ := List.pairwise_cons.1 h
    cases hf : f a
    · rw [List.takeWhile_cons_of_neg (by rw [hf]; decide), List.filter_cons_of_neg (by rw [hf]; decide)]
      symm
      rw [List.filter_eq_nil_iff]
      intro b hb hfb
      rw [h1 b hb hfb] at hf; cases hf
    · rw [List.takeWhile_cons_of_pos hf, List.filter_cons_of_pos hf, takeWhile_filter f l h2]
theorem scan_eq {l : AL} (h : AL.ND l) (s : ByteArray) : (AL.range s ByteArray.empty l).takeWhile (fun p => pre s p.1) = AL.scan s l := by
  have hsel : ∀ k, selB s ByteArray.empty k = !slt k s := by intro k; simp [selB]
  have e : AL.range s ByteArray.empty l = (AL.srt l).filter fun p => !slt p.1 s := by
    unfold AL.range; exact List.filter_congr (fun p _ => hsel p.1)
  rw [takeWhile_filter, e, List.filter_filter]
  · unfold AL.scan
    refine List.filter_congr fun p _ => ?_
    cases hp : pre s p.1
    · rfl
    · have : slt p.1 s = false := by
        unfold slt; rw [toList_data, toList_data]; exact pre_ge _ _ hp
      rw [this]; rfl
  · rw [e]
    have hs := (srt_strict h).sublist (List.filter_sublist (p := fun p => !slt p.1 s))
    rw [List.pairwise_iff_getElem] at hs ⊢
    intro i j hi hj hij hb
    have hlt := hs i j hi hj hij
    have hm := (List.mem_filter.1 (List.getElem_mem hi)).2
    exact pre_midB (by simpa using hm) hlt hb
/-! ### pairs that can be read -/
def PR (w : World) (v : Value) (l : AL) : Prop :=
  ∃ a cap, v = .slice a l.length cap ∧ l.length ≤ cap ∧ cap ≤ maxLen ∧ (l = [] ∨ ∃ g, a = some ⟨g, 0, none⟩ ∧ ∀ i p, l[i]? = some p → ∃ kv vv, w.cell? ⟨g, 2 * i, none⟩ = some kv ∧ w.cell? ⟨g, 2 * i + 1, none⟩ = some vv ∧ BS w kv p.1 ∧ BS w vv p.2)
theorem PR.below {w w' : World} {v : Value} {l : AL} (h : PR w v l) (hb : Below w.heap.size w w') : PR w' v l := by
  obtain ⟨a, cap, rfl, h1, h2, h3⟩ := h
  refine ⟨a, cap, rfl, h1, h2, ?_⟩
  rcases h3 with h3 | ⟨g, rfl, h3⟩
  · exact .inl h3
  · refine .inr ⟨g, rfl, fun i p hp => ?_⟩
    obtain ⟨kv, vv, c1, c2, b1, b2⟩ := h3 i p hp
    exact ⟨kv, vv, (Keep.ofBelow hb (fun _ => False)).cell c1 (fun h => h), (Keep.ofBelow hb (fun _ => False)).cell c2 (fun h => h), b1.below hb, b2.below hb⟩
theorem PS.pr {w : World} {base : Nat} {v : Value} {l : AL} (h : PS w base v l) : PR w v l := by
  obtain ⟨xs, h1, h2⟩ := h
  rcases h1.2 with ⟨rfl, h0⟩ | ⟨g, cap, cur, rfl, hb, hg, hn, hm, hr⟩
  · refine ⟨none, 0, by rw [h0], by omega, by decide, .inl (List.eq_nil_of_length_eq_zero h0)⟩
  · refine ⟨_, cap, rfl, hn, hm, .inr ⟨g, rfl, fun i p hp => ?_⟩⟩
    have h1' : w.ownsRow base 96 2 (.slice (some ⟨g, 0, none⟩) l.length cap) l.length xs := h1
    obtain ⟨kv, vv, a, b, c, d⟩ := h2 i p hp
    have hz : ∀ j, (⟨g, 0, none⟩ : Addr).add j = ⟨g, j, none⟩ := fun j => by by_cases h : j = 0 <;> simp [Addr.add, h]
    have e1 := h1'.cells rfl _ _ a
    have e2 := h1'.cells rfl _ _ b
    rw [hz] at e1 e2
    exact ⟨kv, vv, e1, e2, c.bs, d.bs⟩
theorem BS.bytesIn {w : World} {a : Option Addr} {n c : Nat} {s : ByteArray} (h : BS w (.slice a n c) s) : n = s.size ∧ s.size ≤ c ∧ Lib.BytesIn w a s.size (s.data.toList.map fun b => (b.toNat : Int)) := by
  obtain ⟨a', c', he, h1, h2, _, h3⟩ := h
  simp only [Value.slice.injEq] at he
  obtain ⟨rfl, rfl, rfl⟩ := he
  refine ⟨rfl, h1, fun hn => ?_⟩
  rcases h3 with h3 | ⟨b, o, rfl, hc⟩
  · subst h3; simp at hn
  · refine ⟨b, o, rfl, fun i hi => ?_⟩
    rw [hc i hi]
    have h' : i < s.data.toList.length := by rw [data_len]; exact hi
    simp [List.getD_eq_getElem?_getD, List.getElem?_eq_getElem h']
theorem bytesOf_data (s : ByteArray) : Lib.bytesOf (s.data.toList.map fun b => (b.toNat : Int)) = s.data.toList := by
  unfold Lib.bytesOf
  rw [List.map_map]
  conv => rhs; rw [← List.map_id s.data.toList]
  refine List.map_congr_left fun b _ => ?_
  simp
theorem hasPrefix_any (kv sv : Value) (k s : ByteArray) (w : World) (hK : BS w kv k) (hS : BS w sv s) :
    Calls Tryd.prog 67 #[kv, sv] w fun e w' => e = .returned (.bool (pre s k)) ∧ w' = w := by
  obtain ⟨a, c, rfl⟩ := hK.len
  obtain ⟨a', c', rfl⟩ := hS.len
  obtain ⟨_, h1, h2⟩ := hK.bytesIn
  obtain ⟨_, h3, h4⟩ := hS.bytesIn
  have := Tryd.bytes_HasPrefix_all a a' k.size c s.size c' _ _ w (by simp [data_len]) (by simp [data_len]) h1 h2 h4
  rw [bytesOf_data, bytesOf_data] at this
  exact this
end Go.Proofs.YtidppalhjknlfaaDoor
