/- A list of leases that is read. -/
import Derived.Test.YtidppalhjknlfaaLeC
namespace Go.Proofs.Ytidppalhjknlfaa
open Go.RowKit
set_option linter.unusedVariables false
set_option linter.unusedSimpArgs false
def c5 (l : Ls) : List Value := [.int .u32 l.id, .int .i64 l.units, .int .i64 l.exp, .int .i64 l.day, .int .i64 l.month]
def cells5 (L : List Ls) : List Value := L.flatMap c5
theorem c5_len (l : Ls) : (c5 l).length = 5 := rfl
theorem cells5_snoc (L : List Ls) (l : Ls) : cells5 (L ++ [l]) = cells5 L ++ c5 l := by simp [cells5]
theorem cells5_len (L : List Ls) : (cells5 L).length = L.length * 5 := by
  induction L with
  | nil => rfl
  | cons l L ih =>
    show (c5 l ++ cells5 L).length = _
    rw [List.length_append, ih, c5_len, List.length_cons]; omega
theorem cells5_get : ∀ (L : List Ls) (i : Nat) (l : Ls) (k : Nat), L[i]? = some l → k < 5 → (cells5 L)[i * 5 + k]? = (c5 l)[k]?
  | [], i, l, k, h, _ => by simp at h
  | x :: L, 0, l, k, h, hk => by
    simp at h; subst h
    show (c5 x ++ cells5 L)[0 * 5 + k]? = _
    rw [List.getElem?_append_left (by rw [c5_len]; omega)]; congr 1; omega
  | x :: L, i + 1, l, k, h, hk => by
    have ih := cells5_get L i l k (by simpa using h) hk
    show (c5 x ++ cells5 L)[(i + 1) * 5 + k]? = _
    rw [List.getElem?_append_right (by rw [c5_len]; omega), c5_len, ← ih]; congr 1; omega
/-- v is a list of leases that reads as L -/
def LR (w : World) (v : Value) (L : List Ls) : Prop :=
  ∃ a cap, v = .slice a L.length cap ∧ L.length ≤ cap ∧ cap ≤ maxLen ∧ (a = none → cap = 0) ∧ (L = [] ∨ ∃ g off, a = some ⟨g, off, none⟩ ∧ ∀ i l, L[i]? = some l → ∀ (k : Nat) x, (c5 l)[k]? = some x → w.cell? ⟨g, off + (i * 5 + k), none⟩ = some x)
theorem LR.keep {F : Nat → Prop} {w w' : World} {v : Value} {L : List Ls} (h : LR w v L) (hk : Keep F w w') (hF : ∀ b o x, w.cell? ⟨b, o, none⟩ = some (.int .u32 x) → ¬ F b) : LR w' v L := by
  obtain ⟨a, cap, rfl, h1, h2, h3, h4⟩ := h
  refine ⟨a, cap, rfl, h1, h2, h3, ?_⟩
  rcases h4 with h4 | ⟨g, off, rfl, h4⟩
  · exact .inl h4
  · exact .inr ⟨g, off, rfl, fun i l hl k x hx => hk.cell (h4 i l hl k x hx) (hF g (off + (i * 5 + 0)) l.id (h4 i l hl 0 _ rfl))⟩
theorem LR.below {w w' : World} {v : Value} {L : List Ls} (h : LR w v L) (hb : Below w.heap.size w w') : LR w' v L := h.keep (Keep.ofBelow hb (fun _ => False)) (fun _ _ _ _ h => h)
theorem LR.alloc {w : World} {v : Value} {L : List Ls} (h : LR w v L) (o : Obj) : LR (w.alloc o) v L := h.below ((Below.refl _ _).alloc (Nat.le_refl _) o)
theorem LR.nil (w : World) : LR w (.slice none 0 0) [] := ⟨none, 0, rfl, Nat.le_refl _, by decide, fun _ => rfl, .inl rfl⟩
theorem LR.of_row {w : World} {base : Nat} {v : Value} {L : List Ls} (h : w.ownsRow base 31 5 v L.length (cells5 L)) : LR w v L := by
  have h' := h
  rcases h.2 with ⟨rfl, h0⟩ | ⟨g, cap, cur, rfl, hb, hg, hn, hm, hr⟩
  · obtain rfl := List.eq_nil_of_length_eq_zero h0
    exact LR.nil w
  · refine ⟨_, cap, rfl, hn, hm, (fun e => by cases e), .inr ⟨g, 0, rfl, fun i l hl k x hx => ?_⟩⟩
    have hk : k < 5 := by
      have := (List.getElem?_eq_some_iff.1 hx).1
      rwa [c5_len] at this
    have e1 := h'.cells rfl _ _ ((cells5_get L i l k hl hk).trans hx)
    rw [Go.WideShapes.add_plain] at e1
    exact e1
end Go.Proofs.Ytidppalhjknlfaa
