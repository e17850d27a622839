/- A slice of acts that came in; the walk of quitrentlaw16's great. -/
import Derived.Test.YtiadoimdohnebaaActLaw
import Derived.LoopTactic
namespace Go.Proofs.Ytiadoimdohnebaa
open Go.RowKit
set_option linter.unusedVariables false
set_option linter.unusedSimpArgs false
set_option maxRecDepth 100000
/-- v is a slice of acts that reads as l -/
def AS (w : World) (v : Value) (l : List A16) : Prop :=
  ∃ a c, v = .slice a l.length c ∧ l.length ≤ maxLen ∧ (∀ (i : Nat) (x : A16), l[i]? = some x → x.Ok) ∧
    (l = [] ∨ ∃ b off, a = some ⟨b, off, none⟩ ∧ ∀ (i : Nat) (x : A16), l[i]? = some x → w.cell? ⟨b, off + i * 4, none⟩ = some (.int .u8 x.doo) ∧ w.cell? ⟨b, off + i * 4 + 1, none⟩ = some (.string x.key) ∧ w.cell? ⟨b, off + i * 4 + 2, none⟩ = some (.string x.val) ∧ w.cell? ⟨b, off + i * 4 + 3, none⟩ = some (.int .u64 x.n))
theorem AS.keep {F : Nat → Prop} {w w' : World} {v : Value} {l : List A16} (h : AS w v l) (hk : Keep F w w') (hF : ∀ b o x, w.cell? ⟨b, o, none⟩ = some (.int .u8 x) → ¬ F b) : AS w' v l := by
  obtain ⟨a, c, rfl, h1, h2, h3⟩ := h
  refine ⟨a, c, rfl, h1, h2, ?_⟩
  rcases h3 with h3 | ⟨b, off, rfl, h3⟩
  · exact .inl h3
  · refine .inr ⟨b, off, rfl, fun i x hx => ?_⟩
    obtain ⟨c0, c1, c2, c3⟩ := h3 i x hx
    have hb := hF _ _ _ c0
    exact ⟨hk.cell c0 hb, hk.cell c1 hb, hk.cell c2 hb, hk.cell c3 hb⟩
theorem AS.below {w w' : World} {v : Value} {l : List A16} (h : AS w v l) (hb : Below w.heap.size w w') : AS w' v l := h.keep (Keep.ofBelow hb (fun _ => False)) (fun _ _ _ _ hf => hf)
def big16 (a : A16) : Bool := decide (400 < a.key.size) || decide (1200 < a.val.size)
def grB (l : List A16) : Bool := (l.take 201).any big16 || decide (200 < l.length)
theorem any_of {l : List A16} {k : Nat} {x : A16} (hx : l[k]? = some x) (hk : k < 201) (hb : big16 x = true) : grB l = true := by
  unfold grB
  rw [Bool.or_eq_true]; left
  rw [List.any_eq_true]
  refine ⟨x, ?_, hb⟩
  rw [List.mem_iff_getElem?]
  exact ⟨k, by rw [List.getElem?_take, if_pos hk]; exact hx⟩
theorem none_of {l : List A16} {k : Nat} (h : ∀ (i : Nat) (x : A16), i < k → l[i]? = some x → big16 x = false) (hk : l.length ≤ k ∨ 201 ≤ k) : grB l = decide (200 < l.length) := by
  unfold grB
  have : (l.take 201).any big16 = false := by
    rw [List.any_eq_false]
    intro x hx
    rw [List.mem_iff_getElem?] at hx
    obtain ⟨i, hi⟩ := hx
    rw [List.getElem?_take] at hi
    split at hi
    · have hl : i < l.length := (List.getElem?_eq_some_iff.1 hi).1
      rw [h i x (by omega) hi]; decide
    · cases hi
  rw [this, Bool.false_or]
theorem great_any (v : Value) (l : List A16) (w : World) (h : AS w v l) :
    Calls Try.prog 39 #[v] w fun e w' => e = .returned (.bool (grB l)) ∧ w = w' := by
  obtain ⟨a, c, rfl, h1, h2, h3⟩ := h
  unfold maxLen at h1
  have H3 := Lib.hid h3
  have H2 := Lib.hid h2
  clear h2 h3
  go_enter Try.func39, Try.ntmps39
  go_wp2
  go_loop [3] (fun i => ∃ k : Nat, k ≤ l.length ∧ k ≤ 201 ∧ i = .int .i64 k ∧ Hid (∀ (i : Nat) (x : A16), i < k → l[i]? = some x → big16 x = false)) (fun i => l.length - (intOf i).toNat)
  case atStart => exact ⟨0, by omega, by omega, rfl, Lib.hid (fun i x hi _ => by omega)⟩
  case round =>
    obtain ⟨k, hk, hk2, rfl, HA⟩ := hrel
    by_cases hlt : k < l.length
    · by_cases hlt2 : k < 201
      · obtain ⟨x, hx⟩ : ∃ x, l[k]? = some x := ⟨_, List.getElem?_eq_getElem hlt⟩
        rcases H3.out with h0 | ⟨b, off, rfl, hc⟩
        · rw [h0] at hlt; simp at hlt
        · obtain ⟨_, c1, c2, _⟩ := hc k x hx
          have hxk := (H2.out k x hx).k
          have hxv := (H2.out k x hx).v
          unfold maxLen at hxk hxv
          have i1 : decide ((k : Int) < (l.length : Int)) = true := decide_eq_true (by omega)
          have i2 : decide ((k : Int) < 201) = true := decide_eq_true (by omega)
          clear hc
          by_cases hb1 : 400 < x.key.size
          · have hg := any_of hx hlt2 (by unfold big16; rw [decide_eq_true hb1]; rfl)
            have hb1' : (400 : Int) < x.key.size := by omega
            have HG := Lib.hid hg
            clear hx hg
            go_wp2
            go_ret
            exact ⟨by rw [HG.out]; rfl, rfl⟩
          · by_cases hb2 : 1200 < x.val.size
            · have hg := any_of hx hlt2 (by unfold big16; rw [decide_eq_true hb2, Bool.or_true])
              have hb2' : (1200 : Int) < x.val.size := by omega
              have hb1' : (x.key.size : Int) ≤ 400 := by omega
              have HG := Lib.hid hg
              clear hx hg
              go_wp2
              go_ret
              exact ⟨by rw [HG.out]; rfl, rfl⟩
            · have hb2' : (x.val.size : Int) ≤ 1200 := by omega
              have hb1' : (x.key.size : Int) ≤ 400 := by omega
              have HA' := Lib.hid (show ∀ i y, i < k + 1 → l[i]? = some y → big16 y = false from by
                intro i y hi hy
                by_cases he : i = k
                · subst he; rw [hx] at hy; cases hy; unfold big16; rw [decide_eq_false hb1, decide_eq_false hb2]; rfl
                · exact HA.out i y (by omega) hy)
              clear hx
              go_wp2
              go_round
              case rel => exact ⟨k + 1, by omega, by omega, by go_num, HA'⟩
              case measure => simp [intOf]; omega
      · have i1 : decide ((k : Int) < (l.length : Int)) = true := decide_eq_true (by omega)
        have i2 : decide ((k : Int) < 201) = false := decide_eq_false (by omega)
        have HG := Lib.hid (none_of HA.out (.inr (by omega)))
        have i4 : decide ((200 : Int) < l.length) = true := decide_eq_true (by omega)
        have I3 := Lib.hid (show decide (200 < l.length) = true from decide_eq_true (by omega))
        go_wp2
        go_ret
        exact ⟨by rw [HG.out, I3.out]; rfl, rfl⟩
    · have i1 : decide ((k : Int) < (l.length : Int)) = false := decide_eq_false (by omega)
      have HG := Lib.hid (none_of HA.out (.inl (by omega)))
      go_wp2
      go_ret
      refine ⟨?_, rfl⟩
      rw [HG.out]
      show Ending.returned (.bool (decide ((200 : Int) < (l.length : Int)))) = .returned (.bool (decide (200 < l.length)))
      congr 2
      rw [Bool.eq_iff_iff]
      simp only [decide_eq_true_eq]
      omega
end Go.Proofs.Ytiadoimdohnebaa
