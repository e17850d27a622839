/- Acts of chapter 3 that came in; the walk of Great. -/
import Derived.Test.YtpclfnamknioaaaSame3
import Derived.Test.YtpclfnamknioaaaInts
import Derived.Test.YtpclfnamknioaaaActs
import Derived.ChangeSlices
namespace Go.Proofs.Ytpclfnamknioaaa
open Go.RowKit Go.ChangeShapes Go.WideShapes Go.Deep
set_option maxRecDepth 100000
set_option maxHeartbeats 1000000
set_option linter.unusedVariables false
set_option linter.unusedSimpArgs false
/-- v is a slice of acts that reads as l -/
def AS3 (w : World) (v : Value) (l : List A3) : Prop :=
  ∃ a cap, v = .slice a l.length cap ∧ l.length ≤ maxLen ∧ (∀ (i : Nat) x, l[i]? = some x → x.Ok w) ∧ (l = [] ∨ ∃ b off, a = some ⟨b, off, none⟩ ∧ b < w.heap.size ∧
    ∀ (i : Nat) x, l[i]? = some x → ∀ (j : Nat) y, x.cells[j]? = some y → w.cell? ⟨b, off + (i * 6 + j), none⟩ = some y)
theorem AS3.below {w w' : World} {v : Value} {l : List A3} (h : AS3 w v l) (hb : Below w.heap.size w w') : AS3 w' v l := by
  obtain ⟨a, cap, rfl, h1, h2, h3⟩ := h
  refine ⟨a, cap, rfl, h1, fun i x hx => (h2 i x hx).below hb, ?_⟩
  rcases h3 with h | ⟨b, off, rfl, hlt, hc⟩
  · exact .inl h
  · exact .inr ⟨b, off, rfl, Nat.lt_of_lt_of_le hlt hb.size, fun i x hx j y hy => (Keep.ofBelow hb (fun _ => False)).cell (hc i x hx j y hy) (fun h => h)⟩
/-- more than a statement looks at -/
def gr3 (l : List A3) : Int := if (l.take 61).any (fun a => decide (60 < a.fates.length)) = true then 1 else max 0 ((l.length : Int) - 60)
theorem great3_any (v : Value) (l : List A3) (w : World) (h : AS3 w v l) : Calls Try.prog 19 #[v] w fun e w' => e = .returned (.int .i64 (gr3 l)) ∧ w' = w := by
  obtain ⟨a, cap, rfl, hm, hok, hx⟩ := h
  have hm' : l.length ≤ 9223372036854775807 := by unfold maxLen at hm; omega
  have HOK := Lib.hid hok
  have HX := Lib.hid hx
  obtain ⟨r, hr⟩ : ∃ r, r = gr3 l := ⟨_, rfl⟩
  rw [← hr]
  have HR := Lib.hid hr
  clear hok hx hr hm
  go_enter Try.func19, Try.ntmps19
  go_wp2_with fail
  go_loopw [3] (fun s wr => ∃ i : Nat, i ≤ l.length ∧ i ≤ 61 ∧ s = .int .i64 i ∧ Hid (∀ (k : Nat) x, k < i → l[k]? = some x → x.fates.length ≤ 60) ∧ Hid (wr = w)) (fun s _ => 61 - (intOf s).toNat)
  case atStart => exact ⟨0, by omega, by omega, rfl, Lib.hid (fun k x hk => by omega), Lib.hid rfl⟩
  case round =>
    obtain ⟨i, hi, hi61, rfl, HE, HW⟩ := hrel
    obtain rfl := HW.out
    by_cases hlt : i < l.length ∧ i < 61
    · obtain ⟨h1, h2⟩ := hlt
      have i1 : decide ((i : Int) < (l.length : Int)) = true := decide_eq_true (by omega)
      have i2 : decide ((i : Int) < 61) = true := decide_eq_true (by omega)
      obtain ⟨x, hx⟩ : ∃ x, l[i]? = some x := ⟨_, List.getElem?_eq_getElem h1⟩
      rcases HX.out with rfl | ⟨b, off, rfl, _, hc⟩
      · simp at h1
      · have hc5 := hc i x hx 5 _ rfl
        obtain ⟨fa, fc, hfv, _⟩ := (HOK.out i x hx).is
        rw [hfv, show off + (i * 6 + 5) = off + i * 6 + 5 by omega] at hc5
        have HXX := Lib.hid hx
        clear hc hfv hx
        by_cases hg : 60 < x.fates.length
        · have i3 : decide ((x.fates.length : Int) > 60) = true := decide_eq_true (by omega)
          have hr1 : r = 1 := by
            rw [HR.out, gr3, if_pos]
            refine List.any_eq_true.2 ⟨x, ?_, decide_eq_true hg⟩
            exact List.mem_of_getElem? (i := i) (by rw [List.getElem?_take, if_pos h2]; exact HXX.out)
          subst hr1
          go_wp2_with fail
          go_ret
          exact ⟨rfl, rfl⟩
        · have i3 : decide ((x.fates.length : Int) > 60) = false := decide_eq_false (by omega)
          go_wp2_with fail
          refine ⟨⟨i + 1, by omega, by omega, rfl, Lib.hid (fun k y hk hy => ?_), Lib.hid (by trivial)⟩, by simp [intOf]; omega⟩
          by_cases hki : k = i
          · subst hki
            have := HXX.out
            rw [hy] at this
            injection this with this
            rw [this]; omega
          · exact HE.out k y (by omega) hy
    · have hr1 : r = max 0 ((l.length : Int) - 60) := by
        rw [HR.out, gr3, if_neg]
        intro h
        obtain ⟨x, hx, hg⟩ := List.any_eq_true.1 h
        obtain ⟨k, hk, hkx⟩ := List.getElem_of_mem hx
        have hk' : k < i := by rw [List.length_take] at hk; omega
        have h2 : l[k]? = some x := by
          have h3 : (l.take 61)[k]? = some x := by rw [List.getElem?_eq_getElem hk, hkx]
          rw [List.getElem?_take] at h3
          split at h3
          · exact h3
          · cases h3
        have := HE.out k x hk' h2
        simp at hg; omega
      by_cases hil : i < l.length
      · obtain rfl : i = 61 := by omega
        have i1 : decide (((61 : Nat) : Int) < (l.length : Int)) = true := decide_eq_true (by omega)
        have i2 : decide ((61 : Int) < (l.length : Int)) = true := decide_eq_true (by omega)
        have h1 : 0 < (l.length : Int) - 60 := by omega
        have h2 : max 0 ((l.length : Int) - 60) = (l.length : Int) - 60 := by omega
        rw [h2] at hr1
        subst hr1
        have j1 : decide ((l.length : Int) - 60 < 0) = false := decide_eq_false (by omega)
        have j2 : decide ((0 : Int) < (l.length : Int) - 60) = true := decide_eq_true h1
        have j3 : decide ((l.length : Int) - 60 > 0) = true := decide_eq_true h1
        have j4 : decide ((0 : Int) > (l.length : Int) - 60) = false := decide_eq_false (by omega)
        clear h2
        go_wp2_with fail
        go_ret
        exact ⟨rfl, rfl⟩
      · obtain rfl : i = l.length := by omega
        · skip
          rcases (show ((l.length : Int) - 60 < 0 ∧ max 0 ((l.length : Int) - 60) = 0) ∨ ((l.length : Int) = 60 ∧ max 0 ((l.length : Int) - 60) = 0) ∨ (0 < (l.length : Int) - 60 ∧ max 0 ((l.length : Int) - 60) = (l.length : Int) - 60) by omega) with ⟨h1, h2⟩ | ⟨h1, h2⟩ | ⟨h1, h2⟩
          · rw [h2] at hr1
            subst hr1
            have j1 : decide ((l.length : Int) - 60 < 0) = true := decide_eq_true h1
            have j2 : decide ((0 : Int) < (l.length : Int) - 60) = false := decide_eq_false (by omega)
            have j3 : decide ((l.length : Int) - 60 > 0) = false := decide_eq_false (by omega)
            have j4 : decide ((0 : Int) > (l.length : Int) - 60) = true := decide_eq_true (by omega)
            clear h2
            go_wp2_with fail
            go_ret
            exact ⟨rfl, rfl⟩
          · rw [h2] at hr1
            subst hr1
            clear h2
            rw [h1]
            go_wp2_with fail
            go_ret
            exact ⟨rfl, rfl⟩
          · rw [h2] at hr1
            subst hr1
            have j1 : decide ((l.length : Int) - 60 < 0) = false := decide_eq_false (by omega)
            have j2 : decide ((0 : Int) < (l.length : Int) - 60) = true := decide_eq_true h1
            have j3 : decide ((l.length : Int) - 60 > 0) = true := decide_eq_true h1
            have j4 : decide ((0 : Int) > (l.length : Int) - 60) = false := decide_eq_false (by omega)
            clear h2
            go_wp2_with fail
            go_ret
            exact ⟨rfl, rfl⟩
end Go.Proofs.Ytpclfnamknioaaa
