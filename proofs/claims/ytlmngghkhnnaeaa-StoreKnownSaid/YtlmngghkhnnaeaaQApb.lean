/- append of bytes to bytes that the call made, as a run. No program in sight. -/
import Derived.Test.YtlmngghkhnnaeaaQMMem
import Derived.Test.YtlmngghkhnnaeaaQApp
import Derived.Laws.OwnMore
namespace Go.Proofs.Ytlmngghkhnnaeaa
open Go.RowKit
set_option linter.unusedVariables false
set_option linter.unusedSimpArgs false
theorem app_bs_ex {P : Program} (W : World) (base : Nat) (t e ty : TypeId) (ht : P.underlying t = some (.slice e)) (hinfo : (P.info? e).map (fun i => (i.zero, i.size, i.bytes)) = some (some (.int .u8 0), 1, 1))
    (v y : Value) (s u : ByteArray) (HO : Own e W base v s) (HY : BS W y u) (hbase : base ≤ W.heap.size) (hl : s.size + u.size ≤ 140737488355328) :
    ∃ v' w', (Builtin.append_ #[t, t] ty #[v, y]).run P W = .ok v' w' ∧ Own e w' base v' (s ++ u) ∧ Grows W w' v v' := by
  obtain ⟨i0, hi, hzz⟩ := Option.map_eq_some_iff.1 hinfo
  simp only [Prod.mk.injEq] at hzz
  obtain ⟨hz0, hz1, hz2⟩ := hzz
  obtain ⟨ad, cap, rfl, hc, hm, hnn, hcase⟩ := HY
  rcases hcase with rfl | ⟨b, off, rfl, hcell⟩
  · cases ad with
    | none =>
      rw [hnn rfl, show ByteArray.empty.size = 0 from rfl]
      have := run_append_owned_none (P := P) (w := W) base t ty e i0 1 ht hi v s.size (Lib.strCells s) HO
      exact ⟨v, W, this, by rw [append_empty]; exact HO, Grows.refl _ _⟩
    | some ad =>
      obtain ⟨v1, w1, hrun, hown, hg, _, hat⟩ := run_append_own_at (P := P) W base t ty e i0 (.int .u8 0) 1 1 ht hi hz0 hz1 hz2 rfl (by omega) v s.size (Lib.strCells s) HO ad 0 cap [] rfl (fun j x hj => by simp at hj) (fun u hu => by simp at hu) (by simp only [maxLen]; omega) (by omega) hbase
      refine ⟨v1, w1, hrun, by rw [append_empty]; simpa [Own] using hown, ⟨keep_grown hg, ?_⟩⟩
      rcases hat with hat | hat
      · exact .inl hat
      · exact .inr ⟨_, hat, Nat.le_refl _⟩
  · obtain ⟨v1, w1, hrun, hown, hg, _, hat⟩ := run_append_own_at (P := P) W base t ty e i0 (.int .u8 0) 1 1 ht hi hz0 hz1 hz2 rfl (by omega) v s.size (Lib.strCells s) HO ⟨b, off, none⟩ u.size cap (Lib.strCells u) (by rw [Lib.strCells_length]; omega)
      (fun j x hj => by
        have hju : j < u.size := by
          rw [← Lib.strCells_length u]
          rcases Nat.lt_or_ge j (Lib.strCells u).length with h' | h'
          · exact h'
          · rw [List.getElem?_eq_none h'] at hj; cases hj
        have hadd : (⟨b, off, none⟩ : Addr).add j = ⟨b, off + j, none⟩ := by unfold Addr.add; split <;> simp_all
        rw [hadd, hcell j hju]
        rw [strCells_get u j hju] at hj
        exact hj) (Lib.strCells_oneCell u) (by simp only [maxLen]; omega) (by omega) hbase
    refine ⟨v1, w1, hrun, ?_, ⟨keep_grown hg, ?_⟩⟩
    · show w1.ownsRow base e 1 v1 (s ++ u).size (Lib.strCells (s ++ u))
      rw [size_append, strCells_append]
      exact hown
    · rcases hat with hat | hat
      · exact .inl hat
      · exact .inr ⟨_, hat, Nat.le_refl _⟩
end Go.Proofs.Ytlmngghkhnnaeaa
