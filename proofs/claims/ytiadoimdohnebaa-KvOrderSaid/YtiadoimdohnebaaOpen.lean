/- What the frame tells of a slice of integers that came in, in the walks' words. -/
import Derived.Test.YtiadoimdohnebaaKey
import Derived.DataShut
namespace Go.Proofs.Ytiadoimdohnebaa
open Go.RowKit Go.ChangeShapes Go.WideShapes
set_option linter.unusedVariables false
set_option linter.unusedSimpArgs false
def RowIn (k : IntKind) (w : World) (a : Option Addr) (len cap : Nat) (zs : List Int) : Prop :=
  (a = none ∧ len = 0 ∧ cap = 0 ∧ zs = []) ∨
  ∃ x, a = some x ∧ len ≤ cap ∧ cap ≤ maxLen ∧ zs.length = cap ∧ (∀ i, i < zs.length → w.cell? (x.add i) = some (.int k (zs.getD i 0))) ∧ ∀ n ∈ zs, (Lit.int k n).wf = true
theorem RowIn.cells {k : IntKind} {w : World} {a : Option Addr} {len cap : Nat} {zs : List Int} (h : RowIn k w a len cap zs) : (zs.take len).length = len ∧ len ≤ cap ∧ cap ≤ maxLen ∧ (a = none → cap = 0) ∧ (∀ n ∈ zs.take len, (Lit.int k n).wf = true) ∧
    (len = 0 ∨ ∃ b off, a = some ⟨b, off, none⟩ ∧ ∀ i, i < len → w.cell? ⟨b, off + i, none⟩ = some (.int k ((zs.take len).getD i 0))) := by
  rcases h with ⟨rfl, rfl, rfl, rfl⟩ | ⟨x, rfl, h1, h2, h3, h4, h5⟩
  · exact ⟨rfl, Nat.le_refl _, by decide, fun _ => rfl, by simp, .inl rfl⟩
  · refine ⟨by rw [List.length_take]; omega, h1, h2, (fun h => by cases h), fun n hn => h5 n (List.mem_of_mem_take hn), ?_⟩
    by_cases h0 : len = 0
    · exact .inl h0
    · obtain ⟨b, o, s⟩ := x
      have hc0 := h4 0 (by omega)
      obtain rfl : s = none := by simpa [Addr.add] using World.cell?_spot hc0
      refine .inr ⟨b, o, rfl, fun i hi => ?_⟩
      rw [← add_plain, h4 i (by omega)]
      congr 2
      rw [List.getD_eq_getElem?_getD, List.getD_eq_getElem?_getD, List.getElem?_take_of_lt hi]
theorem strOfNums_size (xs : List Int) : (strOfNums xs).size = xs.length := by
  rw [← data_len]; unfold strOfNums; simp
theorem RowIn.bs {w : World} {a : Option Addr} {len cap : Nat} {zs : List Int} (h : RowIn .u8 w a len cap zs) : BS w (.slice a len cap) (strOfNums (zs.take len)) := by
  obtain ⟨h1, h2, h3, h4, h5, h6⟩ := h.cells
  refine ⟨a, cap, by rw [strOfNums_size, h1], by rw [strOfNums_size, h1]; exact h2, h3, h4, ?_⟩
  rcases h6 with h6 | ⟨b, off, rfl, hc⟩
  · left; exact size0 (by rw [strOfNums_size, h1, h6])
  · refine .inr ⟨b, off, rfl, fun i hi => ?_⟩
    rw [strOfNums_size, h1] at hi
    rw [hc i hi]
    have hi' : i < (zs.take len).length := by omega
    have hw := h5 _ (List.getElem_mem hi')
    have e : (strOfNums (zs.take len)).data.toList = (zs.take len).map fun n => UInt8.ofNat n.toNat := by unfold strOfNums; simp
    rw [e, List.getD_eq_getElem?_getD, List.getD_eq_getElem?_getD, List.getElem?_map, List.getElem?_eq_getElem hi']
    simp only [Option.getD_some, Option.map_some]
    obtain ⟨r0, r1⟩ := (Lit.wf_int_iff .u8 _).1 hw
    have r0' : (0 : Int) ≤ (zs.take len)[i] := r0
    have r1' : (zs.take len)[i] ≤ 255 := r1
    generalize (zs.take len)[i] = n at r0' r1'
    have hh : ((UInt8.ofNat n.toNat).toNat : Int) = n := by
      rw [UInt8.toNat_ofNat_of_lt' (by show n.toNat < 256; omega)]; omega
    rw [hh]
theorem RowIn.us {w : World} {a : Option Addr} {len cap : Nat} {zs : List Int} (h : RowIn .u64 w a len cap zs) : US w (.slice a len cap) (zs.take len) := by
  obtain ⟨h1, h2, h3, h4, h5, h6⟩ := h.cells
  refine ⟨a, cap, by rw [h1], fun i hi => ?_, ?_⟩
  · rw [List.getD_eq_getElem?_getD, List.getElem?_eq_getElem hi]
    exact (Lit.wf_int_iff .u64 _).1 (h5 _ (List.getElem_mem hi))
  · rcases h6 with h6 | ⟨b, off, rfl, hc⟩
    · left; exact List.eq_nil_of_length_eq_zero (by omega)
    · exact .inr ⟨b, off, rfl, fun i hi => hc i (by omega)⟩
end Go.Proofs.Ytiadoimdohnebaa
