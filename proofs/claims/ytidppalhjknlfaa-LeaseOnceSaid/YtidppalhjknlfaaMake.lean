/- Made and literal bytes, as functions of the world that no walk looks into. -/
import Derived.Test.YtidppalhjknlfaaKey
import Derived.Deep.OwnRows
import Derived.Lib.SlBytesConst
namespace Go.Proofs.Ytidppalhjknlfaa
open Go.RowKit
set_option linter.unusedVariables false
set_option linter.unusedSimpArgs false
/-- n bytes 0 -/
def zp (n : Nat) : ByteArray := ⟨Array.replicate n 0⟩
theorem zp_size (n : Nat) : (zp n).size = n := by unfold zp; show (Array.replicate n (0 : UInt8)).size = n; simp
theorem made_cells (n : Nat) : (madeCells #[Value.int .u8 0] n).toList = Lib.strCells (zp n) := by
  refine List.ext_getElem? fun i => ?_
  rcases Nat.lt_or_ge i n with h | h
  · rw [strCells_get _ _ (by rw [zp_size]; exact h)]
    have e1 : (zp n).data.toList.getD i 0 = 0 := by
      rw [List.getD_eq_getElem?_getD]; unfold zp; simp [h]
    rw [e1, Array.getElem?_toList]
    unfold madeCells
    simp [h, Nat.mod_one]
  · rw [List.getElem?_eq_none (by simp [size_madeCells]; exact h), List.getElem?_eq_none (by rw [Lib.strCells, List.length_map, data_len, zp_size]; exact h)]
theorem Own.zeros (e : TypeId) (w : World) (n : Nat) (hn : n ≤ maxLen) : Own e (w.alloc (.cells (madeCells #[.int .u8 0] n) e)) w.heap.size (.slice (some ⟨w.heap.size, 0, none⟩) n n) (zp n) := by
  have hs := made_cells n
  have hl : (Lib.strCells (zp n)).length = n := by rw [Lib.strCells, List.length_map, data_len, zp_size]
  refine ⟨by rw [hl, zp_size, Nat.mul_one], .inr ⟨_, n, _, by rw [zp_size], Nat.le_refl _, blk_new _ _, by rw [zp_size]; exact Nat.le_refl _, hn, by rw [size_madeCells, Nat.mul_one], ?_⟩⟩
  rw [hs, zp_size, Nat.mul_one, List.take_of_length_le (by omega)]

/-- make([]byte, n) -/
theorem made_ex (n : Nat) (z : Int) (hz : z = n) (hn : n ≤ 281474976710656) : ∃ (f : World → Value) (g : World → World),
    (∀ W, (Instr.makeSlice 68 (.int .i64 z) (.int .i64 z)).run Try.prog W = .ok (f W) (g W)) ∧ (∀ W, Own 5 (g W) W.heap.size (f W) (zp n)) ∧ ∀ W, Below W.heap.size W (g W) := by
  subst hz
  exact ⟨_, _, fun W => run_make_row' (P := Try.prog) 68 5 (.int .u8 0) 1 uBytes iByte rfl .i64 .i64 n (by omega) (by omega) W, fun W => Own.zeros 5 W n (by unfold maxLen; omega), fun W => (Below.refl W.heap.size W).alloc (Nat.le_refl _) _⟩
/-- a literal's bytes, marked, wherever they lie -/
theorem const_ex (W : World) (k n c : Nat) (C : Array Value) (hb : W.heap[k]? = some (.cells C 5 (0, 0))) : ∃ W',
    (convert 68 68 (.slice (some ⟨k, 0, none⟩) n c)).run Try.prog W = .ok (.slice (some ⟨k, 0, none⟩) n c) W' ∧ Keep (fun i => i = k) W W' ∧ W'.heap[k]? = some (.cells C 5 (C.size, C.size + 1)) := by
  have hsh : W.shape? k = some (5, C.size) := by unfold World.shape?; rw [hb]
  refine ⟨W.freeze ⟨k, C.size, none⟩ 1, by simp [convert, run_underlying uBytes, run_underlying uByte, markStringish, hsh], ?_, ?_⟩
  · unfold World.freeze
    rw [if_neg (by decide)]
    refine ⟨rfl, rfl, rfl, by simp, fun i hi hne => ?_⟩
    show (W.heap.modify k _)[i]? = W.heap[i]?
    rw [Array.getElem?_modify, if_neg (fun h => hne h.symm)]
  · unfold World.freeze
    rw [if_neg (by decide)]
    show (W.heap.modify k _)[k]? = _
    rw [Array.getElem?_modify, if_pos rfl, hb]
    rfl
end Go.Proofs.Ytidppalhjknlfaa
