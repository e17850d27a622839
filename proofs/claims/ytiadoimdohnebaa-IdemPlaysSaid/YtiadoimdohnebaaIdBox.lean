/- A box that holds an act; []byte(text) as a function of the world. -/
import Derived.Test.YtiadoimdohnebaaIdLaw
namespace Go.Proofs.Ytiadoimdohnebaa
open Go.RowKit
set_option linter.unusedVariables false
set_option linter.unusedSimpArgs false
def Box8 (w : World) (n : Nat) (x : A18) : Prop := w.heap[n]? = some (.cells x.cells.toArray 59 (0, 0))
theorem Box8.keep {F : Nat → Prop} {w w' : World} {n : Nat} {x : A18} (h : Box8 w n x) (hk : Keep F w w') (hF : ¬ F n) : Box8 w' n x := hk.blk h hF
theorem Box8.below {w w' : World} {n : Nat} {x : A18} (h : Box8 w n x) (hb : Below w.heap.size w w') : Box8 w' n x := h.keep (Keep.ofBelow hb (fun _ => False)) (fun h => h)
theorem Box8.ne {w : World} {n b : Nat} {x : A18} {l : AL} (h : Box8 w n x) (hm : MapAt w b l) : ¬ n = b := by
  intro e; subst e
  obtain ⟨es, c, h1, _⟩ := hm
  unfold Box8 at h
  rw [h1] at h; cases h
theorem Box8.cells {w : World} {n : Nat} {x : A18} (h : Box8 w n x) : w.cell? ⟨n, 1, none⟩ = some (.int .u32 x.ten) ∧ w.cell? ⟨n, 2, none⟩ = some (.string x.text) ∧ w.cell? ⟨n, 3, none⟩ = some (.string x.body) ∧ w.cell? ⟨n, 4, none⟩ = some (.string x.reply) ∧ w.cell? ⟨n, 5, none⟩ = some (.int .u64 x.seq) := by
  refine ⟨?_, ?_, ?_, ?_, ?_⟩ <;> (rw [blk_cell h]; rfl)
/-- []byte(s) -/
theorem conv_ex (s : ByteArray) (hs : s.size ≤ 9223372036854775807) : ∃ (f : World → Value) (g : World → World),
    (∀ W, (convert 9 23 (.string s)).run Try.prog W = .ok (f W) (g W)) ∧ (∀ W, BS (g W) (f W) s) ∧ ∀ W, Below W.heap.size W (g W) :=
  ⟨_, _, fun W => Lib.run_convert_string_bytes (P := Try.prog) W 9 23 5 s uStr uBytes uByte, fun W => BS.bytes W 5 s hs, fun W => bytes_below W 5 s⟩
/-- what the walk of Keep reads of a box -/
theorem Box8.stage {W : World} {n : Nat} {x : A18} (h : Box8 W n x) {gb gr : World → World} (hb : ∀ W, Below W.heap.size W (gb W)) (hr : ∀ W, Below W.heap.size W (gr W)) :
    W.cell? ⟨n, 1, none⟩ = some (.int .u32 x.ten) ∧ W.cell? ⟨n, 2, none⟩ = some (.string x.text) ∧ W.cell? ⟨n, 3, none⟩ = some (.string x.body) ∧ (gb W).cell? ⟨n, 4, none⟩ = some (.string x.reply) ∧ (gr (gb W)).cell? ⟨n, 5, none⟩ = some (.int .u64 x.seq) :=
  ⟨h.cells.1, h.cells.2.1, h.cells.2.2.1, (h.below (hb W)).cells.2.2.2.1, ((h.below (hb W)).below (hr _)).cells.2.2.2.2⟩
end Go.Proofs.Ytiadoimdohnebaa
