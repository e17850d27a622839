/- A disk in memory; the walks of sure, burns, Size, Dead, Kill, Fuse, New, Waits. -/
import Derived.Test.YtlmngghkhnnaeaaQCpy
import Derived.Maps.AppendAt
namespace Go.Proofs.Ytlmngghkhnnaeaa
open Go.RowKit
set_option maxRecDepth 100000
set_option linter.unusedVariables false
set_option linter.unusedSimpArgs false
abbrev Pg := Option ByteArray
abbrev Wt := List (Int × ByteArray)
structure DS where
  L : List Pg
  W : Wt
  fuse : Int
  dead : Bool
  B : Nat
def dCells (bl bw : Nat) (ov : Value) (n : Nat) (fuse : Int) (dead : Bool) : Array Value := #[.slice (some ⟨bl, 0, none⟩) n n, .map (some bw), ov, .int .i64 fuse, .bool dead]
structure DiskIs (w : World) (p bl bw : Nat) (ov : Value) (S : DS) : Prop where
  blk : w.heap[p]? = some (.cells (dCells bl bw ov S.L.length S.fuse S.dead) 54 (0, 0))
  lasts : ∃ ls, w.heap[bl]? = some (.cells ls 28 (0, 0)) ∧ ls.size = S.L.length ∧ ∀ (i : Nat) (o : Pg), S.L[i]? = some o → ∃ v, ls[i]? = some v ∧ PG S.B w v o
  waits : ∃ vs, IMapAt w bw vs ∧ vs.length = S.W.length ∧ ∀ (i : Nat) (q : Int × ByteArray), S.W[i]? = some q → ∃ v, vs[i]? = some (q.1, v) ∧ PG S.B w v (some q.2)
  order : w.ownsRow 0 3 1 ov S.W.length (S.W.map fun q => .int .i64 q.1)
  rng : ∀ q ∈ S.W, 0 ≤ q.1 ∧ q.1 < S.L.length
  nodup : (S.W.map (·.1)).Nodup
  fuse : -1 ≤ S.fuse ∧ S.fuse ≤ 9223372036854775807
  len : S.L.length ≤ 4096
  low : S.B ≤ w.heap.size
/-- what the disk may write -/
def DF (p bl bw : Nat) (ov : Value) (i : Nat) : Prop := i = p ∨ i = bl ∨ i = bw ∨ ov.ownBlock = some i
theorem DiskIs.order_blk {w : World} {p bl bw : Nat} {ov : Value} {S : DS} (h : DiskIs w p bl bw ov S) {k : Nat} (hk : ov.ownBlock = some k) : ∃ c, w.heap[k]? = some (.cells c 3 (0, 0)) := by
  rcases h.order.2 with ⟨rfl, _⟩ | ⟨g, cap, cur, rfl, _, hg, _⟩
  · cases hk
  · cases hk; exact ⟨_, hg⟩
/-- a block of bytes is none of them -/
theorem DiskIs.not_bytes {w : World} {p bl bw : Nat} {ov : Value} {S : DS} (h : DiskIs w p bl bw ov S) : ∀ i c z, w.heap[i]? = some (.cells c 5 z) → ¬ DF p bl bw ov i := by
  rintro i c z hi (rfl | rfl | rfl | hk)
  · rw [h.blk] at hi; simp only [Option.some.injEq, Obj.cells.injEq] at hi; exact absurd hi.2.1 (by decide)
  · obtain ⟨ls, h1, _⟩ := h.lasts; rw [h1] at hi; simp only [Option.some.injEq, Obj.cells.injEq] at hi; exact absurd hi.2.1 (by decide)
  · obtain ⟨vs, ⟨es, c', h1, _⟩, _⟩ := h.waits; rw [h1] at hi; simp at hi
  · obtain ⟨c', h1⟩ := h.order_blk hk; rw [h1] at hi; simp only [Option.some.injEq, Obj.cells.injEq] at hi; exact absurd hi.2.1 (by decide)
/-- none but the disk's own blocks matter -/
theorem DiskIs.keep {w w' : World} {p bl bw : Nat} {ov : Value} {S : DS} {F : Nat → Prop} (h : DiskIs w p bl bw ov S) (hk : Keep F w w') (hF : ∀ i, DF p bl bw ov i → ¬ F i) (hB : ∀ i c z, w.heap[i]? = some (.cells c 5 z) → ¬ F i) : DiskIs w' p bl bw ov S := by
  refine ⟨hk.blk h.blk (hF _ (.inl rfl)), ?_, ?_, ?_, h.rng, h.nodup, h.fuse, h.len, Nat.le_trans h.low hk.size⟩
  · obtain ⟨ls, h1, h2, h3⟩ := h.lasts
    exact ⟨ls, hk.blk h1 (hF _ (.inr (.inl rfl))), h2, fun i o ho => by obtain ⟨v, a, b⟩ := h3 i o ho; exact ⟨v, a, b.keep hk hB⟩⟩
  · obtain ⟨vs, h1, h2, h3⟩ := h.waits
    exact ⟨vs, h1.keep hk (hF _ (.inr (.inr (.inl rfl)))), h2, fun i o ho => by obtain ⟨v, a, b⟩ := h3 i o ho; exact ⟨v, a, b.keep hk hB⟩⟩
  · refine ⟨h.order.1, ?_⟩
    rcases h.order.2 with hn | ⟨g, cap, cur, he, hb, hg, rest⟩
    · exact .inl hn
    · exact .inr ⟨g, cap, cur, he, hb, hk.blk hg (hF _ (.inr (.inr (.inr (by rw [he]; rfl))))), rest⟩
theorem DiskIs.below {w w' : World} {p bl bw : Nat} {ov : Value} {S : DS} (h : DiskIs w p bl bw ov S) (hb : Below w.heap.size w w') : DiskIs w' p bl bw ov S := h.keep (Keep.ofBelow hb (fun _ => False)) (fun _ _ h => h) (fun _ _ _ _ h => h)
theorem DiskIs.lt {w : World} {p bl bw : Nat} {ov : Value} {S : DS} (h : DiskIs w p bl bw ov S) : ∀ i, DF p bl bw ov i → i < w.heap.size := by
  rintro i (rfl | rfl | rfl | hk)
  · exact blk_lt h.blk
  · obtain ⟨ls, h1, _⟩ := h.lasts; exact blk_lt h1
  · obtain ⟨vs, h1, _⟩ := h.waits; exact h1.lt
  · obtain ⟨c, h1⟩ := h.order_blk hk; exact blk_lt h1
/-- the blocks are four -/
theorem DiskIs.apart {w : World} {p bl bw : Nat} {ov : Value} {S : DS} (h : DiskIs w p bl bw ov S) : p ≠ bl ∧ p ≠ bw ∧ bl ≠ bw ∧ ov.ownBlock ≠ some p ∧ ov.ownBlock ≠ some bl ∧ ov.ownBlock ≠ some bw := by
  obtain ⟨ls, h1, _⟩ := h.lasts
  obtain ⟨vs, ⟨es, c', h2, _⟩, _⟩ := h.waits
  have h0 := h.blk
  refine ⟨?_, ?_, ?_, ?_, ?_, ?_⟩
  · rintro rfl; rw [h1] at h0; simp only [Option.some.injEq, Obj.cells.injEq] at h0; exact absurd h0.2.1 (by decide)
  · rintro rfl; rw [h2] at h0; simp at h0
  · rintro rfl; rw [h2] at h1; simp at h1
  · intro hk; obtain ⟨c, h3⟩ := h.order_blk hk; rw [h0] at h3; simp only [Option.some.injEq, Obj.cells.injEq] at h3; exact absurd h3.2.1 (by decide)
  · intro hk; obtain ⟨c, h3⟩ := h.order_blk hk; rw [h1] at h3; simp only [Option.some.injEq, Obj.cells.injEq] at h3; exact absurd h3.2.1 (by decide)
  · intro hk; obtain ⟨c, h3⟩ := h.order_blk hk; rw [h2] at h3; simp at h3
def dV (p : Nat) : Value := .pointer (some ⟨p, 0, none⟩)
/-- a new fuse, or the power gone: one cell of the disk's own is written -/
theorem DiskIs.cells {w : World} {p bl bw : Nat} {ov : Value} {S : DS} (h : DiskIs w p bl bw ov S) (S' : DS) (w' : World) (hL : S'.L = S.L) (hW : S'.W = S.W) (hB : S'.B = S.B) (hf : -1 ≤ S'.fuse ∧ S'.fuse ≤ 9223372036854775807)
    (hk : Keep (fun i => i = p) w w') (hb : w'.heap[p]? = some (.cells (dCells bl bw ov S.L.length S'.fuse S'.dead) 54 (0, 0))) : DiskIs w' p bl bw ov S' := by
  obtain ⟨a1, a2, a3, a4, a5, a6⟩ := h.apart
  have nb : ∀ i c z, w.heap[i]? = some (.cells c 5 z) → ¬ i = p := fun i c z hi he => h.not_bytes i c z hi (.inl he)
  refine ⟨by rw [hL]; exact hb, ?_, ?_, ?_, by rw [hL, hW]; exact h.rng, by rw [hW]; exact h.nodup, hf, by rw [hL]; exact h.len, by rw [hB]; exact Nat.le_trans h.low hk.size⟩
  · obtain ⟨ls, h1, h2, h3⟩ := h.lasts
    rw [hL, hB]
    exact ⟨ls, hk.blk h1 (fun e => a1 e.symm), h2, fun i o ho => by obtain ⟨v, a, b⟩ := h3 i o ho; exact ⟨v, a, b.keep hk nb⟩⟩
  · obtain ⟨vs, h1, h2, h3⟩ := h.waits
    rw [hW, hB]
    exact ⟨vs, h1.keep hk (fun e => a2 e.symm), h2, fun i o ho => by obtain ⟨v, a, b⟩ := h3 i o ho; exact ⟨v, a, b.keep hk nb⟩⟩
  · rw [hW]
    refine ⟨h.order.1, ?_⟩
    rcases h.order.2 with hn | ⟨g, cap, cur, he, hb, hg, rest⟩
    · exact .inl hn
    · exact .inr ⟨g, cap, cur, he, hb, hk.blk hg (fun e => a4 (by rw [he, ← e]; rfl)), rest⟩
/-! ### sure -/
def sureE (dead : Bool) (n : Nat) (at_ by_ : Int) : Int := if dead then 9 else if at_ < 0 ∨ n ≤ at_ ∨ by_ ≠ 4096 then 1 else 0
theorem DiskIs.c0 {w : World} {p bl bw : Nat} {ov : Value} {S : DS} (h : DiskIs w p bl bw ov S) : w.cell? ⟨p, 0, none⟩ = some (.slice (some ⟨bl, 0, none⟩) S.L.length S.L.length) := by rw [blk_cell h.blk]; rfl
theorem DiskIs.c1 {w : World} {p bl bw : Nat} {ov : Value} {S : DS} (h : DiskIs w p bl bw ov S) : w.cell? ⟨p, 1, none⟩ = some (.map (some bw)) := by rw [blk_cell h.blk]; rfl
theorem DiskIs.c2 {w : World} {p bl bw : Nat} {ov : Value} {S : DS} (h : DiskIs w p bl bw ov S) : w.cell? ⟨p, 2, none⟩ = some ov := by rw [blk_cell h.blk]; rfl
theorem DiskIs.c3 {w : World} {p bl bw : Nat} {ov : Value} {S : DS} (h : DiskIs w p bl bw ov S) : w.cell? ⟨p, 3, none⟩ = some (.int .i64 S.fuse) := by rw [blk_cell h.blk]; rfl
theorem DiskIs.c4 {w : World} {p bl bw : Nat} {ov : Value} {S : DS} (h : DiskIs w p bl bw ov S) : w.cell? ⟨p, 4, none⟩ = some (.bool S.dead) := by rw [blk_cell h.blk]; rfl
theorem DiskIs.fz {w : World} {p bl bw : Nat} {ov : Value} {S : DS} (h : DiskIs w p bl bw ov S) (i : Nat) : w.frozen? ⟨p, i, none⟩ = false := blk_frozen h.blk i
theorem sure_nil (w : World) (at_ by_ : Int) (f : Value) : Calls Try.prog 26 #[.pointer none, .int .i64 at_, .int .i64 by_, f] w fun e w' => e = .returned (.int .i64 8) ∧ w' = w := by
  go_enter Try.func26, Try.ntmps26
  go_wp2
  go_ret
  exact ⟨rfl, rfl⟩
theorem sure_no {p bl bw : Nat} {ov : Value} {S : DS} (w : World) (hD : DiskIs w p bl bw ov S) (at_ by_ : Int) (f : Value) (h : sureE S.dead S.L.length at_ by_ ≠ 0) :
    Calls Try.prog 26 #[dV p, .int .i64 at_, .int .i64 by_, f] w fun e w' => e = .returned (.int .i64 (sureE S.dead S.L.length at_ by_)) ∧ w' = w := by
  have hc0 := hD.c0
  have hc4 := hD.c4
  have hlen := hD.len
  clear hD
  unfold dV
  obtain ⟨L, W, fuse, dead, B⟩ := S
  simp only at *
  cases dead with
  | true =>
    have e1 : sureE true L.length at_ by_ = 9 := rfl
    rw [e1]
    clear h
    go_enter Try.func26, Try.ntmps26
    go_wp2
    go_ret
    exact ⟨rfl, rfl⟩
  | false =>
    have e1 : sureE false L.length at_ by_ = 1 ∧ (at_ < 0 ∨ (L.length : Int) ≤ at_ ∨ by_ ≠ 4096) := by
      unfold sureE at h ⊢
      by_cases hc : at_ < 0 ∨ (L.length : Int) ≤ at_ ∨ by_ ≠ 4096
      · simp [hc]
      · simp [hc] at h
    rw [e1.1]
    have arms : at_ < 0 ∨ (0 ≤ at_ ∧ (L.length : Int) ≤ at_) ∨ (0 ≤ at_ ∧ at_ < L.length ∧ by_ ≠ 4096) := by omega
    clear h e1
    rcases arms with h1 | ⟨h1, h2⟩ | ⟨h1, h2, h3⟩
    · have i1 : decide (at_ < 0) = true := decide_eq_true h1
      go_enter Try.func26, Try.ntmps26
      go_wp2
      go_ret
      exact ⟨rfl, rfl⟩
    · have i1 : decide (at_ < 0) = false := decide_eq_false (by omega)
      have i2 : decide ((L.length : Int) ≤ at_) = true := decide_eq_true h2
      go_enter Try.func26, Try.ntmps26
      go_wp2
      go_ret
      exact ⟨rfl, rfl⟩
    · have i1 : decide (at_ < 0) = false := decide_eq_false (by omega)
      have i2 : decide ((L.length : Int) ≤ at_) = false := decide_eq_false (by omega)
      have i3 : (by_ == 4096) = false := beq_eq_false_iff_ne.2 h3
      go_enter Try.func26, Try.ntmps26
      go_wp2
      go_ret
      exact ⟨rfl, rfl⟩
theorem sure_read {p bl bw : Nat} {ov : Value} {S : DS} (w : World) (hD : DiskIs w p bl bw ov S) (at_ : Int) (fr : Array Value) (R : Int → World → Prop) (hd : S.dead = false) (h0 : 0 ≤ at_) (h1 : at_ < S.L.length)
    (hf : Calls Try.prog 27 fr w fun e w' => ∃ x, e = .returned (.int .i64 x) ∧ R x w') :
    Calls Try.prog 26 #[dV p, .int .i64 at_, .int .i64 4096, .func (Fn.func 27) #[] fr] w fun e w' => ∃ x, e = .returned (.int .i64 x) ∧ R x w' := by
  have hc0 := hD.c0
  have hc4 := hD.c4
  have hlen := hD.len
  rw [hd] at hc4
  clear hD
  unfold dV
  have i1 : decide (at_ < 0) = false := decide_eq_false (by omega)
  have i2 : decide ((S.L.length : Int) ≤ at_) = false := decide_eq_false (by omega)
  have HF := Lib.hid hf
  clear hf
  go_enter Try.func26, Try.ntmps26
  go_wp2_with fail
  refine HF.out.mono ?_
  rintro e w1 ⟨x, rfl, hr⟩
  have HR := Lib.hid hr
  clear hr
  go_wp2
  go_ret
  exact ⟨_, rfl, HR.out⟩
theorem sure_write {p bl bw : Nat} {ov : Value} {S : DS} (w : World) (hD : DiskIs w p bl bw ov S) (at_ : Int) (fr : Array Value) (R : Int → World → Prop) (hd : S.dead = false) (h0 : 0 ≤ at_) (h1 : at_ < S.L.length)
    (hf : Calls Try.prog 53 fr w fun e w' => ∃ x, e = .returned (.int .i64 x) ∧ R x w') :
    Calls Try.prog 26 #[dV p, .int .i64 at_, .int .i64 4096, .func (Fn.func 53) #[] fr] w fun e w' => ∃ x, e = .returned (.int .i64 x) ∧ R x w' := by
  have hc0 := hD.c0
  have hc4 := hD.c4
  have hlen := hD.len
  rw [hd] at hc4
  clear hD
  unfold dV
  have i1 : decide (at_ < 0) = false := decide_eq_false (by omega)
  have i2 : decide ((S.L.length : Int) ≤ at_) = false := decide_eq_false (by omega)
  have HF := Lib.hid hf
  clear hf
  go_enter Try.func26, Try.ntmps26
  go_wp2_with fail
  refine HF.out.mono ?_
  rintro e w1 ⟨x, rfl, hr⟩
  have HR := Lib.hid hr
  clear hr
  go_wp2
  go_ret
  exact ⟨_, rfl, HR.out⟩
theorem sure_flush {p bl bw : Nat} {ov : Value} {S : DS} (w : World) (hD : DiskIs w p bl bw ov S) (at_ : Int) (fr : Array Value) (R : Int → World → Prop) (hd : S.dead = false) (h0 : 0 ≤ at_) (h1 : at_ < S.L.length)
    (hf : Calls Try.prog 77 fr w fun e w' => ∃ x, e = .returned (.int .i64 x) ∧ R x w') :
    Calls Try.prog 26 #[dV p, .int .i64 at_, .int .i64 4096, .func (Fn.func 77) #[] fr] w fun e w' => ∃ x, e = .returned (.int .i64 x) ∧ R x w' := by
  have hc0 := hD.c0
  have hc4 := hD.c4
  have hlen := hD.len
  rw [hd] at hc4
  clear hD
  unfold dV
  have i1 : decide (at_ < 0) = false := decide_eq_false (by omega)
  have i2 : decide ((S.L.length : Int) ≤ at_) = false := decide_eq_false (by omega)
  have HF := Lib.hid hf
  clear hf
  go_enter Try.func26, Try.ntmps26
  go_wp2_with fail
  refine HF.out.mono ?_
  rintro e w1 ⟨x, rfl, hr⟩
  have HR := Lib.hid hr
  clear hr
  go_wp2
  go_ret
  exact ⟨_, rfl, HR.out⟩
end Go.Proofs.Ytlmngghkhnnaeaa
