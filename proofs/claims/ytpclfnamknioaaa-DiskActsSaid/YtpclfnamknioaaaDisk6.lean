/- The walks of disk's Read, Write, Flush, Restart. -/
import Derived.Test.YtpclfnamknioaaaDisk5
namespace Go.Proofs.Ytpclfnamknioaaa
open Go.RowKit
set_option maxRecDepth 100000
set_option linter.unusedVariables false
set_option linter.unusedSimpArgs false
section
variable {p bl bw : Nat} {ov : Value} {S : DS}
theorem sureE_zero {dead : Bool} {n : Nat} {at_ by_ : Int} (h : sureE dead n at_ by_ = 0) : dead = false ∧ 0 ≤ at_ ∧ at_ < n ∧ by_ = 4096 := by
  unfold sureE at h
  cases dead with
  | true => simp at h
  | false =>
    simp only [Bool.false_eq_true, if_false] at h
    by_cases hc : at_ < 0 ∨ (n : Int) ≤ at_ ∨ by_ ≠ 4096
    · rw [if_pos hc] at h; cases h
    · refine ⟨rfl, ?_, ?_, ?_⟩ <;> omega
theorem read_any (at_ : Int) (w : World) (hD : DiskIs w p bl bw ov S) :
    Calls Try.prog 14 #[dV p, .int .i64 at_] w fun e w' => ∃ v c, e = .returned (.tuple #[v, .int .i64 c]) ∧ c = sureE S.dead S.L.length at_ 4096 ∧ (c = 0 → Own 5 w' w.heap.size v (readP S at_)) ∧ (c ≠ 0 → v = .slice none 0 0) ∧ Below w.heap.size w w' := by
  have hcon : ∀ W, W = ((w.alloc (.cells #[dV p] 22)).alloc (.cells #[.int .i64 at_] 3)).alloc (.cells #[.slice none 0 0] 27) →
      Calls Try.prog 29 #[dV p, .int .i64 at_, .int .i64 4096, .func (Fn.func 36) #[] #[.pointer (some ⟨w.heap.size, 0, none⟩), .pointer (some ⟨w.heap.size + 1, 0, none⟩), .pointer (some ⟨w.heap.size + 1 + 1, 0, none⟩)]] W
        fun e w' => ∃ c, e = .returned (.int .i64 c) ∧ c = sureE S.dead S.L.length at_ 4096 ∧ ∃ a n cp, w'.heap[w.heap.size + 1 + 1]? = some (.cells #[.slice a n cp] 27 (0, 0)) ∧ (c = 0 → Own 5 w' w.heap.size (.slice a n cp) (readP S at_)) ∧ (c ≠ 0 → Value.slice a n cp = .slice none 0 0) ∧ Below w.heap.size w w' := by
    rintro W rfl
    have hW : Below w.heap.size w (((w.alloc (.cells #[dV p] 22)).alloc (.cells #[.int .i64 at_] 3)).alloc (.cells #[.slice none 0 0] 27)) := by go_grown
    have hqo : (((w.alloc (.cells #[dV p] 22)).alloc (.cells #[.int .i64 at_] 3)).alloc (.cells #[.slice none 0 0] 27)).heap[w.heap.size + 1 + 1]? = some (.cells #[.slice none 0 0] 27 (0, 0)) := blk_newAt (by simp) _
    have hqd : (((w.alloc (.cells #[dV p] 22)).alloc (.cells #[.int .i64 at_] 3)).alloc (.cells #[.slice none 0 0] 27)).cell? ⟨w.heap.size, 0, none⟩ = some (dV p) := by rw [blk_cell (blk_alloc (blk_alloc (blk_new w _) _) _)]; rfl
    have hqa : (((w.alloc (.cells #[dV p] 22)).alloc (.cells #[.int .i64 at_] 3)).alloc (.cells #[.slice none 0 0] 27)).cell? ⟨w.heap.size + 1, 0, none⟩ = some (.int .i64 at_) := by rw [blk_cell (blk_alloc (blk_newAt (by simp) _) _)]; rfl
    generalize ((w.alloc (.cells #[dV p] 22)).alloc (.cells #[.int .i64 at_] 3)).alloc (.cells #[.slice none 0 0] 27) = W at *
    by_cases hz : sureE S.dead S.L.length at_ 4096 = 0
    · obtain ⟨h1, h2, h3, _⟩ := sureE_zero hz
      obtain ⟨k, rfl⟩ : ∃ k : Nat, at_ = k := ⟨at_.toNat, by omega⟩
      have hlt := hD.lt
      have hrc := readC k (by omega) w.heap.size (w.heap.size + 1) (w.heap.size + 1 + 1) W (hD.below hW) hqd hqa _ hqo (by omega) (by omega) (fun e => by have := hlt _ e; omega)
      have := sure_read (R := fun c w' => c = 0 ∧ ∃ v, w'.cell? ⟨w.heap.size + 1 + 1, 0, none⟩ = some v ∧ Own 5 w' W.heap.size v (readP S k) ∧ Keep (fun i => i = w.heap.size + 1 + 1) W w' ∧ w'.heap[w.heap.size + 1 + 1]? = some (.cells #[v] 27 (0, 0))) W (hD.below hW) k _ h1 h2 h3 hrc
      refine this.mono ?_
      rintro e w' ⟨c, rfl, rfl, v, e1, e2, e3, e4⟩
      obtain ⟨a, cp, rfl⟩ := e2.size
      exact ⟨0, rfl, hz.symm, a, _, cp, e4, fun _ => e2.lower hW.size, fun h => absurd rfl h, hW.trans (e3.below (B := w.heap.size) hW.size (fun i hi => by omega))⟩
    · refine (sure_no W (hD.below hW) at_ 4096 _ hz).mono ?_
      rintro e w' ⟨rfl, rfl⟩
      exact ⟨_, rfl, rfl, none, 0, 0, hqo, fun h => absurd h hz, fun _ => rfl, hW⟩
  have HC := Lib.hid hcon
  unfold dV at *
  clear hD hcon
  go_enter Try.func14, Try.ntmps14
  go_wp2_with fail
  refine (HC.out _ rfl).mono ?_
  rintro e w1 ⟨c, rfl, hc, a, n, cp, hq, h1, h2, h3⟩
  have hcz := blk_cell hq 0
  have hfz := blk_frozen hq 0
  simp at hcz
  have HQ := Lib.hid hq
  have H1 := Lib.hid h1
  have H2 := Lib.hid h2
  have H3 := Lib.hid h3
  clear hq h1 h2 h3 HC
  have hst := blk_setCell HQ.out 0 (.slice a n cp)
  have hcs := blk_cell hst 0
  have HS := Lib.hid hst
  simp at hcs
  clear hst
  go_wp2_with fail
  try simp only [Exit.inBlock, Exit.then]
  refine bodyPost_ret (v := .tuple #[.slice a n cp, .int .i64 (sureE S.dead S.L.length at_ 4096)]) (by simp [results, Try.func14, hcs, go_sem]) rfl ?_
  rw [hc] at H1 H2
  refine ⟨_, _, rfl, rfl, fun h => ?_, fun h => H2.out h, H3.out.setCell (by show w.heap.size ≤ w.heap.size + 1 + 1; omega) _⟩
  exact (H1.out h).keep ((Keep.refl (fun i => i = w.heap.size + 1 + 1) w1).setCell (p := ⟨w.heap.size + 1 + 1, 0, none⟩) (.inl rfl) _) (fun k hk e => by
    subst e
    rcases (H1.out h).2 with ⟨he, _⟩ | ⟨g, cap, cur, he, _, hg, _⟩
    · rw [he] at hk; cases hk
    · rw [he] at hk; cases hk; rw [HQ.out] at hg; simp at hg)
end
end Go.Proofs.Ytpclfnamknioaaa
